/- Texts of mine in build order: T28, S10, T35, T36, B1, T37, T47, T15, T25, T29. Conditions: each theorem's own. -/
import Derived.Test.YtdimlpcbbkokiaaGreatMStaveSmallx4
import Derived.Deep.RegionHeld3
import Derived.StillTailTactics
import Derived.Lib.LazyBuf
import Derived.Shelf.SlSortCmp.WholeK
import Derived.WalkMore
import Derived.Deep.RegionLaw
/- Walks: the reference's Fits; the checks of a stave, the program's and the reference's. -/
namespace Go.Proofs.YtdimlpcbbkokiaaGreat
open Go.RowKit Go.Shelf
set_option linter.unusedVariables false
attribute [local go_sem] Oper.semAt_some

set_option maxRecDepth 100000 in
set_option maxHeartbeats 4000000 in
theorem rfits_st (W H : Int) (A AL : Option Addr) (n c K cL : Nat) (m : Nat → Nat) (ln : Nat → Nat → Int) (w : World) (hW0 : 0 ≤ W) (hH0 : 0 ≤ H) (hW : W ≤ 640) (hH : H ≤ 640) (hL : Lines w w.heap.size AL K m ln) (hm : ∀ i, i < K → m i ≤ maxLen) :
    Calls Tryz.prog 80 #[.agg #[.int .i64 W, .int .i64 H, .slice A n c], .agg #[.slice AL K cL]] w fun e w' => e = .returned (.bool (stFits W H K m ln)) ∧ Below w.heap.size w w' := by
  have IP := Lib.hid fun i (hi : i < K) P d w' hP => risPath_any W H A P n c (m i) d (fun j => ln i j.toNat) w' hW0 hH0 hW hH hP (hm i hi)
  by_cases hK : K = 5
  · subst hK
    clear hm
    go_enter Tryz.func80, Tryz.ntmps80
    go_wp2_with fail
    have k1 : Blk ((w.alloc (.cells #[.int .i64 W, .int .i64 H, .slice A n c] 24)).alloc (.cells #[.slice AL 5 cL] 40)) w.heap.size 24 #[.int .i64 W, .int .i64 H, .slice A n c] := (Blk.new _ _ _).alloc _
    have k2 : Blk ((w.alloc (.cells #[.int .i64 W, .int .i64 H, .slice A n c] 24)).alloc (.cells #[.slice AL 5 cL] 40)) (w.heap.size + 1) 40 #[.slice AL 5 cL] := Blk.new' (by simp) _ _
    have b1 : Below w.heap.size w ((w.alloc (.cells #[.int .i64 W, .int .i64 H, .slice A n c] 24)).alloc (.cells #[.slice AL 5 cL] 40)) := by (repeat (first | exact Below.refl _ _ | assumption | refine Below.drew ?_ | refine below_drewN ?_ _ | refine Below.alloc ?_ (by first | omega | (simp; done) | (simp; omega)) _ | refine Below.setCell ?_ (by first | omega | (simp; done) | (simp; omega)) _ | refine below_setRow ?_ (by first | omega | (simp; done) | (simp; omega)) _ ))
    generalize (w.alloc (.cells #[.int .i64 W, .int .i64 H, .slice A n c] 24)).alloc (.cells #[.slice AL 5 cL] 40) = w1 at *
    go_loopw [5] (fun s wr => ∃ i : Nat, i ≤ 5 ∧ s = .int .i64 i ∧ (∀ j, j < i → isPathB W H (m j) (fun t => ln j t.toNat) = true) ∧ Below w.heap.size w wr ∧ Blk wr w.heap.size 24 #[.int .i64 W, .int .i64 H, .slice A n c] ∧ Blk wr (w.heap.size + 1) 40 #[.slice AL 5 cL]) (fun s _ => 5 - (intOf s).toNat)
    case atStart => exact ⟨0, by omega, rfl, fun j hj => by omega, b1, k1, k2⟩
    case round =>
      obtain ⟨i, hi, rfl, hp, b2, q1, q2⟩ := hrel
      clear b1 k1 k2
      obtain ⟨p1, p2, p3⟩ := q1.cells3
      have r1 := q2.cells0
      have HP := Lib.hid hp
      clear hp
      by_cases hlt : (i : Int) < 5
      · obtain ⟨bA, oA, A1, c1, rfl, hbA, hcA, haA⟩ := hL.at_ (i := i) (by omega)
        have hc1 := (b2.cell (p := ⟨bA, oA + i, none⟩) hbA).trans hcA
        have B2 := Lib.hid b2; have Q1 := Lib.hid q1; have Q2 := Lib.hid q2
        have HA1 := Lib.hid ((haA.below b2).more b2.size)
        have IPi := Lib.hid fun w' hP => IP.out i (by omega) A1 c1 w' hP
        clear hcA haA b2 q1 q2
        have zz := B2.out.size
        cases hpi : isPathB W H (m i) (fun t => ln i t.toNat) with
        | false =>
          have hr : Hid (stFits W H 5 m ln = false) := by
            show _ = _
            exact stFits_no fun h => by have := h.2.1 i (by omega); rw [hpi] at this; cases this
          rw [hpi] at IPi
          clear hpi
          go_wp2_with fail
          go_region_held3 (fun w' => w'.cell? ⟨w.heap.size, 0, none⟩ = some (.int .i64 W) ∧ w'.cell? ⟨w.heap.size, 1, none⟩ = some (.int .i64 H) ∧ w'.cell? ⟨w.heap.size, 2, none⟩ = some (.slice A n c) ∧ w'.cell? ⟨w.heap.size + 1, 0, none⟩ = some (.slice (some ⟨bA, oA, none⟩) 5 cL) ∧ w'.cell? ⟨bA, oA + i, none⟩ = some (.slice A1 (m i) c1))
            (simp [go_sem, *])
            ((go_at_call 87
              refine (IPi.out _ (show ArrI wr.drew wr.drew.heap.size _ _ _ from HA1.out)).mono ?_
              rintro e w3 ⟨rfl, hb3⟩
              have b3 := below_call B2.out.drew B2.out.drew.size hb3
              have q3 := Q1.out.drew.below' hb3
              have q4 := Q2.out.drew.below' hb3
              obtain ⟨x1, x2, x3⟩ := q3.cells3
              have x4 := q4.cells0
              have x5 : w3.cell? ⟨bA, oA + i, none⟩ = some (.slice A1 (m i) c1) := (hb3.cell (p := ⟨bA, oA + i, none⟩) (by show bA < _; have := B2.out.drew.size; omega)).trans hc1))
          go_wp2
          go_ret
          exact ⟨ret_bool hr.out.symm, b3⟩
        | true =>
          rw [hpi] at IPi
          have HPI := Lib.hid hpi
          clear hpi
          go_wp2_with fail
          go_region_held3 (fun w' => w'.cell? ⟨w.heap.size, 0, none⟩ = some (.int .i64 W) ∧ w'.cell? ⟨w.heap.size, 1, none⟩ = some (.int .i64 H) ∧ w'.cell? ⟨w.heap.size, 2, none⟩ = some (.slice A n c) ∧ w'.cell? ⟨w.heap.size + 1, 0, none⟩ = some (.slice (some ⟨bA, oA, none⟩) 5 cL) ∧ w'.cell? ⟨bA, oA + i, none⟩ = some (.slice A1 (m i) c1))
            (simp [go_sem, *])
            ((go_at_call 87
              refine (IPi.out _ (show ArrI wr.drew wr.drew.heap.size _ _ _ from HA1.out)).mono ?_
              rintro e w3 ⟨rfl, hb3⟩
              have b3 := below_call B2.out.drew B2.out.drew.size hb3
              have q3 := Q1.out.drew.below' hb3
              have q4 := Q2.out.drew.below' hb3
              obtain ⟨x1, x2, x3⟩ := q3.cells3
              have x4 := q4.cells0
              have x5 : w3.cell? ⟨bA, oA + i, none⟩ = some (.slice A1 (m i) c1) := (hb3.cell (p := ⟨bA, oA + i, none⟩) (by show bA < _; have := B2.out.drew.size; omega)).trans hc1))
          go_wp2_with fail
          go_roundw
          case rel =>
            refine ⟨i + 1, by omega, by go_num, fun j hj => ?_, b3, q3, q4⟩
            rcases Nat.lt_succ_iff_lt_or_eq.1 hj with h | rfl
            · exact HP.out j h
            · exact HPI.out
          case measure => simp [intOf]; omega
      · obtain rfl : i = 5 := by omega
        have MW : ∀ j, j < 5 → (m j : Int) = W := fun j hj => (isPathB_iff.1 (HP.out j hj)).1.2.2
        have HMW := Lib.hid MW
        clear MW
        go_wp2_with fail
        generalize wr = w2 at *
        go_loopw [6] (fun s wr => ∃ x : Nat, (x : Int) ≤ W ∧ s = .int .i64 x ∧ (∀ t : Nat, t < x → ∀ j, j + 1 < 5 → ln j t < ln (j + 1) t) ∧ ∃ nn, wr = w2.drewN nn) (fun s _ => (W - intOf s).toNat)
        case atStart => exact ⟨0, by omega, rfl, fun t ht => by omega, 0, rfl⟩
        case round =>
          obtain ⟨x, hx, rfl, hlx, nn, hwr⟩ := hrel
          have b4 : Below w.heap.size w wr := by rw [hwr]; exact below_drewN b2 nn
          have q5 : Blk wr w.heap.size 24 #[.int .i64 W, .int .i64 H, .slice A n c] := by rw [hwr]; exact q1.drewN nn
          have q6 : Blk wr (w.heap.size + 1) 40 #[.slice AL 5 cL] := by rw [hwr]; exact q2.drewN nn
          have HWR := Lib.hid hwr
          have HLX := Lib.hid hlx
          clear hwr hlx p1 p2 p3 r1
          obtain ⟨p1, p2, p3⟩ := q5.cells3
          have r1 := q6.cells0
          by_cases xl : (x : Int) < W
          · go_wp2_with fail
            generalize wr = w4 at *
            go_loopw [7] (fun s wr => ∃ i : Nat, 1 ≤ i ∧ i ≤ 5 ∧ s = .int .i64 i ∧ (∀ j, j + 1 < i → ln j x < ln (j + 1) x) ∧ ∃ nn, wr = w4.drewN nn) (fun s _ => 5 - (intOf s).toNat)
            case atStart => exact ⟨1, by omega, by omega, rfl, fun j hj => by omega, 0, rfl⟩
            case round =>
              obtain ⟨i, i1, i5, rfl, hli, n2, hwr2⟩ := hrel
              have b6 : Below w.heap.size w wr := by rw [hwr2]; exact below_drewN b4 n2
              have q7 : Blk wr w.heap.size 24 #[.int .i64 W, .int .i64 H, .slice A n c] := by rw [hwr2]; exact q5.drewN n2
              have q8 : Blk wr (w.heap.size + 1) 40 #[.slice AL 5 cL] := by rw [hwr2]; exact q6.drewN n2
              have HWR2 := Lib.hid hwr2
              have HLI := Lib.hid hli
              clear hwr2 hli p1 p2 p3 r1
              obtain ⟨p1, p2, p3⟩ := q7.cells3
              have r1 := q8.cells0
              by_cases il : (i : Int) < 5
              · obtain ⟨k, hk⟩ : ∃ k, i = k + 1 := ⟨i - 1, by omega⟩
                obtain ⟨bA, oA, A1, c1, rfl, hbA, hcA, haA⟩ := hL.at_ (i := i) (by omega)
                obtain ⟨bB, oB, A2, c2, eB, hbB, hcB, haB⟩ := hL.at_ (i := k) (by omega)
                cases eB
                have hc1 := (b6.cell (p := ⟨bA, oA + i, none⟩) hbA).trans hcA
                have hc2 := (b6.cell (p := ⟨bA, oA + k, none⟩) hbA).trans hcB
                have j1 := HMW.out i (by omega)
                have j2 := HMW.out k (by omega)
                obtain ⟨b1', o1', e1', -, hx1⟩ := ArrI.at_ ((haA.below b6).more b6.size) (i := (x : Int)) (by omega) (by omega)
                obtain ⟨b2', o2', e2', -, hx2⟩ := ArrI.at_ ((haB.below b6).more b6.size) (i := (x : Int)) (by omega) (by omega)
                subst e1'
                subst e2'
                rw [Int.toNat_natCast] at hx1 hx2
                have v1 : IntKind.i64.wrap ((i : Int) - 1) = (k : Int) := by rw [show (i : Int) - 1 = k by omega]; exact IntWalk.i64_in _ (by omega)
                have k5 : (k : Int) < 5 := by omega
                have k0 : (0 : Int) ≤ (k : Int) := by omega
                have xm1 : (x : Int) < (m i : Int) := by omega
                have xm2 : (x : Int) < (m k : Int) := by omega
                have HKE := Lib.hid hk
                by_cases hle : ln i x ≤ ln k x
                · have hr : Hid (stFits W H 5 m ln = false) := by
                    show _ = _
                    exact stFits_no fun h => by
                      have h1 := h.2.2 k (by have := HKE.out; omega) x xl
                      rw [← HKE.out] at h1; omega
                  have dl : decide (ln i x ≤ ln k x) = true := decide_eq_true hle
                  clear hk hcA hcB j1 j2
                  generalize ln i x = va at *
                  generalize ln k x = vb at *
                  go_wp2_with fail
                  go_quiet (fail)
                  go_wp2
                  go_ret
                  exact ⟨ret_bool hr.out.symm, below_drewN b6 _⟩
                · have hll : Hid (ln k x < ln i x) := by show _ < _; omega
                  have dl : decide (ln i x ≤ ln k x) = false := decide_eq_false hle
                  clear hk hcA hcB j1 j2
                  generalize hva : ln i x = va at *
                  generalize hvb : ln k x = vb at *
                  have HVA := Lib.hid hva; have HVB := Lib.hid hvb
                  clear hva hvb
                  go_wp2_with fail
                  go_quiet (fail)
                  go_wp2
                  go_roundw
                  case rel =>
                    refine ⟨i + 1, by omega, by omega, by go_num, fun j hj => ?_, _, by rw [HWR2.out]; exact World.drewN_drewN _ _ _⟩
                    by_cases h : j + 1 < i
                    · exact HLI.out j h
                    · obtain rfl : k = j := by have := HKE.out; omega
                      rw [← HKE.out, HVA.out, HVB.out]; exact hll.out
                  case measure => simp [intOf]; omega
              · obtain rfl : i = 5 := by omega
                go_wp2_with fail
                go_roundw
                case rel =>
                  refine ⟨x + 1, by omega, by go_num, fun t ht j hj => ?_, _, by rw [HWR2.out, HWR.out]; exact World.drewN_drewN _ _ _⟩
                  rcases Nat.lt_succ_iff_lt_or_eq.1 ht with h | rfl
                  · exact HLX.out t h j hj
                  · exact HLI.out j hj
                case measure => simp [intOf]; omega
          · have hr : Hid (stFits W H 5 m ln = true) := by show _ = _; exact stFits_iff.2 ⟨rfl, HP.out, fun i hi t ht => HLX.out t (by omega) i hi⟩
            go_wp2
            go_ret
            exact ⟨ret_bool hr.out.symm, b4⟩
  · have hr : Hid (stFits W H K m ln = false) := by show _ = _; exact stFits_no fun h => hK h.1
    have hb : ((K : Int) != 5) = true := by simp; omega
    clear hK
    go_enter Tryz.func80, Tryz.ntmps80
    go_wp2
    go_ret
    exact ⟨ret_bool hr.out.symm, by (repeat (first | exact Below.refl _ _ | assumption | refine Below.drew ?_ | refine below_drewN ?_ _ | refine Below.alloc ?_ (by first | omega | (simp; done) | (simp; omega)) _ | refine Below.setCell ?_ (by first | omega | (simp; done) | (simp; omega)) _ | refine below_setRow ?_ (by first | omega | (simp; done) | (simp; omega)) _ ))⟩

/-- the error of a stave's check -/
def stChk (W H : Int) (n : Nat) (p : Int → Int) (K : Nat) (m : Nat → Nat) (ln : Nat → Nat → Int) : Int := if chk W H n p ≠ 0 then chk W H n p else if stFits W H K m ln = true then 0 else 10
set_option maxHeartbeats 1000000 in
theorem check_st (W H : Int) (A AL : Option Addr) (n c K cL : Nat) (p : Int → Int) (m : Nat → Nat) (ln : Nat → Nat → Int) (E : Int) (w : World) (hA : ArrB w w.heap.size A n p) (hn : n ≤ maxLen) (hL : Lines w w.heap.size AL K m ln) (hm : ∀ i, i < K → m i ≤ maxLen) (hE : stChk W H n p K m ln = E) :
    Calls Tryz.prog 38 #[.agg #[.int .i64 W, .int .i64 H, .slice A n c], .agg #[.slice AL K cL]] w fun e w' => e = .returned (.int .i64 E) ∧ Below w.heap.size w w' := by
  have CK := Lib.hid fun w' hA' => check_any W H A n c p w' hA' hn
  have k1 : Blk ((w.alloc (.cells #[.int .i64 W, .int .i64 H, .slice A n c] 24)).alloc (.cells #[.slice AL K cL] 40)) w.heap.size 24 #[.int .i64 W, .int .i64 H, .slice A n c] := (Blk.new _ _ _).alloc _
  have k2 : Blk ((w.alloc (.cells #[.int .i64 W, .int .i64 H, .slice A n c] 24)).alloc (.cells #[.slice AL K cL] 40)) (w.heap.size + 1) 40 #[.slice AL K cL] := Blk.new' (by simp) _ _
  have b1 : Below w.heap.size w ((w.alloc (.cells #[.int .i64 W, .int .i64 H, .slice A n c] 24)).alloc (.cells #[.slice AL K cL] 40)) := by (repeat (first | exact Below.refl _ _ | assumption | refine Below.drew ?_ | refine below_drewN ?_ _ | refine Below.alloc ?_ (by first | omega | (simp; done) | (simp; omega)) _ | refine Below.setCell ?_ (by first | omega | (simp; done) | (simp; omega)) _ | refine below_setRow ?_ (by first | omega | (simp; done) | (simp; omega)) _ ))
  by_cases hc : chk W H n p = 0
  · obtain ⟨hW1, hW2, hH1, hH2, -, -⟩ := chk_ok hc
    have FT := Lib.hid fun w' hL' => fits_st W H A AL n c K cL m ln w' hW2 hH2 hL' hm
    have hE2 : (if stFits W H K m ln = true then (0 : Int) else 10) = E := by rw [← hE]; unfold stChk; rw [if_neg (show ¬ chk W H n p ≠ 0 from fun h => h hc)]
    rw [hc] at CK
    clear hc hE
    cases hs : stFits W H K m ln with
    | true =>
      rw [hs] at FT hE2
      rw [if_pos rfl] at hE2
      subst hE2
      clear hs
      go_enter Tryz.func38, Tryz.ntmps38
      go_wp2_with fail
      generalize (w.alloc (.cells #[.int .i64 W, .int .i64 H, .slice A n c] 24)).alloc (.cells #[.slice AL K cL] 40) = w1 at *
      refine (CK.out _ (hA.to b1)).mono ?_
      rintro e w2 ⟨rfl, hb2⟩
      have b2 := below_call b1 b1.size hb2
      obtain ⟨p1, p2, p3⟩ := (k1.below' hb2).cells3
      have r1 := (k2.below' hb2).cells0
      go_wp2_with fail
      refine (FT.out _ (hL.below b2)).mono ?_
      rintro e w3 ⟨rfl, hb3⟩
      have b3 := below_call b2 b2.size hb3
      go_wp2
      go_ret
      exact ⟨rfl, b3⟩
    | false =>
      rw [hs] at FT hE2
      rw [if_neg (by simp)] at hE2
      subst hE2
      clear hs
      go_enter Tryz.func38, Tryz.ntmps38
      go_wp2_with fail
      generalize (w.alloc (.cells #[.int .i64 W, .int .i64 H, .slice A n c] 24)).alloc (.cells #[.slice AL K cL] 40) = w1 at *
      refine (CK.out _ (hA.to b1)).mono ?_
      rintro e w2 ⟨rfl, hb2⟩
      have b2 := below_call b1 b1.size hb2
      obtain ⟨p1, p2, p3⟩ := (k1.below' hb2).cells3
      have r1 := (k2.below' hb2).cells0
      go_wp2_with fail
      refine (FT.out _ (hL.below b2)).mono ?_
      rintro e w3 ⟨rfl, hb3⟩
      have b3 := below_call b2 b2.size hb3
      go_wp2
      go_ret
      exact ⟨rfl, b3⟩
  · have hz : chk W H n p = E := by rw [← hE]; unfold stChk; rw [if_pos hc]
    have hb : (E != 0) = true := by rw [← hz]; simp [hc]
    have hne : ¬ E = 0 := by rw [← hz]; exact hc
    rw [hz] at CK
    have HE := Lib.hid hne
    clear hc hE hz hne
    go_enter Tryz.func38, Tryz.ntmps38
    go_wp2_with fail
    generalize (w.alloc (.cells #[.int .i64 W, .int .i64 H, .slice A n c] 24)).alloc (.cells #[.slice AL K cL] 40) = w1 at *
    refine (CK.out _ (hA.to b1)).mono ?_
    rintro e w2 ⟨rfl, hb2⟩
    have b2 := below_call b1 b1.size hb2
    go_wp2
    go_ret
    exact ⟨rfl, b2⟩
set_option maxHeartbeats 1000000 in
theorem rcheck_st (W H : Int) (A AL : Option Addr) (n c K cL : Nat) (p : Int → Int) (m : Nat → Nat) (ln : Nat → Nat → Int) (E : Int) (w : World) (hA : ArrB w w.heap.size A n p) (hn : n ≤ maxLen) (hB : IsB p) (hL : Lines w w.heap.size AL K m ln) (hm : ∀ i, i < K → m i ≤ maxLen) (hE : stChk W H n p K m ln = E) :
    Calls Tryz.prog 39 #[.agg #[.int .i64 W, .int .i64 H, .slice A n c], .agg #[.slice AL K cL]] w fun e w' => e = .returned (.int .i64 E) ∧ Below w.heap.size w w' := by
  have CK := Lib.hid fun w' hA' => rcheck_any W H A n c p w' hA' hn hB
  have k1 : Blk ((w.alloc (.cells #[.int .i64 W, .int .i64 H, .slice A n c] 24)).alloc (.cells #[.slice AL K cL] 40)) w.heap.size 24 #[.int .i64 W, .int .i64 H, .slice A n c] := (Blk.new _ _ _).alloc _
  have k2 : Blk ((w.alloc (.cells #[.int .i64 W, .int .i64 H, .slice A n c] 24)).alloc (.cells #[.slice AL K cL] 40)) (w.heap.size + 1) 40 #[.slice AL K cL] := Blk.new' (by simp) _ _
  have b1 : Below w.heap.size w ((w.alloc (.cells #[.int .i64 W, .int .i64 H, .slice A n c] 24)).alloc (.cells #[.slice AL K cL] 40)) := by (repeat (first | exact Below.refl _ _ | assumption | refine Below.drew ?_ | refine below_drewN ?_ _ | refine Below.alloc ?_ (by first | omega | (simp; done) | (simp; omega)) _ | refine Below.setCell ?_ (by first | omega | (simp; done) | (simp; omega)) _ | refine below_setRow ?_ (by first | omega | (simp; done) | (simp; omega)) _ ))
  by_cases hc : chk W H n p = 0
  · obtain ⟨hW1, hW2, hH1, hH2, -, -⟩ := chk_ok hc
    have FT := Lib.hid fun w' hL' => rfits_st W H A AL n c K cL m ln w' hW1 hH1 hW2 hH2 hL' hm
    have hE2 : (if stFits W H K m ln = true then (0 : Int) else 10) = E := by rw [← hE]; unfold stChk; rw [if_neg (show ¬ chk W H n p ≠ 0 from fun h => h hc)]
    rw [hc] at CK
    clear hc hE
    cases hs : stFits W H K m ln with
    | true =>
      rw [hs] at FT hE2
      rw [if_pos rfl] at hE2
      subst hE2
      clear hs
      go_enter Tryz.func39, Tryz.ntmps39
      go_wp2_with fail
      generalize (w.alloc (.cells #[.int .i64 W, .int .i64 H, .slice A n c] 24)).alloc (.cells #[.slice AL K cL] 40) = w1 at *
      refine (CK.out _ (hA.to b1)).mono ?_
      rintro e w2 ⟨rfl, hb2⟩
      have b2 := below_call b1 b1.size hb2
      obtain ⟨p1, p2, p3⟩ := (k1.below' hb2).cells3
      have r1 := (k2.below' hb2).cells0
      go_wp2_with fail
      refine (FT.out _ (hL.below b2)).mono ?_
      rintro e w3 ⟨rfl, hb3⟩
      have b3 := below_call b2 b2.size hb3
      go_wp2
      go_ret
      exact ⟨rfl, b3⟩
    | false =>
      rw [hs] at FT hE2
      rw [if_neg (by simp)] at hE2
      subst hE2
      clear hs
      go_enter Tryz.func39, Tryz.ntmps39
      go_wp2_with fail
      generalize (w.alloc (.cells #[.int .i64 W, .int .i64 H, .slice A n c] 24)).alloc (.cells #[.slice AL K cL] 40) = w1 at *
      refine (CK.out _ (hA.to b1)).mono ?_
      rintro e w2 ⟨rfl, hb2⟩
      have b2 := below_call b1 b1.size hb2
      obtain ⟨p1, p2, p3⟩ := (k1.below' hb2).cells3
      have r1 := (k2.below' hb2).cells0
      go_wp2_with fail
      refine (FT.out _ (hL.below b2)).mono ?_
      rintro e w3 ⟨rfl, hb3⟩
      have b3 := below_call b2 b2.size hb3
      go_wp2
      go_ret
      exact ⟨rfl, b3⟩
  · have hz : chk W H n p = E := by rw [← hE]; unfold stChk; rw [if_pos hc]
    have hb : (E != 0) = true := by rw [← hz]; simp [hc]
    have hne : ¬ E = 0 := by rw [← hz]; exact hc
    rw [hz] at CK
    have HE := Lib.hid hne
    clear hc hE hz hne
    go_enter Tryz.func39, Tryz.ntmps39
    go_wp2_with fail
    generalize (w.alloc (.cells #[.int .i64 W, .int .i64 H, .slice A n c] 24)).alloc (.cells #[.slice AL K cL] 40) = w1 at *
    refine (CK.out _ (hA.to b1)).mono ?_
    rintro e w2 ⟨rfl, hb2⟩
    have b2 := below_call b1 b1.size hb2
    go_wp2
    go_ret
    exact ⟨rfl, b2⟩
end Go.Proofs.YtdimlpcbbkokiaaGreat

/- Plain: a strip that is cut out along a line, filled column by column or row by row; a strip that is put back. No program in sight. -/
namespace Go.Proofs.YtdimlpcbbkokiaaGreat
open Go.RowKit
set_option linter.unusedVariables false
/-- the strip: row y of column x is row 'l x - up + y' of the image, paper beside the image -/
def recQ (W H : Int) (p : Int → Int) (l : Nat → Int) (up : Int) : Int → Int := fun i =>
  if 0 ≤ l (i % W).toNat - up + i / W ∧ l (i % W).toNat - up + i / W < H then p ((l (i % W).toNat - up + i / W) * W + i % W) else 0
/-- the image with a strip of h rows put back -/
def resQ (W H h : Int) (p q : Int → Int) (l : Nat → Int) (up : Int) : Int → Int := fun i =>
  if 0 ≤ i / W - l (i % W).toNat + up ∧ i / W - l (i % W).toNat + up < h then q ((i / W - l (i % W).toNat + up) * W + i % W) else p i
/-- filled column by column: the columns before x, and column x above row y -/
def byCol (W : Int) (q z : Int → Int) (x y : Int) : Int → Int := fun i => if i % W < x ∨ (i % W = x ∧ i / W < y) then q i else z i
/-- filled row by row: the rows above y, and row y before column x -/
def byRow (W : Int) (q z : Int → Int) (y x : Int) : Int → Int := fun i => if i / W < y ∨ (i / W = y ∧ i % W < x) then q i else z i
section
variable {W h : Int} {q z : Int → Int} {x y i : Int}
theorem byCol_zero (hW : 0 < W) (h0 : 0 ≤ i) : byCol W q z 0 0 i = z i := by
  unfold byCol
  have h1 : 0 ≤ i % W := Int.emod_nonneg _ (by omega)
  have h2 : 0 ≤ i / W := Int.ediv_nonneg h0 (by omega)
  rw [if_neg (by omega)]
theorem byCol_end (hW : 0 < W) : byCol W q z W 0 i = q i := by
  unfold byCol
  have h1 : i % W < W := Int.emod_lt_of_pos _ hW
  rw [if_pos (by omega)]
theorem byCol_col (hW : 0 < W) (h0 : 0 ≤ i) (hi : i < W * h) : byCol W q z x h i = byCol W q z (x + 1) 0 i := by
  have h1 : i / W < h := Int.ediv_lt_of_lt_mul hW (by rw [Int.mul_comm]; exact hi)
  have h2 : 0 ≤ i / W := Int.ediv_nonneg h0 (by omega)
  unfold byCol
  by_cases c : i % W < x ∨ (i % W = x ∧ i / W < h)
  · rw [if_pos c, if_pos (by omega)]
  · rw [if_neg c, if_neg (by omega)]
theorem byCol_set (x0 : 0 ≤ x) (x1 : x < W) : upd (byCol W q z x y) (y * W + x) (q (y * W + x)) i = byCol W q z x (y + 1) i := by
  have a := idx_mod (y := y) x0 x1
  have b := idx_div (y := y) x0 x1
  unfold upd byCol
  by_cases e : i = y * W + x
  · subst e
    rw [if_pos rfl, a, b, if_pos (.inr ⟨rfl, by omega⟩)]
  · rw [if_neg e]
    have hne : i % W = x → i / W ≠ y := fun h3 h4 => e (by
      have := Int.emod_add_mul_ediv i W
      rw [h3, h4, Int.mul_comm] at this; omega)
    by_cases c : i % W < x ∨ (i % W = x ∧ i / W < y)
    · rw [if_pos c, if_pos (by omega)]
    · rw [if_neg c, if_neg (by omega)]
theorem byCol_skip (x0 : 0 ≤ x) (x1 : x < W) (hq : q (y * W + x) = z (y * W + x)) : byCol W q z x y i = byCol W q z x (y + 1) i := by
  have a := idx_mod (y := y) x0 x1
  have b := idx_div (y := y) x0 x1
  unfold byCol
  by_cases e : i = y * W + x
  · subst e
    rw [a, b, if_neg (by omega), if_pos (.inr ⟨rfl, by omega⟩), hq]
  · have hne : i % W = x → i / W ≠ y := fun h3 h4 => e (by
      have := Int.emod_add_mul_ediv i W
      rw [h3, h4, Int.mul_comm] at this; omega)
    by_cases c : i % W < x ∨ (i % W = x ∧ i / W < y)
    · rw [if_pos c, if_pos (by omega)]
    · rw [if_neg c, if_neg (by omega)]
theorem byRow_zero (hW : 0 < W) (h0 : 0 ≤ i) : byRow W q z 0 0 i = z i := by
  unfold byRow
  have h1 : 0 ≤ i % W := Int.emod_nonneg _ (by omega)
  have h2 : 0 ≤ i / W := Int.ediv_nonneg h0 (by omega)
  rw [if_neg (by omega)]
theorem byRow_end (hW : 0 < W) (hi : i < W * h) : byRow W q z h 0 i = q i := by
  have h1 : i / W < h := Int.ediv_lt_of_lt_mul hW (by rw [Int.mul_comm]; exact hi)
  unfold byRow
  rw [if_pos (by omega)]
theorem byRow_row (hW : 0 < W) : byRow W q z y W i = byRow W q z (y + 1) 0 i := by
  have h1 : i % W < W := Int.emod_lt_of_pos _ hW
  have h2 : 0 ≤ i % W := Int.emod_nonneg _ (by omega)
  unfold byRow
  by_cases c : i / W < y ∨ (i / W = y ∧ i % W < W)
  · rw [if_pos c, if_pos (by omega)]
  · rw [if_neg c, if_neg (by omega)]
theorem byRow_set (x0 : 0 ≤ x) (x1 : x < W) : upd (byRow W q z y x) (y * W + x) (q (y * W + x)) i = byRow W q z y (x + 1) i := by
  have a := idx_mod (y := y) x0 x1
  have b := idx_div (y := y) x0 x1
  unfold upd byRow
  by_cases e : i = y * W + x
  · subst e
    rw [if_pos rfl, a, b, if_pos (.inr ⟨rfl, by omega⟩)]
  · rw [if_neg e]
    have hne : i % W = x → i / W ≠ y := fun h3 h4 => e (by
      have := Int.emod_add_mul_ediv i W
      rw [h3, h4, Int.mul_comm] at this; omega)
    by_cases c : i / W < y ∨ (i / W = y ∧ i % W < x)
    · rw [if_pos c, if_pos (by omega)]
    · rw [if_neg c, if_neg (by omega)]
theorem byRow_skip (x0 : 0 ≤ x) (x1 : x < W) (hq : q (y * W + x) = z (y * W + x)) : byRow W q z y x i = byRow W q z y (x + 1) i := by
  have a := idx_mod (y := y) x0 x1
  have b := idx_div (y := y) x0 x1
  unfold byRow
  by_cases e : i = y * W + x
  · subst e
    rw [a, b, if_neg (by omega), if_pos (.inr ⟨rfl, by omega⟩), hq]
  · have hne : i % W = x → i / W ≠ y := fun h3 h4 => e (by
      have := Int.emod_add_mul_ediv i W
      rw [h3, h4, Int.mul_comm] at this; omega)
    by_cases c : i / W < y ∨ (i / W = y ∧ i % W < x)
    · rw [if_pos c, if_pos (by omega)]
    · rw [if_neg c, if_neg (by omega)]
end
end Go.Proofs.YtdimlpcbbkokiaaGreat

/- Walk: a strip cut out along a stave (stave.Rectify), where it is refused. -/
namespace Go.Proofs.YtdimlpcbbkokiaaGreat
open Go.RowKit Go.Shelf
set_option linter.unusedVariables false
attribute [local go_sem] Oper.semAt_some

set_option maxHeartbeats 1000000 in
theorem rectify_chk (W H : Int) (A AL : Option Addr) (n c K cL : Nat) (p : Int → Int) (m : Nat → Nat) (ln : Nat → Nat → Int) (up down z : Int) (w : World) (hA : ArrB w w.heap.size A n p) (hn : n ≤ maxLen) (hL : Lines w w.heap.size AL K m ln) (hm : ∀ i, i < K → m i ≤ maxLen) (hz : stChk W H n p K m ln = z) (h0 : z ≠ 0) :
    Calls Tryz.prog 42 #[.agg #[.int .i64 W, .int .i64 H, .slice A n c], .agg #[.slice AL K cL], .int .i64 up, .int .i64 down] w fun e w' => e = .returned (.tuple #[noImg, .int .i64 z]) ∧ Below w.heap.size w w' := by
  have CK := Lib.hid fun w' hA' hL' => check_st W H A AL n c K cL p m ln z w' hA' hn hL' hm hz
  have b1 : Below w.heap.size w (((w.alloc (.cells #[.int .i64 W, .int .i64 H, .slice A n c] 24)).alloc (.cells #[.slice AL K cL] 40)).alloc (.cells #[.int .i64 0, .int .i64 0, .slice none 0 0] 24)) := by (repeat (first | exact Below.refl _ _ | assumption | refine Below.drew ?_ | refine below_drewN ?_ _ | refine Below.alloc ?_ (by first | omega | (simp; done) | (simp; omega)) _ | refine Below.setCell ?_ (by first | omega | (simp; done) | (simp; omega)) _ | refine below_setRow ?_ (by first | omega | (simp; done) | (simp; omega)) _ ))
  have k3 : Blk (((w.alloc (.cells #[.int .i64 W, .int .i64 H, .slice A n c] 24)).alloc (.cells #[.slice AL K cL] 40)).alloc (.cells #[.int .i64 0, .int .i64 0, .slice none 0 0] 24)) (w.heap.size + 1 + 1) 24 #[.int .i64 0, .int .i64 0, .slice none 0 0] := Blk.new' (by simp) _ _
  have k1 : Blk (((w.alloc (.cells #[.int .i64 W, .int .i64 H, .slice A n c] 24)).alloc (.cells #[.slice AL K cL] 40)).alloc (.cells #[.int .i64 0, .int .i64 0, .slice none 0 0] 24)) w.heap.size 24 #[.int .i64 W, .int .i64 H, .slice A n c] := ((Blk.new _ _ _).alloc _).alloc _
  have k2 : Blk (((w.alloc (.cells #[.int .i64 W, .int .i64 H, .slice A n c] 24)).alloc (.cells #[.slice AL K cL] 40)).alloc (.cells #[.int .i64 0, .int .i64 0, .slice none 0 0] 24)) (w.heap.size + 1) 40 #[.slice AL K cL] := (Blk.new' (by simp) _ _).alloc _
  have hb : (z != 0) = true := by simp [h0]
  have HZ := Lib.hid h0
  clear h0 hz
  go_enter Tryz.func42, Tryz.ntmps42
  go_wp2_with fail
  generalize ((w.alloc (.cells #[.int .i64 W, .int .i64 H, .slice A n c] 24)).alloc (.cells #[.slice AL K cL] 40)).alloc (.cells #[.int .i64 0, .int .i64 0, .slice none 0 0] 24) = w1 at *
  refine (CK.out _ (hA.to b1) (hL.below b1)).mono ?_
  rintro e w2 ⟨rfl, hb2⟩
  have b2 := below_call b1 b1.size hb2
  have k4 := k3.below' hb2
  obtain ⟨r1, r2, r3⟩ := k4.cells3
  obtain ⟨f1, f2, f3⟩ := k4.frozen3
  have k5 := ((k4.set_ 0 (.int .i64 0)).set_ 1 (.int .i64 0)).set_ 2 (.slice none 0 0)
  obtain ⟨s1, s2, s3⟩ := Blk.cells3 (a := .int .i64 0) (b := .int .i64 0) (c := .slice none 0 0) k5
  go_wp2
  refine bodyPost_ret (v := .tuple #[noImg, .int .i64 z]) (by simp [results, Tryz.results42, go_sem, noImg, s1, s2, s3]) rfl ?_
  exact ⟨rfl, by (repeat (first | with_reducible exact Below.refl _ _ | with_reducible assumption | with_reducible refine Below.drew ?_ | (with_reducible refine below_alloc' ?_ ?_; focus (first | omega | (simp; done) | (simp; omega))) | (with_reducible refine below_fill3' ?_ ?_; focus omega) | (with_reducible refine below_setCell' ?_ ?_; focus (first | omega | (simp; done) | (simp; omega))) | (with_reducible apply below_call'; (focus (with_reducible assumption)); (focus (first | omega | (simp; done) | (simp; omega))))))⟩
set_option maxHeartbeats 1000000 in
theorem rectify_arg (W H : Int) (A AL : Option Addr) (n c K cL : Nat) (p : Int → Int) (m : Nat → Nat) (ln : Nat → Nat → Int) (up down : Int) (w : World) (hA : ArrB w w.heap.size A n p) (hn : n ≤ maxLen) (hL : Lines w w.heap.size AL K m ln) (hm : ∀ i, i < K → m i ≤ maxLen) (hz : stChk W H n p K m ln = 0) (h0 : up < 0 ∨ down < 0) :
    Calls Tryz.prog 42 #[.agg #[.int .i64 W, .int .i64 H, .slice A n c], .agg #[.slice AL K cL], .int .i64 up, .int .i64 down] w fun e w' => e = .returned (.tuple #[noImg, .int .i64 1]) ∧ Below w.heap.size w w' := by
  have CK := Lib.hid fun w' hA' hL' => check_st W H A AL n c K cL p m ln 0 w' hA' hn hL' hm hz
  have b1 : Below w.heap.size w (((w.alloc (.cells #[.int .i64 W, .int .i64 H, .slice A n c] 24)).alloc (.cells #[.slice AL K cL] 40)).alloc (.cells #[.int .i64 0, .int .i64 0, .slice none 0 0] 24)) := by (repeat (first | exact Below.refl _ _ | assumption | refine Below.drew ?_ | refine below_drewN ?_ _ | refine Below.alloc ?_ (by first | omega | (simp; done) | (simp; omega)) _ | refine Below.setCell ?_ (by first | omega | (simp; done) | (simp; omega)) _ | refine below_setRow ?_ (by first | omega | (simp; done) | (simp; omega)) _ ))
  have k3 : Blk (((w.alloc (.cells #[.int .i64 W, .int .i64 H, .slice A n c] 24)).alloc (.cells #[.slice AL K cL] 40)).alloc (.cells #[.int .i64 0, .int .i64 0, .slice none 0 0] 24)) (w.heap.size + 1 + 1) 24 #[.int .i64 0, .int .i64 0, .slice none 0 0] := Blk.new' (by simp) _ _
  have k1 : Blk (((w.alloc (.cells #[.int .i64 W, .int .i64 H, .slice A n c] 24)).alloc (.cells #[.slice AL K cL] 40)).alloc (.cells #[.int .i64 0, .int .i64 0, .slice none 0 0] 24)) w.heap.size 24 #[.int .i64 W, .int .i64 H, .slice A n c] := ((Blk.new _ _ _).alloc _).alloc _
  have k2 : Blk (((w.alloc (.cells #[.int .i64 W, .int .i64 H, .slice A n c] 24)).alloc (.cells #[.slice AL K cL] 40)).alloc (.cells #[.int .i64 0, .int .i64 0, .slice none 0 0] 24)) (w.heap.size + 1) 40 #[.slice AL K cL] := (Blk.new' (by simp) _ _).alloc _
  obtain ⟨mn, h1, h2, h3⟩ : ∃ mn : Int, min up down = mn ∧ (if down < up then down else up) = mn ∧ mn < 0 := ⟨min up down, rfl, by split <;> omega, by omega⟩
  clear h0 hz
  go_enter Tryz.func42, Tryz.ntmps42
  go_wp2_with fail
  generalize ((w.alloc (.cells #[.int .i64 W, .int .i64 H, .slice A n c] 24)).alloc (.cells #[.slice AL K cL] 40)).alloc (.cells #[.int .i64 0, .int .i64 0, .slice none 0 0] 24) = w1 at *
  refine (CK.out _ (hA.to b1) (hL.below b1)).mono ?_
  rintro e w2 ⟨rfl, hb2⟩
  have b2 := below_call b1 b1.size hb2
  have k4 := k3.below' hb2
  obtain ⟨r1, r2, r3⟩ := k4.cells3
  obtain ⟨f1, f2, f3⟩ := k4.frozen3
  have k5 := ((k4.set_ 0 (.int .i64 0)).set_ 1 (.int .i64 0)).set_ 2 (.slice none 0 0)
  obtain ⟨s1, s2, s3⟩ := Blk.cells3 (a := .int .i64 0) (b := .int .i64 0) (c := .slice none 0 0) k5
  obtain ⟨p1, p2, p3⟩ := (k1.below' hb2).cells3
  have p4 := (k2.below' hb2).cells0
  go_wp2
  refine bodyPost_ret (v := .tuple #[noImg, .int .i64 1]) (by simp [results, Tryz.results42, go_sem, noImg, s1, s2, s3]) rfl ?_
  exact ⟨rfl, by (repeat (first | with_reducible exact Below.refl _ _ | with_reducible assumption | with_reducible refine Below.drew ?_ | (with_reducible refine below_alloc' ?_ ?_; focus (first | omega | (simp; done) | (simp; omega))) | (with_reducible refine below_fill3' ?_ ?_; focus omega) | (with_reducible refine below_setCell' ?_ ?_; focus (first | omega | (simp; done) | (simp; omega))) | (with_reducible apply below_call'; (focus (with_reducible assumption)); (focus (first | omega | (simp; done) | (simp; omega))))))⟩
set_option maxHeartbeats 1000000 in
theorem rectify_size1 (W H : Int) (A AL : Option Addr) (n c K cL : Nat) (p : Int → Int) (m : Nat → Nat) (ln : Nat → Nat → Int) (up down : Int) (w : World) (hA : ArrB w w.heap.size A n p) (hn : n ≤ maxLen) (hL : Lines w w.heap.size AL K m ln) (hm : ∀ i, i < K → m i ≤ maxLen) (hz : stChk W H n p K m ln = 0) (u0 : 0 ≤ up) (d0 : 0 ≤ down) (h0 : 640 ≤ up ∨ 640 ≤ down) :
    Calls Tryz.prog 42 #[.agg #[.int .i64 W, .int .i64 H, .slice A n c], .agg #[.slice AL K cL], .int .i64 up, .int .i64 down] w fun e w' => e = .returned (.tuple #[noImg, .int .i64 2]) ∧ Below w.heap.size w w' := by
  have CK := Lib.hid fun w' hA' hL' => check_st W H A AL n c K cL p m ln 0 w' hA' hn hL' hm hz
  have b1 : Below w.heap.size w (((w.alloc (.cells #[.int .i64 W, .int .i64 H, .slice A n c] 24)).alloc (.cells #[.slice AL K cL] 40)).alloc (.cells #[.int .i64 0, .int .i64 0, .slice none 0 0] 24)) := by (repeat (first | exact Below.refl _ _ | assumption | refine Below.drew ?_ | refine below_drewN ?_ _ | refine Below.alloc ?_ (by first | omega | (simp; done) | (simp; omega)) _ | refine Below.setCell ?_ (by first | omega | (simp; done) | (simp; omega)) _ | refine below_setRow ?_ (by first | omega | (simp; done) | (simp; omega)) _ ))
  have k3 : Blk (((w.alloc (.cells #[.int .i64 W, .int .i64 H, .slice A n c] 24)).alloc (.cells #[.slice AL K cL] 40)).alloc (.cells #[.int .i64 0, .int .i64 0, .slice none 0 0] 24)) (w.heap.size + 1 + 1) 24 #[.int .i64 0, .int .i64 0, .slice none 0 0] := Blk.new' (by simp) _ _
  have k1 : Blk (((w.alloc (.cells #[.int .i64 W, .int .i64 H, .slice A n c] 24)).alloc (.cells #[.slice AL K cL] 40)).alloc (.cells #[.int .i64 0, .int .i64 0, .slice none 0 0] 24)) w.heap.size 24 #[.int .i64 W, .int .i64 H, .slice A n c] := ((Blk.new _ _ _).alloc _).alloc _
  have k2 : Blk (((w.alloc (.cells #[.int .i64 W, .int .i64 H, .slice A n c] 24)).alloc (.cells #[.slice AL K cL] 40)).alloc (.cells #[.int .i64 0, .int .i64 0, .slice none 0 0] 24)) (w.heap.size + 1) 40 #[.slice AL K cL] := (Blk.new' (by simp) _ _).alloc _
  obtain ⟨mn, h1, h2, h3⟩ : ∃ mn : Int, min up down = mn ∧ (if down < up then down else up) = mn ∧ ¬ mn < 0 := ⟨min up down, rfl, by split <;> omega, by omega⟩
  clear hz
  by_cases hu : 640 ≤ up
  · clear h0
    go_enter Tryz.func42, Tryz.ntmps42
    go_wp2_with fail
    generalize ((w.alloc (.cells #[.int .i64 W, .int .i64 H, .slice A n c] 24)).alloc (.cells #[.slice AL K cL] 40)).alloc (.cells #[.int .i64 0, .int .i64 0, .slice none 0 0] 24) = w1 at *
    refine (CK.out _ (hA.to b1) (hL.below b1)).mono ?_
    rintro e w2 ⟨rfl, hb2⟩
    have b2 := below_call b1 b1.size hb2
    have k4 := k3.below' hb2
    obtain ⟨r1, r2, r3⟩ := k4.cells3
    obtain ⟨f1, f2, f3⟩ := k4.frozen3
    have k5 := ((k4.set_ 0 (.int .i64 0)).set_ 1 (.int .i64 0)).set_ 2 (.slice none 0 0)
    obtain ⟨s1, s2, s3⟩ := Blk.cells3 (a := .int .i64 0) (b := .int .i64 0) (c := .slice none 0 0) k5
    go_wp2
    refine bodyPost_ret (v := .tuple #[noImg, .int .i64 2]) (by simp [results, Tryz.results42, go_sem, noImg, s1, s2, s3]) rfl ?_
    exact ⟨rfl, by (repeat (first | with_reducible exact Below.refl _ _ | with_reducible assumption | with_reducible refine Below.drew ?_ | (with_reducible refine below_alloc' ?_ ?_; focus (first | omega | (simp; done) | (simp; omega))) | (with_reducible refine below_fill3' ?_ ?_; focus omega) | (with_reducible refine below_setCell' ?_ ?_; focus (first | omega | (simp; done) | (simp; omega))) | (with_reducible apply below_call'; (focus (with_reducible assumption)); (focus (first | omega | (simp; done) | (simp; omega))))))⟩
  · have hd : 640 ≤ down := by omega
    clear h0
    go_enter Tryz.func42, Tryz.ntmps42
    go_wp2_with fail
    generalize ((w.alloc (.cells #[.int .i64 W, .int .i64 H, .slice A n c] 24)).alloc (.cells #[.slice AL K cL] 40)).alloc (.cells #[.int .i64 0, .int .i64 0, .slice none 0 0] 24) = w1 at *
    refine (CK.out _ (hA.to b1) (hL.below b1)).mono ?_
    rintro e w2 ⟨rfl, hb2⟩
    have b2 := below_call b1 b1.size hb2
    have k4 := k3.below' hb2
    obtain ⟨r1, r2, r3⟩ := k4.cells3
    obtain ⟨f1, f2, f3⟩ := k4.frozen3
    have k5 := ((k4.set_ 0 (.int .i64 0)).set_ 1 (.int .i64 0)).set_ 2 (.slice none 0 0)
    obtain ⟨s1, s2, s3⟩ := Blk.cells3 (a := .int .i64 0) (b := .int .i64 0) (c := .slice none 0 0) k5
    go_wp2
    refine bodyPost_ret (v := .tuple #[noImg, .int .i64 2]) (by simp [results, Tryz.results42, go_sem, noImg, s1, s2, s3]) rfl ?_
    exact ⟨rfl, by (repeat (first | with_reducible exact Below.refl _ _ | with_reducible assumption | with_reducible refine Below.drew ?_ | (with_reducible refine below_alloc' ?_ ?_; focus (first | omega | (simp; done) | (simp; omega))) | (with_reducible refine below_fill3' ?_ ?_; focus omega) | (with_reducible refine below_setCell' ?_ ?_; focus (first | omega | (simp; done) | (simp; omega))) | (with_reducible apply below_call'; (focus (with_reducible assumption)); (focus (first | omega | (simp; done) | (simp; omega))))))⟩
set_option maxHeartbeats 1000000 in
theorem rectify_size2 (W H : Int) (A AL : Option Addr) (n c K cL : Nat) (p : Int → Int) (m : Nat → Nat) (ln : Nat → Nat → Int) (up down : Int) (w : World) (hA : ArrB w w.heap.size A n p) (hn : n ≤ maxLen) (hL : Lines w w.heap.size AL K m ln) (hm : ∀ i, i < K → m i ≤ maxLen) (hz : stChk W H n p K m ln = 0) (u0 : 0 ≤ up) (d0 : 0 ≤ down) (u1 : up < 640) (d1 : down < 640) (h0 : 640 < up + down + 1) :
    Calls Tryz.prog 42 #[.agg #[.int .i64 W, .int .i64 H, .slice A n c], .agg #[.slice AL K cL], .int .i64 up, .int .i64 down] w fun e w' => e = .returned (.tuple #[noImg, .int .i64 2]) ∧ Below w.heap.size w w' := by
  have CK := Lib.hid fun w' hA' hL' => check_st W H A AL n c K cL p m ln 0 w' hA' hn hL' hm hz
  have b1 : Below w.heap.size w (((w.alloc (.cells #[.int .i64 W, .int .i64 H, .slice A n c] 24)).alloc (.cells #[.slice AL K cL] 40)).alloc (.cells #[.int .i64 0, .int .i64 0, .slice none 0 0] 24)) := by (repeat (first | exact Below.refl _ _ | assumption | refine Below.drew ?_ | refine below_drewN ?_ _ | refine Below.alloc ?_ (by first | omega | (simp; done) | (simp; omega)) _ | refine Below.setCell ?_ (by first | omega | (simp; done) | (simp; omega)) _ | refine below_setRow ?_ (by first | omega | (simp; done) | (simp; omega)) _ ))
  have k3 : Blk (((w.alloc (.cells #[.int .i64 W, .int .i64 H, .slice A n c] 24)).alloc (.cells #[.slice AL K cL] 40)).alloc (.cells #[.int .i64 0, .int .i64 0, .slice none 0 0] 24)) (w.heap.size + 1 + 1) 24 #[.int .i64 0, .int .i64 0, .slice none 0 0] := Blk.new' (by simp) _ _
  have k1 : Blk (((w.alloc (.cells #[.int .i64 W, .int .i64 H, .slice A n c] 24)).alloc (.cells #[.slice AL K cL] 40)).alloc (.cells #[.int .i64 0, .int .i64 0, .slice none 0 0] 24)) w.heap.size 24 #[.int .i64 W, .int .i64 H, .slice A n c] := ((Blk.new _ _ _).alloc _).alloc _
  have k2 : Blk (((w.alloc (.cells #[.int .i64 W, .int .i64 H, .slice A n c] 24)).alloc (.cells #[.slice AL K cL] 40)).alloc (.cells #[.int .i64 0, .int .i64 0, .slice none 0 0] 24)) (w.heap.size + 1) 40 #[.slice AL K cL] := (Blk.new' (by simp) _ _).alloc _
  obtain ⟨mn, h1, h2, h3⟩ : ∃ mn : Int, min up down = mn ∧ (if down < up then down else up) = mn ∧ ¬ mn < 0 := ⟨min up down, rfl, by split <;> omega, by omega⟩
  have v1 : IntKind.i64.wrap (up + down) = up + down := IntWalk.i64_in _ (by omega)
  have v2 : IntKind.i64.wrap (up + down + 1) = up + down + 1 := IntWalk.i64_in _ (by omega)
  have NB := Lib.hid fun w' => new_bad W (up + down + 1) w' (newE_bad.2 (.inr (.inr (.inr h0))))
  unfold noImg at NB
  clear h0 hz
  go_enter Tryz.func42, Tryz.ntmps42
  go_wp2_with fail
  generalize ((w.alloc (.cells #[.int .i64 W, .int .i64 H, .slice A n c] 24)).alloc (.cells #[.slice AL K cL] 40)).alloc (.cells #[.int .i64 0, .int .i64 0, .slice none 0 0] 24) = w1 at *
  refine (CK.out _ (hA.to b1) (hL.below b1)).mono ?_
  rintro e w2 ⟨rfl, hb2⟩
  have b2 := below_call b1 b1.size hb2
  have k4 := k3.below' hb2
  obtain ⟨r1, r2, r3⟩ := k4.cells3
  obtain ⟨p1, p2, p3⟩ := (k1.below' hb2).cells3
  have p4 := (k2.below' hb2).cells0
  go_wp2_with fail
  refine (NB.out _).mono ?_
  rintro e w3 ⟨rfl, hb3⟩
  have b3 := below_call b2 b2.size hb3
  have b4 : Below w.heap.size w (w3.alloc (.cells #[.int .i64 0, .int .i64 0, .slice none 0 0] 24)) := b3.alloc b3.size _
  have k6 := (k4.below' hb3).alloc (.cells #[.int .i64 0, .int .i64 0, .slice none 0 0] 24)
  obtain ⟨g1, g2, g3⟩ := k6.cells3
  obtain ⟨f1, f2, f3⟩ := k6.frozen3
  have k5 := ((k6.set_ 0 (.int .i64 0)).set_ 1 (.int .i64 0)).set_ 2 (.slice none 0 0)
  obtain ⟨s1, s2, s3⟩ := Blk.cells3 (a := .int .i64 0) (b := .int .i64 0) (c := .slice none 0 0) k5
  clear r1 r2 r3 p1 p2 p3 p4
  go_wp2
  refine bodyPost_ret (v := .tuple #[noImg, .int .i64 2]) (by simp [results, Tryz.results42, go_sem, noImg, s1, s2, s3]) rfl ?_
  exact ⟨rfl, by (repeat (first | with_reducible exact Below.refl _ _ | with_reducible assumption | with_reducible refine Below.drew ?_ | (with_reducible refine below_alloc' ?_ ?_; focus (first | omega | (simp; done) | (simp; omega))) | (with_reducible refine below_fill3' ?_ ?_; focus omega) | (with_reducible refine below_setCell' ?_ ?_; focus (first | omega | (simp; done) | (simp; omega))) | (with_reducible apply below_call'; (focus (with_reducible assumption)); (focus (first | omega | (simp; done) | (simp; omega))))))⟩
end Go.Proofs.YtdimlpcbbkokiaaGreat

/- Walk: a strip cut out along a stave (stave.Rectify), where it is made. -/
namespace Go.Proofs.YtdimlpcbbkokiaaGreat
open Go.RowKit Go.Shelf
set_option linter.unusedVariables false
attribute [local go_sem] Oper.semAt_some

set_option maxRecDepth 100000 in
set_option maxHeartbeats 4000000 in
theorem rectify_ok (W H : Int) (A AL : Option Addr) (n c K cL N : Nat) (p : Int → Int) (m : Nat → Nat) (ln : Nat → Nat → Int) (up down h : Int) (w : World) (hA : ArrB w w.heap.size A n p) (hn : n ≤ maxLen) (hB : IsB p) (hL : Lines w w.heap.size AL K m ln) (hm : ∀ i, i < K → m i ≤ maxLen) (hz : stChk W H n p K m ln = 0) (hE : chk W H n p = 0) (hP : StP W H K m ln)
    (u0 : 0 ≤ up) (d0 : 0 ≤ down) (hh : h = up + down + 1) (hle : h ≤ 640) (hN : (N : Int) = W * h) :
    Calls Tryz.prog 42 #[.agg #[.int .i64 W, .int .i64 H, .slice A n c], .agg #[.slice AL K cL], .int .i64 up, .int .i64 down] w (New w fun v w' => ∃ g, v = .tuple #[g, .int .i64 0] ∧ OutN w w' W h N (recQ W H p (ln 4) up) g) := by
  obtain ⟨hW1, hW2, hH1, hH2, hnn, hpx⟩ := chk_ok hE
  obtain ⟨rfl, hpath, -⟩ := hP
  obtain ⟨⟨W1, H1, m4⟩, hst⟩ := isPathB_iff.1 (hpath 4 (by omega))
  have PB := Lib.hid fun (x : Nat) (hx : (x : Int) < m 4) => stepB_iff.1 (hst x (by omega) hx)
  have wh := area_bd (W := W) (H := h) (by omega) hW2 (by omega) hle
  have CK := Lib.hid fun w' hA' hL' => check_st W H A AL n c 5 cL p m ln 0 w' hA' hn hL' hm hz
  have NO := Lib.hid fun w' => new_ok W h w' (by omega) hW2 (by omega) hle
  have hN2 : (W * h).toNat = N := by omega
  have b1 : Below w.heap.size w (((w.alloc (.cells #[.int .i64 W, .int .i64 H, .slice A n c] 24)).alloc (.cells #[.slice AL 5 cL] 40)).alloc (.cells #[.int .i64 0, .int .i64 0, .slice none 0 0] 24)) := by (repeat (first | exact Below.refl _ _ | assumption | refine Below.drew ?_ | refine below_drewN ?_ _ | refine Below.alloc ?_ (by first | omega | (simp; done) | (simp; omega)) _ | refine Below.setCell ?_ (by first | omega | (simp; done) | (simp; omega)) _ | refine below_setRow ?_ (by first | omega | (simp; done) | (simp; omega)) _ ))
  have k3 : Blk (((w.alloc (.cells #[.int .i64 W, .int .i64 H, .slice A n c] 24)).alloc (.cells #[.slice AL 5 cL] 40)).alloc (.cells #[.int .i64 0, .int .i64 0, .slice none 0 0] 24)) (w.heap.size + 1 + 1) 24 #[.int .i64 0, .int .i64 0, .slice none 0 0] := Blk.new' (by simp) _ _
  have k1 : Blk (((w.alloc (.cells #[.int .i64 W, .int .i64 H, .slice A n c] 24)).alloc (.cells #[.slice AL 5 cL] 40)).alloc (.cells #[.int .i64 0, .int .i64 0, .slice none 0 0] 24)) w.heap.size 24 #[.int .i64 W, .int .i64 H, .slice A n c] := ((Blk.new _ _ _).alloc _).alloc _
  have k2 : Blk (((w.alloc (.cells #[.int .i64 W, .int .i64 H, .slice A n c] 24)).alloc (.cells #[.slice AL 5 cL] 40)).alloc (.cells #[.int .i64 0, .int .i64 0, .slice none 0 0] 24)) (w.heap.size + 1) 40 #[.slice AL 5 cL] := (Blk.new' (by simp) _ _).alloc _
  obtain ⟨mn, h1, h2, h3⟩ : ∃ mn : Int, min up down = mn ∧ (if down < up then down else up) = mn ∧ ¬ mn < 0 := ⟨min up down, rfl, by split <;> omega, by omega⟩
  have e1 : up < 640 := by omega
  have e2 : down < 640 := by omega
  have v1 : IntKind.i64.wrap (up + down) = up + down := IntWalk.i64_in _ (by omega)
  have v2 : IntKind.i64.wrap (up + down + 1) = h := by rw [← hh]; exact IntWalk.i64_in _ (by omega)
  have hpos : 1 ≤ h := by omega
  have HHH := Lib.hid hh; have HNN := Lib.hid hnn; have HN := Lib.hid hN; have HM4 := Lib.hid m4
  have HNB : (N : Int) ≤ 409600 := by omega
  clear hz hE hpath hst hh hnn hN hpx
  go_enter Tryz.func42, Tryz.ntmps42
  go_wp2_with fail
  generalize ((w.alloc (.cells #[.int .i64 W, .int .i64 H, .slice A n c] 24)).alloc (.cells #[.slice AL 5 cL] 40)).alloc (.cells #[.int .i64 0, .int .i64 0, .slice none 0 0] 24) = w1 at *
  refine (CK.out _ (hA.to b1) (hL.below b1)).mono ?_
  rintro e w2 ⟨rfl, hb2⟩
  have b2 := below_call b1 b1.size hb2
  have q1 := k1.below' hb2
  have q2 := k2.below' hb2
  have q3 := k3.below' hb2
  obtain ⟨p1, p2, p3⟩ := q1.cells3
  have p4 := q2.cells0
  clear b1 k1 k2 k3 hb2
  go_wp2_with fail
  refine (NO.out _).mono ?_
  rintro e w3 ⟨_, rfl, ⟨_, rfl, gp, rfl, hgp, kp⟩, hb3⟩
  rw [hN2] at kp ⊢
  have b3 := below_call b2 b2.size hb3
  obtain ⟨bA, oA, A4, c4, rfl, hbA, hcA, haA⟩ := hL.at_ (i := 4) (by omega)
  obtain ⟨b4, o4, rfl, hb4, hc4⟩ := ArrI.fn haA (by omega)
  have HC4 := Lib.hid hc4
  have z1 : w.heap.size + 1 + 1 < w2.heap.size := q3.lt
  have z2 := kp.lt
  have z3 := hb3.size
  obtain ⟨Q, hQ⟩ : ∃ Q, Q = recQ W H p (ln 4) up := ⟨_, rfl⟩
  have HQ := Lib.hid hQ
  have b5 : Below w.heap.size w (w3.alloc (.cells #[.int .i64 W, .int .i64 h, .slice (some ⟨gp, 0, none⟩) N N] 24)) := b3.alloc b3.size _
  have s1 := (q1.below' hb3).alloc (.cells #[.int .i64 W, .int .i64 h, .slice (some ⟨gp, 0, none⟩) N N] 24)
  have s2 := (q2.below' hb3).alloc (.cells #[.int .i64 W, .int .i64 h, .slice (some ⟨gp, 0, none⟩) N N] 24)
  have s3 := (q3.below' hb3).alloc (.cells #[.int .i64 W, .int .i64 h, .slice (some ⟨gp, 0, none⟩) N N] 24)
  have sx := Blk.new w3 24 #[.int .i64 W, .int .i64 h, .slice (some ⟨gp, 0, none⟩) N N]
  have sp : Blk (w3.alloc (.cells #[.int .i64 W, .int .i64 h, .slice (some ⟨gp, 0, none⟩) N N] 24)) gp 5 (u8s N (byCol W Q (fun _ => 0) (0 : Nat) (0 : Nat))) := (kp.alloc _).u8conv fun i i0 _ => (byCol_zero (W := W) (q := Q) (z := fun _ => 0) (by omega) i0).symm
  have r4 := s2.cells0
  have r5 := (b5.cell (p := ⟨bA, oA + 4, none⟩) hbA).trans hcA
  obtain ⟨r1, r2, r3⟩ := s1.cells3
  obtain ⟨rx1, rx2, rx3⟩ := sx.cells3
  clear hQ q1 q2 q3 kp hb3 b2 b3 p1 p2 p3 p4 hc4 CK NO h1 h2 h3 v1 v2
  go_wp2_with fail
  generalize w3.alloc (.cells #[.int .i64 W, .int .i64 h, .slice (some ⟨gp, 0, none⟩) N N] 24) = w5 at *
  generalize w3.heap.size = gx at *
  generalize hm4 : m 4 = M at *
  go_loopw [55] (fun s wr => ∃ x : Nat, x ≤ M ∧ s = .int .i64 x ∧ Below w.heap.size w wr ∧ Blk wr w.heap.size 24 #[.int .i64 W, .int .i64 H, .slice A n c] ∧ Blk wr (w.heap.size + 1 + 1) 24 #[.int .i64 0, .int .i64 0, .slice none 0 0] ∧ Blk wr gx 24 #[.int .i64 W, .int .i64 h, .slice (some ⟨gp, 0, none⟩) N N] ∧ Blk wr gp 5 (u8s N (byCol W Q (fun _ => 0) x (0 : Nat)))) (fun s _ => M - (intOf s).toNat)
  case atStart => exact ⟨0, by omega, rfl, b5, s1, s3, sx, sp⟩
  case round =>
    obtain ⟨x, hx, rfl, b6, t1, t3, tx, tp⟩ := hrel
    clear r1 r2 r3 r4 r5 rx1 rx2 rx3 b5 s1 s2 s3 sx sp
    obtain ⟨r1, r2, r3⟩ := t1.cells3
    obtain ⟨rx1, rx2, rx3⟩ := tx.cells3
    by_cases xl : (x : Int) < M
    · have xW : (x : Int) < W := by have := HM4.out; omega
      have lx := HC4.out x (by omega) xl
      rw [Int.toNat_natCast] at lx
      have cx := (b6.cell (p := ⟨b4, o4 + x, none⟩) hb4).trans lx
      obtain ⟨pb1, pb2, -⟩ := PB.out x xl
      rw [Int.toNat_natCast] at pb1 pb2
      generalize hlx : ln 4 x = l at *
      have HLX := Lib.hid hlx
      clear lx hlx
      go_wp2_with fail
      go_loopw [62] (fun s wr => ∃ y : Nat, (y : Int) ≤ h ∧ s = .int .i64 y ∧ Below w.heap.size w wr ∧ Blk wr w.heap.size 24 #[.int .i64 W, .int .i64 H, .slice A n c] ∧ Blk wr (w.heap.size + 1 + 1) 24 #[.int .i64 0, .int .i64 0, .slice none 0 0] ∧ Blk wr gx 24 #[.int .i64 W, .int .i64 h, .slice (some ⟨gp, 0, none⟩) N N] ∧ Blk wr gp 5 (u8s N (byCol W Q (fun _ => 0) x y))) (fun s _ => (h - intOf s).toNat)
      case atStart => exact ⟨0, by omega, rfl, b6, t1, t3, tx, tp⟩
      case round =>
        obtain ⟨y, hy, rfl, b7, a1, a3, ax, ap⟩ := hrel
        clear r1 r2 r3 rx1 rx2 rx3 b6 t1 t3 tx tp cx
        obtain ⟨r1, r2, r3⟩ := a1.cells3
        obtain ⟨rx1, rx2, rx3⟩ := ax.cells3
        by_cases yl : (y : Int) < h
        · have v3 : IntKind.i64.wrap (l - up) = l - up := IntWalk.i64_in _ (by omega)
          have v4 : IntKind.i64.wrap (l - up + y) = l - up + y := IntWalk.i64_in _ (by omega)
          have QV : Hid (Q (y * W + x) = if 0 ≤ l - up + y ∧ l - up + y < H then p ((l - up + y) * W + x) else 0) := by
            show _ = _
            rw [HQ.out]; unfold recQ
            rw [idx_mod (by omega) xW, idx_div (by omega) xW, Int.toNat_natCast, HLX.out]
          by_cases hin : 0 ≤ (l - up + (y : Int)) ∧ (l - up + (y : Int)) < H
          · obtain ⟨hi1, hi2⟩ := hin
            have d1 : decide (0 ≤ (l - up + (y : Int))) = true := decide_eq_true hi1
            have d2 : decide ((l - up + (y : Int)) < H) = true := decide_eq_true hi2
            rw [if_pos ⟨hi1, hi2⟩] at QV
            obtain ⟨i1, i2, i3⟩ := idx_lt (x := (x : Int)) (y := (l - up + (y : Int))) (W := W) (H := H) (by omega) xW hi1 hi2
            rw [Int.mul_comm H W] at i2
            obtain ⟨j1, j2, j3⟩ := idx_lt (x := (x : Int)) (y := (y : Int)) (W := W) (H := h) (by omega) xW (by omega) yl
            rw [Int.mul_comm h W] at j2
            have i4 : (l - up + (y : Int)) * W + x < (n : Int) := by have := HNN.out; omega
            have j4 : (y : Int) * W + x < (N : Int) := by have := HN.out; omega
            have nb := (area_bd hW1 hW2 hH1 hH2).2
            have v5 : IntKind.i64.wrap ((l - up + (y : Int)) * W) = (l - up + (y : Int)) * W := IntWalk.i64_in _ (by omega)
            have v6 : IntKind.i64.wrap ((l - up + (y : Int)) * W + x) = (l - up + (y : Int)) * W + x := IntWalk.i64_in _ (by omega)
            have v7 : IntKind.i64.wrap ((y : Int) * W) = (y : Int) * W := IntWalk.i64_in _ (by omega)
            have v8 : IntKind.i64.wrap ((y : Int) * W + x) = (y : Int) * W + x := IntWalk.i64_in _ (by omega)
            obtain ⟨bi, oi, rfl, hbi, hci⟩ := ArrB.at_ (ArrB.below hA b7) i1 i4
            have cg := ap.u8at j1 j4
            have fg := ap.frozen ((y : Int) * W + x).toNat
            have KS := Lib.hid (ap.u8set ((y : Int) * W + x) j1 (p ((l - up + (y : Int)) * W + x)))
            have g1 : gp ≠ w.heap.size := by omega
            have BS := Lib.hid (fun i => byCol_set (q := Q) (z := fun _ => 0) (y := (y : Int)) (i := i) (by omega : (0 : Int) ≤ x) xW)
            generalize hpv : p ((l - up + (y : Int)) * W + x) = pv at *
            have HPV := Lib.hid hpv
            clear hpv
            go_wp2_with fail
            go_still_tail 19, (by kernel_rfl)
            change wpList _ _ _ _ _ wr.drew
            clear v5 v6 v7 v8
            go_wp2
            go_roundw
            case rel => exact ⟨y + 1, by omega, by go_num, by (repeat (first | exact Below.refl _ _ | assumption | refine Below.drew ?_ | refine below_drewN ?_ _ | refine Below.alloc ?_ (by first | omega | (simp; done) | (simp; omega)) _ | refine Below.setCell ?_ (by first | omega | (simp; done) | (simp; omega)) _ | refine below_setRow ?_ (by first | omega | (simp; done) | (simp; omega)) _ )), a1.drew.far (p := ⟨gp, ((y : Int) * W + x).toNat, none⟩) (fun e => g1 e.symm) _, a3.drew.far (p := ⟨gp, ((y : Int) * W + x).toNat, none⟩) (by show w.heap.size + 1 + 1 ≠ gp; omega) _, ax.drew.far (p := ⟨gp, ((y : Int) * W + x).toNat, none⟩) (by show gx ≠ gp; omega) _, Blk.u8conv (by simpa using KS.out.drew) fun i _ _ => by have h := BS.out i; rw [QV.out] at h; rw [Int.natCast_add]; exact h⟩
            case measure => simp [intOf]; omega
          · rw [if_neg hin] at QV
            have SK := Lib.hid (fun i => byCol_skip (q := Q) (z := fun _ => 0) (y := (y : Int)) (i := i) (by omega : (0 : Int) ≤ x) xW QV.out)
            by_cases h0 : 0 ≤ (l - up + (y : Int))
            · have hh2 : ¬ (l - up + (y : Int)) < H := fun h3 => hin ⟨h0, h3⟩
              have d1 : decide (0 ≤ (l - up + (y : Int))) = true := decide_eq_true h0
              have d2 : decide ((l - up + (y : Int)) < H) = false := decide_eq_false hh2
              clear hin
              go_wp2_with fail
              go_roundw
              case rel => exact ⟨y + 1, by omega, by go_num, b7, a1, a3, ax, ap.u8conv fun i _ _ => SK.out i⟩
              case measure => simp [intOf]; omega
            · have d1 : decide (0 ≤ (l - up + (y : Int))) = false := decide_eq_false h0
              clear hin
              go_wp2_with fail
              go_roundw
              case rel => exact ⟨y + 1, by omega, by go_num, b7, a1, a3, ax, ap.u8conv fun i _ _ => SK.out i⟩
              case measure => simp [intOf]; omega
        · have ey : (y : Int) = h := by omega
          have ap2 := ap.u8conv (r := byCol W Q (fun _ => 0) ((x : Int) + 1) (0 : Nat)) fun i i0 i1 => by rw [ey]; exact byCol_col (by omega) i0 (by have := HN.out; omega)
          clear ap ey
          go_wp2_with fail
          go_roundw
          case rel => exact ⟨x + 1, by omega, by go_num, b7, a1, a3, ax, ap2⟩
          case measure => simp [intOf]; omega
    · obtain rfl : x = M := by omega
      obtain ⟨f1, f2, f3⟩ := t3.frozen3
      obtain ⟨y1, y2, y3⟩ := t3.cells3
      have k5 := ((t3.set_ 0 (.int .i64 W)).set_ 1 (.int .i64 h)).set_ 2 (.slice (some ⟨gp, 0, none⟩) N N)
      obtain ⟨s1, s2, s3⟩ := Blk.cells3 (a := .int .i64 W) (b := .int .i64 h) (c := .slice (some ⟨gp, 0, none⟩) N N) k5
      go_wp2_with fail
      refine bodyPost_ret (v := .tuple #[.agg #[.int .i64 W, .int .i64 h, .slice (some ⟨gp, 0, none⟩) N N], .int .i64 0]) (by simp [results, Tryz.results42, go_sem, s1, s2, s3]) rfl ?_
      refine ⟨_, rfl, ⟨_, rfl, ?_⟩, by (repeat (first | exact Below.refl _ _ | assumption | refine Below.drew ?_ | refine below_drewN ?_ _ | refine Below.alloc ?_ (by first | omega | (simp; done) | (simp; omega)) _ | refine Below.setCell ?_ (by first | omega | (simp; done) | (simp; omega)) _ | refine below_setRow ?_ (by first | omega | (simp; done) | (simp; omega)) _ ))⟩
      rw [← HQ.out]
      have g1 : gp ≠ w.heap.size + 1 + 1 := by omega
      refine OutN.mk (by omega) (Blk.far (Blk.far (Blk.far (tp.u8conv fun i _ _ => ?_) g1 _) g1 _) g1 _)
      rw [HM4.out]
      exact byCol_end (by omega)
end Go.Proofs.YtdimlpcbbkokiaaGreat

/- Memory: a block of bytes of which the first cells are known; bytes.Clone. -/
namespace Go.Proofs.YtdimlpcbbkokiaaGreat
open Go.RowKit
set_option linter.unusedVariables false

/-- block g holds bytes, the first n of which are q -/
def ArrO (w : World) (g n : Nat) (q : Int → Int) : Prop := ∃ cs, Blk w g 5 cs ∧ ∀ i : Int, 0 ≤ i → i < n → cs[i.toNat]? = some (.int .u8 (q i))
section
variable {w w' : World} {g n : Nat} {q r : Int → Int}
theorem ArrO.lt (h : ArrO w g n q) : g < w.heap.size := by obtain ⟨cs, hb, -⟩ := h; exact hb.lt
theorem ArrO.cell (h : ArrO w g n q) {i : Int} (h0 : 0 ≤ i) (hi : i < n) : w.cell? ⟨g, i.toNat, none⟩ = some (.int .u8 (q i)) := by obtain ⟨cs, hb, hc⟩ := h; rw [hb.cell, hc i h0 hi]
theorem ArrO.frozen (h : ArrO w g n q) (i : Nat) : w.frozen? ⟨g, i, none⟩ = false := by obtain ⟨cs, hb, -⟩ := h; exact hb.frozen i
theorem ArrO.move (h : ArrO w g n q) (e : w'.heap[g]? = w.heap[g]?) : ArrO w' g n q := by obtain ⟨cs, hb, hc⟩ := h; exact ⟨cs, hb.move e, hc⟩
theorem ArrO.drew (h : ArrO w g n q) : ArrO w.drew g n q := h.move rfl
theorem ArrO.alloc (h : ArrO w g n q) (o : Obj) : ArrO (w.alloc o) g n q := h.move (Below.heap_alloc w o g h.lt)
theorem ArrO.far (h : ArrO w g n q) {p : Addr} (hp : g ≠ p.block) (u : Value) : ArrO (w.setCell p u) g n q := h.move (heap_setCell_other w p g u hp)
theorem ArrO.below (h : ArrO w g n q) (hb : Below w.heap.size w w') : ArrO w' g n q := h.move (hb.block g h.lt)
theorem ArrO.conv (h : ArrO w g n q) (he : ∀ i : Int, 0 ≤ i → i < n → q i = r i) : ArrO w g n r := by
  obtain ⟨cs, hb, hc⟩ := h; exact ⟨cs, hb, fun i a b => by rw [hc i a b, he i a b]⟩
theorem ArrO.set (h : ArrO w g n q) (i : Int) (h0 : 0 ≤ i) (hi : i < n) (v : Int) : ArrO (w.setCell ⟨g, i.toNat, none⟩ (.int .u8 v)) g n (upd q i v) := by
  obtain ⟨cs, hb, hc⟩ := h
  refine ⟨cs.setIfInBounds i.toNat (.int .u8 v), hb.set_ _ _, fun j j0 j1 => ?_⟩
  rw [Array.getElem?_setIfInBounds]
  have hs : i.toNat < cs.size := (Array.getElem?_eq_some_iff.1 (hc i h0 hi)).1
  by_cases e : i.toNat = j.toNat
  · have e' : j = i := by omega
    subst e'
    rw [if_pos rfl, if_pos hs, upd_at]
  · rw [if_neg e, hc j j0 j1, upd_ne (by omega)]
theorem ArrO.arr (h : ArrO w g n q) : ArrB w w.heap.size (some ⟨g, 0, none⟩) n q := fun _ => ⟨g, 0, rfl, h.lt, fun i a b => by rw [Nat.zero_add]; exact h.cell a b⟩
theorem Blk.arrO {N : Nat} (h : Blk w g 5 (u8s N q)) : ArrO w g N q := ⟨_, h, fun i a b => u8s_at a b⟩
end
theorem own_arrO {w : World} {B n : Nat} {v : Value} {q : Int → Int} (h : w.ownsRow B 5 1 v n ((List.range n).map fun (j : Nat) => Value.int .u8 (q j))) (hn : 0 < n) : ∃ g c, v = .slice (some ⟨g, 0, none⟩) n c ∧ n ≤ c ∧ B ≤ g ∧ ArrO w g n q := by
  rcases h.2 with ⟨-, h2⟩ | ⟨g, cap, cur, hv, hb, hh, hc, _, hs, ht⟩
  · omega
  · refine ⟨g, cap, hv, hc, hb, cur, hh, fun i a b => ?_⟩
    have e : cur[i.toNat]? = (cur.toList.take ((List.range n).map fun (j : Nat) => Value.int .u8 (q j)).length)[i.toNat]? := by
      rw [List.getElem?_take, if_pos (by simp; omega)]; simp
    rw [e]
    have : (cur.toList.take ((List.range n).map fun (j : Nat) => Value.int .u8 (q j)).length) = (List.range n).map fun (j : Nat) => Value.int .u8 (q j) := by
      simpa using ht
    rw [this, List.getElem?_map, List.getElem?_range (by omega)]
    simp [Int.toNat_of_nonneg a]

def ClOut (A : Option Addr) (n : Nat) (p : Int → Int) (w : World) (v : Value) (w' : World) : Prop := (A = none ∧ n = 0 ∧ v = .slice none 0 0 ∧ w = w') ∨ w'.ownsRow w.heap.size 5 1 v n ((List.range n).map fun (j : Nat) => Value.int .u8 (p j))
set_option maxRecDepth 100000 in
set_option maxHeartbeats 1000000 in
theorem bclone_own (A : Option Addr) (n c : Nat) (p : Int → Int) (w : World) (hA : ArrB w w.heap.size A n p) (hn : n ≤ 140737488355328) :
    Calls Tryz.prog 85 #[.slice A n c] w (New w fun v w' => ClOut A n p w v w') := by
  obtain ⟨i0, hi0, hz0, hz1, hz2⟩ := info_parts infoU8
  cases A with
  | none =>
    have hn0 : n = 0 := by
      rcases Nat.eq_zero_or_pos n with h | h
      · exact h
      · obtain ⟨b, off, e, _⟩ := hA h; cases e
    subst hn0
    have E1 : ∀ W, (binOp .eql 22 (.slice none 0 c) (.slice none 0 0)).run Tryz.prog W = .ok (.bool true) W := fun W => Go.run_eql_slice_nil W _ _ _ _ _ Tryz.underlying22
    clear hA
    go_enter Tryz.func85, Tryz.ntmps85
    go_wp2
    go_ret
    exact ⟨_, rfl, .inl ⟨rfl, rfl, rfl, rfl⟩, Below.refl _ _⟩
  | some ad =>
    have E1 : ∀ W, (binOp .eql 22 (.slice (some ad) n c) (.slice none 0 0)).run Tryz.prog W = .ok (.bool false) W := fun W => Go.run_eql_slice_nil W _ _ _ _ _ Tryz.underlying22
    have HA := Lib.hid hA
    clear hA
    go_enter Tryz.func85, Tryz.ntmps85
    go_wp2_with (at_builtin; refine wpList_append_own _ rfl (.tmp 5) (.tmp 6) 22 rfl w.heap.size 5 i0 (.int .u8 0) 1 1 Tryz.underlying22 hi0 hz0 hz1 hz2 rfl (by decide) _ 0 [] rfl (World.ownsRow_made w #[] 0 (Nat.le_refl _) (by decide) rfl) ad n c ((List.range n).map (fun (j : Nat) => Value.int .u8 (p j))) rfl (by simp) ?c1 ?c2 ?c3 ?c4 ?c5 ?_)
    case c1 =>
      intro j u hj
      have hjn : j < n := by
        rcases Nat.lt_or_ge j n with h | h
        · exact h
        · rw [List.getElem?_eq_none (by simpa using h)] at hj; cases hj
      obtain ⟨b, off, e, hb, hcell⟩ := HA.out (by omega)
      injection e with e; subst e
      have := hcell j (by omega) (by omega)
      simp [hjn] at hj
      subst hj
      rw [Int.toNat_natCast] at this
      have hadd : (⟨b, off, none⟩ : Addr).add j = ⟨b, off + j, none⟩ := by unfold Addr.add; split <;> simp_all
      rw [hadd, ← this]
      exact (Below.cell ((Below.refl _ _).alloc (Nat.le_refl _) _) (p := ⟨b, off + j, none⟩) hb)
    case c2 => intro u hu; simp at hu; obtain ⟨j, _, rfl⟩ := hu; rfl
    case c3 => unfold maxLen; omega
    case c4 => omega
    case c5 => simp
    intro v' w7 own7 hg7 _
    have b7 : Below w.heap.size w w7 := ((Below.refl w.heap.size w).alloc (Nat.le_refl _) (.cells #[] 5)).grown hg7 (by simp) (fun k hk => by cases hk; exact Nat.le_refl _)
    go_wp2
    go_ret
    try rw [Nat.zero_add, List.nil_append] at own7
    exact ⟨_, rfl, .inr own7, b7⟩
theorem bclone_pos (A : Option Addr) (n c : Nat) (p : Int → Int) (w : World) (hA : ArrB w w.heap.size A n p) (hn : n ≤ 140737488355328) (h0 : 0 < n) :
    Calls Tryz.prog 85 #[.slice A n c] w (New w fun v w' => ∃ g c', v = .slice (some ⟨g, 0, none⟩) n c' ∧ n ≤ c' ∧ w.heap.size ≤ g ∧ ArrO w' g n p) :=
  (bclone_own A n c p w hA hn).mono fun e w' ⟨v, he, h, hb⟩ => by
    rcases h with ⟨-, h, -, -⟩ | h
    · omega
    · exact ⟨v, he, own_arrO h h0, hb⟩
theorem outSl_nil (w w' : World) (q : Int → Int) : OutSl w w' 0 q (.slice none 0 0) := ⟨none, 0, rfl, Nat.le_refl _, fun _ => rfl, (fun _ h => by cases h), ArrB.nil⟩
theorem bclone_any (A : Option Addr) (n c : Nat) (p : Int → Int) (w : World) (hA : ArrB w w.heap.size A n p) (hn : n ≤ 140737488355328) :
    Calls Tryz.prog 85 #[.slice A n c] w (New w fun v w' => OutSl w w' n p v) :=
  (bclone_own A n c p w hA hn).mono fun e w' ⟨v, he, h, hb⟩ => by
    refine ⟨v, he, ?_, hb⟩
    rcases h with ⟨-, rfl, rfl, rfl⟩ | h
    · exact outSl_nil _ _ _
    · exact own_out h rfl
end Go.Proofs.YtdimlpcbbkokiaaGreat

/- Walk: the first of two errors (cmp.Or). -/
namespace Go.Proofs.YtdimlpcbbkokiaaGreat
open Go.RowKit Go.Shelf
set_option linter.unusedVariables false
attribute [local go_sem] Oper.semAt_some

/-- the first of two that is not zero -/
def orE (a b : Int) : Int := if a = 0 then b else a
set_option maxHeartbeats 1000000 in
theorem or2_any (g : Nat) (a b : Int) (w : World) (h : Blk w g 26 #[.int .i64 a, .int .i64 b]) :
    Calls Tryz.prog 84 #[.slice (some ⟨g, 0, none⟩) 2 2] w fun e w' => e = .returned (.int .i64 (orE a b)) ∧ w = w' := by
  have p1 : w.cell? ⟨g, 0, none⟩ = some (.int .i64 a) := by rw [h.cell]; rfl
  have p2 : w.cell? ⟨g, 1, none⟩ = some (.int .i64 b) := by rw [h.cell]; rfl
  have HO : Hid (orE a b = if a = 0 then b else a) := rfl
  generalize orE a b = z at *
  clear h
  by_cases ha : a = 0
  · have hz : z = b := by rw [HO.out, if_pos ha]
    subst hz
    subst ha
    by_cases hb : z = 0
    · subst hb
      clear HO
      go_enter Tryz.func84, Tryz.ntmps84
      go_wp2_with fail
      go_loop [8] (fun i => ∃ k : Nat, k ≤ 2 ∧ i = .int .i64 k) (fun i => 2 - (intOf i).toNat)
      case atStart => exact ⟨0, by omega, rfl⟩
      case round =>
        obtain ⟨k, hk, rfl⟩ := hrel
        by_cases k2 : k = 2
        · subst k2
          go_wp2
          go_ret
          exact ⟨rfl, rfl⟩
        · have hc : w.cell? ⟨g, k, none⟩ = some (.int .i64 0) := by
            by_cases k0 : k = 0
            · subst k0; exact p1
            · obtain rfl : k = 1 := by omega
              exact p2
          have kl : (k : Int) < 2 := by omega
          clear p1 p2
          go_wp2
          go_round
          case rel => exact ⟨k + 1, by omega, by go_num⟩
          case measure => simp [intOf]; omega
    · have hb' : (z == 0) = false := by simp [hb]
      have hb2 : (z != 0) = true := by simp [hb]
      have HB := Lib.hid hb
      clear HO hb
      go_enter Tryz.func84, Tryz.ntmps84
      go_wp2_with fail
      go_loop [8] (fun i => ∃ k : Nat, k ≤ 1 ∧ i = .int .i64 k) (fun i => 2 - (intOf i).toNat)
      case atStart => exact ⟨0, by omega, rfl⟩
      case round =>
        obtain ⟨k, hk, rfl⟩ := hrel
        by_cases k0 : k = 0
        · subst k0
          go_wp2
          go_round
          case rel => exact ⟨1, by omega, by go_num⟩
          case measure => simp [intOf]
        · obtain rfl : k = 1 := by omega
          go_wp2
          go_ret
          exact ⟨rfl, rfl⟩
  · have hz : z = a := by rw [HO.out, if_neg ha]
    subst hz
    have hb' : (z == 0) = false := by simp [ha]
    have hb2 : (z != 0) = true := by simp [ha]
    have HA := Lib.hid ha
    clear HO ha
    go_enter Tryz.func84, Tryz.ntmps84
    go_wp2_with fail
    go_loop [8] (fun i => i = .int .i64 0) (fun i => 2 - (intOf i).toNat)
    case atStart => exact rfl
    case round =>
      subst hrel
      go_wp2
      go_ret
      exact ⟨rfl, rfl⟩
end Go.Proofs.YtdimlpcbbkokiaaGreat

/- Walks: the order of runs (stave.Runs's comparing function), cmp.Or of two numbers; rows of runs. -/
namespace Go.Proofs.YtdimlpcbbkokiaaGreat
open Go.RowKit Go.Shelf Go.Lib Go.Sort
set_option linter.unusedVariables false
attribute [local go_sem] Oper.semAt_some

set_option maxHeartbeats 1000000 in
theorem or2i_any (g : Nat) (a b : Int) (w : World) (h : Blk w g 3 #[.int .i64 a, .int .i64 b]) :
    Calls Tryz.prog 91 #[.slice (some ⟨g, 0, none⟩) 2 2] w fun e w' => e = .returned (.int .i64 (orE a b)) ∧ w = w' := by
  have p1 : w.cell? ⟨g, 0, none⟩ = some (.int .i64 a) := by rw [h.cell]; rfl
  have p2 : w.cell? ⟨g, 1, none⟩ = some (.int .i64 b) := by rw [h.cell]; rfl
  have HO : Hid (orE a b = if a = 0 then b else a) := rfl
  generalize orE a b = z at *
  clear h
  by_cases ha : a = 0
  · have hz : z = b := by rw [HO.out, if_pos ha]
    subst hz
    subst ha
    by_cases hb : z = 0
    · subst hb
      clear HO
      go_enter Tryz.func91, Tryz.ntmps91
      go_wp2_with fail
      go_loop [8] (fun i => ∃ k : Nat, k ≤ 2 ∧ i = .int .i64 k) (fun i => 2 - (intOf i).toNat)
      case atStart => exact ⟨0, by omega, rfl⟩
      case round =>
        obtain ⟨k, hk, rfl⟩ := hrel
        by_cases k2 : k = 2
        · subst k2
          go_wp2
          go_ret
          exact ⟨rfl, rfl⟩
        · have hc : w.cell? ⟨g, k, none⟩ = some (.int .i64 0) := by
            by_cases k0 : k = 0
            · subst k0; exact p1
            · obtain rfl : k = 1 := by omega
              exact p2
          have kl : (k : Int) < 2 := by omega
          clear p1 p2
          go_wp2
          go_round
          case rel => exact ⟨k + 1, by omega, by go_num⟩
          case measure => simp [intOf]; omega
    · have hb' : (z == 0) = false := by simp [hb]
      have hb2 : (z != 0) = true := by simp [hb]
      have HB := Lib.hid hb
      clear HO hb
      go_enter Tryz.func91, Tryz.ntmps91
      go_wp2_with fail
      go_loop [8] (fun i => ∃ k : Nat, k ≤ 1 ∧ i = .int .i64 k) (fun i => 2 - (intOf i).toNat)
      case atStart => exact ⟨0, by omega, rfl⟩
      case round =>
        obtain ⟨k, hk, rfl⟩ := hrel
        by_cases k0 : k = 0
        · subst k0
          go_wp2
          go_round
          case rel => exact ⟨1, by omega, by go_num⟩
          case measure => simp [intOf]
        · obtain rfl : k = 1 := by omega
          go_wp2
          go_ret
          exact ⟨rfl, rfl⟩
  · have hz : z = a := by rw [HO.out, if_neg ha]
    subst hz
    have hb' : (z == 0) = false := by simp [ha]
    have hb2 : (z != 0) = true := by simp [ha]
    have HA := Lib.hid ha
    clear HO ha
    go_enter Tryz.func91, Tryz.ntmps91
    go_wp2_with fail
    go_loop [8] (fun i => i = .int .i64 0) (fun i => 2 - (intOf i).toNat)
    case atStart => exact rfl
    case round =>
      subst hrel
      go_wp2
      go_ret
      exact ⟨rfl, rfl⟩
/-- numbers that do not wrap when they are subtracted -/
def Small (x : Int) : Prop := -1000000 ≤ x ∧ x ≤ 1000000
def cmpR (a b : Rn) : Int := orE (a.1 - b.1) (a.2.1 - b.2.1)
set_option maxRecDepth 100000 in
set_option maxHeartbeats 1000000 in
/-- the comparing function lays three blocks and turns nothing -/
theorem cmpRuns_any (a b : Rn) (w : World) (ha : Small a.1 ∧ Small a.2.1) (hb : Small b.1 ∧ Small b.2.1) :
    Calls Tryz.prog 90 #[.agg #[.int .i64 a.1, .int .i64 a.2.1, .int .i64 a.2.2], .agg #[.int .i64 b.1, .int .i64 b.2.1, .int .i64 b.2.2]] w fun e w' => e = .returned (.int .i64 (cmpR a b)) ∧ ∃ q os', w' = grow (w.drewN q) os' := by
  obtain ⟨a1, a2, a3⟩ := a
  obtain ⟨b1, b2, b3⟩ := b
  obtain ⟨⟨x1, x2⟩, ⟨x3, x4⟩⟩ := ha
  obtain ⟨⟨x5, x6⟩, ⟨x7, x8⟩⟩ := hb
  simp only at x1 x2 x3 x4 x5 x6 x7 x8
  have OR := Lib.hid fun g w' h => or2i_any g (a1 - b1) (a2 - b2) w' h
  show Calls Tryz.prog _ _ _ fun e w' => e = .returned (.int .i64 (orE (a1 - b1) (a2 - b2))) ∧ _
  generalize orE (a1 - b1) (a2 - b2) = r at *
  go_enter Tryz.func90, Tryz.ntmps90
  go_wp2_with fail
  refine (OR.out (w.heap.size + 1 + 1) _ (Blk.new' (by simp) _ _)).mono ?_
  rintro e w' ⟨rfl, rfl⟩
  go_wp2
  go_ret
  exact ⟨rfl, 0, _, by rw [alloc_eq_grow, alloc_eq_grow, alloc_eq_grow, grow_grow, grow_grow]; rfl⟩
end Go.Proofs.YtdimlpcbbkokiaaGreat

/- Walks: slices.Clone of numbers; how many staves five lines are (stave.Staves). -/
namespace Go.Proofs.YtdimlpcbbkokiaaGreat
open Go.RowKit Go.Shelf
set_option linter.unusedVariables false
attribute [local go_sem] Oper.semAt_some

theorem clone_own {w w' : World} {n : Nat} {e : TypeId} {v : Value} {q : Int → Int} {xs : List Value} (h : w'.ownsRow w.heap.size e 1 v n xs) (hx : xs = (List.range n).map (fun (j : Nat) => Value.int .i64 (q j))) : w'.ownsRow w.heap.size e 1 v n ((List.range n).map fun (j : Nat) => Value.int .i64 (q j)) := hx ▸ h
set_option maxRecDepth 100000 in
set_option maxHeartbeats 1000000 in
theorem clone_any (A : Option Addr) (n c : Nat) (q : Int → Int) (w : World) (hA : ArrI w w.heap.size A n q) (hn0 : 0 < n) (hn : n ≤ 1000000) :
    Calls Tryz.prog 46 #[.slice A n c] w (New w fun v w' => w'.ownsRow w.heap.size 3 1 v n ((List.range n).map fun (j : Nat) => Value.int .i64 (q j))) := by
  obtain ⟨i0, hi0, hz0, hz1, hz2⟩ := info_parts infoInt
  obtain ⟨b, off, rfl, hb, hc⟩ := ArrI.fn hA hn0
  have E1 : ∀ W, (binOp .eql 37 (.slice (some ⟨b, off, none⟩) n c) (.slice none 0 0)).run Tryz.prog W = .ok (.bool false) W := fun W => Go.run_eql_slice_nil W _ _ _ _ _ Tryz.underlying37
  have HC := Lib.hid hc
  clear hc hA
  go_enter Tryz.func46, Tryz.ntmps46
  go_wp2_with (at_builtin; refine wpList_append_own _ rfl (.tmp 5) (.tmp 6) 37 rfl w.heap.size 3 i0 (.int .i64 0) 1 8 Tryz.underlying37 hi0 hz0 hz1 hz2 rfl (by decide) _ 0 [] rfl (World.ownsRow_made w #[] 0 (Nat.le_refl _) (by decide) rfl) ⟨b, off, none⟩ n c ((List.range n).map (fun (j : Nat) => Value.int .i64 (q j))) rfl (by simp) ?c1 ?c2 ?c3 ?c4 ?c5 ?_)
  case c1 =>
    intro j u hj
    have hjn : j < n := by
      rcases Nat.lt_or_ge j n with h | h
      · exact h
      · rw [List.getElem?_eq_none (by simpa using h)] at hj; cases hj
    have := HC.out j (by omega) (by omega)
    simp [hjn] at hj
    subst hj
    rw [Int.toNat_natCast] at this
    have hadd : (⟨b, off, none⟩ : Addr).add j = ⟨b, off + j, none⟩ := by unfold Addr.add; split <;> simp_all
    rw [hadd, ← this]
    exact (Below.cell ((Below.refl _ _).alloc (Nat.le_refl _) _) (p := ⟨b, off + j, none⟩) hb)
  case c2 => simp [Value.oneCell']
  case c3 => unfold maxLen; omega
  case c4 => omega
  case c5 => simp
  intro v' w7 own7 hg7 _
  have b7 : Below w.heap.size w w7 := ((Below.refl w.heap.size w).alloc (Nat.le_refl _) (.cells #[] 3)).grown hg7 (by simp) (fun k hk => by cases hk; exact Nat.le_refl _)
  go_wp2
  go_ret
  exact ⟨_, rfl, own7, b7⟩

/-- how many staves five lines are -/
def stN (m : Nat → Nat) (ln : Nat → Nat → Int) : Nat := if evenB m ln = true then 1 else 0
theorem infoLines : (Tryz.prog.info? 40).map (fun i => (i.zero, i.size, i.bytes)) = some (some (.agg #[.slice none 0 0]), 1, 24) := by kernel_rfl
set_option maxRecDepth 100000 in
set_option maxHeartbeats 4000000 in
theorem staves5 (A : Option Addr) (c : Nat) (m : Nat → Nat) (ln : Nat → Nat → Int) (w : World) (hL : Lines w w.heap.size A 5 m ln) (hc : 5 ≤ c) (hm : ∀ i, i < 5 → m i ≤ 1000000) (hb : ∀ i j, i < 5 → j < m i → -1099511627776 ≤ ln i j ∧ ln i j ≤ 1099511627776) :
    Calls Tryz.prog 33 #[.slice A 5 c] w (New w fun v w' => ∃ A' c', v = .slice A' (stN m ln) c') := by
  have EV := Lib.hid fun c w' hL' => even_any A c m ln w' hL' hm hb
  have HL := Lib.hid hL
  obtain ⟨b, off, A0, c0, rfl, hbB, -, -⟩ := hL.at_ (i := 0) (by omega)
  clear hL
  have hc0 : (5 : Int) ≤ c := by omega
  obtain ⟨i0, hi0, hz0, hz1, hz2⟩ := info_parts infoInts
  obtain ⟨s0, hs0, hsz0, hsz1, hsz2⟩ := info_parts infoLines
  go_enter Tryz.func33, Tryz.ntmps33
  go_wp2_with fail
  go_step3
  go_wp2_with fail
  go_step3
  go_wp2_with fail
  go_loopw [3, 4] (fun vo s wr => Below w.heap.size w wr ∧ ((s = .int .i64 0 ∧ vo = .slice none 0 0) ∨ ∃ i : Nat, 0 < i ∧ i ≤ 5 ∧ s = .int .i64 i ∧ ∃ A' c', vo = .slice A' (stN m ln) c')) (fun _ s _ => 6 - (intOf s).toNat)
  case atStart => exact ⟨Below.refl _ _, .inl ⟨rfl, rfl⟩⟩
  case round =>
    obtain ⟨b1, (⟨rfl, rfl⟩ | ⟨i, i0, i5, rfl, A', c', rfl⟩)⟩ := hrel
    · cases hev : evenB m ln with
      | false =>
        have hst : Hid (stN m ln = 0) := by show _ = _; unfold stN; rw [hev]; rfl
        rw [hev] at EV
        clear hev
        go_wp2_with fail
        refine (EV.out c _ (HL.out.below b1)).mono ?_
        rintro e w2 ⟨rfl, hb2⟩
        have b2 := below_call b1 b1.size hb2
        clear b1 hb2
        go_wp2_with fail
        go_roundw
        case rel => exact ⟨b2, .inr ⟨1, by omega, by omega, rfl, none, 0, by rw [hst.out]⟩⟩
        case measure => simp [intOf]
      | true =>
        have hst : Hid (stN m ln = 1) := by show _ = _; unfold stN; rw [hev]; rfl
        have MP : Hid (∀ j, j < 5 → 0 < m j) := by
          show ∀ _, _
          intro j hj
          unfold evenB at hev
          rw [Bool.and_eq_true] at hev
          have := of_decide_eq_true (List.all_eq_true.1 hev.1 j (List.mem_range.2 hj))
          exact this.1
        rw [hev] at EV
        clear hev
        go_wp2_with fail
        refine (EV.out c _ (HL.out.below b1)).mono ?_
        rintro e w2 ⟨rfl, hb2⟩
        have b2 := below_call b1 b1.size hb2
        have b3 : Below w.heap.size w (w2.alloc (.cells #[.slice none 0 0] 40)) := b2.alloc b2.size _
        have ks := Blk.new w2 40 #[.slice none 0 0]
        have z2 := b2.size
        clear b1 hb2
        go_wp2_with fail
        generalize w2.alloc (.cells #[.slice none 0 0] 40) = w3 at *
        generalize w2.heap.size = gs at *
        clear b2
        go_loopw [29] (fun s w9 => ∃ j : Nat, j ≤ 5 ∧ s = .int .i64 j ∧ Below w.heap.size w w9 ∧ ∃ vo xs, Blk w9 gs 40 #[vo] ∧ w9.ownsRow w.heap.size 37 1 vo j xs) (fun s _ => 5 - (intOf s).toNat)
        case atStart => exact ⟨0, by omega, rfl, b3, _, [], ks, World.ownsRow_nil _ _ _ _⟩
        case round =>
          obtain ⟨j, j5, rfl, b4, vo, xs, k4, own4⟩ := hrel
          clear b3 ks
          obtain ⟨A8, c8, rfl, -, -⟩ := own_arr own4
          have q1 := k4.at0
          have q2 := k4.frozen 0
          by_cases hlt : (j : Int) < 5
          · obtain ⟨b5, off5, A5, c5, e5, -, hc5, ha5⟩ := HL.out.at_ (i := j) (by omega)
            cases e5
            replace hc5 := (b4.cell (p := ⟨b, off + j, none⟩) hbB).trans hc5
            have MJ := MP.out j (by omega)
            have MK := hm j (by omega)
            have CL := Lib.hid fun W hA' => clone_any A5 (m j) c5 (fun jj => ln j jj.toNat) W hA' MJ MK
            have HA5 := Lib.hid (ArrI.more (ArrI.below ha5 b4) b4.size)
            clear ha5
            generalize m j = mj at *
            have n1 := World.new_ne wr _ q1
            have ne := own_neB own4 k4 (by decide)
            go_wp2_with fail
            go_region_law
              (first
                | (refine step_append_lies _ (by rfl) _ _ _ (by rfl) w.heap.size 37 i0 (.slice none 0 0) 1 24 Tryz.underlying25 hi0 hz0 hz1 hz2 rfl (by omega) (.slice A8 j c8) _ _ (by rfl) (own7.alloc _) ⟨w6.heap.size, 0, none⟩ 1 1 [.slice (some ⟨g6, 0, none⟩) mj c6] (by rfl) (by rfl) (World.news_of_block (cs := #[.slice (some ⟨g6, 0, none⟩) mj c6]) (t := 37) (fr := (0, 0)) (heap_alloc_new w6 _)) (by simp [Value.oneCell']) (by omega) (by unfold maxLen; omega) (by omega) (by simp; omega) (w6.heap.size + 1) (by simp) ?_
                   intro gg cap w1 hown1 hgrow hat hlt1
                   have k7 := (k6.alloc (.cells #[.slice (some ⟨g6, 0, none⟩) mj c6] 37)).grown hgrow ne
                   have x3 := k7.at0
                   have x4 := k7.frozen 0)
                | (refine (show (if Region.wanted (⟨some 36, _, _, _, _, _⟩ : Oper) _ = true then _ else _) from ?_)
                   go_simp
                   refine (CL.out _ (show ArrI wr.drew wr.drew.heap.size _ _ _ from HA5.out)).mono ?_
                   rintro e w6 ⟨v6, rfl, own6, hb6⟩
                   obtain ⟨g6, c6, rfl⟩ := own_some own6 MJ
                   have x1 := (k4.drew.below' hb6).at0
                   have x2 := (k4.drew.below' hb6).frozen 0
                   have y1 := World.new_ne w6 _ x1
                   have own7 := own_below (w := wr.drew) own4 hb6
                   have b6 := b4.drew.trans (hb6.mono b4.size)
                   have k6 := k4.drew.below' hb6
                   have z6 := b6.size
                   have z7 := k6.lt
                   have x5 : ∀ o, (w6.alloc o).cell? ⟨gs, 0, none⟩ = some (.slice A8 j c8) := fun o => (k6.alloc o).at0
                   dsimp only))
            all_goals
              have b7 : Below w.heap.size w w1 := (b6.alloc b6.size (.cells #[.slice (some ⟨g6, 0, none⟩) mj c6] 37)).grown hgrow (by simp; omega) (fun k hk => (own_ge own4 hk).1)
              have k8 := k7.set_ 0 (.slice (some ⟨gg, 0, none⟩) (j + 1) cap)
              have own8 := own_far hown1 k7 (by decide) 0 (.slice (some ⟨gg, 0, none⟩) (j + 1) cap)
              have b8 : Below w.heap.size w (w1.setCell ⟨gs, 0, none⟩ (.slice (some ⟨gg, 0, none⟩) (j + 1) cap)) := b7.setCell z2 _
              clear b7 k7 hown1 hgrow x1 x2 x5 own7 k6 b6 hat
              go_wp2
              go_roundw
              case rel => exact ⟨j + 1, by omega, by go_num, b8, _, _, k8, own8⟩
              case measure => simp [intOf]; omega
          · obtain rfl : j = 5 := by omega
            clear q2
            go_wp2_with (at_builtin; refine wpList_append_own _ rfl (.tmp 41) (.tmp 43) 45 rfl w.heap.size 40 s0 (.agg #[.slice none 0 0]) 1 24 Tryz.underlying45 hs0 hsz0 hsz1 hsz2 rfl (by decide) _ 0 [] rfl (World.ownsRow_nil _ _ _ _) ⟨wr.heap.size, 0, none⟩ 1 1 [.slice A8 5 c8] rfl rfl ?c1 ?c2 ?c3 ?c4 ?c5 ?_)
            try case c1 => exact cell_one_new _ _ _
            try case c2 => simp [Value.oneCell']
            try case c3 => unfold maxLen; omega
            try case c4 => omega
            try case c5 => have := b4.size; first | omega | (simp; omega)
            intro v' w7 own7 hg7 _
            have b7 : Below w.heap.size w w7 := (b4.alloc b4.size (.cells #[.slice A8 5 c8] 40)).grown hg7 (by have := b4.size; simp; omega) (fun k hk => by cases hk)
            obtain ⟨A9, c9, rfl, -, -⟩ := own_arr own7
            clear own7 hg7
            go_wp2
            go_roundw
            case rel => exact ⟨b7, .inr ⟨5, by omega, by omega, by go_num, A9, c9, by rw [hst.out]⟩⟩
            case measure => simp [intOf]
    · have i5' : (i : Int) + 5 > 5 := by omega
      go_wp2_with fail
      rw [Exit.noGoto_ret]
      go_ret
      exact ⟨_, rfl, ⟨_, _, rfl⟩, b1⟩
end Go.Proofs.YtdimlpcbbkokiaaGreat

/- Walks: lists of numbers and lists of lines compared; a list of numbers copied. -/
namespace Go.Proofs.YtdimlpcbbkokiaaGreat
open Go.RowKit Go.Shelf
set_option linter.unusedVariables false
attribute [local go_sem] Oper.semAt_some

set_option maxHeartbeats 400000 in
theorem sameInts_any (A B : Option Addr) (n m c d : Nat) (p q : Int → Int) (w : World) (hA : ArrI w w.heap.size A n p) (hB : ArrI w w.heap.size B m q) (hn : n ≤ maxLen) (hm : m ≤ maxLen) :
    Calls Tryz.prog 23 #[.slice A n c, .slice B m d] w fun e w' => e = .returned (.bool (sameI n m p q)) ∧ ∃ k, w' = w.drewN k := by
  unfold maxLen at hn hm
  by_cases hnm : n = m
  · subst hnm
    go_enter Tryz.func23, Tryz.ntmps23
    go_wp2
    go_loopw [5] (fun s wr => ∃ i : Int, 0 ≤ i ∧ i ≤ n ∧ s = .int .i64 i ∧ (∀ j : Int, 0 ≤ j → j < i → p j = q j) ∧ ∃ k, wr = w.drewN k) (fun s _ => n - (intOf s).toNat)
    case atStart => exact ⟨0, by omega, by omega, rfl, fun j a b => by omega, 0, rfl⟩
    case round =>
      obtain ⟨i, h0, hi, rfl, hall, k, rfl⟩ := hrel
      have HA := Lib.hid hall; clear hall
      by_cases hlt : i < n
      · obtain ⟨b, off, rfl, hb, hc⟩ := ArrI.at_ hA h0 hlt
        obtain ⟨b', off', rfl, hb', hc'⟩ := ArrI.at_ hB h0 hlt
        by_cases he : p i = q i
        · have hbool : (p i != q i) = false := by simp [he]
          have HE := Lib.hid he; clear he
          go_wp2_with fail
          go_quiet (fail)
          go_wp2
          go_roundw
          case rel =>
            refine ⟨i + 1, by omega, by omega, by go_num, fun j a b => ?_, _, rfl⟩
            by_cases e : j = i
            · rw [e]; exact HE.out
            · exact HA.out j a (by omega)
          case measure => simp [intOf]; omega
        · have hbool : (p i != q i) = true := by simp [he]
          have HE := Lib.hid he; clear he
          have hr : Hid (sameI n n p q = false) := by
            show _ = _
            rw [Bool.eq_false_iff]; intro h; exact HE.out ((sameI_iff.1 h).2 i h0 hlt)
          go_wp2_with fail
          go_quiet (fail)
          go_wp2
          go_ret
          exact ⟨ret_bool hr.out.symm, _, World.drewN_drewN _ _ _⟩
      · have hr : Hid (sameI n n p q = true) := by
          show _ = _
          exact sameI_iff.2 ⟨rfl, fun j a b => HA.out j a (by omega)⟩
        go_wp2
        go_ret
        exact ⟨ret_bool hr.out.symm, _, rfl⟩
  · have hr : Hid (sameI n m p q = false) := by
      show _ = _
      rw [Bool.eq_false_iff]; intro h; exact hnm (sameI_iff.1 h).1
    go_enter Tryz.func23, Tryz.ntmps23
    go_wp2
    all_goals
      go_ret
      exact ⟨ret_bool hr.out.symm, 0, rfl⟩

/-- two lists of lines are the same -/
def sameL (n m : Nat) (mA mB : Nat → Nat) (a b : Nat → Nat → Int) : Bool := decide (n = m) && allN n fun i => sameI (mA i.toNat) (mB i.toNat) (fun j => a i.toNat j.toNat) (fun j => b i.toNat j.toNat)
theorem sameL_iff {n m : Nat} {mA mB : Nat → Nat} {a b : Nat → Nat → Int} : sameL n m mA mB a b = true ↔ n = m ∧ ∀ i, i < n → mA i = mB i ∧ ∀ j, j < mA i → a i j = b i j := by
  unfold sameL
  rw [Bool.and_eq_true, decide_eq_true_iff, allN_iff]
  refine and_congr_right fun _ => ⟨fun h i hi => ?_, fun h i i0 i1 => ?_⟩
  · have := h i (by omega) (by omega)
    rw [Int.toNat_natCast] at this
    obtain ⟨h1, h2⟩ := sameI_iff.1 this
    exact ⟨h1, fun j hj => by have := h2 j (by omega) (by omega); simpa using this⟩
  · obtain ⟨h1, h2⟩ := h i.toNat (by omega)
    exact sameI_iff.2 ⟨h1, fun j j0 j1 => h2 j.toNat (by omega)⟩
set_option maxHeartbeats 1000000 in
theorem sameLists_any (A B : Option Addr) (n m c d : Nat) (mA mB : Nat → Nat) (a b : Nat → Nat → Int) (w : World) (hA : Lines w w.heap.size A n mA a) (hB : Lines w w.heap.size B m mB b) (hn : n ≤ maxLen) (hm : m ≤ maxLen) (hmA : ∀ i, i < n → mA i ≤ maxLen) (hmB : ∀ i, i < m → mB i ≤ maxLen) :
    Calls Tryz.prog 7 #[.slice A n c, .slice B m d] w fun e w' => e = .returned (.bool (sameL n m mA mB a b)) ∧ ∃ k, w' = w.drewN k := by
  unfold maxLen at hn hm
  by_cases hnm : n = m
  · subst hnm
    have SI := Lib.hid fun i (hi : i < n) A' B' c' d' w' hA' hB' => sameInts_any A' B' (mA i) (mB i) c' d' (fun j => a i j.toNat) (fun j => b i j.toNat) w' hA' hB' (hmA i hi) (hmB i hi)
    clear hmA hmB
    go_enter Tryz.func7, Tryz.ntmps7
    go_wp2
    go_loopw [5] (fun s wr => ∃ i : Nat, i ≤ n ∧ s = .int .i64 i ∧ (∀ j, j < i → sameI (mA j) (mB j) (fun t => a j t.toNat) (fun t => b j t.toNat) = true) ∧ ∃ k, wr = w.drewN k) (fun s _ => n - (intOf s).toNat)
    case atStart => exact ⟨0, by omega, rfl, fun j hj => by omega, 0, rfl⟩
    case round =>
      obtain ⟨i, hi, rfl, hall, k, hwr⟩ := hrel
      have HA := Lib.hid hall; clear hall
      by_cases hlt : (i : Int) < n
      · obtain ⟨b1, o1, A1, c1, rfl, hb1, hc1, ha1⟩ := hA.at_ (i := i) (by omega)
        obtain ⟨b2, o2, A2, c2, rfl, hb2, hc2, ha2⟩ := hB.at_ (i := i) (by omega)
        have SIi := Lib.hid fun k' => SI.out i (by omega) A1 A2 c1 c2 (wr.drewN k') (by rw [hwr]; exact ha1) (by rw [hwr]; exact ha2)
        replace hc1 : wr.cell? ⟨b1, o1 + i, none⟩ = some (.slice A1 (mA i) c1) := by rw [hwr]; exact hc1
        replace hc2 : wr.cell? ⟨b2, o2 + i, none⟩ = some (.slice A2 (mB i) c2) := by rw [hwr]; exact hc2
        have HWR := Lib.hid hwr
        clear hwr
        cases hs : sameI (mA i) (mB i) (fun t => a i t.toNat) (fun t => b i t.toNat) with
        | true =>
          rw [hs] at SIi
          have HS := Lib.hid hs; clear hs
          go_wp2_with fail
          go_quiet ((go_at_call 23; exact Calls.quiet_of (SIi.out _)))
          go_wp2
          go_roundw
          case rel =>
            refine ⟨i + 1, by omega, by go_num, fun j hj => ?_, _, by rw [HWR.out]; exact World.drewN_drewN _ _ _⟩
            rcases Nat.lt_succ_iff_lt_or_eq.1 hj with h | rfl
            · exact HA.out j h
            · exact HS.out
          case measure => simp [intOf]; omega
        | false =>
          rw [hs] at SIi
          have hr : Hid (sameL n n mA mB a b = false) := by
            show _ = _
            rw [Bool.eq_false_iff]
            intro h
            have := (sameL_iff.1 h).2 i (by omega)
            rw [sameI_iff.2 ⟨this.1, fun j j0 j1 => this.2 j.toNat (by omega)⟩] at hs
            cases hs
          clear hs
          go_wp2_with fail
          go_quiet ((go_at_call 23; exact Calls.quiet_of (SIi.out _)))
          go_wp2
          go_ret
          exact ⟨ret_bool hr.out.symm, _, by rw [HWR.out]; exact World.drewN_drewN _ _ _⟩
      · obtain rfl : n = i := by omega
        have hr : Hid (sameL n n mA mB a b = true) := by
          show _ = _
          refine sameL_iff.2 ⟨rfl, fun i hi => ?_⟩
          obtain ⟨h1, h2⟩ := sameI_iff.1 (HA.out i hi)
          exact ⟨h1, fun j hj => by have := h2 j (by omega) (by omega); simpa using this⟩
        subst hwr
        go_wp2
        go_ret
        exact ⟨ret_bool hr.out.symm, _, rfl⟩
  · have hr : Hid (sameL n m mA mB a b = false) := by
      show _ = _
      rw [Bool.eq_false_iff]; intro h; exact hnm (sameL_iff.1 h).1
    go_enter Tryz.func7, Tryz.ntmps7
    go_wp2
    all_goals
      go_ret
      exact ⟨ret_bool hr.out.symm, 0, rfl⟩
/-- a copy of numbers: a list of the same numbers in memory of its own, or none -/
theorem clone_all (A : Option Addr) (n c : Nat) (q : Int → Int) (w : World) (hA : ArrI w w.heap.size A n q) (hn : n ≤ 1000000) :
    Calls Tryz.prog 46 #[.slice A n c] w (New w fun v w' => ∃ A' c', v = .slice A' n c' ∧ ArrI w' w'.heap.size A' n q) := by
  by_cases h0 : 0 < n
  · refine (clone_any A n c q w hA h0 hn).mono ?_
    rintro e w' ⟨v, rfl, own, hb⟩
    obtain ⟨A', c', e, ha⟩ := own_arrI (q := fun j => q j) own
    exact ⟨v, rfl, ⟨A', c', e, ha.congr fun i i0 i1 => by rw [Int.toNat_of_nonneg i0]⟩, hb⟩
  · obtain rfl : n = 0 := by omega
    cases A with
    | none =>
      have E1 : ∀ W, (binOp .eql 37 (.slice none 0 c) (.slice none 0 0)).run Tryz.prog W = .ok (.bool true) W := fun W => Go.run_eql_slice_nil W _ _ _ _ _ Tryz.underlying37
      go_enter Tryz.func46, Tryz.ntmps46
      go_wp2
      go_ret
      exact ⟨_, rfl, ⟨none, 0, rfl, Arr.nil⟩, Below.refl _ _⟩
    | some a =>
      have E1 : ∀ W, (binOp .eql 37 (.slice (some a) 0 c) (.slice none 0 0)).run Tryz.prog W = .ok (.bool false) W := fun W => Go.run_eql_slice_nil W _ _ _ _ _ Tryz.underlying37
      obtain ⟨i0, hi0, hz0, hz1, hz2⟩ := info_parts infoInt
      go_enter Tryz.func46, Tryz.ntmps46
      go_wp2_with (at_builtin; refine wpList_append_own _ rfl (.tmp 5) (.tmp 6) 37 rfl w.heap.size 3 i0 (.int .i64 0) 1 8 Tryz.underlying37 hi0 hz0 hz1 hz2 rfl (by decide) _ 0 [] rfl (World.ownsRow_made w #[] 0 (Nat.le_refl _) (by decide) rfl) a 0 c [] rfl rfl ?c1 ?c2 ?c3 ?c4 ?c5 ?_)
      case c1 => intro j u hj; simp at hj
      case c2 => simp
      case c3 => unfold maxLen; omega
      case c4 => omega
      case c5 => simp
      intro v' w7 own7 hg7 _
      have b7 : Below w.heap.size w w7 := ((Below.refl w.heap.size w).alloc (Nat.le_refl _) (.cells #[] 3)).grown hg7 (by simp) (fun k hk => by cases hk; exact Nat.le_refl _)
      obtain ⟨A', c', e, -, ha⟩ := own_arr own7
      go_wp2
      go_ret
      exact ⟨_, rfl, ⟨A', c', e, Arr.nil⟩, b7⟩
theorem few_any (W H : Int) (A : Option Addr) (n c : Nat) (w : World) :
    Calls Tryz.prog 30 #[.agg #[.int .i64 W, .int .i64 H, .slice A n c]] w fun e w' => e = .returned (.bool (decide ((n : Int) ≤ 6000))) ∧ Below w.heap.size w w' := by
  go_enter Tryz.func30, Tryz.ntmps30
  go_wp2
  go_ret
  exact ⟨rfl, by (repeat (first | exact Below.refl _ _ | assumption | refine Below.drew ?_ | refine below_drewN ?_ _ | refine Below.alloc ?_ (by first | omega | (simp; done) | (simp; omega)) _ | refine Below.setCell ?_ (by first | omega | (simp; done) | (simp; omega)) _ | refine below_setRow ?_ (by first | omega | (simp; done) | (simp; omega)) _ ))⟩
end Go.Proofs.YtdimlpcbbkokiaaGreat

/- Walks: copies of numbers, of lines and of a stave; staves compared. -/
namespace Go.Proofs.YtdimlpcbbkokiaaGreat
open Go.RowKit Go.Shelf
set_option linter.unusedVariables false
attribute [local go_sem] Oper.semAt_some

/-- k lines of any lengths, a slice each, in memory of the call's own -/
structure FoundM (B : Nat) (w : World) (m : Nat → Nat) (ln : Nat → Nat → Int) (k : Nat) (vo : Value) (v : Nat → Value) : Prop where
  row : w.ownsRow B 37 1 vo k ((List.range k).map v)
  lines : ∀ i, i < k → w.ownsRow B 3 1 (v i) (m i) ((List.range (m i)).map fun j => Value.int .i64 (ln i j))
section
variable {B : Nat} {w w' : World} {m : Nat → Nat} {ln : Nat → Nat → Int} {k : Nat} {vo : Value} {v : Nat → Value}
theorem FoundM.below (h : FoundM B w m ln k vo v) (hb : Below w.heap.size w w') : FoundM B w' m ln k vo v :=
  ⟨own_below h.row hb, fun i hi => own_below (h.lines i hi) hb⟩
theorem FoundM.drew (h : FoundM B w m ln k vo v) : FoundM B w.drew m ln k vo v := ⟨h.row, h.lines⟩
theorem FoundM.base {B' : Nat} (h : FoundM B w m ln k vo v) (hB : B' ≤ B) : FoundM B' w m ln k vo v := ⟨own_base h.row hB, fun i hi => own_base (h.lines i hi) hB⟩
theorem FoundM.nil (w : World) (B : Nat) (m : Nat → Nat) (ln : Nat → Nat → Int) (v : Nat → Value) : FoundM B w m ln 0 (.slice none 0 0) v := ⟨World.ownsRow_nil _ _ _ _, fun i hi => by omega⟩
theorem FoundM.snoc {vo' u : Value} (h : FoundM B w m ln k vo v) (hu : w.ownsRow B 3 1 u (m k) ((List.range (m k)).map fun j => Value.int .i64 (ln k j)))
    (hg : w.grownBy w' vo.ownBlock) (hr : w'.ownsRow B 37 1 vo' (k + 1) ((List.range k).map v ++ [u])) : FoundM B w' m ln (k + 1) vo' (fun i => if i = k then u else v i) := by
  refine ⟨?_, fun i hi => ?_⟩
  · rw [range_snoc]
    simp only [if_true]
    rw [show (List.range k).map (fun i => if i = k then u else v i) = (List.range k).map v from List.map_congr_left fun i hi => by rw [if_neg]; have := List.mem_range.1 hi; omega]
    exact hr
  · show World.ownsRow _ _ _ _ (if i = k then _ else v i) _ _
    by_cases e : i = k
    · subst e
      rw [if_pos rfl]
      exact own_grown hu h.row (by decide) hg
    · rw [if_neg e]
      exact own_grown (h.lines i (by omega)) h.row (by decide) hg
theorem FoundM.toLines (h : FoundM B w m ln k vo v) : ∃ A c, vo = .slice A k c ∧ k ≤ c ∧ (A = none → c = 0) ∧ Lines w w.heap.size A k m ln := by
  have hn : ∀ A c, vo = .slice A k c → A = none → c = 0 := by
    rintro A c e rfl
    rcases h.row.2 with ⟨h2, _⟩ | ⟨g, cap, cur, h2, _⟩
    · rw [e] at h2; simp at h2; exact h2.2
    · rw [e] at h2; simp at h2
  obtain ⟨A, c, e, hc, ha⟩ := own_arr h.row
  refine ⟨A, c, e, hc, hn A c e, v, Arr.congr ha fun i i0 i1 => ?_, fun i hi => ?_⟩
  · rw [List.getD_eq_getElem?_getD, List.getElem?_map, List.getElem?_range (by omega)]; rfl
  · obtain ⟨A', c', e', ha'⟩ := own_arrI (h.lines i hi)
    exact ⟨A', c', e', ha'⟩
end
/-- lines that came in, with what a nil one is -/
def LinesZ (w : World) (B : Nat) (A : Option Addr) (K : Nat) (m : Nat → Nat) (ln : Nat → Nat → Int) : Prop :=
  ∃ vs : Nat → Value, Arr w B A K (fun j => vs j.toNat) ∧ ∀ i, i < K → ∃ A' c', vs i = .slice A' (m i) c' ∧ (A' = none → c' = 0) ∧ ArrI w B A' (m i) (fun j => ln i j.toNat)
section
variable {B : Nat} {w w' : World} {m : Nat → Nat} {ln : Nat → Nat → Int} {K : Nat} {A : Option Addr}
theorem LinesZ.lines (h : LinesZ w B A K m ln) : Lines w B A K m ln := by
  obtain ⟨vs, h1, h2⟩ := h
  exact ⟨vs, h1, fun i hi => by obtain ⟨A', c', e, -, ha⟩ := h2 i hi; exact ⟨A', c', e, ha⟩⟩
theorem LinesZ.below (h : LinesZ w w.heap.size A K m ln) (hb : Below w.heap.size w w') : LinesZ w' w'.heap.size A K m ln := by
  obtain ⟨vs, h1, h2⟩ := h
  exact ⟨vs, (Arr.below h1 hb).more hb.size, fun i hi => by obtain ⟨A', c', e, hz, ha⟩ := h2 i hi; exact ⟨A', c', e, hz, ha.to hb⟩⟩
theorem LinesZ.at_ (h : LinesZ w B A K m ln) {i : Nat} (hi : i < K) :
    ∃ b off A' c', A = some ⟨b, off, none⟩ ∧ b < B ∧ w.cell? ⟨b, off + i, none⟩ = some (.slice A' (m i) c') ∧ (A' = none → c' = 0) ∧ ArrI w B A' (m i) (fun j => ln i j.toNat) := by
  obtain ⟨vs, h1, h2⟩ := h
  obtain ⟨b, off, e, hb, hc⟩ := Arr.at_ h1 (i := (i : Int)) (by omega) (by omega)
  rw [Int.toNat_natCast] at hc
  obtain ⟨A', c', e', hz, ha⟩ := h2 i hi
  exact ⟨b, off, A', c', e, hb, by rw [hc, e'], hz, ha⟩
end

set_option maxRecDepth 100000 in
set_option maxHeartbeats 400000 in
theorem copyInts_any (A : Option Addr) (n c : Nat) (q : Nat → Int) (w : World) (hA : ArrI w w.heap.size A n (fun j => q j.toNat)) (hc : A = none → c = 0) (hn : n ≤ 17592186044416) :
    Calls Tryz.prog 75 #[.slice A n c] w (New w fun v w' => w'.ownsRow w.heap.size 3 1 v n ((List.range n).map fun j => Value.int .i64 (q j))) := by
  obtain ⟨i0, hi0, hz0, hz1, hz2⟩ := info_parts infoInt
  have hnil := World.ownsRow_nil w w.heap.size 3 1
  cases A with
  | none =>
    have hn0 : n = 0 := by
      rcases Nat.eq_zero_or_pos n with h | h
      · exact h
      · obtain ⟨b, off, e, _⟩ := hA h; cases e
    subst hn0
    obtain rfl := hc rfl
    go_enter Tryz.func75, Tryz.ntmps75
    go_wp2_with (at_builtin; refine wpList_append_own_none rfl (.tmp 4) (.tmp 5) 37 rfl w.heap.size 3 i0 1 Tryz.underlying37 hi0 _ 0 [] rfl hnil rfl ?_)
    go_ret
    exact ⟨_, rfl, hnil, Below.refl _ _⟩
  | some ad =>
    go_enter Tryz.func75, Tryz.ntmps75
    go_wp2_with (at_builtin; refine wpList_append_own _ rfl (.tmp 4) (.tmp 5) 37 rfl w.heap.size 3 i0 (.int .i64 0) 1 8 Tryz.underlying37 hi0 hz0 hz1 hz2 rfl (by decide) _ 0 [] rfl hnil ad n c ((List.range n).map (fun (j : Nat) => Value.int .i64 (q j))) rfl (by simp) ?c1 ?c2 ?c3 ?c4 (Nat.le_refl _) ?_)
    case c1 =>
      intro j u hj
      have hjn : j < n := by
        rcases Nat.lt_or_ge j n with h | h
        · exact h
        · rw [List.getElem?_eq_none (by simpa using h)] at hj; cases hj
      obtain ⟨b, off, e, _, hcell⟩ := hA (by omega)
      injection e with e; subst e
      have := hcell j (by omega) (by omega)
      simp [hjn] at hj
      subst hj
      rw [Int.toNat_natCast] at this
      unfold Addr.add
      split
      · rename_i e; subst e; exact this
      · exact this
    case c2 => intro u hu; simp at hu; obtain ⟨j, _, rfl⟩ := hu; rfl
    case c3 => unfold maxLen; omega
    case c4 => omega
    intro v' w1 hown' hg _
    go_wp2
    go_ret
    refine ⟨_, rfl, ?_, (Below.refl _ _).grown hg (Nat.le_refl _) (fun k hk => by simp [Value.ownBlock] at hk)⟩
    try rw [Nat.zero_add, List.nil_append] at hown'
    exact hown'

set_option maxRecDepth 100000 in
set_option maxHeartbeats 2000000 in
theorem copyLists_any (A : Option Addr) (K c : Nat) (m : Nat → Nat) (ln : Nat → Nat → Int) (w : World) (hL : LinesZ w w.heap.size A K m ln) (hK : K ≤ 5864062014634) (hm : ∀ i, i < K → m i ≤ 17592186044416) :
    Calls Tryz.prog 32 #[.slice A K c] w (New w fun v w' => ∃ vs, FoundM w.heap.size w' m ln K v vs) := by
  obtain ⟨i0, hi0, hz0, hz1, hz2⟩ := info_parts infoInts
  have CI := Lib.hid fun i (hi : i < K) A' c' w' hA' hc' => copyInts_any A' (m i) c' (ln i) w' hA' hc' (hm i hi)
  go_enter Tryz.func32, Tryz.ntmps32
  go_wp2
  go_loopw [3, 4] (fun vo s wr => ∃ (k : Nat) (v : Nat → Value), k ≤ K ∧ s = .int .i64 k ∧ FoundM w.heap.size wr m ln k vo v ∧ Below w.heap.size w wr) (fun _ s _ => K - (intOf s).toNat)
  case atStart => exact ⟨0, fun _ => .slice none 0 0, by omega, rfl, FoundM.nil _ _ _ _ _, Below.refl _ _⟩
  case round =>
    obtain ⟨k, v, hk, rfl, hF, b1⟩ := hrel
    obtain ⟨Ao, co, rfl, -, -⟩ := own_arr hF.row
    by_cases hlt : (k : Int) < K
    · obtain ⟨b, off, A', c', rfl, hb, hc, hz, ha⟩ := hL.at_ (i := k) (by omega)
      have hc1 := (b1.cell (p := ⟨b, off + k, none⟩) hb).trans hc
      have CIk := Lib.hid (CI.out k (by omega) A' c' wr ((ha.below b1).more b1.size) hz)
      have z1 := b1.size
      clear hc ha hz
      go_wp2_with fail
      refine CIk.out.mono ?_
      rintro e w2 ⟨u, rfl, own2, hb2⟩
      obtain ⟨Au, cu, rfl, -, -⟩ := own_arr own2
      have F2 := hF.below hb2
      have b2 := below_call b1 b1.size hb2
      have z2 := b2.size
      clear hF hb2 hc1
      go_wp2_with (at_builtin; refine wpList_append_own _ rfl (.tmp 11) (.tmp 17) 25 rfl w.heap.size 37 i0 (.slice none 0 0) 1 24 Tryz.underlying25 hi0 hz0 hz1 hz2 rfl (by decide) _ _ _ rfl (F2.row.alloc _) ⟨w2.heap.size, 0, none⟩ 1 1 [.slice Au (m k) cu] rfl rfl ?c1 ?c2 ?c3 ?c4 ?c5 ?_)
      try case c1 => exact cell_one_new _ _ _
      try case c2 => simp [Value.oneCell']
      try case c3 => unfold maxLen; omega
      try case c4 => omega
      try case c5 => first | omega | (simp; done) | (simp; omega)
      intro v' w7 own7 hg7 _
      have F7 := (F2.below ((Below.refl _ _).alloc (Nat.le_refl _) (.cells #[.slice Au (m k) cu] 37))).snoc ((own_base own2 z1).alloc _) hg7 own7
      have b7 : Below w.heap.size w w7 := (b2.alloc z2 (.cells #[.slice Au (m k) cu] 37)).grown hg7 (by simp; omega) (fun j hj => (own_ge F2.row hj).1)
      clear own7 hg7 F2 b2 b1
      go_wp2
      go_roundw
      case rel => exact ⟨k + 1, _, by omega, by go_num, F7, b7⟩
      case measure => simp [intOf]; omega
    · obtain rfl : K = k := by omega
      go_wp2
      go_ret
      exact ⟨_, rfl, ⟨_, hF⟩, b1⟩
/-- a stave over fresh lines -/
theorem copyStave_any (A : Option Addr) (K c : Nat) (m : Nat → Nat) (ln : Nat → Nat → Int) (w : World) (hL : LinesZ w w.heap.size A K m ln) (hK : K ≤ 5864062014634) (hm : ∀ i, i < K → m i ≤ 17592186044416) :
    Calls Tryz.prog 37 #[.agg #[.slice A K c]] w (New w fun v w' => ∃ vo vs, v = .agg #[vo] ∧ FoundM w.heap.size w' m ln K vo vs) := by
  have CL := Lib.hid fun w' hL' => copyLists_any A K c m ln w' hL' hK hm
  have b1 : Below w.heap.size w ((w.alloc (.cells #[.slice A K c] 40)).alloc (.cells #[.slice none 0 0] 40)) := by (repeat (first | exact Below.refl _ _ | assumption | refine Below.drew ?_ | refine below_drewN ?_ _ | refine Below.alloc ?_ (by first | omega | (simp; done) | (simp; omega)) _ | refine Below.setCell ?_ (by first | omega | (simp; done) | (simp; omega)) _ | refine below_setRow ?_ (by first | omega | (simp; done) | (simp; omega)) _ ))
  have k1 : Blk ((w.alloc (.cells #[.slice A K c] 40)).alloc (.cells #[.slice none 0 0] 40)) w.heap.size 40 #[.slice A K c] := (Blk.new _ _ _).alloc _
  have k2 : Blk ((w.alloc (.cells #[.slice A K c] 40)).alloc (.cells #[.slice none 0 0] 40)) (w.heap.size + 1) 40 #[.slice none 0 0] := Blk.new' (by simp) _ _
  have r1 := k1.at0
  go_enter Tryz.func37, Tryz.ntmps37
  go_wp2_with fail
  generalize (w.alloc (.cells #[.slice A K c] 40)).alloc (.cells #[.slice none 0 0] 40) = w1 at *
  refine (CL.out _ (hL.below b1)).mono ?_
  rintro e w2 ⟨v, rfl, ⟨vs, hF⟩, hb2⟩
  have b2 := below_call b1 b1.size hb2
  have k3 := k2.below' hb2
  have q1 := k3.at0
  have q2 := k3.frozen 0
  have zz := b1.size
  obtain ⟨Ao, co, rfl, -, -⟩ := own_arr hF.row
  have F3 : FoundM w.heap.size (w2.setCell ⟨w.heap.size + 1, 0, none⟩ (.slice Ao K co)) m ln K (.slice Ao K co) vs :=
    ⟨own_far (own_base hF.row zz) k3 (by decide) _ _, fun i hi => own_far (own_base (hF.lines i hi) zz) k3 (by decide) _ _⟩
  clear hF
  have k4 := (k3.set_ 0 (.slice Ao K co)).at0
  go_wp2
  refine bodyPost_ret (v := .agg #[.slice Ao K co]) (by simp [results, Tryz.results37, go_sem, k4]) rfl ?_
  exact ⟨_, rfl, ⟨_, vs, rfl, F3⟩, b2.setCell (by show w.heap.size ≤ w.heap.size + 1; omega) _⟩
set_option maxHeartbeats 1000000 in
theorem sameStave_any (A B : Option Addr) (n m c d : Nat) (mA mB : Nat → Nat) (a b : Nat → Nat → Int) (w : World) (hA : Lines w w.heap.size A n mA a) (hB : Lines w w.heap.size B m mB b) (hn : n ≤ maxLen) (hm : m ≤ maxLen) (hmA : ∀ i, i < n → mA i ≤ maxLen) (hmB : ∀ i, i < m → mB i ≤ maxLen) :
    Calls Tryz.prog 41 #[.agg #[.slice A n c], .agg #[.slice B m d]] w fun e w' => e = .returned (.bool (sameL n m mA mB a b)) ∧ Below w.heap.size w w' := by
  have b1 : Below w.heap.size w ((w.alloc (.cells #[.slice A n c] 40)).alloc (.cells #[.slice B m d] 40)) := by (repeat (first | exact Below.refl _ _ | assumption | refine Below.drew ?_ | refine below_drewN ?_ _ | refine Below.alloc ?_ (by first | omega | (simp; done) | (simp; omega)) _ | refine Below.setCell ?_ (by first | omega | (simp; done) | (simp; omega)) _ | refine below_setRow ?_ (by first | omega | (simp; done) | (simp; omega)) _ ))
  have SL := Lib.hid (sameLists_any A B n m c d mA mB a b _ (hA.below b1) (hB.below b1) hn hm hmA hmB)
  have r1 : ((w.alloc (.cells #[.slice A n c] 40)).alloc (.cells #[.slice B m d] 40)).cell? ⟨w.heap.size, 0, none⟩ = some (.slice A n c) := ((Blk.new w 40 #[.slice A n c]).alloc _).at0
  have r2 : ((w.alloc (.cells #[.slice A n c] 40)).alloc (.cells #[.slice B m d] 40)).cell? ⟨w.heap.size + 1, 0, none⟩ = some (.slice B m d) := (Blk.new' (by simp) _ _).at0
  go_enter Tryz.func41, Tryz.ntmps41
  go_wp2_with fail
  refine SL.out.mono ?_
  rintro e w2 ⟨rfl, nq, rfl⟩
  go_wp2
  go_ret
  exact ⟨rfl, below_drewN b1 _⟩
end Go.Proofs.YtdimlpcbbkokiaaGreat
