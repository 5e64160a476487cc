/- Walks: the reference's Fits; the checks of a stave, the program's and the reference's. -/
import Derived.Test.YtdimlpcbbkokiaaT27
import Derived.Deep.RegionHeld3
namespace Go.Proofs.Ytdimlpcbbkokiaa
open Go.RowKit Go.Shelf
set_option linter.unusedVariables false
attribute [local go_sem] Oper.semAt_some

set_option maxRecDepth 100000 in
set_option maxHeartbeats 4000000 in
theorem rfits_st (W H : Int) (A AL : Option Addr) (n c K cL : Nat) (m : Nat → Nat) (ln : Nat → Nat → Int) (w : World) (hW0 : 0 ≤ W) (hH0 : 0 ≤ H) (hW : W ≤ 640) (hH : H ≤ 640) (hL : Lines w w.heap.size AL K m ln) (hm : ∀ i, i < K → m i ≤ maxLen) :
    Calls Try.prog 79 #[.agg #[.int .i64 W, .int .i64 H, .slice A n c], .agg #[.slice AL K cL]] w fun e w' => e = .returned (.bool (stFits W H K m ln)) ∧ Below w.heap.size w w' := by
  have IP := Lib.hid fun i (hi : i < K) P d w' hP => risPath_any W H A P n c (m i) d (fun j => ln i j.toNat) w' hW0 hH0 hW hH hP (hm i hi)
  by_cases hK : K = 5
  · subst hK
    clear hm
    go_enter Try.func79, Try.ntmps79
    go_wp2_with fail
    have k1 : Blk ((w.alloc (.cells #[.int .i64 W, .int .i64 H, .slice A n c] 24)).alloc (.cells #[.slice AL 5 cL] 54)) w.heap.size 24 #[.int .i64 W, .int .i64 H, .slice A n c] := (Blk.new _ _ _).alloc _
    have k2 : Blk ((w.alloc (.cells #[.int .i64 W, .int .i64 H, .slice A n c] 24)).alloc (.cells #[.slice AL 5 cL] 54)) (w.heap.size + 1) 54 #[.slice AL 5 cL] := Blk.new' (by simp) _ _
    have b1 : Below w.heap.size w ((w.alloc (.cells #[.int .i64 W, .int .i64 H, .slice A n c] 24)).alloc (.cells #[.slice AL 5 cL] 54)) := by (repeat (first | exact Below.refl _ _ | assumption | refine Below.drew ?_ | refine below_drewN ?_ _ | refine Below.alloc ?_ (by first | omega | (simp; done) | (simp; omega)) _ | refine Below.setCell ?_ (by first | omega | (simp; done) | (simp; omega)) _ | refine below_setRow ?_ (by first | omega | (simp; done) | (simp; omega)) _ ))
    generalize (w.alloc (.cells #[.int .i64 W, .int .i64 H, .slice A n c] 24)).alloc (.cells #[.slice AL 5 cL] 54) = w1 at *
    go_loopw [5] (fun s wr => ∃ i : Nat, i ≤ 5 ∧ s = .int .i64 i ∧ (∀ j, j < i → isPathB W H (m j) (fun t => ln j t.toNat) = true) ∧ Below w.heap.size w wr ∧ Blk wr w.heap.size 24 #[.int .i64 W, .int .i64 H, .slice A n c] ∧ Blk wr (w.heap.size + 1) 54 #[.slice AL 5 cL]) (fun s _ => 5 - (intOf s).toNat)
    case atStart => exact ⟨0, by omega, rfl, fun j hj => by omega, b1, k1, k2⟩
    case round =>
      obtain ⟨i, hi, rfl, hp, b2, q1, q2⟩ := hrel
      clear b1 k1 k2
      obtain ⟨p1, p2, p3⟩ := q1.cells3
      have r1 := q2.cells0
      have HP := Lib.hid hp
      clear hp
      by_cases hlt : (i : Int) < 5
      · obtain ⟨bA, oA, A1, c1, rfl, hbA, hcA, haA⟩ := hL.at_ (i := i) (by omega)
        have hc1 := (b2.cell (p := ⟨bA, oA + i, none⟩) hbA).trans hcA
        have B2 := Lib.hid b2; have Q1 := Lib.hid q1; have Q2 := Lib.hid q2
        have HA1 := Lib.hid ((haA.below b2).more b2.size)
        have IPi := Lib.hid fun w' hP => IP.out i (by omega) A1 c1 w' hP
        clear hcA haA b2 q1 q2
        have zz := B2.out.size
        cases hpi : isPathB W H (m i) (fun t => ln i t.toNat) with
        | false =>
          have hr : Hid (stFits W H 5 m ln = false) := by
            show _ = _
            exact stFits_no fun h => by have := h.2.1 i (by omega); rw [hpi] at this; cases this
          rw [hpi] at IPi
          clear hpi
          go_wp2_with fail
          go_region_held3 (fun w' => w'.cell? ⟨w.heap.size, 0, none⟩ = some (.int .i64 W) ∧ w'.cell? ⟨w.heap.size, 1, none⟩ = some (.int .i64 H) ∧ w'.cell? ⟨w.heap.size, 2, none⟩ = some (.slice A n c) ∧ w'.cell? ⟨w.heap.size + 1, 0, none⟩ = some (.slice (some ⟨bA, oA, none⟩) 5 cL) ∧ w'.cell? ⟨bA, oA + i, none⟩ = some (.slice A1 (m i) c1))
            (simp [go_sem, *])
            ((go_at_call 61
              refine (IPi.out _ (show ArrI wr.drew wr.drew.heap.size _ _ _ from HA1.out)).mono ?_
              rintro e w3 ⟨rfl, hb3⟩
              have b3 := below_call B2.out.drew B2.out.drew.size hb3
              have q3 := Q1.out.drew.below' hb3
              have q4 := Q2.out.drew.below' hb3
              obtain ⟨x1, x2, x3⟩ := q3.cells3
              have x4 := q4.cells0
              have x5 : w3.cell? ⟨bA, oA + i, none⟩ = some (.slice A1 (m i) c1) := (hb3.cell (p := ⟨bA, oA + i, none⟩) (by show bA < _; have := B2.out.drew.size; omega)).trans hc1))
          go_wp2
          go_ret
          exact ⟨ret_bool hr.out.symm, b3⟩
        | true =>
          rw [hpi] at IPi
          have HPI := Lib.hid hpi
          clear hpi
          go_wp2_with fail
          go_region_held3 (fun w' => w'.cell? ⟨w.heap.size, 0, none⟩ = some (.int .i64 W) ∧ w'.cell? ⟨w.heap.size, 1, none⟩ = some (.int .i64 H) ∧ w'.cell? ⟨w.heap.size, 2, none⟩ = some (.slice A n c) ∧ w'.cell? ⟨w.heap.size + 1, 0, none⟩ = some (.slice (some ⟨bA, oA, none⟩) 5 cL) ∧ w'.cell? ⟨bA, oA + i, none⟩ = some (.slice A1 (m i) c1))
            (simp [go_sem, *])
            ((go_at_call 61
              refine (IPi.out _ (show ArrI wr.drew wr.drew.heap.size _ _ _ from HA1.out)).mono ?_
              rintro e w3 ⟨rfl, hb3⟩
              have b3 := below_call B2.out.drew B2.out.drew.size hb3
              have q3 := Q1.out.drew.below' hb3
              have q4 := Q2.out.drew.below' hb3
              obtain ⟨x1, x2, x3⟩ := q3.cells3
              have x4 := q4.cells0
              have x5 : w3.cell? ⟨bA, oA + i, none⟩ = some (.slice A1 (m i) c1) := (hb3.cell (p := ⟨bA, oA + i, none⟩) (by show bA < _; have := B2.out.drew.size; omega)).trans hc1))
          go_wp2_with fail
          go_roundw
          case rel =>
            refine ⟨i + 1, by omega, by go_num, fun j hj => ?_, b3, q3, q4⟩
            rcases Nat.lt_succ_iff_lt_or_eq.1 hj with h | rfl
            · exact HP.out j h
            · exact HPI.out
          case measure => simp [intOf]; omega
      · obtain rfl : i = 5 := by omega
        have MW : ∀ j, j < 5 → (m j : Int) = W := fun j hj => (isPathB_iff.1 (HP.out j hj)).1.2.2
        have HMW := Lib.hid MW
        clear MW
        go_wp2_with fail
        generalize wr = w2 at *
        go_loopw [6] (fun s wr => ∃ x : Nat, (x : Int) ≤ W ∧ s = .int .i64 x ∧ (∀ t : Nat, t < x → ∀ j, j + 1 < 5 → ln j t < ln (j + 1) t) ∧ ∃ nn, wr = w2.drewN nn) (fun s _ => (W - intOf s).toNat)
        case atStart => exact ⟨0, by omega, rfl, fun t ht => by omega, 0, rfl⟩
        case round =>
          obtain ⟨x, hx, rfl, hlx, nn, hwr⟩ := hrel
          have b4 : Below w.heap.size w wr := by rw [hwr]; exact below_drewN b2 nn
          have q5 : Blk wr w.heap.size 24 #[.int .i64 W, .int .i64 H, .slice A n c] := by rw [hwr]; exact q1.drewN nn
          have q6 : Blk wr (w.heap.size + 1) 54 #[.slice AL 5 cL] := by rw [hwr]; exact q2.drewN nn
          have HWR := Lib.hid hwr
          have HLX := Lib.hid hlx
          clear hwr hlx p1 p2 p3 r1
          obtain ⟨p1, p2, p3⟩ := q5.cells3
          have r1 := q6.cells0
          by_cases xl : (x : Int) < W
          · go_wp2_with fail
            generalize wr = w4 at *
            go_loopw [7] (fun s wr => ∃ i : Nat, 1 ≤ i ∧ i ≤ 5 ∧ s = .int .i64 i ∧ (∀ j, j + 1 < i → ln j x < ln (j + 1) x) ∧ ∃ nn, wr = w4.drewN nn) (fun s _ => 5 - (intOf s).toNat)
            case atStart => exact ⟨1, by omega, by omega, rfl, fun j hj => by omega, 0, rfl⟩
            case round =>
              obtain ⟨i, i1, i5, rfl, hli, n2, hwr2⟩ := hrel
              have b6 : Below w.heap.size w wr := by rw [hwr2]; exact below_drewN b4 n2
              have q7 : Blk wr w.heap.size 24 #[.int .i64 W, .int .i64 H, .slice A n c] := by rw [hwr2]; exact q5.drewN n2
              have q8 : Blk wr (w.heap.size + 1) 54 #[.slice AL 5 cL] := by rw [hwr2]; exact q6.drewN n2
              have HWR2 := Lib.hid hwr2
              have HLI := Lib.hid hli
              clear hwr2 hli p1 p2 p3 r1
              obtain ⟨p1, p2, p3⟩ := q7.cells3
              have r1 := q8.cells0
              by_cases il : (i : Int) < 5
              · obtain ⟨k, hk⟩ : ∃ k, i = k + 1 := ⟨i - 1, by omega⟩
                obtain ⟨bA, oA, A1, c1, rfl, hbA, hcA, haA⟩ := hL.at_ (i := i) (by omega)
                obtain ⟨bB, oB, A2, c2, eB, hbB, hcB, haB⟩ := hL.at_ (i := k) (by omega)
                cases eB
                have hc1 := (b6.cell (p := ⟨bA, oA + i, none⟩) hbA).trans hcA
                have hc2 := (b6.cell (p := ⟨bA, oA + k, none⟩) hbA).trans hcB
                have j1 := HMW.out i (by omega)
                have j2 := HMW.out k (by omega)
                obtain ⟨b1', o1', e1', -, hx1⟩ := ArrI.at_ ((haA.below b6).more b6.size) (i := (x : Int)) (by omega) (by omega)
                obtain ⟨b2', o2', e2', -, hx2⟩ := ArrI.at_ ((haB.below b6).more b6.size) (i := (x : Int)) (by omega) (by omega)
                subst e1'
                subst e2'
                rw [Int.toNat_natCast] at hx1 hx2
                have v1 : IntKind.i64.wrap ((i : Int) - 1) = (k : Int) := by rw [show (i : Int) - 1 = k by omega]; exact IntWalk.i64_in _ (by omega)
                have k5 : (k : Int) < 5 := by omega
                have k0 : (0 : Int) ≤ (k : Int) := by omega
                have xm1 : (x : Int) < (m i : Int) := by omega
                have xm2 : (x : Int) < (m k : Int) := by omega
                have HKE := Lib.hid hk
                by_cases hle : ln i x ≤ ln k x
                · have hr : Hid (stFits W H 5 m ln = false) := by
                    show _ = _
                    exact stFits_no fun h => by
                      have h1 := h.2.2 k (by have := HKE.out; omega) x xl
                      rw [← HKE.out] at h1; omega
                  have dl : decide (ln i x ≤ ln k x) = true := decide_eq_true hle
                  clear hk hcA hcB j1 j2
                  generalize ln i x = va at *
                  generalize ln k x = vb at *
                  go_wp2_with fail
                  go_quiet (fail)
                  go_wp2
                  go_ret
                  exact ⟨ret_bool hr.out.symm, below_drewN b6 _⟩
                · have hll : Hid (ln k x < ln i x) := by show _ < _; omega
                  have dl : decide (ln i x ≤ ln k x) = false := decide_eq_false hle
                  clear hk hcA hcB j1 j2
                  generalize hva : ln i x = va at *
                  generalize hvb : ln k x = vb at *
                  have HVA := Lib.hid hva; have HVB := Lib.hid hvb
                  clear hva hvb
                  go_wp2_with fail
                  go_quiet (fail)
                  go_wp2
                  go_roundw
                  case rel =>
                    refine ⟨i + 1, by omega, by omega, by go_num, fun j hj => ?_, _, by rw [HWR2.out]; exact World.drewN_drewN _ _ _⟩
                    by_cases h : j + 1 < i
                    · exact HLI.out j h
                    · obtain rfl : k = j := by have := HKE.out; omega
                      rw [← HKE.out, HVA.out, HVB.out]; exact hll.out
                  case measure => simp [intOf]; omega
              · obtain rfl : i = 5 := by omega
                go_wp2_with fail
                go_roundw
                case rel =>
                  refine ⟨x + 1, by omega, by go_num, fun t ht j hj => ?_, _, by rw [HWR2.out, HWR.out]; exact World.drewN_drewN _ _ _⟩
                  rcases Nat.lt_succ_iff_lt_or_eq.1 ht with h | rfl
                  · exact HLX.out t h j hj
                  · exact HLI.out j hj
                case measure => simp [intOf]; omega
          · have hr : Hid (stFits W H 5 m ln = true) := by show _ = _; exact stFits_iff.2 ⟨rfl, HP.out, fun i hi t ht => HLX.out t (by omega) i hi⟩
            go_wp2
            go_ret
            exact ⟨ret_bool hr.out.symm, b4⟩
  · have hr : Hid (stFits W H K m ln = false) := by show _ = _; exact stFits_no fun h => hK h.1
    have hb : ((K : Int) != 5) = true := by simp; omega
    clear hK
    go_enter Try.func79, Try.ntmps79
    go_wp2
    go_ret
    exact ⟨ret_bool hr.out.symm, by (repeat (first | exact Below.refl _ _ | assumption | refine Below.drew ?_ | refine below_drewN ?_ _ | refine Below.alloc ?_ (by first | omega | (simp; done) | (simp; omega)) _ | refine Below.setCell ?_ (by first | omega | (simp; done) | (simp; omega)) _ | refine below_setRow ?_ (by first | omega | (simp; done) | (simp; omega)) _ ))⟩

/-- the error of a stave's check -/
def stChk (W H : Int) (n : Nat) (p : Int → Int) (K : Nat) (m : Nat → Nat) (ln : Nat → Nat → Int) : Int := if chk W H n p ≠ 0 then chk W H n p else if stFits W H K m ln = true then 0 else 10
set_option maxHeartbeats 1000000 in
theorem check_st (W H : Int) (A AL : Option Addr) (n c K cL : Nat) (p : Int → Int) (m : Nat → Nat) (ln : Nat → Nat → Int) (E : Int) (w : World) (hA : ArrB w w.heap.size A n p) (hn : n ≤ maxLen) (hL : Lines w w.heap.size AL K m ln) (hm : ∀ i, i < K → m i ≤ maxLen) (hE : stChk W H n p K m ln = E) :
    Calls Try.prog 38 #[.agg #[.int .i64 W, .int .i64 H, .slice A n c], .agg #[.slice AL K cL]] w fun e w' => e = .returned (.int .i64 E) ∧ Below w.heap.size w w' := by
  have CK := Lib.hid fun w' hA' => check_any W H A n c p w' hA' hn
  have k1 : Blk ((w.alloc (.cells #[.int .i64 W, .int .i64 H, .slice A n c] 24)).alloc (.cells #[.slice AL K cL] 54)) w.heap.size 24 #[.int .i64 W, .int .i64 H, .slice A n c] := (Blk.new _ _ _).alloc _
  have k2 : Blk ((w.alloc (.cells #[.int .i64 W, .int .i64 H, .slice A n c] 24)).alloc (.cells #[.slice AL K cL] 54)) (w.heap.size + 1) 54 #[.slice AL K cL] := Blk.new' (by simp) _ _
  have b1 : Below w.heap.size w ((w.alloc (.cells #[.int .i64 W, .int .i64 H, .slice A n c] 24)).alloc (.cells #[.slice AL K cL] 54)) := by (repeat (first | exact Below.refl _ _ | assumption | refine Below.drew ?_ | refine below_drewN ?_ _ | refine Below.alloc ?_ (by first | omega | (simp; done) | (simp; omega)) _ | refine Below.setCell ?_ (by first | omega | (simp; done) | (simp; omega)) _ | refine below_setRow ?_ (by first | omega | (simp; done) | (simp; omega)) _ ))
  by_cases hc : chk W H n p = 0
  · obtain ⟨hW1, hW2, hH1, hH2, -, -⟩ := chk_ok hc
    have FT := Lib.hid fun w' hL' => fits_st W H A AL n c K cL m ln w' hW2 hH2 hL' hm
    have hE2 : (if stFits W H K m ln = true then (0 : Int) else 10) = E := by rw [← hE]; unfold stChk; rw [if_neg (show ¬ chk W H n p ≠ 0 from fun h => h hc)]
    rw [hc] at CK
    clear hc hE
    cases hs : stFits W H K m ln with
    | true =>
      rw [hs] at FT hE2
      rw [if_pos rfl] at hE2
      subst hE2
      clear hs
      go_enter Try.func38, Try.ntmps38
      go_wp2_with fail
      generalize (w.alloc (.cells #[.int .i64 W, .int .i64 H, .slice A n c] 24)).alloc (.cells #[.slice AL K cL] 54) = w1 at *
      refine (CK.out _ (hA.to b1)).mono ?_
      rintro e w2 ⟨rfl, hb2⟩
      have b2 := below_call b1 b1.size hb2
      obtain ⟨p1, p2, p3⟩ := (k1.below' hb2).cells3
      have r1 := (k2.below' hb2).cells0
      go_wp2_with fail
      refine (FT.out _ (hL.below b2)).mono ?_
      rintro e w3 ⟨rfl, hb3⟩
      have b3 := below_call b2 b2.size hb3
      go_wp2
      go_ret
      exact ⟨rfl, b3⟩
    | false =>
      rw [hs] at FT hE2
      rw [if_neg (by simp)] at hE2
      subst hE2
      clear hs
      go_enter Try.func38, Try.ntmps38
      go_wp2_with fail
      generalize (w.alloc (.cells #[.int .i64 W, .int .i64 H, .slice A n c] 24)).alloc (.cells #[.slice AL K cL] 54) = w1 at *
      refine (CK.out _ (hA.to b1)).mono ?_
      rintro e w2 ⟨rfl, hb2⟩
      have b2 := below_call b1 b1.size hb2
      obtain ⟨p1, p2, p3⟩ := (k1.below' hb2).cells3
      have r1 := (k2.below' hb2).cells0
      go_wp2_with fail
      refine (FT.out _ (hL.below b2)).mono ?_
      rintro e w3 ⟨rfl, hb3⟩
      have b3 := below_call b2 b2.size hb3
      go_wp2
      go_ret
      exact ⟨rfl, b3⟩
  · have hz : chk W H n p = E := by rw [← hE]; unfold stChk; rw [if_pos hc]
    have hb : (E != 0) = true := by rw [← hz]; simp [hc]
    have hne : ¬ E = 0 := by rw [← hz]; exact hc
    rw [hz] at CK
    have HE := Lib.hid hne
    clear hc hE hz hne
    go_enter Try.func38, Try.ntmps38
    go_wp2_with fail
    generalize (w.alloc (.cells #[.int .i64 W, .int .i64 H, .slice A n c] 24)).alloc (.cells #[.slice AL K cL] 54) = w1 at *
    refine (CK.out _ (hA.to b1)).mono ?_
    rintro e w2 ⟨rfl, hb2⟩
    have b2 := below_call b1 b1.size hb2
    go_wp2
    go_ret
    exact ⟨rfl, b2⟩
set_option maxHeartbeats 1000000 in
theorem rcheck_st (W H : Int) (A AL : Option Addr) (n c K cL : Nat) (p : Int → Int) (m : Nat → Nat) (ln : Nat → Nat → Int) (E : Int) (w : World) (hA : ArrB w w.heap.size A n p) (hn : n ≤ maxLen) (hB : IsB p) (hL : Lines w w.heap.size AL K m ln) (hm : ∀ i, i < K → m i ≤ maxLen) (hE : stChk W H n p K m ln = E) :
    Calls Try.prog 39 #[.agg #[.int .i64 W, .int .i64 H, .slice A n c], .agg #[.slice AL K cL]] w fun e w' => e = .returned (.int .i64 E) ∧ Below w.heap.size w w' := by
  have CK := Lib.hid fun w' hA' => rcheck_any W H A n c p w' hA' hn hB
  have k1 : Blk ((w.alloc (.cells #[.int .i64 W, .int .i64 H, .slice A n c] 24)).alloc (.cells #[.slice AL K cL] 54)) w.heap.size 24 #[.int .i64 W, .int .i64 H, .slice A n c] := (Blk.new _ _ _).alloc _
  have k2 : Blk ((w.alloc (.cells #[.int .i64 W, .int .i64 H, .slice A n c] 24)).alloc (.cells #[.slice AL K cL] 54)) (w.heap.size + 1) 54 #[.slice AL K cL] := Blk.new' (by simp) _ _
  have b1 : Below w.heap.size w ((w.alloc (.cells #[.int .i64 W, .int .i64 H, .slice A n c] 24)).alloc (.cells #[.slice AL K cL] 54)) := by (repeat (first | exact Below.refl _ _ | assumption | refine Below.drew ?_ | refine below_drewN ?_ _ | refine Below.alloc ?_ (by first | omega | (simp; done) | (simp; omega)) _ | refine Below.setCell ?_ (by first | omega | (simp; done) | (simp; omega)) _ | refine below_setRow ?_ (by first | omega | (simp; done) | (simp; omega)) _ ))
  by_cases hc : chk W H n p = 0
  · obtain ⟨hW1, hW2, hH1, hH2, -, -⟩ := chk_ok hc
    have FT := Lib.hid fun w' hL' => rfits_st W H A AL n c K cL m ln w' hW1 hH1 hW2 hH2 hL' hm
    have hE2 : (if stFits W H K m ln = true then (0 : Int) else 10) = E := by rw [← hE]; unfold stChk; rw [if_neg (show ¬ chk W H n p ≠ 0 from fun h => h hc)]
    rw [hc] at CK
    clear hc hE
    cases hs : stFits W H K m ln with
    | true =>
      rw [hs] at FT hE2
      rw [if_pos rfl] at hE2
      subst hE2
      clear hs
      go_enter Try.func39, Try.ntmps39
      go_wp2_with fail
      generalize (w.alloc (.cells #[.int .i64 W, .int .i64 H, .slice A n c] 24)).alloc (.cells #[.slice AL K cL] 54) = w1 at *
      refine (CK.out _ (hA.to b1)).mono ?_
      rintro e w2 ⟨rfl, hb2⟩
      have b2 := below_call b1 b1.size hb2
      obtain ⟨p1, p2, p3⟩ := (k1.below' hb2).cells3
      have r1 := (k2.below' hb2).cells0
      go_wp2_with fail
      refine (FT.out _ (hL.below b2)).mono ?_
      rintro e w3 ⟨rfl, hb3⟩
      have b3 := below_call b2 b2.size hb3
      go_wp2
      go_ret
      exact ⟨rfl, b3⟩
    | false =>
      rw [hs] at FT hE2
      rw [if_neg (by simp)] at hE2
      subst hE2
      clear hs
      go_enter Try.func39, Try.ntmps39
      go_wp2_with fail
      generalize (w.alloc (.cells #[.int .i64 W, .int .i64 H, .slice A n c] 24)).alloc (.cells #[.slice AL K cL] 54) = w1 at *
      refine (CK.out _ (hA.to b1)).mono ?_
      rintro e w2 ⟨rfl, hb2⟩
      have b2 := below_call b1 b1.size hb2
      obtain ⟨p1, p2, p3⟩ := (k1.below' hb2).cells3
      have r1 := (k2.below' hb2).cells0
      go_wp2_with fail
      refine (FT.out _ (hL.below b2)).mono ?_
      rintro e w3 ⟨rfl, hb3⟩
      have b3 := below_call b2 b2.size hb3
      go_wp2
      go_ret
      exact ⟨rfl, b3⟩
  · have hz : chk W H n p = E := by rw [← hE]; unfold stChk; rw [if_pos hc]
    have hb : (E != 0) = true := by rw [← hz]; simp [hc]
    have hne : ¬ E = 0 := by rw [← hz]; exact hc
    rw [hz] at CK
    have HE := Lib.hid hne
    clear hc hE hz hne
    go_enter Try.func39, Try.ntmps39
    go_wp2_with fail
    generalize (w.alloc (.cells #[.int .i64 W, .int .i64 H, .slice A n c] 24)).alloc (.cells #[.slice AL K cL] 54) = w1 at *
    refine (CK.out _ (hA.to b1)).mono ?_
    rintro e w2 ⟨rfl, hb2⟩
    have b2 := below_call b1 b1.size hb2
    go_wp2
    go_ret
    exact ⟨rfl, b2⟩
end Go.Proofs.Ytdimlpcbbkokiaa
