/- Walks: whether a stave fits an image (stave.fits, stave.Check; the reference's Fits, Check). -/
import Derived.Test.YtdimlpcbbkokiaaT14
import Derived.Test.YtdimlpcbbkokiaaT3
namespace Go.Proofs.Ytdimlpcbbkokiaa
open Go.RowKit Go.Shelf
set_option linter.unusedVariables false
attribute [local go_sem] Oper.semAt_some

/-- five lines are paths of the image and lie one under the other -/
def StP (W H : Int) (K : Nat) (m : Nat → Nat) (ln : Nat → Nat → Int) : Prop :=
  K = 5 ∧ (∀ i, i < 5 → isPathB W H (m i) (fun j => ln i j.toNat) = true) ∧ ∀ i, i + 1 < 5 → ∀ x : Nat, (x : Int) < W → ln i x < ln (i + 1) x
def stFits (W H : Int) (K : Nat) (m : Nat → Nat) (ln : Nat → Nat → Int) : Bool :=
  decide (K = 5) && (((List.range 5).all fun i => isPathB W H (m i) fun j => ln i j.toNat) && (List.range 4).all fun i => (List.range W.toNat).all fun x => decide (ln i x < ln (i + 1) x))
theorem stFits_iff {W H : Int} {K : Nat} {m : Nat → Nat} {ln : Nat → Nat → Int} : stFits W H K m ln = true ↔ StP W H K m ln := by
  unfold stFits StP
  rw [Bool.and_eq_true, Bool.and_eq_true, decide_eq_true_iff, List.all_eq_true, List.all_eq_true]
  refine and_congr_right fun _ => and_congr ⟨fun h i hi => h i (List.mem_range.2 hi), fun h i hi => h i (List.mem_range.1 hi)⟩ ⟨fun h i hi x hx => ?_, fun h i hi => ?_⟩
  · have := List.all_eq_true.1 (h i (List.mem_range.2 (by omega))) x (List.mem_range.2 (by omega))
    simpa using this
  · rw [List.all_eq_true]
    intro x hx
    have := List.mem_range.1 hi
    have := List.mem_range.1 hx
    exact decide_eq_true (h i (by omega) x (by omega))
theorem stFits_no {W H : Int} {K : Nat} {m : Nat → Nat} {ln : Nat → Nat → Int} (h : ¬ StP W H K m ln) : stFits W H K m ln = false := Bool.eq_false_iff.2 fun e => h (stFits_iff.1 e)
theorem Blk.cells0 {w : World} {g : Nat} {t : TypeId} {a : Value} (h : Blk w g t #[a]) : w.cell? ⟨g, 0, none⟩ = some a := by rw [h.cell]; rfl

set_option maxRecDepth 100000 in
set_option maxHeartbeats 4000000 in
theorem fits_st (W H : Int) (A AL : Option Addr) (n c K cL : Nat) (m : Nat → Nat) (ln : Nat → Nat → Int) (w : World) (hW : W ≤ 640) (hH : H ≤ 640) (hL : Lines w w.heap.size AL K m ln) (hm : ∀ i, i < K → m i ≤ maxLen) :
    Calls Try.prog 78 #[.agg #[.int .i64 W, .int .i64 H, .slice A n c], .agg #[.slice AL K cL]] w fun e w' => e = .returned (.bool (stFits W H K m ln)) ∧ Below w.heap.size w w' := by
  have IP := Lib.hid fun i (hi : i < K) P d w' hP => isPath_any W H A P n c (m i) d (fun j => ln i j.toNat) w' hW hH hP (hm i hi)
  by_cases hK : K = 5
  · subst hK
    clear hm
    go_enter Try.func78, Try.ntmps78
    go_wp2_with fail
    have k1 : Blk ((w.alloc (.cells #[.int .i64 W, .int .i64 H, .slice A n c] 24)).alloc (.cells #[.slice AL 5 cL] 54)) w.heap.size 24 #[.int .i64 W, .int .i64 H, .slice A n c] := (Blk.new _ _ _).alloc _
    have k2 : Blk ((w.alloc (.cells #[.int .i64 W, .int .i64 H, .slice A n c] 24)).alloc (.cells #[.slice AL 5 cL] 54)) (w.heap.size + 1) 54 #[.slice AL 5 cL] := Blk.new' (by simp) _ _
    have b1 : Below w.heap.size w ((w.alloc (.cells #[.int .i64 W, .int .i64 H, .slice A n c] 24)).alloc (.cells #[.slice AL 5 cL] 54)) := by (repeat (first | exact Below.refl _ _ | assumption | refine Below.drew ?_ | refine below_drewN ?_ _ | refine Below.alloc ?_ (by first | omega | (simp; done) | (simp; omega)) _ | refine Below.setCell ?_ (by first | omega | (simp; done) | (simp; omega)) _ | refine below_setRow ?_ (by first | omega | (simp; done) | (simp; omega)) _ ))
    generalize (w.alloc (.cells #[.int .i64 W, .int .i64 H, .slice A n c] 24)).alloc (.cells #[.slice AL 5 cL] 54) = w1 at *
    go_loopw [15] (fun s wr => ∃ i : Nat, i ≤ 5 ∧ s = .int .i64 i ∧ (∀ j, j < i → isPathB W H (m j) (fun t => ln j t.toNat) = true) ∧ (∀ j, j + 1 < i → ∀ x : Nat, (x : Int) < W → ln j x < ln (j + 1) x) ∧ Below w.heap.size w wr ∧ Blk wr w.heap.size 24 #[.int .i64 W, .int .i64 H, .slice A n c] ∧ Blk wr (w.heap.size + 1) 54 #[.slice AL 5 cL]) (fun s _ => 5 - (intOf s).toNat)
    case atStart => exact ⟨0, by omega, rfl, fun j hj => by omega, fun j hj => by omega, b1, k1, k2⟩
    case round =>
      obtain ⟨i, hi, rfl, hp, ho, b2, q1, q2⟩ := hrel
      clear b1 k1 k2
      obtain ⟨p1, p2, p3⟩ := q1.cells3
      have r1 := q2.cells0
      have HP := Lib.hid hp; have HO := Lib.hid ho
      clear hp ho
      by_cases hlt : (i : Int) < 5
      · obtain ⟨bA, oA, A1, c1, rfl, hbA, hcA, haA⟩ := hL.at_ (i := i) (by omega)
        have hc1 := (b2.cell (p := ⟨bA, oA + i, none⟩) hbA).trans hcA
        have ha1 := (haA.below b2).more b2.size
        have IPi := Lib.hid fun w' hP => IP.out i (by omega) A1 c1 w' hP
        cases hpi : isPathB W H (m i) (fun t => ln i t.toNat) with
        | false =>
          have hr : Hid (stFits W H 5 m ln = false) := by
            show _ = _
            exact stFits_no fun h => by have := h.2.1 i (by omega); rw [hpi] at this; cases this
          rw [hpi] at IPi
          clear hpi hcA
          go_wp2_with fail
          refine (IPi.out _ ha1).mono ?_
          rintro e w3 ⟨rfl, hb3⟩
          have b3 := below_call b2 b2.size hb3
          go_wp2
          go_ret
          exact ⟨ret_bool hr.out.symm, b3⟩
        | true =>
          rw [hpi] at IPi
          have HPI := Lib.hid hpi
          obtain ⟨⟨g1, g2, g3⟩, g4⟩ := isPathB_iff.1 hpi
          have BD := Lib.hid fun (x : Nat) (hx : (x : Int) < (m i : Int)) => (stepB_iff.1 (g4 x (by omega) hx))
          clear hpi g4 hcA
          go_wp2_with fail
          refine (IPi.out _ ha1).mono ?_
          rintro e w3 ⟨rfl, hb3⟩
          have b3 := below_call b2 b2.size hb3
          have q3 := q1.below' hb3
          have q4 := q2.below' hb3
          have ha3 := ha1.to hb3
          clear b2 q1 q2 hb3 p1 p2 p3 r1 ha1 hc1
          obtain ⟨p1, p2, p3⟩ := q3.cells3
          have r1 := q4.cells0
          go_wp2_with fail
          generalize hmi : m i = Mi at *
          have HMI := Lib.hid hmi
          clear hmi
          go_loopw [26] (fun s wr => ∃ x : Nat, x ≤ Mi ∧ s = .int .i64 x ∧ (∀ k, i = k + 1 → ∀ t : Nat, t < x → ln k t < ln i t) ∧ ∃ nn, wr = w3.drewN nn) (fun s _ => Mi - (intOf s).toNat)
          case atStart => exact ⟨0, by omega, rfl, fun k hk t ht => by omega, 0, rfl⟩
          case round =>
            obtain ⟨x, hx, rfl, hlx, nn, hwr⟩ := hrel
            have b4 : Below w.heap.size w wr := by rw [hwr]; exact below_drewN b3 nn
            have q5 : Blk wr w.heap.size 24 #[.int .i64 W, .int .i64 H, .slice A n c] := by rw [hwr]; exact q3.drewN nn
            have q6 : Blk wr (w.heap.size + 1) 54 #[.slice (some ⟨bA, oA, none⟩) 5 cL] := by rw [hwr]; exact q4.drewN nn
            have ha4 : ArrI wr wr.heap.size A1 Mi (fun t => ln i t.toNat) := by rw [hwr]; exact ha3
            have HWR := Lib.hid hwr
            have HLX := Lib.hid hlx
            clear hwr hlx p1 p2 p3 r1
            obtain ⟨p1, p2, p3⟩ := q5.cells3
            have r1 := q6.cells0
            by_cases xl : (x : Int) < Mi
            · by_cases i0 : i = 0
              · have d0 : decide ((0 : Int) < (i : Int)) = false := decide_eq_false (by omega)
                have d0' : decide (0 < i) = false := decide_eq_false (by omega)
                have HI0 := Lib.hid i0
                clear i0
                go_wp2_with fail
                go_quiet (fail)
                go_wp2
                go_roundw
                case rel => exact ⟨x + 1, by omega, by go_num, fun k hk => by have := HI0.out; omega, _, by rw [HWR.out]; exact World.drewN_drewN _ _ _⟩
                case measure => simp [intOf]; omega
              · obtain ⟨k, hk⟩ : ∃ k, i = k + 1 := ⟨i - 1, by omega⟩
                obtain ⟨bB, oB, A2, c2, eB, hbB, hcB, haB⟩ := hL.at_ (i := k) (by omega)
                cases eB
                have hc2 := (b4.cell (p := ⟨bA, oA + k, none⟩) hbA).trans hcB
                have ha5 := (haB.below b4).more b4.size
                obtain ⟨⟨j1, j2, j3⟩, -⟩ := isPathB_iff.1 (HP.out k (by omega))
                obtain ⟨b1', o1', e1', -, hx1⟩ := ArrI.at_ ha4 (i := (x : Int)) (by omega) xl
                obtain ⟨b2', o2', e2', -, hx2⟩ := ArrI.at_ ha5 (i := (x : Int)) (by omega) (by omega)
                subst e1'
                subst e2'
                rw [Int.toNat_natCast] at hx1 hx2
                have d0 : decide ((0 : Int) < (i : Int)) = true := decide_eq_true (by omega)
                have d0' : decide (0 < i) = true := decide_eq_true (by omega)
                have d0p : 0 < i := by omega
                have v1 : IntKind.i64.wrap ((i : Int) - 1) = (k : Int) := by rw [show (i : Int) - 1 = k by omega]; exact IntWalk.i64_in _ (by omega)
                have k5 : (k : Int) < 5 := by omega
                have k0 : (0 : Int) ≤ (k : Int) := by omega
                have xm : (x : Int) < (m k : Int) := by omega
                have HKE := Lib.hid hk
                have HMK := Lib.hid j3
                by_cases hle : ln i x ≤ ln k x
                · have hr : Hid (stFits W H 5 m ln = false) := by
                    show _ = _
                    exact stFits_no fun h => by
                      have h1 := h.2.2 k (by have := HKE.out; omega) x (by omega)
                      rw [← HKE.out] at h1; omega
                  have dl : decide (ln i x ≤ ln k x) = true := decide_eq_true hle
                  clear hk hcB
                  generalize ln i x = va at *
                  generalize ln k x = vb at *
                  go_wp2_with fail
                  go_quiet (fail)
                  go_wp2
                  go_ret
                  exact ⟨ret_bool hr.out.symm, below_drewN b4 _⟩
                · have hll : Hid (ln k x < ln i x) := by show _ < _; omega
                  have dl : decide (ln i x ≤ ln k x) = false := decide_eq_false hle
                  clear hk hcB
                  generalize hva : ln i x = va at *
                  generalize hvb : ln k x = vb at *
                  have HVA := Lib.hid hva; have HVB := Lib.hid hvb
                  clear hva hvb
                  go_wp2_with fail
                  go_quiet (fail)
                  go_wp2
                  go_roundw
                  case rel =>
                    refine ⟨x + 1, by omega, by go_num, fun k' hk' t ht => ?_, _, by rw [HWR.out]; exact World.drewN_drewN _ _ _⟩
                    rcases Nat.lt_succ_iff_lt_or_eq.1 ht with h | rfl
                    · exact HLX.out k' hk' t h
                    · obtain rfl : k = k' := by have := HKE.out; omega
                      rw [HVA.out, HVB.out]; exact hll.out
                  case measure => simp [intOf]; omega
            · obtain rfl : Mi = x := by omega
              go_wp2_with fail
              go_roundw
              case rel =>
                refine ⟨i + 1, by omega, by go_num, fun j hj => ?_, fun j hj x hx => ?_, b4, q5, q6⟩
                · rcases Nat.lt_succ_iff_lt_or_eq.1 hj with h | rfl
                  · exact HP.out j h
                  · exact HMI.out ▸ HPI.out
                · by_cases h : j + 1 < i
                  · exact HO.out j h x hx
                  · obtain rfl : i = j + 1 := by omega
                    exact HLX.out j rfl x (by omega)
              case measure => simp [intOf]; omega
      · obtain rfl : i = 5 := by omega
        have hr : Hid (stFits W H 5 m ln = true) := by show _ = _; exact stFits_iff.2 ⟨rfl, HP.out, HO.out⟩
        go_wp2
        go_ret
        exact ⟨ret_bool hr.out.symm, b2⟩
  · have hr : Hid (stFits W H K m ln = false) := by show _ = _; exact stFits_no fun h => hK h.1
    have hb : ((K : Int) != 5) = true := by simp; omega
    clear hK
    go_enter Try.func78, Try.ntmps78
    go_wp2
    go_ret
    exact ⟨ret_bool hr.out.symm, by (repeat (first | exact Below.refl _ _ | assumption | refine Below.drew ?_ | refine below_drewN ?_ _ | refine Below.alloc ?_ (by first | omega | (simp; done) | (simp; omega)) _ | refine Below.setCell ?_ (by first | omega | (simp; done) | (simp; omega)) _ | refine below_setRow ?_ (by first | omega | (simp; done) | (simp; omega)) _ ))⟩
end Go.Proofs.Ytdimlpcbbkokiaa
