/- Walks: costs with their errors, the program's and the reference's. -/
import Derived.Test.YtdimlpcbbkokiaaT2
namespace Go.Proofs.Ytdimlpcbbkokiaa
open Go.RowKit
set_option linter.unusedVariables false

set_option maxHeartbeats 1000000 in
theorem cost_all (W H : Int) (A P : Option Addr) (n c m d : Nat) (p q : Int → Int) (E V : Int) (w : World) (hA : ArrB w w.heap.size A n p) (hn : n ≤ maxLen) (hB : IsB p) (hP : ArrI w w.heap.size P m q) (hm : m ≤ maxLen) (hE : costE W H n p m q = E) (hV : costV W H n p m q = V) :
    Calls Try.prog 16 #[.agg #[.int .i64 W, .int .i64 H, .slice A n c], .slice P m d] w fun e w' => e = .returned (.tuple #[.int .i64 V, .int .i64 E]) ∧ Below w.heap.size w w' := by
  by_cases e : E = 0
  · subst e
    obtain ⟨e1, e2⟩ := costE_ok hE
    have : V = costP (cst p W) q m := by rw [← hV]; unfold costV; rw [if_pos hE]
    subst this
    exact cost_ok W H A P n c m d p q w hA hn hB hP e1 e2
  · have : V = 0 := by rw [← hV]; unfold costV; rw [if_neg (by rw [hE]; exact e)]
    subst this
    clear hV
    have CK := Lib.hid fun w' hA' => check_any W H A n c p w' hA' hn
    by_cases hc : chk W H n p = 0
    · have hI : isPathB W H m q = false := by
        cases h : isPathB W H m q
        · rfl
        · exfalso; apply e; rw [← hE]; unfold costE; rw [if_neg (by simp [hc]), h]; rfl
      have hE1 : E = 1 := by rw [← hE]; unfold costE; rw [if_neg (by simp [hc]), hI]; rfl
      subst hE1
      rw [hc] at CK
      obtain ⟨hW1, hW2, hH1, hH2, hnn, hpx⟩ := chk_ok hc
      have IP := Lib.hid fun w' hP' => isPath_any W H A P n c m d q w' hW2 hH2 hP' hm
      rw [hI] at IP
      clear hc hI hE hnn hpx e
      go_enter Try.func16, Try.ntmps16
      go_wp2_with fail
      refine (CK.out _ (hA.to (by (repeat (first | exact Below.refl _ _ | assumption | refine Below.drew ?_ | refine below_drewN ?_ _ | refine Below.alloc ?_ (by first | omega | (simp; done) | (simp; omega)) _ | refine Below.setCell ?_ (by first | omega | (simp; done) | (simp; omega)) _ | refine below_setRow ?_ (by first | omega | (simp; done) | (simp; omega)) _ ))))).mono ?_
      rintro e w1 ⟨rfl, hb1⟩
      have b1 : Below w.heap.size w w1 := below_call (by (repeat (first | exact Below.refl _ _ | assumption | refine Below.drew ?_ | refine below_drewN ?_ _ | refine Below.alloc ?_ (by first | omega | (simp; done) | (simp; omega)) _ | refine Below.setCell ?_ (by first | omega | (simp; done) | (simp; omega)) _ | refine below_setRow ?_ (by first | omega | (simp; done) | (simp; omega)) _ ))) (by simp; try omega) hb1
      have k1 : Blk w1 w.heap.size 24 #[.int .i64 W, .int .i64 H, .slice A n c] := (Blk.new _ _ _).below' hb1
      clear hb1 CK
      obtain ⟨p1, p2, p3⟩ := k1.cells3
      go_wp2_with fail
      refine (IP.out _ (hP.to b1)).mono ?_
      rintro e w2 ⟨rfl, hb2⟩
      have b2 := below_call b1 b1.size hb2
      go_wp2
      go_ret2
      exact ⟨rfl, b2⟩
    · have hz : chk W H n p = E := by rw [← hE]; unfold costE; rw [if_pos hc]
      rw [hz] at CK
      have hb : (E != 0) = true := by simp [e]
      have HE := Lib.hid e; clear e hc hz hE
      go_enter Try.func16, Try.ntmps16
      go_wp2_with fail
      refine (CK.out _ (hA.to (by (repeat (first | exact Below.refl _ _ | assumption | refine Below.drew ?_ | refine below_drewN ?_ _ | refine Below.alloc ?_ (by first | omega | (simp; done) | (simp; omega)) _ | refine Below.setCell ?_ (by first | omega | (simp; done) | (simp; omega)) _ | refine below_setRow ?_ (by first | omega | (simp; done) | (simp; omega)) _ ))))).mono ?_
      rintro e w1 ⟨rfl, hb1⟩
      have b1 : Below w.heap.size w w1 := below_call (by (repeat (first | exact Below.refl _ _ | assumption | refine Below.drew ?_ | refine below_drewN ?_ _ | refine Below.alloc ?_ (by first | omega | (simp; done) | (simp; omega)) _ | refine Below.setCell ?_ (by first | omega | (simp; done) | (simp; omega)) _ | refine below_setRow ?_ (by first | omega | (simp; done) | (simp; omega)) _ ))) (by simp; try omega) hb1
      go_wp2
      go_ret2
      exact ⟨rfl, b1⟩

set_option maxHeartbeats 1000000 in
theorem rcost_all (W H : Int) (A P : Option Addr) (n c m d : Nat) (p q : Int → Int) (E V : Int) (w : World) (hA : ArrB w w.heap.size A n p) (hn : n ≤ maxLen) (hB : IsB p) (hP : ArrI w w.heap.size P m q) (hm : m ≤ maxLen) (hE : costE W H n p m q = E) (hV : costV W H n p m q = V) :
    Calls Try.prog 17 #[.agg #[.int .i64 W, .int .i64 H, .slice A n c], .slice P m d] w fun e w' => e = .returned (.tuple #[.int .i64 V, .int .i64 E]) ∧ Below w.heap.size w w' := by
  have CK := Lib.hid fun w' hA' => rcheck_any W H A n c p w' hA' hn hB
  by_cases hc : chk W H n p = 0
  · obtain ⟨hW1, hW2, hH1, hH2, hnn, hpx⟩ := chk_ok hc
    have IP := Lib.hid fun w' hP' => risPath_any W H A P n c m d q w' hW1 hH1 hW2 hH2 hP' hm
    have CO := Lib.hid fun w' hA' hP' hI => rcostOf_any W H A P n c m d p q w' hA' hP' hc hI
    rw [hc] at CK
    cases hI : isPathB W H m q
    · have hE1 : E = 1 := by rw [← hE]; unfold costE; rw [if_neg (by simp [hc]), hI]; rfl
      have hV1 : V = 0 := by rw [← hV]; unfold costV; rw [if_neg (by rw [hE, hE1]; decide)]
      subst hE1; subst hV1
      rw [hI] at IP
      clear hc hI hE hV hnn hpx CO
      go_enter Try.func17, Try.ntmps17
      go_wp2_with fail
      refine (CK.out _ (hA.to (by (repeat (first | exact Below.refl _ _ | assumption | refine Below.drew ?_ | refine below_drewN ?_ _ | refine Below.alloc ?_ (by first | omega | (simp; done) | (simp; omega)) _ | refine Below.setCell ?_ (by first | omega | (simp; done) | (simp; omega)) _ | refine below_setRow ?_ (by first | omega | (simp; done) | (simp; omega)) _ ))))).mono ?_
      rintro e w1 ⟨rfl, hb1⟩
      have b1 : Below w.heap.size w w1 := below_call (by (repeat (first | exact Below.refl _ _ | assumption | refine Below.drew ?_ | refine below_drewN ?_ _ | refine Below.alloc ?_ (by first | omega | (simp; done) | (simp; omega)) _ | refine Below.setCell ?_ (by first | omega | (simp; done) | (simp; omega)) _ | refine below_setRow ?_ (by first | omega | (simp; done) | (simp; omega)) _ ))) (by simp; try omega) hb1
      have k1 : Blk w1 w.heap.size 24 #[.int .i64 W, .int .i64 H, .slice A n c] := (Blk.new _ _ _).below' hb1
      clear hb1 CK
      obtain ⟨p1, p2, p3⟩ := k1.cells3
      go_wp2_with fail
      refine (IP.out _ (hP.to b1)).mono ?_
      rintro e w2 ⟨rfl, hb2⟩
      have b2 := below_call b1 b1.size hb2
      go_wp2
      go_ret2
      exact ⟨rfl, b2⟩
    · have hE1 : E = 0 := by rw [← hE]; unfold costE; rw [if_neg (by simp [hc]), hI]; rfl
      have hV1 : V = costP (cst p W) q m := by rw [← hV]; unfold costV; rw [if_pos (by rw [hE, hE1])]
      subst hE1; subst hV1
      have CO := Lib.hid fun w' hA' hP' => CO.out w' hA' hP' hI
      rw [hI] at IP
      clear hc hI hE hV hnn hpx
      generalize costP (cst p W) q m = V at *
      go_enter Try.func17, Try.ntmps17
      go_wp2_with fail
      refine (CK.out _ (hA.to (by (repeat (first | exact Below.refl _ _ | assumption | refine Below.drew ?_ | refine below_drewN ?_ _ | refine Below.alloc ?_ (by first | omega | (simp; done) | (simp; omega)) _ | refine Below.setCell ?_ (by first | omega | (simp; done) | (simp; omega)) _ | refine below_setRow ?_ (by first | omega | (simp; done) | (simp; omega)) _ ))))).mono ?_
      rintro e w1 ⟨rfl, hb1⟩
      have b1 : Below w.heap.size w w1 := below_call (by (repeat (first | exact Below.refl _ _ | assumption | refine Below.drew ?_ | refine below_drewN ?_ _ | refine Below.alloc ?_ (by first | omega | (simp; done) | (simp; omega)) _ | refine Below.setCell ?_ (by first | omega | (simp; done) | (simp; omega)) _ | refine below_setRow ?_ (by first | omega | (simp; done) | (simp; omega)) _ ))) (by simp; try omega) hb1
      have k1 : Blk w1 w.heap.size 24 #[.int .i64 W, .int .i64 H, .slice A n c] := (Blk.new _ _ _).below' hb1
      clear hb1 CK
      obtain ⟨p1, p2, p3⟩ := k1.cells3
      go_wp2_with fail
      refine (IP.out _ (hP.to b1)).mono ?_
      rintro e w2 ⟨rfl, hb2⟩
      have b2 := below_call b1 b1.size hb2
      have k2 := k1.below' hb2
      clear b1 k1 hb2 p1 p2 p3
      obtain ⟨p1, p2, p3⟩ := k2.cells3
      go_wp2_with fail
      refine (CO.out _ (hA.to b2) (hP.to b2)).mono ?_
      rintro e w3 ⟨rfl, hb3⟩
      have b3 := below_call b2 b2.size hb3
      go_wp2
      go_ret2
      exact ⟨rfl, b3⟩
  · have hz : chk W H n p = E := by rw [← hE]; unfold costE; rw [if_pos hc]
    have e : E ≠ 0 := by rw [← hz]; exact hc
    have hV1 : V = 0 := by rw [← hV]; unfold costV; rw [if_neg (by rw [hE]; exact e)]
    subst hV1
    rw [hz] at CK
    have hb : (E != 0) = true := by simp [e]
    have HE := Lib.hid e; clear e hc hz hE hV
    go_enter Try.func17, Try.ntmps17
    go_wp2_with fail
    refine (CK.out _ (hA.to (by (repeat (first | exact Below.refl _ _ | assumption | refine Below.drew ?_ | refine below_drewN ?_ _ | refine Below.alloc ?_ (by first | omega | (simp; done) | (simp; omega)) _ | refine Below.setCell ?_ (by first | omega | (simp; done) | (simp; omega)) _ | refine below_setRow ?_ (by first | omega | (simp; done) | (simp; omega)) _ ))))).mono ?_
    rintro e w1 ⟨rfl, hb1⟩
    have b1 : Below w.heap.size w w1 := below_call (by (repeat (first | exact Below.refl _ _ | assumption | refine Below.drew ?_ | refine below_drewN ?_ _ | refine Below.alloc ?_ (by first | omega | (simp; done) | (simp; omega)) _ | refine Below.setCell ?_ (by first | omega | (simp; done) | (simp; omega)) _ | refine below_setRow ?_ (by first | omega | (simp; done) | (simp; omega)) _ ))) (by simp; try omega) hb1
    go_wp2
    go_ret2
    exact ⟨rfl, b1⟩
end Go.Proofs.Ytdimlpcbbkokiaa
