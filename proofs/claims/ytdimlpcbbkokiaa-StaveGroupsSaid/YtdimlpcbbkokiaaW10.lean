/- Walks: two lists of bytes, two images compared. -/
import Derived.Test.YtdimlpcbbkokiaaW5
namespace Go.Proofs.Ytdimlpcbbkokiaa
open Go.RowKit
set_option linter.unusedVariables false

def sameB (n m : Nat) (p q : Int → Int) : Bool := decide (n = m) && allN n fun i => decide (p i = q i)
theorem sameB_iff {n m : Nat} {p q : Int → Int} : sameB n m p q = true ↔ n = m ∧ ∀ i : Int, 0 ≤ i → i < n → p i = q i := by
  unfold sameB; rw [Bool.and_eq_true, decide_eq_true_iff, allN_iff]; simp

set_option maxHeartbeats 400000 in
theorem sameBytes_any (A B : Option Addr) (n m c d : Nat) (p q : Int → Int) (w : World) (hA : ArrB w w.heap.size A n p) (hB : ArrB w w.heap.size B m q) (hn : n ≤ maxLen) (hm : m ≤ maxLen) :
    Calls Try.prog 67 #[.slice A n c, .slice B m d] w fun e w' => e = .returned (.bool (sameB n m p q)) ∧ ∃ k, w' = w.drewN k := by
  unfold maxLen at hn hm
  by_cases hnm : n = m
  · subst hnm
    go_enter Try.func67, Try.ntmps67
    go_wp2
    go_loopw [5] (fun s wr => ∃ i : Int, 0 ≤ i ∧ i ≤ n ∧ s = .int .i64 i ∧ (∀ j : Int, 0 ≤ j → j < i → p j = q j) ∧ ∃ k, wr = w.drewN k) (fun s _ => n - (intOf s).toNat)
    case atStart => exact ⟨0, by omega, by omega, rfl, fun j a b => by omega, 0, rfl⟩
    case round =>
      obtain ⟨i, h0, hi, rfl, hall, k, rfl⟩ := hrel
      have HA := Lib.hid hall; clear hall
      by_cases hlt : i < n
      · obtain ⟨b, off, rfl, hb, hc⟩ := hA.at_ h0 hlt
        obtain ⟨b', off', rfl, hb', hc'⟩ := hB.at_ h0 hlt
        by_cases he : p i = q i
        · have hbool : (p i != q i) = false := by simp [he]
          have HE := Lib.hid he; clear he
          go_wp2_with fail
          go_quiet (fail)
          go_wp2
          go_roundw
          case rel =>
            refine ⟨i + 1, by omega, by omega, by go_num, fun j a b => ?_, _, rfl⟩
            by_cases e : j = i
            · rw [e]; exact HE.out
            · exact HA.out j a (by omega)
          case measure => simp [intOf]; omega
        · have hbool : (p i != q i) = true := by simp [he]
          have HE := Lib.hid he; clear he
          have hr : Hid (sameB n n p q = false) := by
            show _ = _
            rw [Bool.eq_false_iff]; intro h; exact HE.out ((sameB_iff.1 h).2 i h0 hlt)
          go_wp2_with fail
          go_quiet (fail)
          go_wp2
          go_ret
          exact ⟨ret_bool hr.out.symm, _, World.drewN_drewN _ _ _⟩
      · have hr : Hid (sameB n n p q = true) := by
          show _ = _
          exact sameB_iff.2 ⟨rfl, fun j a b => HA.out j a (by omega)⟩
        go_wp2
        go_ret
        exact ⟨ret_bool hr.out.symm, _, rfl⟩
  · have hr : Hid (sameB n m p q = false) := by
      show _ = _
      rw [Bool.eq_false_iff]; intro h; exact hnm (sameB_iff.1 h).1
    go_enter Try.func67, Try.ntmps67
    go_wp2
    all_goals
      go_ret
      exact ⟨ret_bool hr.out.symm, 0, rfl⟩

theorem drewN_below {w : World} (k : Nat) : Below w.heap.size w (w.drewN k) := below_drewN (Below.refl _ _) k

set_option maxHeartbeats 1000000 in
theorem sameInk_any (W H W' H' : Int) (A B : Option Addr) (n m c d : Nat) (p q : Int → Int) (w : World) (hA : ArrB w w.heap.size A n p) (hB : ArrB w w.heap.size B m q) (hn : n ≤ maxLen) (hm : m ≤ maxLen) :
    Calls Try.prog 21 #[.agg #[.int .i64 W, .int .i64 H, .slice A n c], .agg #[.int .i64 W', .int .i64 H', .slice B m d]] w
      fun e w' => e = .returned (.bool (decide (W = W') && decide (H = H') && sameB n m p q)) ∧ Below w.heap.size w w' := by
  have SA := Lib.hid fun w1 h1 h2 => sameBytes_any A B n m c d p q w1 h1 h2 hn hm
  by_cases hW : W = W'
  · subst hW
    by_cases hH : H = H'
    · subst hH
      have hr : Hid ((decide (W = W) && decide (H = H) && sameB n m p q) = sameB n m p q) := by show _ = _; simp
      rw [hr.out]
      go_enter Try.func21, Try.ntmps21
      go_wp2_with fail
      refine (SA.out _ (hA.to (by (repeat (first | exact Below.refl _ _ | assumption | refine Below.drew ?_ | refine below_drewN ?_ _ | refine Below.alloc ?_ (by first | omega | (simp; done) | (simp; omega)) _ | refine Below.setCell ?_ (by first | omega | (simp; done) | (simp; omega)) _ | refine below_setRow ?_ (by first | omega | (simp; done) | (simp; omega)) _ )))) (hB.to (by (repeat (first | exact Below.refl _ _ | assumption | refine Below.drew ?_ | refine below_drewN ?_ _ | refine Below.alloc ?_ (by first | omega | (simp; done) | (simp; omega)) _ | refine Below.setCell ?_ (by first | omega | (simp; done) | (simp; omega)) _ | refine below_setRow ?_ (by first | omega | (simp; done) | (simp; omega)) _ ))))).mono ?_
      rintro e w' ⟨rfl, k, rfl⟩
      generalize hb : sameB n m p q = b
      have HBB := Lib.hid hb; clear hb
      cases b <;> (go_wp2; go_ret; exact ⟨ret_bool HBB.out.symm, by (repeat (first | exact Below.refl _ _ | assumption | refine Below.drew ?_ | refine below_drewN ?_ _ | refine Below.alloc ?_ (by first | omega | (simp; done) | (simp; omega)) _ | refine Below.setCell ?_ (by first | omega | (simp; done) | (simp; omega)) _ | refine below_setRow ?_ (by first | omega | (simp; done) | (simp; omega)) _ ))⟩)
    · have hb : (H == H') = false := by simp [hH]
      have hr : Hid ((decide (W = W) && decide (H = H') && sameB n m p q) = false) := by show _ = _; simp [hH]
      rw [hr.out]
      have HH := Lib.hid hH; clear hH
      go_enter Try.func21, Try.ntmps21
      go_wp2
      go_ret
      exact ⟨rfl, by (repeat (first | exact Below.refl _ _ | assumption | refine Below.drew ?_ | refine below_drewN ?_ _ | refine Below.alloc ?_ (by first | omega | (simp; done) | (simp; omega)) _ | refine Below.setCell ?_ (by first | omega | (simp; done) | (simp; omega)) _ | refine below_setRow ?_ (by first | omega | (simp; done) | (simp; omega)) _ ))⟩
  · have hb : (W == W') = false := by simp [hW]
    have hr : Hid ((decide (W = W') && decide (H = H') && sameB n m p q) = false) := by show _ = _; simp [hW]
    rw [hr.out]
    have HW := Lib.hid hW; clear hW
    go_enter Try.func21, Try.ntmps21
    go_wp2
    go_ret
    exact ⟨rfl, by (repeat (first | exact Below.refl _ _ | assumption | refine Below.drew ?_ | refine below_drewN ?_ _ | refine Below.alloc ?_ (by first | omega | (simp; done) | (simp; omega)) _ | refine Below.setCell ?_ (by first | omega | (simp; done) | (simp; omega)) _ | refine below_setRow ?_ (by first | omega | (simp; done) | (simp; omega)) _ ))⟩

theorem sameInk_true (W H : Int) (A B : Option Addr) (n c d : Nat) (p q : Int → Int) (w : World) (hA : ArrB w w.heap.size A n p) (hB : ArrB w w.heap.size B n q) (hn : n ≤ maxLen) (he : ∀ i : Int, 0 ≤ i → i < n → p i = q i) :
    Calls Try.prog 21 #[.agg #[.int .i64 W, .int .i64 H, .slice A n c], .agg #[.int .i64 W, .int .i64 H, .slice B n d]] w
      fun e w' => e = .returned (.bool true) ∧ Below w.heap.size w w' :=
  (sameInk_any W H W H A B n n c d p q w hA hB hn hn).mono fun e w' ⟨h, hb⟩ => ⟨by rw [h, sameB_iff.2 ⟨rfl, he⟩]; simp, hb⟩
end Go.Proofs.Ytdimlpcbbkokiaa
