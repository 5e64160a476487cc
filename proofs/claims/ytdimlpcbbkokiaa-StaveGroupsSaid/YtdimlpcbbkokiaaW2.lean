/- Walks: the checks of an image, new images, the drops of the columns. -/
import Derived.Test.YtdimlpcbbkokiaaW1
namespace Go.Proofs.Ytdimlpcbbkokiaa
open Go.RowKit
set_option linter.unusedVariables false

theorem enter49 (args : Array Value) (w : World) : (callFunc 101 args).run Try.prog w = .ok (.enter 101 args) w := by kernel_rfl

theorem check1_any (v : Int) (w : World) : Calls Try.prog 101 #[.int .u8 v] w fun e w' => e = .returned (.bool (decide (1 < v))) ∧ w = w' := by
  go_enter Try.func101, Try.ntmps101
  go_wp2
  go_ret
  exact ⟨rfl, rfl⟩

def pixB (n : Nat) (p : Int → Int) : Bool := allN n fun i => decide (p i ≤ 1)
theorem pixB_idx (n : Nat) (p : Int → Int) : decide (0 ≤ idxF (fun i => decide (1 < p i)) n) = !pixB n p := by
  rw [Bool.eq_iff_iff, decide_eq_true_iff, idxF_iff, Bool.not_eq_true', ← Bool.not_eq_true, pixB, allN_iff]
  constructor
  · rintro ⟨i, a, b, c⟩ h
    have := h i a b
    simp at c this; omega
  · intro h
    refine Classical.byContradiction fun hno => h fun i a b => ?_
    simp only [decide_eq_true_iff]
    refine Classical.byContradiction fun hc => hno ⟨i, a, b, by simp; omega⟩

theorem containsB (fid : Nat) (hent : ∀ args w, (callFunc fid args).run Try.prog w = .ok (.enter fid args) w) (f : Int → Bool) (hf : ∀ v W, Calls Try.prog fid #[.int .u8 v] W fun e W' => e = .returned (.bool (f v)) ∧ W = W')
    (A : Option Addr) (n c : Nat) (p : Int → Int) (w : World) (hA : ArrB w w.heap.size A n p) (hn : n ≤ maxLen) :
    Calls Try.prog 100 #[.slice A n c, .func (.func fid) #[] #[]] w fun e w' => e = .returned (.bool (decide (0 ≤ idxF (fun i => f (p i)) n))) ∧ w = w' := by
  go_enter Try.func100, Try.ntmps100
  go_wp2_with (go_at_call 120; refine (idxFuncB fid hent f hf A n c p _ hA hn).mono ?_; rintro e w' ⟨rfl, rfl⟩)
  go_ret
  exact ⟨rfl, rfl⟩

def chk (W H : Int) (n : Nat) (p : Int → Int) : Int := if sidesB W H n then (if pixB n p then 0 else 3) else 2

set_option maxHeartbeats 400000 in
theorem check_any (W H : Int) (A : Option Addr) (n c : Nat) (p : Int → Int) (w : World) (hA : ArrB w w.heap.size A n p) (hn : n ≤ maxLen) :
    Calls Try.prog 58 #[.agg #[.int .i64 W, .int .i64 H, .slice A n c]] w fun e w' => e = .returned (.int .i64 (chk W H n p)) ∧ Below w.heap.size w w' := by
  have HB : Below w.heap.size w (w.alloc (.cells #[.int .i64 W, .int .i64 H, .slice A n c] 24)) := by (repeat (first | exact Below.refl _ _ | assumption | refine Below.drew ?_ | refine below_drewN ?_ _ | refine Below.alloc ?_ (by first | omega | (simp; done) | (simp; omega)) _ | refine Below.setCell ?_ (by first | omega | (simp; done) | (simp; omega)) _ | refine below_setRow ?_ (by first | omega | (simp; done) | (simp; omega)) _ ))
  cases hs : sidesB W H n
  · have hr : Hid (chk W H n p = 2) := by show _ = _; unfold chk; rw [hs]; rfl
    have hs' := Lib.hid hs; clear hs
    go_enter Try.func58, Try.ntmps58
    go_wp2_with (go_at_call 99; refine (sides_any _ _ _ _).mono ?_; rintro e w' ⟨rfl, rfl⟩; rw [hs'.out])
    go_ret
    exact ⟨ret_int hr.out.symm, HB⟩
  · have hs' := Lib.hid hs; clear hs
    cases hq : pixB n p
    · have hr : Hid (chk W H n p = 3) := by show _ = _; unfold chk; rw [hs'.out, hq]; rfl
      have hq' : Hid (decide (0 ≤ idxF (fun i => decide (1 < p i)) n) = true) := by show _ = _; rw [pixB_idx, hq]; rfl
      clear hq
      go_enter Try.func58, Try.ntmps58
      go_wp2_with (first
        | (go_at_call 99; refine (sides_any _ _ _ _).mono ?_; rintro e w' ⟨rfl, rfl⟩; rw [hs'.out])
        | (go_at_call 100; refine (containsB 101 enter49 _ check1_any A n c p _ (hA.to HB) hn).mono ?_; rintro e w' ⟨rfl, rfl⟩; rw [hq'.out]))
      go_ret
      exact ⟨ret_int hr.out.symm, HB⟩
    · have hr : Hid (chk W H n p = 0) := by show _ = _; unfold chk; rw [hs'.out, hq]; rfl
      have hq' : Hid (decide (0 ≤ idxF (fun i => decide (1 < p i)) n) = false) := by show _ = _; rw [pixB_idx, hq]; rfl
      clear hq
      go_enter Try.func58, Try.ntmps58
      go_wp2_with (first
        | (go_at_call 99; refine (sides_any _ _ _ _).mono ?_; rintro e w' ⟨rfl, rfl⟩; rw [hs'.out])
        | (go_at_call 100; refine (containsB 101 enter49 _ check1_any A n c p _ (hA.to HB) hn).mono ?_; rintro e w' ⟨rfl, rfl⟩; rw [hq'.out]))
      go_ret
      exact ⟨ret_int hr.out.symm, HB⟩

end Go.Proofs.Ytdimlpcbbkokiaa
