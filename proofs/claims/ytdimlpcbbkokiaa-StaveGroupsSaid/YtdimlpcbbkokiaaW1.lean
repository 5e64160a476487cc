/- Walks of the small functions of package image that every statement reaches: what each returns, and that it leaves the memory of its caller alone. -/
import Derived.Test.YtdimlpcbbkokiaaRows
import Derived.Test.YtdimlpcbbkokiaaLib
import Derived.BigQuiet
import Derived.Deep.QuietTactic
namespace Go.Proofs.Ytdimlpcbbkokiaa
open Go.RowKit
set_option linter.unusedVariables false

def sidesB (W H n : Int) : Bool := decide (0 ≤ W ∧ W ≤ 640 ∧ 0 ≤ H ∧ H ≤ 640 ∧ n = W * H)
theorem sidesB_iff {W H n : Int} : sidesB W H n = true ↔ 0 ≤ W ∧ W ≤ 640 ∧ 0 ≤ H ∧ H ≤ 640 ∧ n = W * H := by simp [sidesB]

set_option maxHeartbeats 400000 in
theorem sides_any (W H n : Int) (w : World) :
    Calls Try.prog 99 #[.int .i64 W, .int .i64 H, .int .i64 n] w fun e w' => e = .returned (.bool (sidesB W H n)) ∧ w = w' := by
  by_cases h : 0 ≤ W ∧ W ≤ 640 ∧ 0 ≤ H ∧ H ≤ 640
  · obtain ⟨h1, h2, h3, h4⟩ := h
    have hm : 0 ≤ W * H ∧ W * H ≤ 409600 := ⟨Int.mul_nonneg h1 h3, Int.le_trans (Int.mul_le_mul h2 h4 h3 (by omega)) (by omega)⟩
    obtain ⟨m1, m2⟩ := hm
    go_enter Try.func99, Try.ntmps99
    go_wp2
    go_ret
    exact ⟨by simp [sidesB, h1, h2, h3, h4]; rfl, rfl⟩
  · have h' : sidesB W H n = false := by simp [sidesB]; intro a b c d; exact absurd ⟨a, b, c, d⟩ h
    rw [h']
    by_cases a : 0 ≤ W
    · by_cases b : W ≤ 640
      · by_cases c : 0 ≤ H
        · have d : ¬ H ≤ 640 := fun d => h ⟨a, b, c, d⟩
          clear h h'
          go_enter Try.func99, Try.ntmps99
          go_wp2
          go_ret
          exact ⟨rfl, rfl⟩
        · clear h h'
          go_enter Try.func99, Try.ntmps99
          go_wp2
          go_ret
          exact ⟨rfl, rfl⟩
      · clear h h'
        go_enter Try.func99, Try.ntmps99
        go_wp2
        go_ret
        exact ⟨rfl, rfl⟩
    · clear h h'
      go_enter Try.func99, Try.ntmps99
      go_wp2
      go_ret
      exact ⟨rfl, rfl⟩

/-- the first index at which f holds; -1 if there is none -/
def idxF (f : Int → Bool) : Nat → Int
  | 0 => -1
  | n + 1 => if 0 ≤ idxF f n then idxF f n else if f n then n else -1
theorem idxF_none {f : Int → Bool} {n : Nat} (h : ∀ i : Int, 0 ≤ i → i < n → f i = false) : idxF f n = -1 := by
  induction n with
  | zero => rfl
  | succ n ih => rw [idxF, ih (fun i a b => h i a (by omega)), h n (by omega) (by omega)]; simp
theorem idxF_some {f : Int → Bool} {n k : Nat} (h : ∀ i : Int, 0 ≤ i → i < k → f i = false) (hk : f k = true) (hn : k < n) : idxF f n = k := by
  induction n with
  | zero => omega
  | succ n ih =>
    rw [idxF]
    by_cases e : k = n
    · subst e; rw [idxF_none h, hk]; simp
    · rw [ih (by omega)]; simp
theorem idxF_iff {f : Int → Bool} {n : Nat} : (0 ≤ idxF f n) ↔ ∃ i : Int, 0 ≤ i ∧ i < n ∧ f i = true := by
  induction n with
  | zero => simp [idxF]; intro i h1 h2; omega
  | succ n ih =>
    rw [idxF]
    by_cases h : 0 ≤ idxF f n
    · rw [if_pos h]
      simp only [h, true_iff]
      obtain ⟨i, a, b, c⟩ := ih.1 h
      exact ⟨i, a, by omega, c⟩
    · rw [if_neg h]
      by_cases c : f n = true
      · simp only [c, if_true]
        exact ⟨fun _ => ⟨n, by omega, by omega, c⟩, fun _ => by omega⟩
      · simp only [c]
        constructor
        · intro x; simp at x
        · rintro ⟨i, a, b, d⟩
          exfalso
          by_cases e : i = n
          · subst e; exact c d
          · exact h (ih.2 ⟨i, a, by omega, d⟩)

set_option maxHeartbeats 400000 in
theorem idxFuncB (fid : Nat) (hent : ∀ args w, (callFunc fid args).run Try.prog w = .ok (.enter fid args) w) (f : Int → Bool) (hf : ∀ v W, Calls Try.prog fid #[.int .u8 v] W fun e W' => e = .returned (.bool (f v)) ∧ W = W')
    (A : Option Addr) (n c : Nat) (p : Int → Int) (w : World) (hA : ArrB w w.heap.size A n p) (hn : n ≤ maxLen) :
    Calls Try.prog 120 #[.slice A n c, .func (.func fid) #[] #[]] w fun e w' => e = .returned (.int .i64 (idxF (fun i => f (p i)) n)) ∧ w = w' := by
  unfold maxLen at hn
  have HF := Lib.hid hf; clear hf
  go_enter Try.func120, Try.ntmps120
  go_wp2
  go_loop [8] (fun i => ∃ k : Int, 0 ≤ k ∧ k ≤ n ∧ i = .int .i64 k ∧ ∀ j : Int, 0 ≤ j → j < k → f (p j) = false) (fun i => n - (intOf i).toNat)
  case atStart => exact ⟨0, by omega, by omega, rfl, fun j a b => by omega⟩
  case round =>
    obtain ⟨k, h0, hk, rfl, hno⟩ := hrel
    have HN := Lib.hid hno; clear hno
    by_cases hlt : k < n
    · obtain ⟨b, off, rfl, hb, hc⟩ := hA.at_ h0 hlt
      cases hfk : f (p k)
      · have HK := Lib.hid hfk; clear hfk
        go_wp2_with fail
        refine (HF.out _ _).mono ?_
        rintro e w' ⟨rfl, rfl⟩
        rw [HK.out]
        go_wp2
        go_round
        case rel =>
          refine ⟨k + 1, by omega, by omega, by go_num, fun j a b => ?_⟩
          by_cases e : j = k
          · rw [e]; exact HK.out
          · exact HN.out j a (by omega)
        case measure => simp [intOf]; omega
      · have HK := Lib.hid hfk; clear hfk
        go_wp2_with fail
        refine (HF.out _ _).mono ?_
        rintro e w' ⟨rfl, rfl⟩
        rw [HK.out]
        go_wp2
        go_ret
        refine ⟨ret_int ?_, rfl⟩
        obtain ⟨k', rfl⟩ := Int.eq_ofNat_of_zero_le h0
        rw [idxF_some HN.out HK.out (by omega)]
    · go_wp2
      go_ret
      refine ⟨ret_int ?_, rfl⟩
      rw [idxF_none fun i a b => HN.out i a (by omega)]
end Go.Proofs.Ytdimlpcbbkokiaa
