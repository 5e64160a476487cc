/- Plain laws: the greatest of the drops; the errors and the images of the reference's moves. No program in sight. -/
import Derived.Test.YtanbheeekpdkbaaQ1
namespace Go.Proofs.Ytanbheeekpdkbaa
open Go.RowKit
set_option linter.unusedVariables false

def mxS (W k : Int) : Nat → Int
  | 0 => 0
  | n + 1 => if mxS W k n ≤ dropI W k n then dropI W k n else mxS W k n
theorem mxS_eq {W k : Int} (h3 : -3 ≤ k) (h4 : k ≤ 3) (n : Nat) (hn : n ≤ W) : mxS W k n = if n = 0 then 0 else if k < 0 then (W - 1) * (-k) / 64 else ((n : Int) - 1) * k / 64 := by
  induction n with
  | zero => rfl
  | succ n ih =>
    rw [mxS, ih (by omega)]
    unfold dropI
    rcases (by omega : k = -3 ∨ k = -2 ∨ k = -1 ∨ k = 0 ∨ k = 1 ∨ k = 2 ∨ k = 3) with rfl | rfl | rfl | rfl | rfl | rfl | rfl <;> simp only [reduceIte, Int.reduceNeg, Int.reduceLT, Int.neg_neg] <;> by_cases e : n = 0
    all_goals first | subst e | skip
    all_goals simp only [*, reduceIte, Nat.reduceAdd, Int.natCast_add, Int.natCast_one, Int.natCast_zero, Int.sub_zero, Nat.add_eq_zero_iff, Nat.succ_ne_zero, and_false]
    all_goals (split <;> omega)
theorem mxS_grt {W k : Int} (h1 : 0 ≤ W) (h3 : -3 ≤ k) (h4 : k ≤ 3) : mxS W k W.toNat = grt W k := by
  rw [mxS_eq h3 h4 _ (by omega)]
  unfold grt
  rcases (by omega : k = -3 ∨ k = -2 ∨ k = -1 ∨ k = 0 ∨ k = 1 ∨ k = 2 ∨ k = 3) with rfl | rfl | rfl | rfl | rfl | rfl | rfl <;> (simp only [reduceIte, Int.reduceNeg, Int.reduceLT, Int.neg_neg]; split <;> split <;> omega)
theorem mxS_bd {W k : Int} (h2 : W ≤ 640) (h3 : -3 ≤ k) (h4 : k ≤ 3) (n : Nat) (hn : n ≤ W) : 0 ≤ mxS W k n ∧ mxS W k n ≤ 29 := by
  rw [mxS_eq h3 h4 _ hn]
  rcases (by omega : k = -3 ∨ k = -2 ∨ k = -1 ∨ k = 0 ∨ k = 1 ∨ k = 2 ∨ k = 3) with rfl | rfl | rfl | rfl | rfl | rfl | rfl <;> (simp only [reduceIte, Int.reduceNeg, Int.reduceLT, Int.neg_neg]; split <;> omega)
theorem mxS_up {W k : Int} {n : Nat} (h : mxS W k n ≤ dropI W k n) : mxS W k (n + 1) = dropI W k n := by rw [mxS, if_pos h]
theorem mxS_no {W k : Int} {n : Nat} (h : ¬ mxS W k n ≤ dropI W k n) : mxS W k (n + 1) = mxS W k n := by rw [mxS, if_neg h]

/-- what the reference has drawn before the place (x, y), row by row of the new image -/
def drawR (W H : Int) (p : Int → Int) (k way y x : Int) : Int → Int := fun i => if i / W < y ∨ i / W = y ∧ i % W < x then movR W H p k way i else 0
theorem drawR_start {W H : Int} {p : Int → Int} {k way i : Int} (h0 : 0 ≤ i) (hW : 0 ≤ W) : drawR W H p k way 0 0 i = 0 := by
  unfold drawR
  have := emod_nn h0 hW
  have h2 : 0 ≤ i / W := Int.ediv_nonneg h0 hW
  rw [if_neg (by omega)]
theorem drawR_row {W h H : Int} {p : Int → Int} {k way y i : Int} (hW : 0 ≤ W) (h0 : 0 ≤ i) (hi : i < W * h) : drawR W H p k way y W i = drawR W H p k way (y + 1) 0 i := by
  have hW' : 0 < W := by
    rcases Int.lt_or_le 0 W with h | h
    · exact h
    · obtain rfl : W = 0 := by omega
      simp at hi; omega
  have h1 : 0 ≤ i % W := Int.emod_nonneg _ (by omega)
  have h2 : i % W < W := Int.emod_lt_of_pos _ hW'
  unfold drawR
  by_cases e : i / W < y + 1
  · rw [if_pos (by omega), if_pos (by omega)]
  · rw [if_neg (by omega), if_neg (by omega)]
theorem drawR_end {W h H : Int} {p : Int → Int} {k way i : Int} (hW : 0 ≤ W) (h0 : 0 ≤ i) (hi : i < W * h) : drawR W H p k way h 0 i = movR W H p k way i := by
  have hW' : 0 < W := by
    rcases Int.lt_or_le 0 W with h | h
    · exact h
    · obtain rfl : W = 0 := by omega
      simp at hi; omega
  have : i / W < h := Int.ediv_lt_of_lt_mul hW' (by rw [Int.mul_comm]; exact hi)
  unfold drawR
  rw [if_pos (by omega)]
theorem drawR_yes {W H : Int} {p : Int → Int} {k way y x i : Int} (hx0 : 0 ≤ x) (hx : x < W) (h : inkB W H p x (y - way * dropI W k x) = true) : upd (drawR W H p k way y x) (y * W + x) 1 i = drawR W H p k way y (x + 1) i := by
  have a := idx_mod (y := y) hx0 hx
  have b := idx_div (y := y) hx0 hx
  show (if i = y * W + x then (1 : Int) else drawR W H p k way y x i) = _
  by_cases e : i = y * W + x
  · rw [if_pos e]; subst e
    unfold drawR movR
    rw [a, b, if_pos (by omega), if_pos h]
  · rw [if_neg e]
    unfold drawR
    have : ¬ (i / W = y ∧ i % W = x) := fun ⟨h1, h2⟩ => e (by
      have := Int.emod_add_mul_ediv i W
      rw [h1, h2, Int.mul_comm] at this; omega)
    by_cases e2 : i / W < y ∨ i / W = y ∧ i % W < x
    · rw [if_pos e2, if_pos (by omega)]
    · rw [if_neg e2, if_neg (by omega)]
theorem drawR_no {W H : Int} {p : Int → Int} {k way y x i : Int} (hx0 : 0 ≤ x) (hx : x < W) (h : inkB W H p x (y - way * dropI W k x) = false) : drawR W H p k way y x i = drawR W H p k way y (x + 1) i := by
  have a := idx_mod (y := y) hx0 hx
  have b := idx_div (y := y) hx0 hx
  unfold drawR
  by_cases e : i / W = y ∧ i % W = x
  · rw [if_neg (by omega), if_pos (by omega)]
    unfold movR
    rw [e.1, e.2, if_neg (by rw [h]; simp)]
  · by_cases e2 : i / W < y ∨ i / W = y ∧ i % W < x
    · rw [if_pos e2, if_pos (by omega)]
    · rw [if_neg e2, if_neg (by omega)]

/-- the row y is full before the place x -/
theorem rowB_step (p : Int → Int) (b : Int) (x : Nat) : rowB (x + 1) p b = (rowB x p b && decide (p (b + x) = 1)) := rfl
theorem fullR_yes {W : Int} {p : Int → Int} {m : Nat} (h : 0 < W) (e : rowB W.toNat p (m * W) = true) : fullR W p (m + 1) = fullR W p m + 1 := by
  unfold fullR; rw [if_pos h, if_pos h, sumN, if_pos e]
theorem fullR_no {W : Int} {p : Int → Int} {m : Nat} (h : 0 < W) (e : rowB W.toNat p (m * W) = false) : fullR W p (m + 1) = fullR W p m := by
  unfold fullR; rw [if_pos h, if_pos h, sumN, if_neg (by rw [e]; simp)]; simp
end Go.Proofs.Ytanbheeekpdkbaa
