/- Plain laws: an image that is filled place by place, row by row. No program in sight. -/
import Derived.Test.YtanbheeekpdkbaaW4
namespace Go.Proofs.Ytanbheeekpdkbaa
open Go.RowKit
set_option linter.unusedVariables false

/-- what is filled before the place (x, y) -/
def ras (W : Int) (f : Int → Int) (y x : Int) : Int → Int := fun i => if i / W < y ∨ i / W = y ∧ i % W < x then f i else 0
theorem ras_start {W : Int} {f : Int → Int} {i : Int} (h0 : 0 ≤ i) (hW : 0 ≤ W) : ras W f 0 0 i = 0 := by
  unfold ras
  have := emod_nn h0 hW
  have h2 : 0 ≤ i / W := Int.ediv_nonneg h0 hW
  rw [if_neg (by omega)]
theorem ras_W {W h i : Int} (hW : 0 ≤ W) (h0 : 0 ≤ i) (hi : i < W * h) : 0 < W := by
  rcases Int.lt_or_le 0 W with h | h
  · exact h
  · obtain rfl : W = 0 := by omega
    simp at hi; omega
theorem ras_row {W h : Int} {f : Int → Int} {y i : Int} (hW : 0 ≤ W) (h0 : 0 ≤ i) (hi : i < W * h) : ras W f y W i = ras W f (y + 1) 0 i := by
  have hW' := ras_W hW h0 hi
  have h1 : 0 ≤ i % W := Int.emod_nonneg _ (by omega)
  have h2 : i % W < W := Int.emod_lt_of_pos _ hW'
  unfold ras
  by_cases e : i / W < y + 1
  · rw [if_pos (by omega), if_pos (by omega)]
  · rw [if_neg (by omega), if_neg (by omega)]
theorem ras_end {W h : Int} {f : Int → Int} {i : Int} (hW : 0 ≤ W) (h0 : 0 ≤ i) (hi : i < W * h) : ras W f h 0 i = f i := by
  have hW' := ras_W hW h0 hi
  have : i / W < h := Int.ediv_lt_of_lt_mul hW' (by rw [Int.mul_comm]; exact hi)
  unfold ras
  rw [if_pos (by omega)]
theorem ras_set {W : Int} {f : Int → Int} {y x v : Int} (hx0 : 0 ≤ x) (hx : x < W) (hv : v = f (y * W + x)) (i : Int) : upd (ras W f y x) (y * W + x) v i = ras W f y (x + 1) i := by
  have a := idx_mod (y := y) hx0 hx
  have b := idx_div (y := y) hx0 hx
  show (if i = y * W + x then v else ras W f y x i) = _
  by_cases e : i = y * W + x
  · rw [if_pos e]; subst e
    unfold ras
    rw [a, b, if_pos (by omega), hv]
  · rw [if_neg e]
    unfold ras
    have : ¬ (i / W = y ∧ i % W = x) := fun ⟨h1, h2⟩ => e (by
      have := Int.emod_add_mul_ediv i W
      rw [h1, h2, Int.mul_comm] at this; omega)
    by_cases e2 : i / W < y ∨ i / W = y ∧ i % W < x
    · rw [if_pos e2, if_pos (by omega)]
    · rw [if_neg e2, if_neg (by omega)]
theorem ras_skip {W : Int} {f : Int → Int} {y x : Int} (hx0 : 0 ≤ x) (hx : x < W) (hv : f (y * W + x) = 0) (i : Int) : ras W f y x i = ras W f y (x + 1) i := by
  have a := idx_mod (y := y) hx0 hx
  have b := idx_div (y := y) hx0 hx
  unfold ras
  by_cases e : i / W = y ∧ i % W = x
  · rw [if_neg (by omega), if_pos (by omega)]
    have : i = y * W + x := by
      have := Int.emod_add_mul_ediv i W
      rw [e.1, e.2, Int.mul_comm] at this; omega
    rw [this, hv]
  · by_cases e2 : i / W < y ∨ i / W = y ∧ i % W < x
    · rw [if_pos e2, if_pos (by omega)]
    · rw [if_neg e2, if_neg (by omega)]
/-- an image repeated sidewards -/
def repQ (W W2 : Int) (q : Int → Int) : Int → Int := fun i => q (i / W2 * W + i % W2 % W)
theorem repQ_at {W W2 x y : Int} {q : Int → Int} (h0 : 0 ≤ x) (h : x < W2) : repQ W W2 q (y * W2 + x) = q (y * W + x % W) := by
  unfold repQ; rw [idx_div h0 h, idx_mod h0 h]
end Go.Proofs.Ytanbheeekpdkbaa
