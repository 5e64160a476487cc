/- Walk: the closure of best in one piece; the table of least costs while it is filled. -/
import Derived.Test.YtdimlpcbbkokiaaT5
namespace Go.Proofs.Ytdimlpcbbkokiaa
open Go.RowKit
set_option linter.unusedVariables false

def NV : Int := 1073741824
theorem from_all (W H x y : Int) (Bf Bw Bh Br Bi gr N : Nat) (Fa A : Option Addr) (fc n c : Nat) (fb : Int → Bool) (R p : Int → Int) (w : World) (k : BestK w W H Bf Bw Bh Br Bi gr N Fa A fc n c fb R p)
    (hE : chk W H n p = 0) (hB : IsB p) (hN : (N : Int) = W * H) (x0 : 0 ≤ x) (x1 : x < W) (y0 : 0 ≤ y) (y1 : y < H)
    (hR : x < W - 1 → ∀ t, 0 ≤ t → t < H → R (t * W + (x + 1)) = gAt 1073741824 W H (cst p W) (fun x y => fb (y * W + x)) (x + 1) t) :
    Calls Try.prog 103 #[.int .i64 x, .int .i64 y, .pointer (some ⟨Bf, 0, none⟩), .pointer (some ⟨Bw, 0, none⟩), .pointer (some ⟨Bh, 0, none⟩), .pointer (some ⟨Br, 0, none⟩), .pointer (some ⟨Bi, 0, none⟩)] w
      fun e w' => e = .returned (.int .i64 (gAt 1073741824 W H (cst p W) (fun x y => fb (y * W + x)) x y)) ∧ Below w.heap.size w w' := by
  obtain ⟨hW1, hW2, hH1, hH2, -, -⟩ := chk_ok hE
  cases hf : fb (y * W + x)
  · by_cases hx : x < W - 1
    · rw [gAt_step x0 hx, if_neg (by simp [hf])]
      exact from_step W H x y Bf Bw Bh Br Bi gr N Fa A fc n c fb R p _ w k hE hB hN x0 hx y0 y1 hf (hR hx) (fun t a b => by
        have := gAt_bd (N := 1073741824) (W := W) (H := H) (F := fun x y => fb (y * W + x)) (cst_bd p W) (by omega) (x := x + 1) (by omega) (by omega) a b
        omega)
    · obtain rfl : x = W - 1 := by omega
      rw [gAt_last, if_neg (by simp [hf])]
      exact from_last W H (W - 1) y Bf Bw Bh Br Bi gr N Fa A fc n c fb R p w k hE hB hN x0 x1 hx y0 y1 hf
  · have e : gAt 1073741824 W H (cst p W) (fun x y => fb (y * W + x)) x y = 1073741824 := by
      by_cases hx : x < W - 1
      · rw [gAt_step x0 hx, if_pos hf]
      · obtain rfl : x = W - 1 := by omega
        rw [gAt_last, if_pos hf]
    rw [e]
    exact from_never W H x y Bf Bw Bh Br Bi gr N Fa A fc n c fb R p w k hE hN x0 x1 y0 y1 hf

/-- the table of least costs: the columns behind x are done, and the first y rows of column x -/
def restR (W : Int) (G : Int → Int → Int) (x y : Int) : Int → Int := fun i => if x < i % W ∨ (i % W = x ∧ i / W < y) then G (i % W) (i / W) else 0
theorem restR_start {W : Int} {G : Int → Int → Int} {i : Int} (hW : 0 < W) (h0 : 0 ≤ i) : restR W G (W - 1) 0 i = 0 := by
  have h1 : i % W < W := Int.emod_lt_of_pos _ hW
  have h2 : 0 ≤ i / W := Int.ediv_nonneg h0 (by omega)
  unfold restR; rw [if_neg (by omega)]
theorem restR_set {W : Int} {G : Int → Int → Int} {x y : Int} (hx0 : 0 ≤ x) (hx : x < W) (i : Int) : upd (restR W G x y) (y * W + x) (G x y) i = restR W G x (y + 1) i := by
  have a := idx_mod (y := y) hx0 hx
  have b := idx_div (y := y) hx0 hx
  show (if i = y * W + x then G x y else restR W G x y i) = _
  by_cases e : i = y * W + x
  · rw [if_pos e]; subst e
    unfold restR
    rw [a, b, if_pos (by omega)]
  · rw [if_neg e]
    unfold restR
    have : ¬ (i / W = y ∧ i % W = x) := fun ⟨h1, h2⟩ => e (by
      have := Int.emod_add_mul_ediv i W
      rw [h1, h2, Int.mul_comm] at this; omega)
    by_cases e2 : x < i % W ∨ (i % W = x ∧ i / W < y)
    · rw [if_pos e2, if_pos (by omega)]
    · rw [if_neg e2, if_neg (by omega)]
theorem restR_col {W H : Int} {G : Int → Int → Int} {x i : Int} (hW : 0 < W) (h0 : 0 ≤ i) (hi : i < W * H) : restR W G x H i = restR W G (x - 1) 0 i := by
  have h1 : i / W < H := Int.ediv_lt_of_lt_mul hW (by rw [Int.mul_comm]; exact hi)
  have h2 : 0 ≤ i / W := Int.ediv_nonneg h0 (by omega)
  unfold restR
  by_cases e : x < i % W ∨ (i % W = x ∧ i / W < H)
  · rw [if_pos e, if_pos (by omega)]
  · rw [if_neg e, if_neg (by omega)]
theorem restR_at {W : Int} {G : Int → Int → Int} {x y t u : Int} (hu0 : 0 ≤ u) (hu : u < W) (h : x < u) : restR W G x y (t * W + u) = G u t := by
  unfold restR
  rw [idx_mod hu0 hu, idx_div hu0 hu, if_pos (by omega)]
end Go.Proofs.Ytdimlpcbbkokiaa
