/- Walk of clean.moved: what an image becomes when its columns are moved. -/
import Derived.Test.YtdimlpcbbkokiaaW3
import Derived.StillTailTactics
import Derived.BigRegion
import Derived.Deep.WholeRow
namespace Go.Proofs.Ytdimlpcbbkokiaa
open Go.RowKit
set_option linter.unusedVariables false

def movE (W H : Int) (n : Nat) (p : Int → Int) (k way : Int) : Int :=
  if chk W H n p ≠ 0 then chk W H n p else if k < -3 ∨ 3 < k then 1 else if H + way * grt W k < 0 ∨ 640 < H + way * grt W k then 2 else 0
def movQ (W H : Int) (p : Int → Int) (k way : Int) : Int → Int := fun i =>
  if 0 ≤ i / W - way * dropI W k (i % W) ∧ i / W - way * dropI W k (i % W) < H then p ((i / W - way * dropI W k (i % W)) * W + i % W) else 0
theorem chk_ok {W H : Int} {n : Nat} {p : Int → Int} (h : chk W H n p = 0) : 0 ≤ W ∧ W ≤ 640 ∧ 0 ≤ H ∧ H ≤ 640 ∧ (n : Int) = W * H ∧ ∀ i : Int, 0 ≤ i → i < n → p i ≤ 1 := by
  unfold chk at h
  split at h
  · rename_i hs
    split at h
    · rename_i hp
      obtain ⟨a, b, c, d, e⟩ := sidesB_iff.1 hs
      exact ⟨a, b, c, d, e, fun i h0 h1 => by simpa using allN_iff.1 hp i h0 h1⟩
    · omega
  · omega
theorem movE_ok {W H : Int} {n : Nat} {p : Int → Int} {k way : Int} (h : movE W H n p k way = 0) :
    chk W H n p = 0 ∧ -3 ≤ k ∧ k ≤ 3 ∧ 0 ≤ H + way * grt W k ∧ H + way * grt W k ≤ 640 := by
  unfold movE at h
  split at h
  · rename_i h1; exact absurd h h1
  · rename_i h1
    split at h
    · omega
    · split at h
      · omega
      · refine ⟨?_, by omega, by omega, by omega, by omega⟩
        exact Decidable.not_not.1 h1

/-- what has been moved before the pixel (x, y) -/
def movP (W : Int) (p : Int → Int) (k way y x : Int) : Int → Int := fun i =>
  if 0 ≤ i / W - way * dropI W k (i % W) ∧ (i / W - way * dropI W k (i % W) < y ∨ i / W - way * dropI W k (i % W) = y ∧ i % W < x) then p ((i / W - way * dropI W k (i % W)) * W + i % W) else 0
theorem emod_nn {i W : Int} (h0 : 0 ≤ i) (hW : 0 ≤ W) : 0 ≤ i % W := by
  by_cases e : W = 0
  · subst e; simpa using h0
  · exact Int.emod_nonneg _ e
theorem movP_start {W : Int} (p : Int → Int) (k way : Int) {i : Int} (h0 : 0 ≤ i) (hW : 0 ≤ W) : movP W p k way 0 0 i = 0 := by
  have := emod_nn h0 hW
  unfold movP; rw [if_neg]; omega
theorem movP_in {W : Int} {p : Int → Int} {k way y x t : Int} (hx0 : 0 ≤ x) (hx : x < W) (hy : 0 ≤ y) (ht : t = y + way * dropI W k x) (i : Int) :
    upd (movP W p k way y x) (t * W + x) (p (y * W + x)) i = movP W p k way y (x + 1) i := by
  unfold upd
  by_cases e : i = t * W + x
  · rw [if_pos e]
    unfold movP
    rw [e, idx_div hx0 hx, idx_mod hx0 hx]
    have hs : t - way * dropI W k x = y := by omega
    rw [hs, if_pos (by omega)]
  · rw [if_neg e]
    unfold movP
    have hX : ¬ (i / W - way * dropI W k (i % W) = y ∧ i % W = x) := by
      rintro ⟨h1, h2⟩
      rw [h2] at h1
      have h3 : i / W = t := by omega
      have h4 := Int.emod_add_mul_ediv i W
      rw [h2, h3, Int.mul_comm] at h4
      omega
    generalize i / W - way * dropI W k (i % W) = s at *
    generalize hq : p (s * W + i % W) = v
    clear hq
    generalize i % W = X at *
    by_cases c1 : 0 ≤ s ∧ (s < y ∨ s = y ∧ X < x)
    · rw [if_pos c1, if_pos (by omega)]
    · rw [if_neg c1, if_neg (by omega)]
theorem movP_out {W h : Int} {p : Int → Int} {k way y x t : Int} (hx0 : 0 ≤ x) (hx : x < W) (ht : t = y + way * dropI W k x) (ho : ¬ (0 ≤ t ∧ t < h)) {i : Int} (h0 : 0 ≤ i) (hi : i < W * h) :
    movP W p k way y x i = movP W p k way y (x + 1) i := by
  unfold movP
  have hX : ¬ (i / W - way * dropI W k (i % W) = y ∧ i % W = x) := by
    rintro ⟨h1, h2⟩
    rw [h2] at h1
    have h3 : 0 ≤ i / W := Int.ediv_nonneg h0 (by omega)
    have h4 : i / W < h := Int.ediv_lt_of_lt_mul (by omega) (by rw [Int.mul_comm]; exact hi)
    omega
  generalize i / W - way * dropI W k (i % W) = s at *
  generalize hq : p (s * W + i % W) = v
  clear hq
  generalize i % W = X at *
  by_cases c1 : 0 ≤ s ∧ (s < y ∨ s = y ∧ X < x)
  · rw [if_pos c1, if_pos (by omega)]
  · rw [if_neg c1, if_neg (by omega)]
theorem movP_row {W h : Int} {p : Int → Int} {k way y i : Int} (hW : 0 ≤ W) (h0 : 0 ≤ i) (hi : i < W * h) : movP W p k way y W i = movP W p k way (y + 1) 0 i := by
  unfold movP
  have hp : 0 < W := by
    rcases Int.lt_or_le 0 W with h | h
    · exact h
    · have : W = 0 := by omega
      subst this; simp at hi; omega
  have h1 := Int.emod_lt_of_pos i hp
  have h2 := Int.emod_nonneg i (show W ≠ 0 by omega)
  generalize i / W - way * dropI W k (i % W) = s at *
  generalize hq : p (s * W + i % W) = v
  clear hq
  generalize i % W = X at *
  by_cases c1 : 0 ≤ s ∧ (s < y ∨ s = y ∧ X < W)
  · rw [if_pos c1, if_pos (by omega)]
  · rw [if_neg c1, if_neg (by omega)]
theorem movP_end {W H h : Int} {p : Int → Int} {k way i : Int} (hW : 0 ≤ W) (h0 : 0 ≤ i) (hi : i < W * h) : movP W p k way H 0 i = movQ W H p k way i := by
  unfold movP movQ
  have h2 := emod_nn h0 hW
  generalize i / W - way * dropI W k (i % W) = s at *
  generalize hq : p (s * W + i % W) = v
  clear hq
  generalize i % W = X at *
  by_cases c1 : 0 ≤ s ∧ s < H
  · rw [if_pos c1, if_pos (by omega)]
  · rw [if_neg c1, if_neg (by omega)]
end Go.Proofs.Ytdimlpcbbkokiaa
