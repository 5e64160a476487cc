/- Plain laws: full rows counted by sums and by pixels; moved images of pixels. No program in sight. -/
import Derived.Test.YtdimlpcbbkokiaaW13
namespace Go.Proofs.Ytdimlpcbbkokiaa
open Go.RowKit
set_option linter.unusedVariables false

/-- the row y of the pixels is full -/
def rowB (W : Nat) (p : Int → Int) (b : Int) : Bool := allN W fun x => decide (p (b + x) = 1)
theorem sumN_one {n : Nat} {f : Int → Int} (h : ∀ i : Int, 0 ≤ i → i < n → f i = 0 ∨ f i = 1) : sumN n f ≤ n ∧ 0 ≤ sumN n f ∧ (sumN n f = n ↔ allN n (fun i => decide (f i = 1)) = true) := by
  induction n with
  | zero => simp [sumN, allN]
  | succ n ih =>
    obtain ⟨a, b, c⟩ := ih (fun i h0 hi => h i h0 (by omega))
    have d := h n (by omega) (by omega)
    rw [sumN, allN, Bool.and_eq_true, ← c]
    simp only [decide_eq_true_eq]
    refine ⟨by omega, by omega, ?_⟩
    omega
/-- the row's pixels, before place m -/
theorem rowS_part {W y : Nat} {p : Int → Int} (hW : 0 < W) (m : Nat) : rowS W m p y = sumN (min (m - y * W) W) (fun x => p (y * W + x)) := by
  induction m with
  | zero => simp [rowS, sumN]
  | succ m ih =>
    have hs : rowS W (m + 1) p y = rowS W m p y + (if (m : Int) / W = y then p m else 0) := rfl
    rw [hs, ih]
    have hd : (m : Int) / (W : Int) = ((m / W : Nat) : Int) := (Int.natCast_ediv m W).symm
    rw [hd]
    by_cases h : m / W = y
    · have h1 : y * W ≤ m := by rw [← h]; exact Nat.div_mul_le_self m W
      have h2 : m < y * W + W := by
        have := Nat.lt_div_mul_add (a := m) hW
        rw [h] at this; omega
      rw [if_pos (by rw [h])]
      have e1 : min (m - y * W) W = m - y * W := by omega
      have e2 : min (m + 1 - y * W) W = (m - y * W) + 1 := by omega
      rw [e1, e2, sumN]
      congr 2
      omega
    · rw [if_neg (by omega)]
      have hh : m < y * W ∨ y * W + W ≤ m := by
        rcases Nat.lt_or_ge (m / W) y with h' | h'
        · left
          exact (Nat.div_lt_iff_lt_mul hW).1 h'
        · right
          have : y + 1 ≤ m / W := by omega
          have := (Nat.le_div_iff_mul_le hW).1 this
          rw [Nat.add_mul] at this; omega
      rcases hh with hh | hh
      · have e1 : min (m - y * W) W = 0 := by omega
        have e2 : min (m + 1 - y * W) W = 0 := by omega
        rw [e1, e2]; simp [sumN]
      · have e1 : min (m - y * W) W = W := by omega
        have e2 : min (m + 1 - y * W) W = W := by omega
        rw [e1, e2]; simp
theorem rowS_row {W H n y : Nat} {p : Int → Int} (hW : 0 < W) (hn : n = H * W) (hy : y < H) : rowS W n p y = sumN W (fun x => p (y * W + x)) := by
  rw [rowS_part hW]
  have : (y + 1) * W ≤ H * W := Nat.mul_le_mul_right _ hy
  rw [Nat.add_mul] at this
  have e : min (n - y * W) W = W := by omega
  rw [e]
theorem rowS_iff {W H : Int} {n y : Nat} {p : Int → Int} (hW : 0 < W) (hn : (n : Int) = W * H) (hB : IsB p) (hp : ∀ i : Int, 0 ≤ i → i < n → p i ≤ 1) (hy : (y : Int) < H) :
    rowS W n p y = W ↔ rowB W.toNat p (y * W) = true := by
  obtain ⟨Wn, rfl⟩ : ∃ Wn : Nat, W = Wn := ⟨W.toNat, by omega⟩
  obtain ⟨Hn, rfl⟩ : ∃ Hn : Nat, H = Hn := ⟨H.toNat, by omega⟩
  have hn' : n = Hn * Wn := by rw [Int.mul_comm, ← Int.natCast_mul] at hn; omega
  rw [rowS_row (by omega) hn' (by omega)]
  have := (sumN_one (n := Wn) (f := fun x => p (y * Wn + x)) (fun i h0 hi => by
    have hl : ((y + 1 : Nat) : Int) * Wn ≤ Hn * Wn := Int.mul_le_mul_of_nonneg_right (by omega) (by omega)
    have hm : ((y + 1 : Nat) : Int) * Wn = y * Wn + Wn := by rw [Int.natCast_add, Int.add_mul]; simp
    have hc : (n : Int) = Hn * Wn := by rw [hn']; simp
    have h9 : 0 ≤ (y : Int) * Wn := Int.mul_nonneg (by omega) (by omega)
    have h1 := hp (y * Wn + i) (by omega) (by omega)
    have h2 := hB (y * Wn + i)
    show p _ = 0 ∨ p _ = 1
    omega)).2.2
  exact this
/-- full rows, as the document counts them -/
def fullR (W : Int) (p : Int → Int) (m : Nat) : Int := if 0 < W then sumN m (fun y => if rowB W.toNat p (y * W) = true then 1 else 0) else 0
theorem fullR_eq {W H : Int} {n : Nat} {p : Int → Int} (h : chk W H n p = 0) (hB : IsB p) (m : Nat) (hm : m ≤ H.toNat) : fullR W p m = fullP W n p m := by
  obtain ⟨h1, h2, h3, h4, h5, h6⟩ := chk_ok h
  unfold fullR fullP
  by_cases hW : 0 < W
  · rw [if_pos hW, if_pos hW]
    refine sumN_congr fun i h0 hi => ?_
    obtain ⟨y, rfl⟩ : ∃ y : Nat, i = y := ⟨i.toNat, by omega⟩
    have := rowS_iff hW h5 hB h6 (show (y : Int) < H by omega)
    by_cases hr : rowS W n p y = W
    · rw [if_pos hr, if_pos (this.1 hr)]
    · rw [if_neg hr, if_neg (fun e => hr (this.2 e))]
  · rw [if_neg hW, if_neg hW]
theorem fullR_bd (W : Int) (p : Int → Int) (m : Nat) : 0 ≤ fullR W p m ∧ fullR W p m ≤ m := by
  have := sumN_bd (n := m) (f := fun y => if rowB W.toNat p (y * W) = true then 1 else 0) (m := 1) (fun i a b => by
    show 0 ≤ (if rowB W.toNat p (i * W) = true then (1 : Int) else 0) ∧ (if rowB W.toNat p (i * W) = true then (1 : Int) else 0) ≤ 1
    split <;> omega)
  unfold fullR
  split <;> omega

/-- ink of a valid image -/
def inkB (W H : Int) (p : Int → Int) (x y : Int) : Bool := decide (0 ≤ x) && (decide (x < W) && (decide (0 ≤ y) && (decide (y < H) && decide (p (y * W + x) = 1))))
theorem inkB_iff {W H : Int} {p : Int → Int} {x y : Int} : inkB W H p x y = true ↔ 0 ≤ x ∧ x < W ∧ 0 ≤ y ∧ y < H ∧ p (y * W + x) = 1 := by simp [inkB]
/-- the moved image as the document has it -/
def movR (W H : Int) (p : Int → Int) (k way : Int) : Int → Int := fun i => if inkB W H p (i % W) (i / W - way * dropI W k (i % W)) = true then 1 else 0
theorem movR_eq {W H h : Int} {n : Nat} {p : Int → Int} {k way : Int} (hc : chk W H n p = 0) (hB : IsB p) {i : Int} (h0 : 0 ≤ i) (hi : i < W * h) : movR W H p k way i = movQ W H p k way i := by
  obtain ⟨h1, h2, h3, h4, h5, h6⟩ := chk_ok hc
  have hW : 0 < W := by
    rcases Int.lt_or_le 0 W with h | h
    · exact h
    · obtain rfl : W = 0 := by omega
      simp at hi; omega
  have hx0 : 0 ≤ i % W := Int.emod_nonneg _ (by omega)
  have hx1 : i % W < W := Int.emod_lt_of_pos _ hW
  unfold movR movQ
  by_cases hy : 0 ≤ i / W - way * dropI W k (i % W) ∧ i / W - way * dropI W k (i % W) < H
  · rw [if_pos hy]
    obtain ⟨j1, j2, j3⟩ := idx_lt hx0 hx1 hy.1 hy.2
    rw [Int.mul_comm H W] at j2
    have hb := hB ((i / W - way * dropI W k (i % W)) * W + i % W)
    have hp := h6 _ j1 (by omega)
    by_cases e : p ((i / W - way * dropI W k (i % W)) * W + i % W) = 1
    · rw [if_pos (inkB_iff.2 ⟨hx0, hx1, hy.1, hy.2, e⟩), e]
    · rw [if_neg (fun h => e (inkB_iff.1 h).2.2.2.2)]; omega
  · rw [if_neg hy, if_neg (fun h => hy ⟨(inkB_iff.1 h).2.2.1, (inkB_iff.1 h).2.2.2.1⟩)]
end Go.Proofs.Ytdimlpcbbkokiaa
