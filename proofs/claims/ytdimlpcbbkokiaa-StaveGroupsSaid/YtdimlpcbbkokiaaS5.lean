/- Plain: the lines that are found one after the other, and what each marks as forbidden. No program in sight. -/
import Derived.Test.YtdimlpcbbkokiaaS3
namespace Go.Proofs.Ytdimlpcbbkokiaa
open Go.RowKit
set_option linter.unusedVariables false

/-- what is forbidden behind a line -/
def mkF (W : Int) (f : Int → Bool) (P : Nat → Int) : Int → Bool := fun i => f i || decide (P (i % W).toNat - 2 ≤ i / W ∧ i / W ≤ P (i % W).toNat + 2)
/-- the same while it is marked: the columns before x, and column x up to row t -/
def mkR (W : Int) (f : Int → Bool) (P : Nat → Int) (x : Nat) (t : Int) : Int → Bool := fun i =>
  f i || decide ((i % W < x ∧ P (i % W).toNat - 2 ≤ i / W ∧ i / W ≤ P (i % W).toNat + 2) ∨ (i % W = x ∧ P (i % W).toNat - 2 ≤ i / W ∧ i / W < t))
section
variable {W H : Int} {f : Int → Bool} {P : Nat → Int}
theorem bool_or_congr {a : Bool} {p q : Prop} [Decidable p] [Decidable q] (h : p ↔ q) : (a || decide p) = (a || decide q) := by
  rw [show decide p = decide q from by simp [h]]
theorem mkR_zero {i : Int} (hW : 0 < W) : mkR W f P 0 (P 0 - 2) i = f i := by
  unfold mkR
  have h1 : 0 ≤ i % W := Int.emod_nonneg _ (by omega)
  rw [show decide _ = false from decide_eq_false ?_, Bool.or_false]
  rintro (⟨h, -, -⟩ | ⟨h, h2, h3⟩)
  · omega
  · rw [h] at h2
    simp only [Int.natCast_zero, Int.toNat_zero] at h2
    omega
theorem mkR_start {x : Nat} {t i : Int} (h0 : 0 ≤ i) (hW : 0 < W) (ht : t = if P x - 2 < 0 then 0 else P x - 2) : mkR W f P x (P x - 2) i = mkR W f P x t i := by
  unfold mkR
  have h2 : 0 ≤ i / W := Int.ediv_nonneg h0 (by omega)
  refine bool_or_congr (or_congr Iff.rfl ?_)
  refine and_congr_right fun h => ?_
  rw [h, Int.toNat_natCast]
  split at ht <;> omega
theorem mkR_set {x : Nat} {t : Int} (hx : (x : Int) < W) (h1 : P x - 2 ≤ t) (i : Int) : (if i = t * W + x then true else mkR W f P x t i) = mkR W f P x (t + 1) i := by
  have a := idx_mod (x := (x : Int)) (y := t) (W := W) (by omega) hx
  have b := idx_div (x := (x : Int)) (y := t) (W := W) (by omega) hx
  by_cases e : i = t * W + x
  · rw [if_pos e]
    subst e
    unfold mkR
    rw [a, b, Int.toNat_natCast, show decide _ = true from decide_eq_true (.inr ⟨rfl, h1, by omega⟩), Bool.or_true]
  · rw [if_neg e]
    unfold mkR
    refine bool_or_congr (or_congr Iff.rfl ?_)
    refine and_congr_right fun h => ?_
    have : i / W ≠ t := fun h2 => e (by
      have := Int.emod_add_mul_ediv i W
      rw [h, h2, Int.mul_comm] at this; omega)
    omega
theorem mkR_col {x : Nat} {t i : Int} (h0 : 0 ≤ i) (hi : i < W * H) (hW : 0 < W) (ht : (if P x + 2 < H - 1 then P x + 2 else H - 1) < t) (ht2 : t ≤ P x + 3) : mkR W f P x t i = mkR W f P (x + 1) (P (x + 1) - 2) i := by
  have h1 : i / W < H := Int.ediv_lt_of_lt_mul hW (by rw [Int.mul_comm]; exact hi)
  unfold mkR
  refine bool_or_congr ?_
  constructor
  · rintro (⟨a, b, c⟩ | ⟨a, b, c⟩)
    · exact .inl ⟨by omega, b, c⟩
    · refine .inl ⟨by omega, b, ?_⟩
      rw [a, Int.toNat_natCast]
      omega
  · rintro (⟨a, b, c⟩ | ⟨a, b, c⟩)
    · by_cases e : i % W = x
      · refine .inr ⟨e, b, ?_⟩
        rw [e, Int.toNat_natCast] at c
        split at ht <;> omega
      · exact .inl ⟨by omega, b, c⟩
    · rw [a, Int.toNat_natCast] at b
      omega
theorem mkR_end {n : Nat} {i : Int} (hW : 0 < W) (hn : (n : Int) = W) : mkR W f P n (P n - 2) i = mkF W f P i := by
  unfold mkR mkF
  have h1 : i % W < W := Int.emod_lt_of_pos _ hW
  refine bool_or_congr ?_
  constructor
  · rintro (⟨a, b, c⟩ | ⟨a, b, c⟩)
    · exact ⟨b, c⟩
    · omega
  · rintro ⟨b, c⟩
    exact .inl ⟨by omega, b, c⟩
end

section
variable (N W H : Int) (c : Int → Int → Int)
/-- what is forbidden when k lines are found -/
def FB : Nat → Int → Bool
  | 0 => fun _ => false
  | k + 1 => mkF W (FB k) (pathP N W H c fun x y => FB k (y * W + x))
/-- line number k, in the order of finding, and its cost -/
def LN (k : Nat) : Nat → Int := pathP N W H c fun x y => FB N W H c k (y * W + x)
def GC (k : Nat) : Int := gAt N W H c (fun x y => FB N W H c k (y * W + x)) 0 (LN N W H c k 0)
def Good (k : Nat) : Prop := GC N W H c k < N ∧ 8 * GC N W H c k ≤ W
/-- so many lines are found -/
def Many (k : Nat) : Prop := k ≤ 60 ∧ (∀ j, j < k → Good N W H c j) ∧ (k < 60 → ¬ Good N W H c k)
end
theorem Many.uniq {N W H : Int} {c : Int → Int → Int} {k k' : Nat} (h : Many N W H c k) (h' : Many N W H c k') : k = k' := by
  rcases Nat.lt_trichotomy k k' with g | g | g
  · exact absurd (h'.2.1 k g) (h.2.2 (by have := h'.1; omega))
  · exact g
  · exact absurd (h.2.1 k' g) (h'.2.2 (by have := h.1; omega))

theorem ln_ok {N W H : Int} {c : Int → Int → Int} {k : Nat} (hc : ∀ x y, 0 ≤ c x y ∧ c x y ≤ 2) (hN : 3 * W < N) (hW : 0 < W) (hH : 0 < H) (hg : GC N W H c k < N) (x : Nat) (hx : (x : Int) < W) :
    0 ≤ LN N W H c k x ∧ LN N W H c k x < H ∧ FB N W H c k (LN N W H c k x * W + x) = false := by
  obtain ⟨h1, h2, h3⟩ := path_ok (F := fun x y => FB N W H c k (y * W + x)) hc hN hH hW hg x hx
  refine ⟨h1, h2, ?_⟩
  cases hF : FB N W H c k (LN N W H c k x * W + x) with
  | false => rfl
  | true =>
    exfalso
    have hF' : (fun x y => FB N W H c k (y * W + x)) (x : Int) (pathP N W H c (fun x y => FB N W H c k (y * W + x)) x) = true := hF
    by_cases hl : (x : Int) < W - 1
    · rw [gAt_step (by omega) hl, if_pos hF'] at h3; omega
    · have e : (x : Int) = W - 1 := by omega
      rw [e] at h3 hF'
      rw [gAt_last, if_pos hF'] at h3; omega

/-- the cells of a row of truth values -/
def bools (n : Nat) (f : Int → Bool) : Array Value := cellsF n fun j => .bool (f j)
theorem bools_congr {n : Nat} {f f' : Int → Bool} (he : ∀ i : Int, 0 ≤ i → i < n → f i = f' i) : bools n f = bools n f' := cellsF_congr fun j a b => by rw [he j a b]
theorem Blk.bset {w : World} {g t n : Nat} {f : Int → Bool} (h : Blk w g t (bools n f)) (i : Int) (h0 : 0 ≤ i) (b : Bool) : Blk (w.setCell ⟨g, i.toNat, none⟩ (.bool b)) g t (bools n fun j => if j = i then b else f j) := by
  have e : (bools n f).setIfInBounds i.toNat (.bool b) = bools n fun j => if j = i then b else f j := by
    unfold bools
    rw [cellsF_set n _ i h0]
    exact cellsF_congr fun j _ _ => by
      show (if j = i then Value.bool b else Value.bool (f j)) = Value.bool (if j = i then b else f j)
      split <;> rfl
  rw [← e]
  exact h.set_ i.toNat (.bool b)
theorem Blk.bconv {w : World} {g t n : Nat} {f f' : Int → Bool} (h : Blk w g t (bools n f)) (he : ∀ i : Int, 0 ≤ i → i < n → f i = f' i) : Blk w g t (bools n f') := by
  rw [← bools_congr he]; exact h
theorem bools_zero (n : Nat) : Array.replicate n (Value.bool false) = bools n (fun _ => false) := replicate_cellsF _ _
end Go.Proofs.Ytdimlpcbbkokiaa
