/- Plain: marks of a line as the reference makes them; the order of the lines by their first rows. No program in sight. -/
import Derived.Test.YtdimlpcbbkokiaaS7
namespace Go.Proofs.Ytdimlpcbbkokiaa
open Go.RowKit
set_option linter.unusedVariables false
/-- what is forbidden while the reference marks a line: the columns before x, and column x up to row y -/
def mkS (W : Int) (f : Int → Bool) (P : Nat → Int) (x y : Int) : Int → Bool := fun i =>
  f i || decide ((i % W < x ∨ (i % W = x ∧ i / W < y)) ∧ P (i % W).toNat - 2 ≤ i / W ∧ i / W ≤ P (i % W).toNat + 2)
section
variable {W H : Int} {f : Int → Bool} {P : Nat → Int}
theorem mkS_zero (hW : 0 < W) {i : Int} (h0 : 0 ≤ i) : mkS W f P 0 0 i = f i := by
  unfold mkS
  have h1 : 0 ≤ i % W := Int.emod_nonneg _ (by omega)
  have h2 : 0 ≤ i / W := Int.ediv_nonneg h0 (by omega)
  rw [show decide _ = false from decide_eq_false ?_, Bool.or_false]
  rintro ⟨h, -, -⟩
  omega
theorem mkS_set {x : Nat} {y : Int} (hx : (x : Int) < W) (h1 : P x - 2 ≤ y) (h2 : y ≤ P x + 2) (i : Int) : (if i = y * W + x then true else mkS W f P x y i) = mkS W f P x (y + 1) i := by
  have a := idx_mod (x := (x : Int)) (y := y) (W := W) (by omega) hx
  have b := idx_div (x := (x : Int)) (y := y) (W := W) (by omega) hx
  by_cases e : i = y * W + x
  · rw [if_pos e]
    subst e
    unfold mkS
    rw [a, b, Int.toNat_natCast, show decide _ = true from decide_eq_true ⟨.inr ⟨rfl, by omega⟩, h1, h2⟩, Bool.or_true]
  · rw [if_neg e]
    unfold mkS
    refine bool_or_congr (and_congr_left fun h => or_congr Iff.rfl (and_congr_right fun h3 => ?_))
    have : i / W ≠ y := fun h4 => e (by
      have := Int.emod_add_mul_ediv i W
      rw [h3, h4, Int.mul_comm] at this; omega)
    omega
theorem mkS_skip {x : Nat} {y : Int} (h : ¬ (P x - 2 ≤ y ∧ y ≤ P x + 2)) (i : Int) : mkS W f P x y i = mkS W f P x (y + 1) i := by
  unfold mkS
  refine bool_or_congr (and_congr_left fun h2 => or_congr Iff.rfl (and_congr_right fun h3 => ?_))
  rw [h3, Int.toNat_natCast] at h2
  omega
theorem mkS_col {x : Int} {i : Int} (h0 : 0 ≤ i) (hi : i < W * H) (hW : 0 < W) : mkS W f P x H i = mkS W f P (x + 1) 0 i := by
  have h1 : i / W < H := Int.ediv_lt_of_lt_mul hW (by rw [Int.mul_comm]; exact hi)
  have h2 : 0 ≤ i / W := Int.ediv_nonneg h0 (by omega)
  unfold mkS
  refine bool_or_congr (and_congr_left fun _ => ?_)
  omega
theorem mkS_end {x : Int} {i : Int} (hW : 0 < W) (hx : x = W) : mkS W f P x 0 i = mkF W f P i := by
  unfold mkS mkF
  have h1 : i % W < W := Int.emod_lt_of_pos _ hW
  refine bool_or_congr ?_
  constructor
  · rintro ⟨-, h⟩; exact h
  · intro h; exact ⟨.inl (by omega), h⟩
end
/-- the numbers below i whose key is y -/
def atKey (key : Nat → Int) (i : Nat) (y : Int) : List Nat := (List.range i).filter fun j => decide (key j = y)
/-- the numbers below k, by their keys, those with keys below y -/
def byKey (key : Nat → Int) (k : Nat) : Nat → List Nat
  | 0 => []
  | y + 1 => byKey key k y ++ atKey key k y
theorem atKey_mem {key : Nat → Int} {i : Nat} {y : Int} {j : Nat} : j ∈ atKey key i y ↔ j < i ∧ key j = y := by
  unfold atKey; rw [List.mem_filter, List.mem_range, decide_eq_true_iff]
theorem byKey_mem {key : Nat → Int} {k y : Nat} {j : Nat} : j ∈ byKey key k y ↔ j < k ∧ 0 ≤ key j ∧ key j < y := by
  induction y with
  | zero => constructor
            · intro h; simp [byKey] at h
            · rintro ⟨-, h1, h2⟩; omega
  | succ y ih =>
    rw [byKey, List.mem_append, ih, atKey_mem]
    omega
theorem atKey_yes {key : Nat → Int} {i : Nat} {y : Int} (h : key i = y) : atKey key (i + 1) y = atKey key i y ++ [i] := by
  unfold atKey; rw [List.range_succ, List.filter_append]; simp [h]
theorem atKey_no {key : Nat → Int} {i : Nat} {y : Int} (h : key i ≠ y) : atKey key (i + 1) y = atKey key i y := by
  unfold atKey; rw [List.range_succ, List.filter_append]; simp [h]
theorem atKey_nodup (key : Nat → Int) (i : Nat) (y : Int) : (atKey key i y).Nodup := List.nodup_range.filter _
theorem byKey_nodup (key : Nat → Int) (k y : Nat) : (byKey key k y).Nodup := by
  induction y with
  | zero => exact List.nodup_nil
  | succ y ih =>
    rw [byKey]
    refine List.nodup_append.2 ⟨ih, atKey_nodup _ _ _, fun a ha b hb e => ?_⟩
    subst e
    have := byKey_mem.1 ha
    have := atKey_mem.1 hb
    omega
theorem byKey_sorted (key : Nat → Int) (k y : Nat) : (byKey key k y).Pairwise fun i j => key i ≤ key j := by
  induction y with
  | zero => exact List.Pairwise.nil
  | succ y ih =>
    rw [byKey]
    refine List.pairwise_append.2 ⟨ih, ?_, fun a ha b hb => ?_⟩
    · refine List.Pairwise.imp_of_mem (R := fun _ _ => True) (fun {a b} ha hb _ => ?_) (List.pairwise_of_forall (fun _ _ => trivial))
      have := atKey_mem.1 ha
      have := atKey_mem.1 hb
      omega
    · have := byKey_mem.1 ha
      have := atKey_mem.1 hb
      omega
theorem byKey_perm {key : Nat → Int} {k y : Nat} (h : ∀ j, j < k → 0 ≤ key j ∧ key j < y) : (byKey key k y).Perm (List.range k) := by
  refine (List.perm_ext_iff_of_nodup (byKey_nodup _ _ _) List.nodup_range).2 fun j => ?_
  rw [byKey_mem, List.mem_range]
  constructor
  · exact fun h => h.1
  · exact fun hj => ⟨hj, h j hj⟩
theorem byKey_len (key : Nat → Int) (k y : Nat) : (byKey key k y).length ≤ k := by
  have h : (byKey key k y).Perm ((List.range k).filter fun j => decide (0 ≤ key j ∧ key j < y)) := (List.perm_ext_iff_of_nodup (byKey_nodup _ _ _) (List.nodup_range.filter _)).2 fun j => by
    rw [byKey_mem, List.mem_filter, List.mem_range, decide_eq_true_iff]
  rw [h.length_eq]
  have := List.length_filter_le (fun j => decide (0 ≤ key j ∧ key j < (y : Int))) (List.range k)
  rw [List.length_range] at this
  exact this
theorem part_len {key : Nat → Int} {k y i : Nat} (hi : i ≤ k) : (byKey key k y ++ atKey key i y).length ≤ k := by
  have h1 := byKey_len key k (y + 1)
  rw [byKey, List.length_append] at h1
  rw [List.length_append]
  have h2 : (atKey key i y).length ≤ (atKey key k y).length := ((List.range_sublist.2 hi).filter _).length_le
  omega
/-- there is one order only, if no two keys are the same -/
theorem sorted_uniq {key : Nat → Int} : ∀ {l l' : List Nat}, l.Perm l' → l.Pairwise (fun i j => key i ≤ key j) → l'.Pairwise (fun i j => key i ≤ key j) → (∀ i j, i ∈ l → j ∈ l → key i = key j → i = j) → l = l'
  | [], l', hp, _, _, _ => by rw [List.nil_perm.1 hp]
  | a :: l, [], hp, _, _, _ => by have := hp.length_eq; simp at this
  | a :: l, b :: l', hp, h1, h2, hk => by
    have hb : b ∈ a :: l := hp.mem_iff.2 (List.mem_cons_self)
    have ha : a ∈ b :: l' := hp.mem_iff.1 (List.mem_cons_self)
    have e1 : key a ≤ key b := by
      rcases List.mem_cons.1 hb with rfl | hb
      · exact Int.le_refl _
      · exact (List.pairwise_cons.1 h1).1 b hb
    have e2 : key b ≤ key a := by
      rcases List.mem_cons.1 ha with rfl | ha
      · exact Int.le_refl _
      · exact (List.pairwise_cons.1 h2).1 a ha
    have e : a = b := hk a b (List.mem_cons_self) hb (by omega)
    subst e
    rw [sorted_uniq (List.perm_cons a |>.1 hp) (List.pairwise_cons.1 h1).2 (List.pairwise_cons.1 h2).2 (fun i j hi hj => hk i j (List.mem_cons_of_mem _ hi) (List.mem_cons_of_mem _ hj))]
theorem ln_pathB2 {W H : Int} {p : Int → Int} {k : Nat} (hW : 1 ≤ W) (hW2 : W ≤ 640) (hH : 1 ≤ H) (hg : GC 1073741824 W H (cst p W) k < 1073741824) : isPathB W H W.toNat (fun j => LN 1073741824 W H (cst p W) k j.toNat) = true :=
  path_B hW hH (by omega) (fun x x0 x1 => by have := ln_ok (cst_bd p W) (by omega) (by omega) (by omega) hg x.toNat (by omega); exact ⟨this.1, this.2.1⟩)
    (fun x x0 x1 => by have := ln_step (cst_bd p W) (by omega) (by omega) (by omega) hg x.toNat (by omega); show LN _ _ _ _ _ x.toNat - 1 ≤ LN _ _ _ _ _ (x + 1).toNat ∧ LN _ _ _ _ _ (x + 1).toNat ≤ LN _ _ _ _ _ x.toNat + 1; rw [show (x + 1).toNat = x.toNat + 1 by omega]; exact this)
end Go.Proofs.Ytdimlpcbbkokiaa
