/- Texts of mine in build order: S11, S12, C8, C11, J14, C16, J15. Conditions: each theorem's own. -/
import Derived.Test.YtoonkpjddfiopaaDoorMImageSetsx8
import Derived.Test.YtoonkpjddfiopaaDoorMImageSpecksx1
/- Plain: a strip put back column by column. No program in sight. -/
namespace Go.Proofs.YtoonkpjddfiopaaDoor
open Go.RowKit
set_option linter.unusedVariables false
/-- put back: the columns before x, and of column x the strip's rows above y -/
def rsP (W h : Int) (p q : Int → Int) (l : Nat → Int) (up x y : Int) : Int → Int := fun i =>
  if i % W < x ∨ (i % W = x ∧ i / W - l x.toNat + up < y) then resQ W 0 h p q l up i else p i
section
variable {W H h : Int} {p q : Int → Int} {l : Nat → Int} {up x y i : Int}
theorem resQ_out (hi : ¬ (0 ≤ i / W - l (i % W).toNat + up ∧ i / W - l (i % W).toNat + up < h)) : resQ W H h p q l up i = p i := by unfold resQ; rw [if_neg hi]
theorem resQ_H : resQ W H h p q l up i = resQ W 0 h p q l up i := rfl
theorem rsP_zero (hW : 0 < W) : rsP W h p q l up 0 0 i = p i := by
  have h1 : 0 ≤ i % W := Int.emod_nonneg _ (by omega)
  unfold rsP
  by_cases c : i % W < 0 ∨ (i % W = 0 ∧ i / W - l (0 : Int).toNat + up < 0)
  · rw [if_pos c]
    have c2 : i % W = 0 := by omega
    apply resQ_out
    rw [c2]; omega
  · rw [if_neg c]
theorem rsP_set (x0 : 0 ≤ x) (x1 : x < W) (y0 : 0 ≤ y) (y1 : y < h) : upd (rsP W h p q l up x y) ((l x.toNat - up + y) * W + x) (q (y * W + x)) i = rsP W h p q l up x (y + 1) i := by
  have a := idx_mod (y := l x.toNat - up + y) x0 x1
  have b := idx_div (y := l x.toNat - up + y) x0 x1
  unfold upd rsP
  by_cases e : i = (l x.toNat - up + y) * W + x
  · subst e
    rw [if_pos rfl, a, b, if_pos (.inr ⟨rfl, by omega⟩)]
    unfold resQ
    rw [a, b, if_pos (by omega), show l x.toNat - up + y - l x.toNat + up = y by omega]
  · rw [if_neg e]
    have hne : i % W = x → i / W ≠ l x.toNat - up + y := fun h3 h4 => e (by
      have := Int.emod_add_mul_ediv i W
      rw [h3, h4, Int.mul_comm] at this; omega)
    by_cases c : i % W < x ∨ (i % W = x ∧ i / W - l x.toNat + up < y)
    · rw [if_pos c, if_pos (by omega)]
    · rw [if_neg c, if_neg (by omega)]
theorem rsP_skip (hW : 0 < W) (h0 : 0 ≤ i) (hi : i < W * H) (hat : ¬ (0 ≤ l x.toNat - up + y ∧ l x.toNat - up + y < H)) : rsP W h p q l up x y i = rsP W h p q l up x (y + 1) i := by
  have h1 : i / W < H := Int.ediv_lt_of_lt_mul hW (by rw [Int.mul_comm]; exact hi)
  have h2 : 0 ≤ i / W := Int.ediv_nonneg h0 (by omega)
  unfold rsP
  by_cases c : i % W < x ∨ (i % W = x ∧ i / W - l x.toNat + up < y)
  · rw [if_pos c, if_pos (by omega)]
  · rw [if_neg c, if_neg (by omega)]
theorem rsP_col : rsP W h p q l up x h i = rsP W h p q l up (x + 1) 0 i := by
  unfold rsP
  by_cases c : i % W = x
  · rw [if_pos (.inl (by omega) : i % W < x + 1 ∨ _)]
    by_cases d : i / W - l x.toNat + up < h
    · rw [if_pos (.inr ⟨c, d⟩)]
    · rw [if_neg (by omega)]
      exact (resQ_out (by rw [c]; omega)).symm
  · by_cases d : i % W < x
    · rw [if_pos (.inl d), if_pos (.inl (by omega))]
    · rw [if_neg (by omega)]
      by_cases g : i % W < x + 1 ∨ (i % W = x + 1 ∧ i / W - l (x + 1).toNat + up < 0)
      · rw [if_pos g]
        exact (resQ_out (by
          have : i % W = x + 1 := by omega
          rw [this]; omega)).symm
      · rw [if_neg g]
theorem rsP_end (hW : 0 < W) : rsP W h p q l up W 0 i = resQ W 0 h p q l up i := by
  unfold rsP
  have h1 : i % W < W := Int.emod_lt_of_pos _ hW
  rw [if_pos (by omega)]
end
end Go.Proofs.YtoonkpjddfiopaaDoor

/- Plain: an image filled row by row by a condition; the strips as such images. No program in sight. -/
namespace Go.Proofs.YtoonkpjddfiopaaDoor
open Go.RowKit
set_option linter.unusedVariables false
/-- ink where the condition holds -/
def fillB (C : Int → Int → Bool) (W : Int) : Int → Int := fun i => if C (i % W) (i / W) = true then 1 else 0
section
variable {C : Int → Int → Bool} {W H h x y i : Int}
theorem fillB_at (x0 : 0 ≤ x) (x1 : x < W) : fillB C W (y * W + x) = if C x y = true then 1 else 0 := by
  unfold fillB; rw [idx_mod x0 x1, idx_div x0 x1]
theorem fill_yes (x0 : 0 ≤ x) (x1 : x < W) (hc : C x y = true) : upd (byRow W (fillB C W) (fun _ => 0) y x) (y * W + x) 1 i = byRow W (fillB C W) (fun _ => 0) y (x + 1) i := by
  have h := byRow_set (q := fillB C W) (z := fun _ => 0) (y := y) (i := i) x0 x1
  rwa [fillB_at x0 x1, if_pos hc] at h
theorem fill_no (x0 : 0 ≤ x) (x1 : x < W) (hc : C x y = false) : byRow W (fillB C W) (fun _ => 0) y x i = byRow W (fillB C W) (fun _ => 0) y (x + 1) i :=
  byRow_skip x0 x1 (by rw [fillB_at x0 x1, if_neg (by simp [hc])])
theorem fillB_is01 : Is01 (fillB C W) := fun i => by unfold fillB; split <;> simp
end
/-- the reference's condition for a strip -/
def recC (W H : Int) (p : Int → Int) (l : Nat → Int) (up : Int) : Int → Int → Bool := fun x y => inkB W H p x (l x.toNat - up + y)
def resC (W H h : Int) (p q : Int → Int) (l : Nat → Int) (up : Int) : Int → Int → Bool := fun x y =>
  if 0 ≤ y - l x.toNat + up ∧ y - l x.toNat + up < h then inkB W h q x (y - l x.toNat + up) else inkB W H p x y
theorem recC_eq {W H up : Int} {n : Nat} {p : Int → Int} {l : Nat → Int} {i : Int} (hE : chk W H n p = 0) (hB : IsB p) (hW : 1 ≤ W) (h0 : 0 ≤ i) : recQ W H p l up i = fillB (recC W H p l up) W i := by
  obtain ⟨-, -, -, -, hn, hp⟩ := chk_ok hE
  have m0 : 0 ≤ i % W := Int.emod_nonneg _ (by omega)
  have m1 : i % W < W := Int.emod_lt_of_pos _ (by omega)
  unfold recQ fillB recC
  by_cases c : 0 ≤ l (i % W).toNat - up + i / W ∧ l (i % W).toNat - up + i / W < H
  · rw [if_pos c, inkB_in m0 m1 c.1 c.2]
    obtain ⟨i1, i2, -⟩ := idx_lt m0 m1 c.1 c.2
    have a := hp _ i1 (by rw [hn, Int.mul_comm W H]; exact i2)
    have b := (hB ((l (i % W).toNat - up + i / W) * W + i % W)).1
    by_cases e : p ((l (i % W).toNat - up + i / W) * W + i % W) = 1
    · rw [if_pos (decide_eq_true e), e]
    · rw [if_neg (by simp [e])]; omega
  · rw [if_neg c, if_neg (fun h => c ⟨(inkB_iff.1 h).2.2.1, (inkB_iff.1 h).2.2.2.1⟩)]
theorem resC_eq {W H h up : Int} {n ns : Nat} {p q : Int → Int} {l : Nat → Int} {i : Int} (hE : chk W H n p = 0) (hS : chk W h ns q = 0) (hB : IsB p) (hBq : IsB q) (hW : 1 ≤ W) (h0 : 0 ≤ i) (hi : i < W * H) : resQ W H h p q l up i = fillB (resC W H h p q l up) W i := by
  obtain ⟨-, -, -, -, hn, hp⟩ := chk_ok hE
  obtain ⟨-, -, -, -, hns, hq⟩ := chk_ok hS
  have m0 : 0 ≤ i % W := Int.emod_nonneg _ (by omega)
  have m1 : i % W < W := Int.emod_lt_of_pos _ (by omega)
  have h2 : 0 ≤ i / W := Int.ediv_nonneg h0 (by omega)
  have h3 : i / W < H := Int.ediv_lt_of_lt_mul (by omega) (by rw [Int.mul_comm]; exact hi)
  have e1 : i / W * W + i % W = i := by have := Int.emod_add_mul_ediv i W; rw [Int.mul_comm] at this; omega
  unfold resQ fillB resC
  by_cases c : 0 ≤ i / W - l (i % W).toNat + up ∧ i / W - l (i % W).toNat + up < h
  · rw [if_pos c, if_pos c, inkB_in m0 m1 c.1 c.2]
    obtain ⟨i1, i2, -⟩ := idx_lt m0 m1 c.1 c.2
    have a := hq _ i1 (by rw [hns, Int.mul_comm W h]; exact i2)
    have b := (hBq ((i / W - l (i % W).toNat + up) * W + i % W)).1
    by_cases e : q ((i / W - l (i % W).toNat + up) * W + i % W) = 1
    · rw [if_pos (decide_eq_true e), e]
    · rw [if_neg (by simp [e])]; omega
  · rw [if_neg c, if_neg c, inkB_in m0 m1 h2 h3, e1]
    have a := hp i h0 (by omega)
    have b := (hB i).1
    by_cases e : p i = 1
    · rw [if_pos (decide_eq_true e), e]
    · rw [if_neg (by simp [e])]; omega
end Go.Proofs.YtoonkpjddfiopaaDoor

/- Plain: brushes. No program in sight. -/
namespace Go.Proofs.YtoonkpjddfiopaaDoor
set_option linter.unusedVariables false
def exB (f : Nat → Bool) : Nat → Bool
  | 0 => false
  | k + 1 => exB f k || f k
theorem exB_iff {f : Nat → Bool} : ∀ {k : Nat}, exB f k = true ↔ ∃ i, i < k ∧ f i = true
  | 0 => by simp [exB]
  | k + 1 => by
    rw [exB, Bool.or_eq_true, exB_iff]
    constructor
    · rintro (⟨i, h1, h2⟩ | h)
      · exact ⟨i, by omega, h2⟩
      · exact ⟨k, by omega, h⟩
    · rintro ⟨i, h1, h2⟩
      by_cases e : i = k
      · subst e; exact .inr h2
      · exact .inl ⟨i, by omega, h2⟩
theorem exB_no {f : Nat → Bool} {k : Nat} : exB f k = false ↔ ∀ i, i < k → f i = false := by
  rw [← Bool.not_eq_true, exB_iff]
  constructor
  · intro h i hi
    cases e : f i
    · rfl
    · exact absurd ⟨i, hi, e⟩ h
  · rintro h ⟨i, hi, e⟩
    rw [h i hi] at e; cases e
theorem exB_congr {f g : Nat → Bool} {k : Nat} (h : ∀ i, i < k → f i = g i) : exB f k = exB g k := by
  apply Bool.eq_iff_iff.2
  rw [exB_iff, exB_iff]
  exact ⟨fun ⟨i, a, b⟩ => ⟨i, a, by rw [← h i a]; exact b⟩, fun ⟨i, a, b⟩ => ⟨i, a, by rw [h i a]; exact b⟩⟩
theorem beqT (b : Bool) : (b == true) = b := by cases b <;> rfl
theorem beqF (b : Bool) : (b == false) = !b := by cases b <;> rfl
def inR (W H x y : Int) : Bool := decide (0 ≤ x ∧ x < W ∧ 0 ≤ y ∧ y < H)
/-- the program's spread: of ink (v) to the left and upwards, of paper to the right and downwards -/
def sprF (v : Bool) (W H : Int) (p : Int → Int) (dx dy : Int) (n : Nat) : Int → Int → Bool := fun x y => exB (fun i => inR W H (x + i * dx) (y + i * dy) && (inkB W H p (x + i * dx) (y + i * dy) == v)) n == v
def dirV (v : Bool) : Int := if v then 1 else -1
def brushQ (v : Bool) (W H : Int) (p : Int → Int) (w h : Nat) : Int → Int := fillB (sprF v W H (fillB (sprF v W H p (dirV v) 0 w) W) 0 (dirV v) h) W
/-- the reference's -/
def dilR (W H : Int) (p : Int → Int) (w h : Nat) : Int → Int → Bool := fun x y => exB (fun j => exB (fun i => inkB W H p (x + i) (y + j)) w) h
def eroR (W H : Int) (p : Int → Int) (w h : Nat) : Int → Int → Bool := fun x y => !exB (fun j => exB (fun i => !(decide (x - i < 0) || (decide (y - j < 0) || inkB W H p (x - i) (y - j)))) w) h
section
variable {W H x y : Int} {p : Int → Int} {w h : Nat} {C : Int → Int → Bool}
theorem inR_iff : inR W H x y = true ↔ 0 ≤ x ∧ x < W ∧ 0 ≤ y ∧ y < H := by unfold inR; rw [decide_eq_true_iff]
theorem inkB_inR (h : inkB W H p x y = true) : inR W H x y = true := inR_iff.2 (by have := inkB_iff.1 h; omega)
theorem inkB_fill : inkB W H (fillB C W) x y = (inR W H x y && C x y) := by
  apply Bool.eq_iff_iff.2
  rw [inkB_iff, Bool.and_eq_true, inR_iff]
  constructor
  · rintro ⟨h1, h2, h3, h4, h5⟩
    rw [fillB_at h1 h2] at h5
    refine ⟨⟨h1, h2, h3, h4⟩, ?_⟩
    cases e : C x y
    · rw [e] at h5; simp at h5
    · rfl
  · rintro ⟨⟨h1, h2, h3, h4⟩, h5⟩
    exact ⟨h1, h2, h3, h4, by rw [fillB_at h1 h2, h5]; rfl⟩
theorem dil_same (hx : inR W H x y = true) : sprF true W H (fillB (sprF true W H p 1 0 w) W) 0 1 h x y = dilR W H p w h x y := by
  obtain ⟨x0, x1, y0, y1⟩ := inR_iff.1 hx
  unfold sprF dilR
  rw [beqT]
  apply Bool.eq_iff_iff.2
  simp only [exB_iff, Bool.and_eq_true, beqT, inkB_fill, Int.mul_zero, Int.mul_one, Int.add_zero]
  constructor
  · rintro ⟨j, hj, h1, h2, i, hi, h3, h4⟩
    exact ⟨j, hj, i, hi, h4⟩
  · rintro ⟨j, hj, i, hi, h4⟩
    have hb := inkB_iff.1 h4
    have hr : inR W H x (y + j) = true := inR_iff.2 (by omega)
    exact ⟨j, hj, hr, hr, i, hi, inkB_inR h4, h4⟩
theorem ero_same (hx : inR W H x y = true) : sprF false W H (fillB (sprF false W H p (-1) 0 w) W) 0 (-1) h x y = eroR W H p w h x y := by
  obtain ⟨x0, x1, y0, y1⟩ := inR_iff.1 hx
  unfold sprF eroR
  rw [beqF]
  congr 1
  apply Bool.eq_iff_iff.2
  simp only [exB_iff, Bool.and_eq_true, beqF, Bool.not_eq_true', inkB_fill, Int.mul_zero, Int.add_zero, Bool.and_eq_false_iff, Bool.or_eq_false_iff, decide_eq_false_iff_not]
  constructor
  · rintro ⟨j, hj, h1, h2⟩
    obtain ⟨a0, a1, a2, a3⟩ := inR_iff.1 h1
    rcases h2 with h2 | h2
    · rw [h1] at h2; cases h2
    · rw [Bool.not_eq_false', exB_iff] at h2
      obtain ⟨i, hi, h3⟩ := h2
      rw [Bool.and_eq_true] at h3
      obtain ⟨c0, c1, c2, c3⟩ := inR_iff.1 h3.1
      have h4 : inkB W H p (x + i * -1) (y + j * -1) = false := by simpa using h3.2
      refine ⟨j, hj, i, hi, by omega, by omega, ?_⟩
      rw [show x - (i : Int) = x + i * -1 by omega, show y - (j : Int) = y + j * -1 by omega]; exact h4
  · rintro ⟨j, hj, i, hi, h1, h2, h3⟩
    have hr : inR W H x (y + j * -1) = true := inR_iff.2 (by omega)
    refine ⟨j, hj, hr, .inr ?_⟩
    rw [Bool.not_eq_false', exB_iff]
    refine ⟨i, hi, ?_⟩
    rw [Bool.and_eq_true]
    refine ⟨inR_iff.2 (by omega), ?_⟩
    rw [show x + (i : Int) * -1 = x - i by omega, show y + (j : Int) * -1 = y - j by omega, h3]; rfl
end
end Go.Proofs.YtoonkpjddfiopaaDoor

/- Plain: a thinning keeps the number of parts. No program in sight. -/
namespace Go.Proofs.YtoonkpjddfiopaaDoor
set_option linter.unusedVariables false
theorem rel_len {R : Nat → Nat → Prop} : ∀ {l l' : List Nat}, l.Nodup → (∀ x ∈ l, ∃ y ∈ l', R x y) → (∀ x ∈ l, ∀ x' ∈ l, ∀ y, R x y → R x' y → x = x') → l.length ≤ l'.length
  | [], l', _, _, _ => by simp
  | x :: l, l', hn, h1, h2 => by
    rw [List.nodup_cons] at hn
    obtain ⟨y, hy, hxy⟩ := h1 x (by simp)
    have ih := rel_len (l := l) (l' := l'.erase y) hn.2 (fun z hz => by
      obtain ⟨u, hu, hzu⟩ := h1 z (List.mem_cons_of_mem _ hz)
      refine ⟨u, ?_, hzu⟩
      refine (List.mem_erase_of_ne fun e => ?_).2 hu
      subst e
      have := h2 x (by simp) z (List.mem_cons_of_mem _ hz) u hxy hzu
      exact hn.1 (this ▸ hz)) fun a ha b hb => h2 a (List.mem_cons_of_mem _ ha) b (List.mem_cons_of_mem _ hb)
    rw [List.length_erase_of_mem hy] at ih
    have : 0 < l'.length := List.length_pos_of_mem hy
    rw [List.length_cons]; omega
theorem rootN_nodup {n : Nat} {ink : Nat → Prop} {A : Nat → Nat → Prop} : (rootN n ink A).Nodup := rootN_sorted.imp fun h => by omega
/-- the same connections among fewer places, of which each part has one: as many parts -/
theorem same_roots {n : Nat} {ink ink' : Nat → Prop} {A : Nat → Nat → Prop} (hA : ∀ a b, A a b → A b a) (hs : ∀ i, ink' i → ink i) (hin : ∀ i, ink i → i < n)
    (hc : ∀ a b, ink' a → ink' b → Cn ink A a b → Cn ink' A a b) (he : ∀ a, ink a → ∃ b, ink' b ∧ Cn ink A a b) : (rootN n ink' A).length = (rootN n ink A).length := by
  refine Nat.le_antisymm ?_ ?_
  · refine rel_len (R := fun x y => Cn ink A x y) rootN_nodup (fun x hx => ?_) fun x hx x' hx' y h h' => ?_
    · obtain ⟨hxn, hr⟩ := mem_rootN.1 hx
      obtain ⟨r, h1, h2, h3⟩ := root_ex hA (hs x hr.1)
      exact ⟨r, mem_rootN.2 ⟨hin r h2.1, h2⟩, h3.symm hA⟩
    · have h1 := (mem_rootN.1 hx).2
      have h2 := (mem_rootN.1 hx').2
      exact root_uniq hA h1 h2 (hc x x' h1.1 h2.1 (h.trans (h'.symm hA)))
  · refine rel_len (R := fun x y => Cn ink A x y) rootN_nodup (fun x hx => ?_) fun x hx x' hx' y h h' => ?_
    · obtain ⟨hxn, hr⟩ := mem_rootN.1 hx
      obtain ⟨b, hb, hxb⟩ := he x hr.1
      obtain ⟨r, h1, h2, h3⟩ := root_ex (ink := ink') hA hb
      exact ⟨r, mem_rootN.2 ⟨hin r (hs r h2.1), h2⟩, hxb.trans ((h3.mono hs fun _ _ h => h).symm hA)⟩
    · have h1 := (mem_rootN.1 hx).2
      have h2 := (mem_rootN.1 hx').2
      exact root_uniq hA h1 h2 (h.trans (h'.symm hA))
/-- a place whose neighbours in the set lead to each other without it -/
theorem drop_roots {n x : Nat} {ink : Nat → Prop} {A : Nat → Nat → Prop} (hA : ∀ a b, A a b → A b a) (hin : ∀ i, ink i → i < n)
    (hu : ∃ u, ink u ∧ u ≠ x ∧ A x u) (hc : ∀ u v, ink u → u ≠ x → A x u → ink v → v ≠ x → A x v → Cn (fun i => ink i ∧ i ≠ x) A u v) :
    (rootN n (fun i => ink i ∧ i ≠ x) A).length = (rootN n ink A).length := by
  have key : ∀ a b, Cn ink A a b → a ≠ x → (b ≠ x → Cn (fun i => ink i ∧ i ≠ x) A a b) ∧ (b = x → ∃ u, ink u ∧ u ≠ x ∧ A x u ∧ Cn (fun i => ink i ∧ i ≠ x) A a u) := by
    intro a b h ha
    induction h with
    | refl h => exact ⟨fun _ => .refl ⟨h, ha⟩, fun e => absurd e ha⟩
    | @step b c h1 h2 h3 ih =>
      refine ⟨fun hcx => ?_, fun hcx => ?_⟩
      · by_cases hb : b = x
        · obtain ⟨u, u1, u2, u3, u4⟩ := ih.2 hb
          exact u4.trans (hc u c u1 u2 u3 h2 hcx (hb ▸ h3))
        · exact (ih.1 hb).step ⟨h2, hcx⟩ h3
      · subst hcx
        by_cases hb : b = c
        · exact ih.2 hb
        · exact ⟨b, h1.right, hb, hA _ _ h3, ih.1 hb⟩
  refine same_roots hA (fun i h => h.1) hin (fun a b ha hb h => (key a b h ha.2).1 hb.2) fun a ha => ?_
  by_cases e : a = x
  · obtain ⟨u, u1, u2, u3⟩ := hu
    subst e
    exact ⟨u, ⟨u1, u2⟩, .one ha u1 u3⟩
  · exact ⟨a, ⟨ha, e⟩, .refl ha⟩
/-! ### the reference's marks are sound -/
section
variable {l : List Nat} {m : List Bool}
/-- whoever is marked is led to by the first -/
def MetOk (l : List Nat) (m : List Bool) : Prop := ∀ t, m.getD t false = true → t < l.length ∧ Cn (· ∈ l) (fun c d => nearD c d = true) (l.getD 0 0) (l.getD t 0)
theorem getD_set {m : List Bool} {k t : Nat} (h : (m.set k true).getD t false = true) : t = k ∨ m.getD t false = true := by
  by_cases e : t = k
  · exact .inl e
  · right
    rw [List.getD_eq_getElem?_getD, List.getElem?_set_ne (by omega)] at h
    rw [List.getD_eq_getElem?_getD]; exact h
theorem metOk_0 (hl : 0 < l.length) : MetOk l (met0 l.length) := fun t ht => by
  unfold met0 at ht
  rcases getD_set ht with e | e
  · subst e
    exact ⟨hl, .refl (by rw [List.getD_eq_getElem?_getD, List.getElem?_eq_getElem hl]; exact List.getElem_mem hl)⟩
  · rw [List.getD_eq_getElem?_getD, List.getElem?_replicate] at e
    split at e <;> simp at e
theorem metOk_K (h : MetOk l m) (i : Nat) : ∀ k, k ≤ l.length → MetOk l (metK l i k m)
  | 0, _ => h
  | k + 1, hk => by
    have ih := metOk_K h i k (by omega)
    rw [metK]
    split
    · rename_i c
      rw [Bool.and_eq_true] at c
      obtain ⟨h1, h2⟩ := ih i c.1
      intro t ht
      rcases getD_set ht with e | e
      · subst e
        refine ⟨by omega, h2.step ?_ c.2⟩
        have hk' : t < l.length := by omega
        rw [List.getD_eq_getElem?_getD, List.getElem?_eq_getElem hk']; exact List.getElem_mem hk'
      · exact ih t e
    · exact ih
theorem metOk_I (h : MetOk l m) : ∀ i, MetOk l (metI l i m)
  | 0 => h
  | i + 1 => by rw [metI]; exact metOk_K (metOk_I h i) i l.length (Nat.le_refl _)
theorem metOk_N (h : MetOk l m) : ∀ n, MetOk l (metN l n m)
  | 0 => h
  | n + 1 => by rw [metN]; exact metOk_I (metOk_N h n) l.length
end
theorem mem_dirsR {d : Nat} : d ∈ dirsR ↔ d < 8 := by
  unfold dirsR
  simp only [List.mem_cons, List.not_mem_nil, or_false]
  omega
theorem nearD_symm {c d : Nat} (h : nearD c d = true) : nearD d c = true := by
  unfold nearD at h ⊢
  rw [decide_eq_true_iff] at h ⊢
  omega
/-- where a thinning goes, all ink around leads to all, and there is some -/
theorem goes_sound {b : Nat → Bool} (h : goesB b = true) : (∃ c, c < 8 ∧ b c = true) ∧ ∀ c d, c < 8 → b c = true → d < 8 → b d = true → Cn (fun e => e < 8 ∧ b e = true) (fun c d => nearD c d = true) c d := by
  rw [goes_same] at h
  unfold goesR at h
  rw [Bool.and_eq_true, Bool.and_eq_true, decide_eq_true_iff] at h
  obtain ⟨⟨-, hlen⟩, hall⟩ := h
  obtain ⟨l, hl⟩ : ∃ l, dirsR.filter b = l := ⟨_, rfl⟩
  have hm : ∀ d, d ∈ l ↔ d < 8 ∧ b d = true := fun d => by rw [← hl, List.mem_filter, mem_dirsR]
  rw [hl] at hlen hall
  have ok := metOk_N (metOk_0 (l := l) (by omega)) l.length
  have hlm : (metN l l.length (met0 l.length)).length = l.length := by rw [metN_len]; unfold met0; rw [List.length_set, List.length_replicate]
  have first : ∀ d, d ∈ l → Cn (· ∈ l) (fun c d => nearD c d = true) (l.getD 0 0) d := fun d hd => by
    obtain ⟨t, ht, e⟩ := List.getElem_of_mem hd
    have h1 : (metN l l.length (met0 l.length)).getD t false = true := by
      have h2 := List.all_eq_true.1 hall _ (List.getElem_mem (show t < (metN l l.length (met0 l.length)).length by omega))
      rw [List.getD_eq_getElem?_getD, List.getElem?_eq_getElem (by omega)]
      simpa using h2
    have h3 := (ok t h1).2
    rw [List.getD_eq_getElem?_getD (i := t), List.getElem?_eq_getElem ht] at h3
    rw [← e]; exact h3
  refine ⟨?_, fun c d c1 c2 d1 d2 => ?_⟩
  · have h0 : 0 < l.length := by omega
    have := (hm l[0]).1 (List.getElem_mem h0)
    exact ⟨_, this⟩
  · have k1 := first c ((hm c).2 ⟨c1, c2⟩)
    have k2 := first d ((hm d).2 ⟨d1, d2⟩)
    exact ((k1.symm fun _ _ h => nearD_symm h).trans k2).mono (fun x hx => (hm x).1 hx) fun _ _ h => h
/-! ### at the places of a grid -/
/-- the place in a direction -/
def ptD (W x : Nat) (d : Nat) : Nat := ((((x / W : Nat) : Int) + dY d) * W + (((x % W : Nat) : Int) + dX d)).toNat
section
variable {n W H x u v d c : Nat} {p : Int → Int}
theorem ptD_ok (hn : n = W * H) (h : bD W H p ((x % W : Nat) : Int) ((x / W : Nat) : Int) d = true) : InkN n p (ptD W x d) ∧ ((ptD W x d % W : Nat) : Int) = ((x % W : Nat) : Int) + dX d ∧ ((ptD W x d / W : Nat) : Int) = ((x / W : Nat) : Int) + dY d := by
  obtain ⟨h1, h2, h3, h4, h5⟩ := inkB_iff.1 h
  obtain ⟨a, ha⟩ := Int.eq_ofNat_of_zero_le h1
  obtain ⟨b, hb⟩ := Int.eq_ofNat_of_zero_le h3
  rw [ha] at h2 h5
  rw [hb] at h4 h5
  have e : ptD W x d = b * W + a := by
    unfold ptD
    rw [ha, hb]
    have : ((b : Int) * W + a) = ((b * W + a : Nat) : Int) := by push_cast; rfl
    rw [this, Int.toNat_natCast]
  have h5' : p ((b * W + a : Nat) : Int) = 1 := by push_cast; exact h5
  have hW : a < W := by omega
  have hH : b < H := by omega
  rw [e, ha, hb]
  refine ⟨⟨?_, h5'⟩, ?_, ?_⟩
  · rw [hn]
    calc b * W + a < b * W + W := by omega
      _ = (b + 1) * W := by rw [Nat.add_mul, Nat.one_mul]
      _ ≤ H * W := Nat.mul_le_mul_right _ hH
      _ = W * H := Nat.mul_comm _ _
  · rw [Nat.mul_comm b W, Nat.mul_add_mod, Nat.mod_eq_of_lt hW]
  · rw [Nat.mul_comm b W, Nat.mul_add_div (by omega), Nat.div_eq_of_lt hW, Nat.add_zero]
theorem thin_parts (hn : n = W * H) (hx : InkN n p x) (hg : goesB (bD W H p ((x % W : Nat) : Int) ((x / W : Nat) : Int)) = true) :
    (rootN n (InkN n (upd p x 0)) (AdjN W true)).length = (rootN n (InkN n p) (AdjN W true)).length := by
  obtain ⟨⟨c0, hc0, hb0⟩, hconn⟩ := goes_sound hg
  have hset : InkN n (upd p x 0) = fun i => InkN n p i ∧ i ≠ x := by
    funext i
    refine propext ⟨fun h => ?_, fun h => ?_⟩
    · have h2 := h.2
      unfold upd at h2
      split at h2
      · omega
      · exact ⟨⟨h.1, h2⟩, by omega⟩
    · refine ⟨h.1.1, ?_⟩
      unfold upd
      rw [if_neg (by omega)]
      exact h.1.2
  rw [hset]
  have hW : 0 < W := by
    rcases Nat.eq_zero_or_pos W with h | h
    · have := hx.1
      rw [hn, h, Nat.zero_mul] at this; omega
    · exact h
  have adj : ∀ d, d < 8 → bD W H p ((x % W : Nat) : Int) ((x / W : Nat) : Int) d = true → AdjN W true x (ptD W x d) := fun d hd hb => by
    obtain ⟨-, h2, h3⟩ := ptD_ok hn hb
    exact dir_adj hd (.inl rfl) h2 h3
  have back : ∀ u, InkN n p u → AdjN W true x u → ∃ d, d < 8 ∧ bD W H p ((x % W : Nat) : Int) ((x / W : Nat) : Int) d = true ∧ ptD W x d = u := fun u hu ha => by
    obtain ⟨d, d1, -, d3, d4⟩ := adj_dir ha
    have hb : bD W H p ((x % W : Nat) : Int) ((x / W : Nat) : Int) d = true := by
      unfold bD
      rw [← d3, ← d4]
      refine inkB_iff.2 ⟨Int.natCast_nonneg _, Int.ofNat_lt.2 (Nat.mod_lt _ hW), Int.natCast_nonneg _, Int.ofNat_lt.2 (Nat.div_lt_of_lt_mul (hn ▸ hu.1)), ?_⟩
      have e : ((u / W : Nat) : Int) * W + ((u % W : Nat) : Int) = ((u : Nat) : Int) := by
        have := Nat.div_add_mod u W
        rw [Nat.mul_comm] at this
        have h9 : ((u / W * W + u % W : Nat) : Int) = (u : Int) := by rw [this]
        push_cast at h9 ⊢
        exact h9
      rw [e]; exact hu.2
    obtain ⟨-, h2, h3⟩ := ptD_ok hn hb
    exact ⟨d, d1, hb, divmod_eq (W := W) (by omega) (by omega)⟩
  refine drop_roots AdjN.symm (fun i h => h.1) ⟨ptD W x c0, (ptD_ok hn hb0).1, fun e => (adj c0 hc0 hb0).1 e.symm, adj c0 hc0 hb0⟩ fun u v hu hux hau hv hvx hav => ?_
  obtain ⟨c, c1, c2, rfl⟩ := back u hu hau
  obtain ⟨d, d1, d2, rfl⟩ := back v hv hav
  have h := hconn c d c1 c2 d1 d2
  have key : ∀ a b, Cn (fun e => e < 8 ∧ bD W H p ((x % W : Nat) : Int) ((x / W : Nat) : Int) e = true) (fun c d => nearD c d = true) a b → Cn (fun i => InkN n p i ∧ i ≠ x) (AdjN W true) (ptD W x a) (ptD W x b) := by
    intro a b hab
    induction hab with
    | refl h => exact .refl ⟨(ptD_ok hn h.2).1, fun e => (adj _ h.1 h.2).1 e.symm⟩
    | @step b c h1 h2 h3 ih =>
      have hb := h1.right
      by_cases e : ptD W x b = ptD W x c
      · rw [← e]; exact ih
      · refine ih.step ⟨(ptD_ok hn h2.2).1, fun e => (adj _ h2.1 h2.2).1 e.symm⟩ ?_
        obtain ⟨-, q1, q2⟩ := ptD_ok hn hb.2
        obtain ⟨-, q3, q4⟩ := ptD_ok hn h2.2
        have hnr := of_decide_eq_true h3
        refine ⟨e, ?_, ?_, ?_, ?_, .inl rfl⟩ <;> push_cast at q1 q2 q3 q4 <;> omega
  exact key c d h
end
end Go.Proofs.YtoonkpjddfiopaaDoor

/- Walk: image.Thin of an image without pixels, and of any valid image. -/
namespace Go.Proofs.YtoonkpjddfiopaaDoor
open Go.RowKit
set_option linter.unusedVariables false
attribute [local go_sem] Oper.semAt_some

theorem thX_zero (W H y : Int) : ∀ p, thX W H y 0 p = p := fun _ => rfl
theorem thY_zero (W H : Int) (p : Int → Int) : ∀ y, thY W H 0 y p = p
  | 0 => rfl
  | y + 1 => by rw [thY, thX_zero, thY_zero W H p y]
theorem thP_zero {W H : Nat} (h : W * H = 0) (p : Int → Int) : thP W H p = p := by
  rcases Nat.mul_eq_zero.1 h with rfl | rfl
  · exact thY_zero _ _ _ _
  · rfl
theorem thinned_zero {W H : Nat} (h : W * H = 0) (p : Int → Int) : Thinned W H p p := ⟨⟨0, rfl⟩, thP_zero h p⟩
theorem thinned_self {W H : Nat} {p q : Int → Int} (h : Thinned W H p q) : Thinned W H q q := ⟨⟨0, rfl⟩, h.2⟩
set_option maxRecDepth 100000 in
set_option maxHeartbeats 4000000 in
theorem thin_zero (W H : Nat) (A : Option Addr) (c : Nat) (p : Int → Int) (w : World) (hW : W ≤ 640) (hH : H ≤ 640) (hn : 0 = W * H) :
    Calls Tryd.prog 20 #[.agg #[.int .i64 W, .int .i64 H, .slice A (0 : Nat) c]] w (New w fun v w' => ∃ A' c', v = .tuple #[.agg #[.int .i64 W, .int .i64 H, .slice A' (0 : Nat) c'], .int .i64 0] ∧ ∀ a, A' = some a → w.heap.size ≤ a.block) := by
  have hnI : ((0 : Nat) : Int) = (W : Int) * H := by rw [hn]; push_cast; rfl
  have CK := Lib.hid fun w' => check_any W H A 0 c p w' (ArrB.nil) (by unfold maxLen; omega)
  rw [chk_mk (W := W) (H := H) (n := 0) (p := p) (by omega) (by omega) (by omega) (by omega) hnI (fun i a b => absurd b (by omega))] at CK
  have BC := Lib.hid fun w' => bclone_any A 0 c p w' ArrB.nil (by omega)
  have b1 : Below w.heap.size w ((w.alloc (.cells #[.int .i64 W, .int .i64 H, .slice A (0 : Nat) c] 24)).alloc (.cells #[.int .i64 0, .int .i64 0, .slice none 0 0] 24)) := by (repeat (first | exact Below.refl _ _ | assumption | refine Below.drew ?_ | refine below_drewN ?_ _ | refine Below.alloc ?_ (by first | omega | (simp; done) | (simp; omega)) _ | refine Below.setCell ?_ (by first | omega | (simp; done) | (simp; omega)) _ | refine below_setRow ?_ (by first | omega | (simp; done) | (simp; omega)) _ ))
  have k1 : Blk ((w.alloc (.cells #[.int .i64 W, .int .i64 H, .slice A (0 : Nat) c] 24)).alloc (.cells #[.int .i64 0, .int .i64 0, .slice none 0 0] 24)) w.heap.size 24 #[.int .i64 W, .int .i64 H, .slice A (0 : Nat) c] := (Blk.new _ _ _).alloc _
  have k2 : Blk ((w.alloc (.cells #[.int .i64 W, .int .i64 H, .slice A (0 : Nat) c] 24)).alloc (.cells #[.int .i64 0, .int .i64 0, .slice none 0 0] 24)) (w.heap.size + 1) 24 #[.int .i64 0, .int .i64 0, .slice none 0 0] := Blk.new' (by simp) _ _
  have hz : W = 0 ∨ H = 0 := Nat.mul_eq_zero.1 hn.symm
  clear hnI hn
  go_enter Tryd.func20, Tryd.ntmps20
  go_wp2_with fail
  go_step3
  go_wp2_with fail
  generalize (w.alloc (.cells #[.int .i64 W, .int .i64 H, .slice A (0 : Nat) c] 24)).alloc (.cells #[.int .i64 0, .int .i64 0, .slice none 0 0] 24) = w1 at *
  refine (CK.out _).mono ?_
  rintro e w3 ⟨rfl, hb2⟩
  have b3 := below_call b1 b1.size hb2
  replace k1 := k1.below' hb2
  replace k2 := k2.below' hb2
  obtain ⟨p1, p2, p3⟩ := k1.cells3
  have z3 := k2.lt
  clear hb2 b1 CK
  go_upto_region 4 with fail
  go_cut [5] (fun f wx => ∃ B A' c', f = .pointer (some ⟨B, 0, none⟩) ∧ Below w3.heap.size w3 wx ∧ (∀ a, A' = some a → w3.heap.size ≤ a.block) ∧ w3.heap.size ≤ B ∧ Blk wx B 24 #[.int .i64 W, .int .i64 H, .slice A' (0 : Nat) c'])
  case first =>
    go_region_held3 (fun w' => w'.cell? ⟨w.heap.size, 0, none⟩ = some (.int .i64 W) ∧ w'.cell? ⟨w.heap.size, 1, none⟩ = some (.int .i64 H) ∧ w'.cell? ⟨w.heap.size, 2, none⟩ = some (.slice A (0 : Nat) c))
      (first | (simp [go_sem, *]; done) | (go_keep; done))
      (first
      | (go_at_call 83
         with_reducible refine Calls.mono (BC.out _) ?_
         rintro e v1 ⟨_, rfl, ⟨A', c', rfl, hcc, hni, hg, hk⟩, hb1⟩
         have kk1 : Blk v1 w.heap.size 24 #[.int .i64 W, .int .i64 H, .slice A (0 : Nat) c] := by (repeat (first | with_reducible assumption | with_reducible exact Blk.new _ _ _ | with_reducible exact Blk.new' (World.size_alloc _ _) _ _ | (with_reducible refine Blk.new' ?_ _ _; focus (simp; done)) | with_reducible apply Blk.fill3 | (with_reducible refine Blk.far3' ?_ ?_; focus omega) | with_reducible refine Blk.alloc ?_ _ | with_reducible refine Blk.drew ?_ | (with_reducible apply Blk.below2; focus (with_reducible assumption))))
         obtain ⟨x11, x12, x13⟩ := kk1.cells3
         have zz1 := hb1.size
         try simp at zz1
         have yy1 := kk1.lt
         try simp at hg
         first | (have g1 : Blk v1 w3.heap.size 24 #[.int .i64 0, .int .i64 0, .slice none 0 0] := by ((repeat (first | with_reducible assumption | with_reducible exact Blk.new _ _ _ | with_reducible exact Blk.new' (World.size_alloc _ _) _ _ | (with_reducible refine Blk.new' ?_ _ _; focus (simp; done)) | with_reducible apply Blk.fill3 | (with_reducible refine Blk.far3' ?_ ?_; focus omega) | with_reducible refine Blk.alloc ?_ _ | with_reducible refine Blk.drew ?_ | (with_reducible apply Blk.below2; focus (with_reducible assumption)))); done)
                  obtain ⟨h1, h2, h3⟩ := g1.cells3; obtain ⟨f1, f2, f3⟩ := g1.frozen3; have lt1 := g1.lt) | skip))
    all_goals
      go_wp2_with fail
      go_meet
      refine ⟨_, A', c', rfl, ?_, ?_, ?_, ?_⟩
      focus (repeat (first | with_reducible exact Below.refl _ _ | with_reducible assumption | with_reducible refine Below.drew ?_ | (with_reducible refine below_alloc' ?_ ?_; focus (first | omega | (simp; done) | (simp; omega))) | (with_reducible refine below_fill3' ?_ ?_; focus omega) | (with_reducible refine below_setCell' ?_ ?_; focus (first | omega | (simp; done) | (simp; omega))) | (with_reducible apply below_call'; (focus (with_reducible assumption)); (focus (first | omega | (simp; done) | (simp; omega))))))
      focus (intro a ha; have := hg a ha; omega)
      focus (first | omega | (simp; omega))
      focus (repeat (first | with_reducible assumption | with_reducible exact Blk.new _ _ _ | with_reducible exact Blk.new' (World.size_alloc _ _) _ _ | (with_reducible refine Blk.new' ?_ _ _; focus (simp; done)) | with_reducible apply Blk.fill3 | (with_reducible refine Blk.far3' ?_ ?_; focus omega) | with_reducible refine Blk.alloc ?_ _ | with_reducible refine Blk.drew ?_ | (with_reducible apply Blk.below2; focus (with_reducible assumption))))
  case rest =>
  obtain ⟨gx, A', cp, rfl, hb4, hgp, hgx, tx⟩ := hcut
  clear p1 p2 p3
  replace k1 := k1.below' hb4
  replace k2 := k2.below' hb4
  have b4 := below_call b3 b3.size hb4
  have hgp2 := Lib.hid (show ∀ a, A' = some a → w.heap.size ≤ a.block from fun a ha => by have := hgp a ha; omega)
  have hgx3 : w.heap.size + 1 < gx := by omega
  have zx := tx.lt
  clear b3 hb4 BC hgp z3
  generalize wc = w4 at *
  go_wp2_with fail
  go_step3
  go_wp2_with fail
  go_loopw [6] (fun s wr => wr = w4) (fun _ wr => 0)
  case atStart => exact rfl
  case round =>
    subst hrel
    obtain ⟨p1, p2, p3⟩ := k1.cells3
    go_wp2_with fail
    go_loopw [25, 6] (fun s t wx => ∃ (y : Nat), y ≤ H ∧ s = .int .i64 y ∧ t = .bool false ∧ wx = wr) (fun s _ _ => H - (intOf s).toNat)
    case atStart => exact ⟨0, by omega, rfl, rfl, rfl⟩
    case round =>
      obtain ⟨y, hy, rfl, rfl, e⟩ := hrel
      subst e
      by_cases hlt : y < H
      · have hW0 : ¬ (0 : Int) < (W : Int) := by omega
        have hW1 : decide ((0 : Int) < (W : Int)) = false := decide_eq_false hW0
        clear hz
        go_wp2_with fail
        go_loopw [30, 6] (fun s t wx => s = .int .i64 0 ∧ t = .bool false ∧ wx = wr) (fun s _ _ => 0)
        case atStart => exact ⟨rfl, rfl, rfl⟩
        case round =>
          obtain ⟨rfl, rfl, e⟩ := hrel
          subst e
          go_wp2
          go_roundw
          case rel => exact ⟨y + 1, by omega, by go_num, rfl, trivial⟩
          case measure => simp [intOf]; omega
      · obtain ⟨x1, x2, x3⟩ := tx.cells3
        obtain ⟨t1, t2, t3⟩ := k2.cells3
        obtain ⟨f1, f2, f3⟩ := k2.frozen3
        have B6 := Lib.hid (((b4.setCell (p := ⟨w.heap.size + 1, 0, none⟩) (by simp) (.int .i64 W)).setCell (p := ⟨w.heap.size + 1, 1, none⟩) (by simp) (.int .i64 H)).setCell (p := ⟨w.heap.size + 1, 2, none⟩) (by simp) (.slice A' (0 : Nat) cp))
        have k9 := ((k2.set_ 0 (.int .i64 W)).set_ 1 (.int .i64 H)).set_ 2 (.slice A' (0 : Nat) cp)
        obtain ⟨s1, s2, s3⟩ := Blk.cells3 (a := .int .i64 W) (b := .int .i64 H) (c := .slice A' (0 : Nat) cp) k9
        clear b4 k1 k2 tx k9
        go_wp2_with fail
        refine bodyPost_ret (v := .tuple #[.agg #[.int .i64 W, .int .i64 H, .slice A' (0 : Nat) cp], .int .i64 0]) (by simp [results, Tryd.results20, go_sem, s1, s2, s3]) rfl ?_
        exact ⟨_, rfl, ⟨A', cp, rfl, hgp2.out⟩, B6.out⟩
theorem thin_any (W H : Nat) (A : Option Addr) (n c : Nat) (p : Int → Int) (w : World) (hA : ArrB w w.heap.size A n p) (hB : IsB p) (hW : W ≤ 640) (hH : H ≤ 640) (hn : n = W * H) (hE : chk W H n p = 0) (hp : ∀ i, p i = 0 ∨ p i = 1) :
    Calls Tryd.prog 20 #[.agg #[.int .i64 W, .int .i64 H, .slice A n c]] w (New w fun v w' => ∃ q, Thinned W H p q ∧ OutT w w' 0 W H n q v) := by
  rcases Nat.eq_zero_or_pos n with h | h
  · subst h
    refine (thin_zero W H A c p w hW hH hn).mono ?_
    rintro e w' ⟨_, rfl, ⟨A', c', rfl, hg⟩, hb⟩
    exact ⟨_, rfl, ⟨p, thinned_zero hn.symm p, A', c', rfl, hg, ArrB.nil⟩, hb⟩
  · refine (thin_pos W H A n c p w hA hB hW hH hn h hE hp).mono ?_
    rintro e w' ⟨_, rfl, ⟨g, c', q, rfl, hg, ht, ho⟩, hb⟩
    exact ⟨_, rfl, ⟨q, ht, _, c', rfl, (fun a e => by cases e; exact hg), ho.arr⟩, hb⟩
end Go.Proofs.YtoonkpjddfiopaaDoor

/- Plain laws of thinning: ink is only taken, and the number of parts is kept. No program in sight. -/
namespace Go.Proofs.YtoonkpjddfiopaaDoor
set_option linter.unusedVariables false

theorem thS_sub {W H x y : Int} {p : Int → Int} {i : Int} (h : thS W H x y p i = 1) : p i = 1 := by
  unfold thS at h
  split at h
  · unfold upd at h; split at h
    · exact absurd h (by decide)
    · exact h
  · exact h
theorem thX_sub {W H y : Int} {p : Int → Int} {i : Int} : ∀ x, thX W H y x p i = 1 → p i = 1
  | 0, h => h
  | x + 1, h => thX_sub x (thS_sub h)
theorem thY_sub {W H : Int} {Wn : Nat} {p : Int → Int} {i : Int} : ∀ y, thY W H Wn y p i = 1 → p i = 1
  | 0, h => h
  | y + 1, h => thY_sub y (thX_sub Wn h)
theorem thI_sub {W H : Nat} {p : Int → Int} {i : Int} : ∀ m, thI W H m p i = 1 → p i = 1
  | 0, h => h
  | m + 1, h => thI_sub m (thY_sub H h)
theorem thI_01 {W H : Nat} {p : Int → Int} (hp : ∀ i, p i = 0 ∨ p i = 1) : ∀ (m : Nat) (i : Int), thI W H m p i = 0 ∨ thI W H m p i = 1
  | 0, i => hp i
  | m + 1, i => thY_01 (thI_01 hp m) H i
section
variable {n W H : Nat}
theorem thS_parts (hn : n = W * H) {x y : Nat} (p : Int → Int) : (rootN n (InkN n (thS W H x y p)) (AdjN W true)).length = (rootN n (InkN n p) (AdjN W true)).length := by
  unfold thS
  split
  · rename_i h
    rw [Bool.and_eq_true] at h
    obtain ⟨h0, hg⟩ := h
    obtain ⟨-, h2, -, h4, h5⟩ := inkB_iff.1 h0
    have hx : x < W := by omega
    have hy : y < H := by omega
    obtain ⟨d1, d2⟩ := place_div (y := y) hx
    have hlt : y * W + x < n := by
      have := Nat.mul_le_mul_right W (show y + 1 ≤ H by omega)
      rw [Nat.succ_mul] at this
      rw [hn, Nat.mul_comm W H]; omega
    have := thin_parts (p := p) hn (x := y * W + x) ⟨hlt, by push_cast; exact h5⟩ (by rw [d1, d2]; exact hg)
    push_cast at this
    exact this
  · rfl
theorem thX_parts (hn : n = W * H) {y : Nat} (p : Int → Int) : ∀ x, (rootN n (InkN n (thX W H y x p)) (AdjN W true)).length = (rootN n (InkN n p) (AdjN W true)).length
  | 0 => rfl
  | x + 1 => by rw [thX, thS_parts hn, thX_parts hn p x]
theorem thY_parts (hn : n = W * H) (p : Int → Int) : ∀ y, (rootN n (InkN n (thY W H W y p)) (AdjN W true)).length = (rootN n (InkN n p) (AdjN W true)).length
  | 0 => rfl
  | y + 1 => by rw [thY, thX_parts hn, thY_parts hn p y]
theorem thI_parts (hn : n = W * H) (p : Int → Int) : ∀ m, (rootN n (InkN n (thI W H m p)) (AdjN W true)).length = (rootN n (InkN n p) (AdjN W true)).length
  | 0 => rfl
  | m + 1 => by rw [thI, thP, thY_parts hn, thI_parts hn p m]
theorem thinned_all (hn : n = W * H) {p q : Int → Int} (hp : ∀ i, p i = 0 ∨ p i = 1) (h : Thinned W H p q) : (∀ i, q i = 0 ∨ q i = 1) ∧ (∀ i, q i = 1 → p i = 1) ∧ (rootN n (InkN n q) (AdjN W true)).length = (rootN n (InkN n p) (AdjN W true)).length := by
  obtain ⟨⟨m, rfl⟩, -⟩ := h
  exact ⟨thI_01 hp m, fun i => thI_sub m, thI_parts hn p m⟩
end
end Go.Proofs.YtoonkpjddfiopaaDoor

/- Walk of the law ImageThins. -/
namespace Go.Proofs.YtoonkpjddfiopaaDoor
open Go.RowKit
set_option linter.unusedVariables false

theorem within_true (W H : Int) (A B : Option Addr) (n c d : Nat) (p q : Int → Int) (w : World) (hA : ArrB w w.heap.size A n p) (hB : ArrB w w.heap.size B n q) (hn : n ≤ maxLen) (hEa : chk W H n p = 0) (hEb : chk W H n q = 0) (hp : IsB p) (hq : IsB q) (hs : ∀ i : Int, 0 ≤ i → i < n → p i = 1 → q i = 1) :
    Calls Tryd.prog 66 #[.agg #[.int .i64 W, .int .i64 H, .slice A n c], .agg #[.int .i64 W, .int .i64 H, .slice B n d]] w fun e w' => e = .returned (.bool true) ∧ Below w.heap.size w w' :=
  within_ok W H A B n c d p q w hA hB hn hEa hEb hp hq true (by
    symm; rw [decide_eq_true_iff]
    refine sumN_nil fun i i0 i1 => ?_
    show lessF (p i) (q i) = 0
    unfold lessF
    rw [if_neg]
    rintro ⟨a, b⟩
    exact b (hs i i0 i1 a))
theorem lens_any (W H : Nat) (e : Bool) (A : Option Addr) (n c : Nat) (p : Int → Int) (w : World) (hA : ArrB w w.heap.size A n p) (hW : W ≤ 640) (hH : H ≤ 640) (hn : n = W * H) (hp : ∀ i : Int, 0 ≤ i → i < n → p i = 0 ∨ p i = 1) (K : Nat) (hK : (rootN n (InkN n p) (AdjN W e)).length = K) :
    Calls Tryd.prog 25 #[.agg #[.int .i64 W, .int .i64 H, .slice A n c], .bool e] w fun x w' => (∃ A1 c1, x = .returned (.tuple #[.slice A1 K c1, .int .i64 0])) ∧ Below w.heap.size w w' := by
  refine (comps_any W H e A n c p w hA hW hH hn hp).mono ?_
  rintro x w'' ⟨_, rfl, ⟨vo, rfl, cr⟩, hb⟩
  obtain ⟨A1, c1, rfl⟩ := crow_len cr
  rw [hK]
  exact ⟨⟨A1, c1, rfl⟩, hb⟩
set_option maxRecDepth 100000 in
set_option maxHeartbeats 4000000 in
theorem imageThins_any (s : Int) (A : Option Addr) (n c : Nat) (r : Int → Int) (w : World) (hA : ArrB w w.heap.size A n r) (hn : n ≤ maxLen) (hr : IsB r) (hs : 0 ≤ s ∧ s ≤ 65535) :
    Calls Tryd.prog 11 #[.int .u16 s, .slice A n c] w fun e w' => e = .returned (.bool true) ∧ Below w.heap.size w w' := by
  obtain ⟨hs0, hs1⟩ := hs
  obtain ⟨W, hW⟩ : ∃ W : Nat, s % 41 = W := ⟨(s % 41).toNat, by omega⟩
  obtain ⟨H, hH⟩ : ∃ H : Nat, s / 41 % 31 = H := ⟨(s / 41 % 31).toNat, by omega⟩
  have W1 : W ≤ 40 := by omega
  have H1 : H ≤ 30 := by omega
  obtain ⟨N, hN⟩ : ∃ N : Nat, N = W * H := ⟨_, rfl⟩
  have hN9 : N ≤ 1200 := by rw [hN]; exact Nat.mul_le_mul W1 H1
  have hNI : (N : Int) = (W : Int) * H := by rw [hN]; push_cast; rfl
  have hnm : N ≤ maxLen := by unfold maxLen; omega
  obtain ⟨p, hp⟩ : ∃ p, bitQ n r = p := ⟨_, rfl⟩
  have p01 : ∀ i, p i = 0 ∨ p i = 1 := fun i => by rw [← hp]; exact bit01 n r i
  have ck : ∀ f : Int → Int, (∀ i, f i = 0 ∨ f i = 1) → chk W H N f = 0 := fun f h => chk_mk (by omega) (by omega) (by omega) (by omega) hNI fun i _ _ => by rcases h i with e | e <;> omega
  have MA := Lib.hid fun w' h' => made_any s W H A n c r w' h' hn hr hs0 hs1 hW hH N hNI
  rw [hp] at MA
  have TH := Lib.hid fun (f : Int → Int) (hf : ∀ i, f i = 0 ∨ f i = 1) A' c' w' h1 => thin_any W H A' N c' f w' h1 (isB_01 hf) (by omega) (by omega) hN (ck f hf) hf
  have CO := Lib.hid fun (f : Int → Int) (hf : ∀ i, f i = 0 ∨ f i = 1) A' c' w' h1 => lens_any W H true A' N c' f w' h1 (by omega) (by omega) hN (fun i _ _ => hf i)
  have TA := Lib.hid fun q (h : Thinned W H p q) => thinned_all hN p01 h
  have P01 := Lib.hid p01
  have CK := Lib.hid ck
  have HA := Lib.hid hA
  clear hA hn hr hs0 hs1 hW hH hN hNI hp p01 ck W1 H1 hN9
  have K0 := Kp.nil w
  have b0 := Below.refl w.heap.size w
  go_enter Tryd.func11, Tryd.ntmps11
  go_wp2_with fail
  refine (MA.out _ HA.out).mono ?_
  rintro e v1 ⟨_, rfl, ⟨gva, rfl, hgva, kva⟩, hb1⟩
  have K1a := (K0.below hb1).addA (kva.arrB kva.lt)
  have b1a := below_call b0 b0.size hb1
  have z1 := b1a.size
  have b1 : Below w.heap.size w (v1.alloc (.cells #[.int .i64 W, .int .i64 H, .slice (some ⟨gva, 0, none⟩) N N] 24)) := by (repeat (first | exact Below.refl _ _ | assumption | refine Below.drew ?_ | refine below_drewN ?_ _ | refine Below.alloc ?_ (by first | omega | (simp; done) | (simp; omega)) _ | refine Below.setCell ?_ (by first | omega | (simp; done) | (simp; omega)) _ | refine below_setRow ?_ (by first | omega | (simp; done) | (simp; omega)) _ ))
  have K1 := K1a.new 24 #[.int .i64 W, .int .i64 H, .slice (some ⟨gva, 0, none⟩) N N]
  clear K0 b0 K1a b1a hb1  z1 MA hgva kva
  obtain ⟨p1, p2, p3⟩ := (K1.b 0 rfl).cells3
  go_wp2_with fail
  generalize v1.alloc (.cells #[.int .i64 W, .int .i64 H, .slice (some ⟨gva, 0, none⟩) N N] 24) = w1 at *
  refine (TH.out p P01.out _ _ _ (K1.a 0 rfl)).mono ?_
  rintro e v2 ⟨_, rfl, ⟨q, ht, Ax, cx, rfl, hgx, ax⟩, hb2⟩
  have K2a := (K1.below hb2).addA ax
  have b2a := below_call b1 b1.size hb2
  have z2 := b2a.size
  have b2 : Below w.heap.size w (v2.alloc (.cells #[.int .i64 W, .int .i64 H, .slice Ax N cx] 24)) := by (repeat (first | exact Below.refl _ _ | assumption | refine Below.drew ?_ | refine below_drewN ?_ _ | refine Below.alloc ?_ (by first | omega | (simp; done) | (simp; omega)) _ | refine Below.setCell ?_ (by first | omega | (simp; done) | (simp; omega)) _ | refine below_setRow ?_ (by first | omega | (simp; done) | (simp; omega)) _ ))
  have K2 := K2a.new 24 #[.int .i64 W, .int .i64 H, .slice Ax N cx]
  clear K1 b1 K2a b2a hb2 ax hgx p1 p2 p3 z2 
  obtain ⟨q01, qs, qk⟩ := TA.out q ht
  have TS := Lib.hid (thinned_self ht)
  have Q01 := Lib.hid q01
  have QS := Lib.hid qs
  obtain ⟨K, hK⟩ : ∃ K, (rootN N (InkN N p) (AdjN W true)).length = K := ⟨_, rfl⟩
  rw [hK] at qk
  have C1 := Lib.hid fun A' c' w' h1 => CO.out p P01.out A' c' w' h1 K hK
  have C2 := Lib.hid fun A' c' w' h1 => CO.out q q01 A' c' w' h1 K qk
  have WI := Lib.hid fun A' B' c' d' w' h1 h2 => within_true W H A' B' N c' d' q p w' h1 h2 hnm (CK.out q q01) (CK.out p P01.out) (isB_01 q01) (isB_01 P01.out) fun i _ _ => qs i
  clear q01 qs qk hK ht TA CO CK
  obtain ⟨p1, p2, p3⟩ := (K2.b 0 rfl).cells3
  go_wp2_with fail
  generalize v2.alloc (.cells #[.int .i64 W, .int .i64 H, .slice Ax N cx] 24) = w2 at *
  refine (TH.out q Q01.out _ _ _ (K2.a 0 rfl)).mono ?_
  rintro e v3 ⟨_, rfl, ⟨q', ht, Ay, cy, rfl, hgy, ay⟩, hb3⟩
  have K3a := (K2.below hb3).addA ay
  have b3a := below_call b2 b2.size hb3
  have z3 := b3a.size
  have b3 : Below w.heap.size w (v3.alloc (.cells #[.int .i64 W, .int .i64 H, .slice Ay N cy] 24)) := by (repeat (first | exact Below.refl _ _ | assumption | refine Below.drew ?_ | refine below_drewN ?_ _ | refine Below.alloc ?_ (by first | omega | (simp; done) | (simp; omega)) _ | refine Below.setCell ?_ (by first | omega | (simp; done) | (simp; omega)) _ | refine below_setRow ?_ (by first | omega | (simp; done) | (simp; omega)) _ ))
  have K3 := K3a.new 24 #[.int .i64 W, .int .i64 H, .slice Ay N cy]
  clear K2 b2 K3a b3a hb3 ay hgy p1 p2 p3 z3 
  have EQ : Hid (∀ i : Int, 0 ≤ i → i < N → q i = q' i) := fun i _ _ => by rw [TS.out.uniq ht]
  clear ht TS TH
  obtain ⟨p1, p2, p3⟩ := (K3.b 2 rfl).cells3
  go_wp2_with fail
  generalize v3.alloc (.cells #[.int .i64 W, .int .i64 H, .slice Ay N cy] 24) = w3 at *
  refine (C1.out _ _ _ (K3.a 2 rfl)).mono ?_
  rintro e v4 ⟨⟨A1, c1, rfl⟩, hb4⟩
  have K4 := K3.below hb4
  have b4 := below_call b3 b3.size hb4
  clear K3 b3 hb4 p1 p2 p3 C1
  obtain ⟨p1, p2, p3⟩ := (K4.b 1 rfl).cells3
  go_wp2_with fail
  refine (C2.out _ _ _ (K4.a 1 rfl)).mono ?_
  rintro e v5 ⟨⟨A2, c2, rfl⟩, hb5⟩
  have K5 := K4.below hb5
  have b5 := below_call b4 b4.size hb5
  clear K4 b4 hb5 p1 p2 p3 C2
  obtain ⟨p1, p2, p3⟩ := (K5.b 1 rfl).cells3
  obtain ⟨r1, r2, r3⟩ := (K5.b 2 rfl).cells3
  go_wp2_with fail
  refine (WI.out _ _ _ _ _ (K5.a 1 rfl) (K5.a 2 rfl)).mono ?_
  rintro e v6 ⟨rfl, hb6⟩
  have K6 := K5.below hb6
  have b6 := below_call b5 b5.size hb6
  clear K5 b5 hb6 p1 p2 p3 r1 r2 r3 WI
  obtain ⟨p1, p2, p3⟩ := (K6.b 1 rfl).cells3
  obtain ⟨r1, r2, r3⟩ := (K6.b 0 rfl).cells3
  go_wp2_with fail
  refine (sameInk_true W H Ax Ay N cx cy q q' _ (K6.a 1 rfl) (K6.a 0 rfl) hnm EQ.out).mono ?_
  rintro e v7 ⟨rfl, hb7⟩
  have K7 := K6.below hb7
  have b7 := below_call b6 b6.size hb7
  clear K6 b6 hb7 p1 p2 p3 r1 r2 r3 
  go_wp2_with fail
  refine (awake1_any _).mono ?_
  rintro e v8 ⟨rfl, hb8⟩
  have b8 := below_call b7 b7.size hb8
  go_wp2
  go_ret
  exact ⟨rfl, b8⟩
end Go.Proofs.YtoonkpjddfiopaaDoor
