/- Plain: full rows are found from above, one after the other. No program in sight. -/
import Derived.Test.YtdimlpcbbkokiaaS7
namespace Go.Proofs.Ytdimlpcbbkokiaa
open Go.RowKit
set_option linter.unusedVariables false

section
variable {N W H : Int} {c : Int → Int → Int} {F : Int → Int → Bool}
/-- a row that costs nothing and is nowhere forbidden costs nothing from any column on -/
theorem row_zero (hc : ∀ x y, 0 ≤ c x y ∧ c x y ≤ 2) (hN : 3 * W < N) {y : Int} (y0 : 0 ≤ y) (y1 : y < H) (hf : ∀ x : Int, 0 ≤ x → x < W → F x y = false ∧ c x y = 0) (k x : Nat) (hk : (x : Int) + k + 1 = W) : gAt N W H c F x y = 0 := by
  induction k generalizing x with
  | zero =>
    have e : (x : Int) = W - 1 := by omega
    have h1 := gAt_last (N := N) (W := W) (H := H) (c := c) (F := F) y
    rw [← e, (hf x (by omega) (by omega)).1, (hf x (by omega) (by omega)).2, if_neg (by simp)] at h1
    rw [h1]; omega
  | succ k ih =>
    have ih := ih (x + 1) (by omega)
    rw [gAt_step (by omega) (by omega), (hf x (by omega) (by omega)).1, (hf x (by omega) (by omega)).2, if_neg (by simp)]
    have lo : nxLo y = if y - 1 < 0 then 0 else y - 1 := rfl
    obtain ⟨i, hi⟩ : ∃ i : Nat, nxLo y + i = y := ⟨(y - nxLo y).toNat, by rw [lo]; split <;> omega⟩
    have hin := (nx_in y0 y1 i).2 (by rw [hi]; omega)
    have hm := mfold_at (N := N) (f := goTo (gAt N W H c F ((x : Int) + 1)) y) (lo := nxLo y) hin
    rw [hi] at hm
    rw [show ((x + 1 : Nat) : Int) = (x : Int) + 1 by omega] at ih
    have hgo : goTo (gAt N W H c F ((x : Int) + 1)) y y = 0 := by unfold goTo; rw [ih, if_pos rfl]; rfl
    rw [hgo] at hm
    have hge : 0 ≤ mfold N (goTo (gAt N W H c F ((x : Int) + 1)) y) (nxLo y) (nxN H y) := mfold_ge (by omega) fun j hj => by
      have hj2 := (nx_in y0 y1 j).1 hj
      have := gAt_bd (N := N) (F := F) hc hN (x := (x : Int) + 1) (y := nxLo y + j) (H := H) (by omega) (by omega) (by rw [lo]; split <;> omega) hj2.1
      unfold goTo; split <;> omega
    omega
/-- and the other way round -/
theorem zero_row (hc : ∀ x y, 0 ≤ c x y ∧ c x y ≤ 2) (hN : 3 * W < N) {y : Int} (y0 : 0 ≤ y) (y1 : y < H) (x : Nat) (hx : (x : Int) < W) (h0 : gAt N W H c F 0 y = 0) : gAt N W H c F x y = 0 ∧ F x y = false ∧ c x y = 0 := by
  have one : ∀ x : Nat, (x : Int) < W → gAt N W H c F x y = 0 → F x y = false ∧ c x y = 0 ∧ ((x : Int) + 1 < W → gAt N W H c F ((x : Int) + 1) y = 0) := by
    intro x hx h0
    have lo : nxLo y = if y - 1 < 0 then 0 else y - 1 := rfl
    have hcc := hc x y
    by_cases e : (x : Int) = W - 1
    · have h1 := gAt_last (N := N) (W := W) (H := H) (c := c) (F := F) y
      rw [← e, h0] at h1
      by_cases hF : F x y = true
      · rw [if_pos hF] at h1; omega
      · rw [if_neg hF] at h1
        exact ⟨by simpa using hF, by omega, by omega⟩
    · rw [gAt_step (by omega) (by omega)] at h0
      by_cases hF : F x y = true
      · rw [if_pos hF] at h0; omega
      · rw [if_neg hF] at h0
        have hge : 0 ≤ mfold N (goTo (gAt N W H c F ((x : Int) + 1)) y) (nxLo y) (nxN H y) := mfold_ge (by omega) fun j hj => by
          have hj2 := (nx_in y0 y1 j).1 hj
          have := gAt_bd (N := N) (F := F) hc hN (x := (x : Int) + 1) (y := nxLo y + j) (H := H) (by omega) (by omega) (by rw [lo]; split <;> omega) hj2.1
          unfold goTo; split <;> omega
        refine ⟨by simpa using hF, by omega, fun _ => ?_⟩
        have hz : mfold N (goTo (gAt N W H c F ((x : Int) + 1)) y) (nxLo y) (nxN H y) = 0 := by omega
        rcases mfold_is (N := N) (f := goTo (gAt N W H c F ((x : Int) + 1)) y) (lo := nxLo y) (j := nxN H y) with e1 | ⟨j, hj, e1⟩
        · omega
        · have hj2 := (nx_in y0 y1 j).1 hj
          have hb := gAt_bd (N := N) (F := F) hc hN (x := (x : Int) + 1) (y := nxLo y + j) (H := H) (by omega) (by omega) (by rw [lo]; split <;> omega) hj2.1
          rw [hz] at e1
          unfold goTo at e1
          split at e1
          · rename_i e2; rw [e2] at e1; omega
          · omega
  have all : ∀ x : Nat, (x : Int) < W → gAt N W H c F x y = 0 := by
    intro x
    induction x with
    | zero => intro _; exact h0
    | succ x ih =>
      intro hx
      have := (one x (by omega) (ih (by omega))).2.2 (by omega)
      rw [show ((x + 1 : Nat) : Int) = (x : Int) + 1 by omega]
      exact this
  have h1 := one x hx (all x hx)
  exact ⟨all x hx, h1.1, h1.2.1⟩
/-- the topmost row that costs nothing is the path -/
theorem path_row (hc : ∀ x y, 0 ≤ c x y ∧ c x y ≤ 2) (hN : 3 * W < N) (hW : 0 < W) {y : Int} (y0 : 0 ≤ y) (y1 : y < H) (hf : ∀ x : Int, 0 ≤ x → x < W → F x y = false ∧ c x y = 0) (hu : ∀ z, 0 ≤ z → z < y → ∃ x : Nat, (x : Int) < W ∧ (F x z = true ∨ c x z ≠ 0)) (x : Nat) (hx : (x : Int) < W) :
    pathP N W H c F x = y := by
  have hz : ∀ x : Nat, (x : Int) < W → gAt N W H c F x y = 0 := fun x hx => row_zero hc hN y0 y1 hf (W.toNat - 1 - x) x (by omega)
  induction x with
  | zero =>
    show fmin (gAt N W H c F 0) H.toNat = y
    have hb := fmin_bd (gAt N W H c F 0) H.toNat
    have hb2 := hb.2 (by omega)
    have h1 := fmin_le (g := gAt N W H c F 0) (n := H.toNat) (i := y) y0 (by omega)
    have h2 := hz 0 hW
    simp only [Int.natCast_zero] at h2
    rw [h2] at h1
    have h3 := gAt_bd (N := N) (F := F) hc hN (x := 0) (y := fmin (gAt N W H c F 0) H.toNat) (H := H) (by omega) hW hb.1 (by omega)
    have h4 : gAt N W H c F 0 (fmin (gAt N W H c F 0) H.toNat) = 0 := by omega
    rcases Int.lt_trichotomy (fmin (gAt N W H c F 0) H.toNat) y with h5 | h5 | h5
    · obtain ⟨x, hx, h6⟩ := hu _ hb.1 h5
      have h7 := zero_row hc hN hb.1 (by omega) x hx h4
      rcases h6 with h6 | h6
      · rw [h7.2.1] at h6; cases h6
      · exact absurd h7.2.2 h6
    · exact h5
    · have := fmin_first (g := gAt N W H c F 0) (n := H.toNat) y0 h5
      omega
  | succ x ih =>
    have ih := ih (by omega)
    have h1 := hz x (by omega)
    have h2 := nxt_spec (N := N) (W := W) (H := H) (F := F) hc (x := x) (a := y) (by omega) (by omega) y0 y1 (by omega)
    show nxt N W H c F x (pathP N W H c F x) = y
    rw [ih]
    obtain ⟨s1, s2, s3, -⟩ := h2
    rw [h1, (hf x (by omega) (by omega)).2] at s1
    have h3 := gAt_bd (N := N) (F := F) hc hN (x := (x : Int) + 1) (y := nxt N W H c F x y) (H := H) (by omega) (by omega) s2 s3
    unfold goTo at s1
    split at s1
    · assumption
    · omega
end

/-- a row that costs nothing -/
def FullR (W : Int) (c : Int → Int → Int) (y : Int) : Prop := ∀ x : Int, 0 ≤ x → x < W → c x y = 0
/-- the full rows above row y are r 0 .. r (k - 1), far apart, and they are the first k lines -/
structure Pre (N W H : Int) (c : Int → Int → Int) (y : Int) (k : Nat) (r : Nat → Int) : Prop where
  at_ : ∀ j, j < k → 0 ≤ r j ∧ r j < y
  far : ∀ j, j + 1 < k → r j + 2 < r (j + 1)
  all : ∀ z, 0 ≤ z → z < y → FullR W c z → ∃ j, j < k ∧ z = r j
  ln : ∀ j, j < k → Good N W H c j ∧ ∀ x : Nat, (x : Int) < W → LN N W H c j x = r j
section
variable {N W H : Int} {c : Int → Int → Int} {y : Int} {k : Nat} {r : Nat → Int}
theorem Pre.le (h : Pre N W H c y k r) (j : Nat) (hj : j < k) : (j : Int) ≤ r j ∧ ∀ i, i ≤ j → r i ≤ r j := by
  induction j with
  | zero => exact ⟨by have := h.at_ 0 hj; omega, fun i hi => by obtain rfl : i = 0 := by omega
                                                                exact Int.le_refl _⟩
  | succ j ih =>
    have := ih (by omega)
    have h2 := h.far j hj
    refine ⟨by omega, fun i hi => ?_⟩
    by_cases e : i = j + 1
    · subst e; exact Int.le_refl _
    · have := this.2 i (by omega); omega
theorem Pre.k_le (h : Pre N W H c y k r) (y0 : 0 ≤ y) : (k : Int) ≤ y := by
  by_cases e : k = 0
  · omega
  · have := h.le (k - 1) (by omega)
    have := h.at_ (k - 1) (by omega)
    omega
theorem Pre.fb (h : Pre N W H c y k r) (m : Nat) (hm : m ≤ k) (hW : 0 < W) (i : Int) : FB N W H c m i = true ↔ ∃ j, j < m ∧ r j - 2 ≤ i / W ∧ i / W ≤ r j + 2 := by
  have h1 : 0 ≤ i % W := Int.emod_nonneg _ (by omega)
  have h2 : i % W < W := Int.emod_lt_of_pos _ hW
  induction m with
  | zero => simp [FB]
  | succ m ih =>
    have e : pathP N W H c (fun x y => FB N W H c m (y * W + x)) (i % W).toNat = r m := (h.ln m (by omega)).2 _ (by omega)
    rw [FB]
    unfold mkF
    have ih := ih (by omega)
    rw [Bool.or_eq_true, decide_eq_true_iff, e]
    constructor
    · rintro (a | a)
      · obtain ⟨j, hj, a⟩ := ih.1 a
        exact ⟨j, by omega, a⟩
      · exact ⟨m, by omega, a⟩
    · rintro ⟨j, hj, a⟩
      by_cases e : j = m
      · subst e; exact .inr a
      · exact .inl (ih.2 ⟨j, by omega, a⟩)
theorem Pre.zero : Pre N W H c 0 0 r := ⟨fun j hj => by omega, fun j hj => by omega, fun z _ _ => by omega, fun j hj => by omega⟩
/-- a row that is not full -/
theorem Pre.skip (h : Pre N W H c y k r) (hy : ¬ FullR W c y) : Pre N W H c (y + 1) k r :=
  ⟨fun j hj => by have := h.at_ j hj; omega, h.far, fun z z0 z1 hz => h.all z z0 (by
    by_cases e : z = y
    · subst e; exact absurd hz hy
    · omega) hz, h.ln⟩
/-- a full row that is far from the last one -/
theorem Pre.next (h : Pre N W H c y k r) (hc : ∀ x y, 0 ≤ c x y ∧ c x y ≤ 2) (hN : 3 * W < N) (hW : 0 < W) (y0 : 0 ≤ y) (y1 : y < H) (hy : FullR W c y) (hl : 0 < k → r (k - 1) + 2 < y) :
    Pre N W H c (y + 1) (k + 1) (fun j => if j = k then y else r j) := by
  have hP : ∀ x : Nat, (x : Int) < W → LN N W H c k x = y := fun x hx => by
    refine path_row hc hN hW y0 y1 (fun x x0 x1 => ⟨?_, hy x x0 x1⟩) (fun z z0 z1 => ?_) x hx
    · rw [Bool.eq_false_iff]
      intro h1
      obtain ⟨j, hj, h2, h3⟩ := (h.fb k (Nat.le_refl _) hW _).1 h1
      rw [idx_div x0 x1] at h3
      have := hl (by omega)
      have := (h.le (k - 1) (by omega)).2 j (by omega)
      omega
    · by_cases hz : FullR W c z
      · obtain ⟨j, hj, rfl⟩ := h.all z z0 z1 hz
        exact ⟨0, hW, .inl ((h.fb k (Nat.le_refl _) hW _).2 ⟨j, hj, by rw [idx_div (by omega) (by omega)]; omega⟩)⟩
      · unfold FullR at hz
        obtain ⟨x, hx⟩ := Classical.not_forall.1 hz
        obtain ⟨x0, hx⟩ := Classical.not_imp.1 hx
        obtain ⟨x1, hx⟩ := Classical.not_imp.1 hx
        exact ⟨x.toNat, by omega, .inr (by rw [Int.toNat_of_nonneg x0]; exact hx)⟩
  have hG : GC N W H c k = 0 := by
    show gAt N W H c _ 0 (LN N W H c k 0) = 0
    rw [hP 0 hW]
    refine row_zero (x := 0) (k := W.toNat - 1) hc hN y0 y1 (fun x x0 x1 => ⟨?_, hy x x0 x1⟩) (by omega)
    rw [Bool.eq_false_iff]
    intro h1
    obtain ⟨j, hj, h2, h3⟩ := (h.fb k (Nat.le_refl _) hW _).1 h1
    rw [idx_div x0 x1] at h3
    have := hl (by omega)
    have := (h.le (k - 1) (by omega)).2 j (by omega)
    omega
  refine ⟨fun j hj => ?_, fun j hj => ?_, fun z z0 z1 hz => ?_, fun j hj => ?_⟩
  · split
    · omega
    · have := h.at_ j (by omega); omega
  · rw [if_neg (by omega)]
    split
    · have := hl (by omega)
      rw [show k - 1 = j by omega] at this
      exact this
    · exact h.far j (by omega)
  · by_cases e : z = y
    · exact ⟨k, by omega, by rw [if_pos rfl]; exact e⟩
    · obtain ⟨j, hj, e2⟩ := h.all z z0 (by omega) hz
      exact ⟨j, by omega, by rw [if_neg (by omega)]; exact e2⟩
  · by_cases e : j = k
    · subst e
      rw [if_pos rfl]
      exact ⟨⟨by omega, by omega⟩, hP⟩
    · rw [if_neg e]
      exact h.ln j (by omega)
/-- so many lines are among those that are found -/
theorem Pre.many (h : Pre N W H c y k r) (y0 : 0 ≤ y) (hy : y ≤ 59) {m : Nat} (hm : Many N W H c m) : k ≤ m := by
  rcases Nat.lt_or_ge m k with g | g
  · have := h.k_le y0
    exact absurd (h.ln m g).1 (hm.2.2 (by omega))
  · exact g
end
end Go.Proofs.Ytdimlpcbbkokiaa
