/- Texts of mine in build order: S2, S3, W5, W6, W7, W8, W9, W10, W11, W12, W13, Q1, W15, W21, T1, T4, T2, T3, T5, T6, T8. Conditions: each theorem's own. -/
import Derived.Test.YtoonkpjddfiopaaDoorMImageSetsx1
import Derived.RegionTactic
import Derived.Deep.DeepCutAuto
import Derived.Deep.Cut
import Derived.RangeFuncNested
import Derived.RangeFuncBound
import Derived.RangeFuncCalls
import Derived.RangeFuncLeaves
import Derived.RangeFuncFrom
import Derived.Shelf.Abstract
import Derived.Shelf.RegionOpen
import Derived.OwnWalkIn
import Derived.TacticsInMore
import Derived.LoopNIn
import Derived.LoopIn
import Derived.BigGuardIn
import Derived.Deep.RegionHeld3
import Derived.Laws.AppendOwn
import Derived.StillTailTactics
import Derived.BigQuiet
import Derived.Deep.QuietTactic
/- Plain laws of the cheapest paths: the path that is read off the costs, its cost, and that the reference reads off the same. No program in sight. -/
namespace Go.Proofs.YtoonkpjddfiopaaDoor
open Go.RowKit
set_option linter.unusedVariables false

/-- the first place at which g is least -/
def fmin (g : Int → Int) : Nat → Int
  | 0 => 0
  | y + 1 => if g y < g (fmin g y) then y else fmin g y
theorem fmin_bd (g : Int → Int) (n : Nat) : 0 ≤ fmin g n ∧ (0 < n → fmin g n < n) := by
  induction n with
  | zero => simp [fmin]
  | succ n ih =>
    rw [fmin]
    split
    · omega
    · refine ⟨ih.1, fun _ => ?_⟩
      by_cases h : 0 < n
      · have := ih.2 h; omega
      · obtain rfl : n = 0 := by omega
        show (0 : Int) < _; omega
theorem fmin_le {g : Int → Int} {n : Nat} {i : Int} (h0 : 0 ≤ i) (h : i < n) : g (fmin g n) ≤ g i := by
  induction n with
  | zero => omega
  | succ n ih =>
    rw [fmin]
    by_cases e : i = n
    · subst e; split <;> omega
    · have := ih (by omega)
      split <;> omega
theorem fmin_first {g : Int → Int} {n : Nat} {i : Int} (h0 : 0 ≤ i) (h : i < fmin g n) : g (fmin g n) < g i := by
  induction n with
  | zero => simp [fmin] at h; omega
  | succ n ih =>
    rw [fmin] at h ⊢
    by_cases e : g n < g (fmin g n)
    · rw [if_pos e] at h ⊢
      have := fmin_le (g := g) h0 h
      omega
    · rw [if_neg e] at h ⊢
      exact ih h

section
variable (N W H : Int) (c : Int → Int → Int) (F : Int → Int → Bool)
/-- the least cost from a pixel on -/
def gAt (x y : Int) : Int := gcol N W H c F (W - 1 - x).toNat y
def rAt (x y : Int) : Int := rcol N W H c F (W - 1 - x).toNat y
/-- the row in which the path goes on -/
def nxt (x a : Int) : Int :=
  if 0 ≤ idxF (fun i => decide (goTo (gAt N W H c F (x + 1)) a (nxLo a + i) = gAt N W H c F x a - c x a)) (nxN H a)
  then nxLo a + idxF (fun i => decide (goTo (gAt N W H c F (x + 1)) a (nxLo a + i) = gAt N W H c F x a - c x a)) (nxN H a) else a
def pathP : Nat → Int
  | 0 => fmin (gAt N W H c F 0) H.toNat
  | x + 1 => nxt N W H c F x (pathP x)
end
/-- the cost of a path up to a column -/
def costP (c : Int → Int → Int) (l : Int → Int) : Nat → Int
  | 0 => 0
  | x + 1 => costP c l x + c x (l x) + if 0 < x ∧ l x ≠ l ((x : Int) - 1) then 1 else 0

section
variable {N W H : Int} {c : Int → Int → Int} {F : Int → Int → Bool}
theorem gAt_last (y : Int) : gAt N W H c F (W - 1) y = if F (W - 1) y then N else min (c (W - 1) y) N := by
  unfold gAt; rw [show (W - 1 - (W - 1)).toNat = 0 by omega, gcol]
theorem gAt_step {x : Int} (h0 : 0 ≤ x) (h : x < W - 1) (y : Int) : gAt N W H c F x y = if F x y then N else min (mfold N (goTo (gAt N W H c F (x + 1)) y) (nxLo y) (nxN H y) + c x y) N := by
  unfold gAt
  obtain ⟨k, hk⟩ : ∃ k : Nat, (W - 1 - x).toNat = k + 1 := ⟨(W - 1 - x).toNat - 1, by omega⟩
  rw [hk, gcol, show W - 1 - ((k + 1 : Nat) : Int) = x by omega, show (W - 1 - (x + 1)).toNat = k by omega]
theorem gAt_bd (hc : ∀ x y, 0 ≤ c x y ∧ c x y ≤ 2) (hN : 3 * W < N) {x y : Int} (h0 : 0 ≤ x) (h : x < W) (y0 : 0 ≤ y) (y1 : y < H) : (0 ≤ gAt N W H c F x y ∧ gAt N W H c F x y ≤ 3 * (W - x)) ∨ gAt N W H c F x y = N := by
  have := cols_alike (F := F) hc hN hN (W - 1 - x).toNat (by omega) y y0 y1
  unfold gAt
  unfold Alike at this
  omega
/-- where the cost is finite there is a row to go on to -/
theorem nxt_ex (hc : ∀ x y, 0 ≤ c x y ∧ c x y ≤ 2) {x a : Int} (h0 : 0 ≤ x) (h : x < W - 1) (hf : gAt N W H c F x a < N) :
    ∃ i : Nat, i < nxN H a ∧ goTo (gAt N W H c F (x + 1)) a (nxLo a + i) = gAt N W H c F x a - c x a := by
  rw [gAt_step h0 h] at hf ⊢
  by_cases hF : F x a = true
  · rw [if_pos hF] at hf; omega
  · rw [if_neg hF] at hf ⊢
    have hcc := hc x a
    rcases mfold_is (N := N) (f := goTo (gAt N W H c F (x + 1)) a) (lo := nxLo a) (j := nxN H a) with e | ⟨i, hi, e⟩
    · rw [e] at hf; omega
    · exact ⟨i, hi, by omega⟩
theorem nxt_spec (hc : ∀ x y, 0 ≤ c x y ∧ c x y ≤ 2) {x a : Int} (h0 : 0 ≤ x) (h : x < W - 1) (a0 : 0 ≤ a) (a1 : a < H) (hf : gAt N W H c F x a < N) :
    goTo (gAt N W H c F (x + 1)) a (nxt N W H c F x a) = gAt N W H c F x a - c x a ∧ 0 ≤ nxt N W H c F x a ∧ nxt N W H c F x a < H ∧ a - 1 ≤ nxt N W H c F x a ∧ nxt N W H c F x a ≤ a + 1 ∧
      ∀ y, 0 ≤ y → a - 1 ≤ y → y < nxt N W H c F x a → goTo (gAt N W H c F (x + 1)) a y ≠ gAt N W H c F x a - c x a := by
  obtain ⟨i, hi, e⟩ := nxt_ex hc h0 h hf
  have hex : 0 ≤ idxF (fun i => decide (goTo (gAt N W H c F (x + 1)) a (nxLo a + i) = gAt N W H c F x a - c x a)) (nxN H a) := idxF_iff.2 ⟨i, by omega, by omega, by simpa using e⟩
  have sp : ∀ n : Nat, ∀ f : Int → Bool, 0 ≤ idxF f n → idxF f n < n ∧ f (idxF f n) = true ∧ ∀ j : Int, 0 ≤ j → j < idxF f n → f j = false := by
    intro n f
    induction n with
    | zero => intro h; simp [idxF] at h
    | succ n ih =>
      intro h
      rw [idxF] at h ⊢
      by_cases h1 : 0 ≤ idxF f n
      · rw [if_pos h1]; have := ih h1; exact ⟨by omega, this.2.1, this.2.2⟩
      · rw [if_neg h1] at h ⊢
        by_cases h2 : f n = true
        · rw [if_pos h2]
          exact ⟨by omega, h2, fun j j0 j1 => Bool.eq_false_iff.2 fun h3 => h1 (idxF_iff.2 ⟨j, j0, j1, h3⟩)⟩
        · rw [if_neg h2] at h; omega
  obtain ⟨s1, s2, s3⟩ := sp _ _ hex
  have hn : nxt N W H c F x a = nxLo a + idxF (fun i => decide (goTo (gAt N W H c F (x + 1)) a (nxLo a + i) = gAt N W H c F x a - c x a)) (nxN H a) := by unfold nxt; rw [if_pos hex]
  generalize idxF (fun i => decide (goTo (gAt N W H c F (x + 1)) a (nxLo a + i) = gAt N W H c F x a - c x a)) (nxN H a) = k at *
  rw [hn]
  obtain ⟨k', rfl⟩ := Int.eq_ofNat_of_zero_le hex
  have hin := (nx_in a0 a1 k').1 (by omega)
  have lo : nxLo a = if a - 1 < 0 then 0 else a - 1 := rfl
  have lo2 : 0 ≤ nxLo a ∧ a - 1 ≤ nxLo a ∧ (0 < nxLo a → nxLo a = a - 1) := by rw [lo]; split <;> omega
  refine ⟨by simpa using s2, by omega, hin.1, by omega, hin.2, fun y y0 y1 y2 hy => ?_⟩
  have h4 : nxLo a ≤ y := by rw [lo]; split <;> omega
  have := s3 (y - nxLo a) (by omega) (by omega)
  rw [show nxLo a + (y - nxLo a) = y by omega] at this
  simp at this
  exact this hy
/-- the path stays in the image and its costs stay finite -/
theorem path_ok (hc : ∀ x y, 0 ≤ c x y ∧ c x y ≤ 2) (hN : 3 * W < N) (hH : 0 < H) (hW : 0 < W) (hf : gAt N W H c F 0 (pathP N W H c F 0) < N) (x : Nat) (hx : (x : Int) < W) :
    0 ≤ pathP N W H c F x ∧ pathP N W H c F x < H ∧ gAt N W H c F x (pathP N W H c F x) < N := by
  induction x with
  | zero =>
    have := fmin_bd (gAt N W H c F 0) H.toNat
    refine ⟨this.1, ?_, hf⟩
    have := this.2 (by omega)
    show fmin _ _ < H
    omega
  | succ x ih =>
    obtain ⟨i1, i2, i3⟩ := ih (by omega)
    obtain ⟨s1, s2, s3, s4, s5, -⟩ := nxt_spec hc (by omega) (by omega : (x : Int) < W - 1) i1 i2 i3
    refine ⟨s2, s3, ?_⟩
    show gAt N W H c F ((x + 1 : Nat) : Int) (nxt N W H c F x (pathP N W H c F x)) < N
    have hcc := hc x (pathP N W H c F x)
    unfold goTo at s1
    rw [show ((x + 1 : Nat) : Int) = (x : Int) + 1 by omega]
    split at s1 <;> omega
theorem path_cost (hc : ∀ x y, 0 ≤ c x y ∧ c x y ≤ 2) (hN : 3 * W < N) (hH : 0 < H) (hW : 0 < W) (hf : gAt N W H c F 0 (pathP N W H c F 0) < N) (x : Nat) (hx : (x : Int) < W) :
    costP c (fun i => pathP N W H c F i.toNat) (x + 1) + gAt N W H c F x (pathP N W H c F x) = gAt N W H c F 0 (pathP N W H c F 0) + c x (pathP N W H c F x) := by
  induction x with
  | zero => simp [costP]; omega
  | succ x ih =>
    have ih := ih (by omega)
    obtain ⟨i1, i2, i3⟩ := path_ok hc hN hH hW hf x (by omega)
    obtain ⟨s1, -, -, -, -, -⟩ := nxt_spec hc (by omega) (by omega : (x : Int) < W - 1) i1 i2 i3
    rw [costP]
    have e : pathP N W H c F (x + 1) = nxt N W H c F x (pathP N W H c F x) := rfl
    rw [← e] at s1
    unfold goTo at s1
    simp only [Int.toNat_natCast, show ((x + 1 : Nat) : Int) - 1 = (x : Int) by omega]
    rw [show ((x + 1 : Nat) : Int) = (x : Int) + 1 by omega] at *
    by_cases hq : pathP N W H c F (x + 1) = pathP N W H c F x
    · rw [if_pos hq] at s1
      rw [if_neg (by simp [hq])]
      omega
    · rw [if_neg hq] at s1
      rw [if_pos ⟨by omega, hq⟩]
      omega
/-- the whole path costs what stands at its start -/
theorem path_total (hc : ∀ x y, 0 ≤ c x y ∧ c x y ≤ 2) (hN : 3 * W < N) (hH : 0 < H) (hW : 0 < W) (hf : gAt N W H c F 0 (pathP N W H c F 0) < N) :
    costP c (fun i => pathP N W H c F i.toNat) W.toNat = gAt N W H c F 0 (pathP N W H c F 0) := by
  obtain ⟨x, hx⟩ : ∃ x : Nat, W.toNat = x + 1 := ⟨W.toNat - 1, by omega⟩
  have h1 := path_cost hc hN hH hW hf x (by omega)
  obtain ⟨i1, i2, i3⟩ := path_ok hc hN hH hW hf x (by omega)
  have e : (x : Int) = W - 1 := by omega
  rw [hx]
  have hl := gAt_last (N := N) (W := W) (H := H) (c := c) (F := F) (pathP N W H c F x)
  rw [← e] at hl
  rw [hl] at h1 i3
  by_cases hF : F x (pathP N W H c F x) = true
  · rw [if_pos hF] at i3; omega
  · rw [if_neg hF] at h1 i3; omega
end
end Go.Proofs.YtoonkpjddfiopaaDoor

/- Plain laws of the cheapest paths: the reference finds the same path. No program in sight. -/
namespace Go.Proofs.YtoonkpjddfiopaaDoor
open Go.RowKit
set_option linter.unusedVariables false
section
variable {N M W H : Int} {c : Int → Int → Int} {F : Int → Int → Bool}
theorem gr_alike (hc : ∀ x y, 0 ≤ c x y ∧ c x y ≤ 2) (hN : 3 * W < N) (hM : 3 * W < M) {x y : Int} (h0 : 0 ≤ x) (h : x < W) (y0 : 0 ≤ y) (y1 : y < H) :
    (gAt N W H c F x y < N ∧ rAt M W H c F x y = gAt N W H c F x y ∧ gAt N W H c F x y ≤ 3 * W ∧ 0 ≤ gAt N W H c F x y) ∨ (gAt N W H c F x y = N ∧ rAt M W H c F x y = M) := by
  have := cols_alike (F := F) hc hN hM (W - 1 - x).toNat (by omega) y y0 y1
  unfold gAt rAt
  unfold Alike at this
  omega
/-- the least cost of the first column, as the reference reckons it -/
def rleast (M W H : Int) (c : Int → Int → Int) (F : Int → Int → Bool) : Int := mfold M (rAt M W H c F 0) 0 H.toNat
theorem rleast_eq (hc : ∀ x y, 0 ≤ c x y ∧ c x y ≤ 2) (hN : 3 * W < N) (hM : 3 * W < M) (hW : 0 < W) (hH : 0 < H) :
    (gAt N W H c F 0 (pathP N W H c F 0) < N ∧ rleast M W H c F = gAt N W H c F 0 (pathP N W H c F 0) ∧ rleast M W H c F < M) ∨ (gAt N W H c F 0 (pathP N W H c F 0) = N ∧ rleast M W H c F = M) := by
  have hp := fmin_bd (gAt N W H c F 0) H.toNat
  have h2 := hp.2 (by omega)
  have e : pathP N W H c F 0 = fmin (gAt N W H c F 0) H.toNat := rfl
  rw [← e] at hp h2
  have ha := gr_alike (H := H) (F := F) hc hN hM (x := 0) (y := pathP N W H c F 0) (by omega) hW hp.1 (by omega)
  have hle : ∀ i : Nat, i < H.toNat → gAt N W H c F 0 (pathP N W H c F 0) ≤ gAt N W H c F 0 i := fun i hi => fmin_le (by omega) (by omega)
  have hat := mfold_at (N := M) (f := rAt M W H c F 0) (lo := 0) (j := H.toNat) (i := (pathP N W H c F 0).toNat) (by omega)
  rw [show (0 : Int) + ((pathP N W H c F 0).toNat : Int) = pathP N W H c F 0 by omega] at hat
  have hlM := mfold_le M (rAt M W H c F 0) 0 H.toNat
  rcases ha with ⟨a1, a2, a3, a4⟩ | ⟨a1, a2⟩
  · left
    have hge : gAt N W H c F 0 (pathP N W H c F 0) ≤ mfold M (rAt M W H c F 0) 0 H.toNat := mfold_ge (by omega) fun i hi => by
      have hi2 := hle i hi
      rw [Int.zero_add]
      have := gr_alike (H := H) (F := F) hc hN hM (x := 0) (y := i) (by omega) hW (by omega) (by omega)
      omega
    unfold rleast
    omega
  · right
    refine ⟨a1, ?_⟩
    unfold rleast
    rcases mfold_is (N := M) (f := rAt M W H c F 0) (lo := 0) (j := H.toNat) with h | ⟨i, hi, h⟩
    · exact h
    · have hi2 := hle i hi
      rw [Int.zero_add] at h
      have := gr_alike (H := H) (F := F) hc hN hM (x := 0) (y := i) (by omega) hW (by omega) (by omega)
      omega
/-- the reference's test in the first column -/
theorem rfirst (hc : ∀ x y, 0 ≤ c x y ∧ c x y ≤ 2) (hN : 3 * W < N) (hM : 3 * W < M) (hW : 0 < W) (hH : 0 < H) (hf : gAt N W H c F 0 (pathP N W H c F 0) < N) :
    (rAt M W H c F 0 (pathP N W H c F 0) ≠ M ∧ rAt M W H c F 0 (pathP N W H c F 0) = rleast M W H c F) ∧ ∀ y, 0 ≤ y → y < pathP N W H c F 0 → ¬ (rAt M W H c F 0 y ≠ M ∧ rAt M W H c F 0 y = rleast M W H c F) := by
  have hp := fmin_bd (gAt N W H c F 0) H.toNat
  have h2 := hp.2 (by omega)
  have e : pathP N W H c F 0 = fmin (gAt N W H c F 0) H.toNat := rfl
  rw [← e] at hp h2
  have hl := rleast_eq (H := H) (F := F) hc hN hM hW hH
  have ha := gr_alike (H := H) (F := F) hc hN hM (x := 0) (y := pathP N W H c F 0) (by omega) hW hp.1 (by omega)
  refine ⟨by omega, fun y y0 y1 => ?_⟩
  have hy := gr_alike (H := H) (F := F) hc hN hM (x := 0) (y := y) (by omega) hW y0 (by omega)
  have := fmin_first (g := gAt N W H c F 0) (n := H.toNat) y0 (by rw [← e]; exact y1)
  rw [← e] at this
  omega
/-- the reference's test in a later column: what is left is the cost of the last pixel's rest -/
theorem rnext (hc : ∀ x y, 0 ≤ c x y ∧ c x y ≤ 2) (hN : 3 * W < N) (hM : 3 * W < M) (hW : 0 < W) (hH : 0 < H) (hf : gAt N W H c F 0 (pathP N W H c F 0) < N) (x : Nat) (hx : (x : Int) + 1 < W) :
    (rAt M W H c F (x + 1) (pathP N W H c F (x + 1)) ≠ M ∧ rAt M W H c F (x + 1) (pathP N W H c F (x + 1)) + (if pathP N W H c F (x + 1) = pathP N W H c F x then 0 else 1) = rAt M W H c F x (pathP N W H c F x) - c x (pathP N W H c F x)) ∧
    (0 ≤ pathP N W H c F (x + 1) ∧ pathP N W H c F (x + 1) < H ∧ pathP N W H c F x - 1 ≤ pathP N W H c F (x + 1) ∧ pathP N W H c F (x + 1) ≤ pathP N W H c F x + 1) ∧
    ∀ y, 0 ≤ y → y < H → pathP N W H c F x - 1 ≤ y → y < pathP N W H c F (x + 1) → ¬ (rAt M W H c F (x + 1) y ≠ M ∧ rAt M W H c F (x + 1) y + (if y = pathP N W H c F x then 0 else 1) = rAt M W H c F x (pathP N W H c F x) - c x (pathP N W H c F x)) := by
  obtain ⟨i1, i2, i3⟩ := path_ok hc hN hH hW hf x (by omega)
  obtain ⟨j1, j2, j3⟩ := path_ok hc hN hH hW hf (x + 1) (by omega)
  obtain ⟨s1, s2, s3, s4, s5, s6⟩ := nxt_spec hc (by omega) (by omega : (x : Int) < W - 1) i1 i2 i3
  have e : nxt N W H c F x (pathP N W H c F x) = pathP N W H c F (x + 1) := rfl
  rw [e] at s1 s2 s3 s4 s5 s6
  have ha := gr_alike (H := H) (F := F) hc hN hM (x := x) (by omega) (by omega) i1 i2
  have hb := gr_alike (H := H) (F := F) hc hN hM (x := (x : Int) + 1) (by omega) (by omega) j1 j2
  rw [show ((x + 1 : Nat) : Int) = (x : Int) + 1 by omega] at j3
  have hcc := hc x (pathP N W H c F x)
  unfold goTo at s1 s6
  refine ⟨⟨by omega, ?_⟩, ⟨s2, s3, s4, s5⟩, fun y y0 y1 y2 y3 ⟨h1, h2⟩ => ?_⟩
  · split at s1 <;> split <;> omega
  · have hy := gr_alike (H := H) (F := F) hc hN hM (x := (x : Int) + 1) (y := y) (by omega) (by omega) y0 y1
    have := s6 y y0 y2 y3
    split at h2 <;> split at this <;> omega
end
end Go.Proofs.YtoonkpjddfiopaaDoor

/- Walks: Skew and Unskew; the profile of an image; its full rows. -/
namespace Go.Proofs.YtoonkpjddfiopaaDoor
open Go.RowKit
set_option linter.unusedVariables false

end Go.Proofs.YtoonkpjddfiopaaDoor

/- Walks: the profile of an image; its full rows. -/
namespace Go.Proofs.YtoonkpjddfiopaaDoor
open Go.RowKit
set_option linter.unusedVariables false

def rowS (W : Int) (n : Nat) (p : Int → Int) (y : Int) : Int := sumN n fun j => if j / W = y then p j else 0
def colS (W : Int) (n : Nat) (p : Int → Int) (x : Int) : Int := sumN n fun j => if j % W = x then p j else 0

theorem rowS_bd {W : Int} {n : Nat} {p : Int → Int} (hB : IsB p) (h : ∀ i : Int, 0 ≤ i → i < n → p i ≤ 1) (y : Int) : 0 ≤ rowS W n p y ∧ rowS W n p y ≤ n := by
  have := sumN_bd (n := n) (f := fun j => if j / W = y then p j else 0) (m := 1) (fun i a b => by
    have := hB i; have := h i a b
    show 0 ≤ (if i / W = y then p i else 0) ∧ (if i / W = y then p i else 0) ≤ 1
    split <;> omega)
  unfold rowS; omega
theorem colS_bd {W : Int} {n : Nat} {p : Int → Int} (hB : IsB p) (h : ∀ i : Int, 0 ≤ i → i < n → p i ≤ 1) (y : Int) : 0 ≤ colS W n p y ∧ colS W n p y ≤ n := by
  have := sumN_bd (n := n) (f := fun j => if j % W = y then p j else 0) (m := 1) (fun i a b => by
    have := hB i; have := h i a b
    show 0 ≤ (if i % W = y then p i else 0) ∧ (if i % W = y then p i else 0) ≤ 1
    split <;> omega)
  unfold colS; omega
theorem rowS_step {W : Int} {k : Nat} {p : Int → Int} (y : Int) : upd (rowS W k p) (k / W) (rowS W k p (k / W) + p k) y = rowS W (k + 1) p y := by
  show (if y = k / W then _ else _) = sumN (k + 1) _
  rw [sumN]
  by_cases e : y = k / W
  · subst e; rw [if_pos rfl, if_pos rfl]; rfl
  · rw [if_neg e, if_neg (fun h => e h.symm)]; simp [rowS]
theorem colS_step {W : Int} {k : Nat} {p : Int → Int} (y : Int) : upd (colS W k p) (k % W) (colS W k p (k % W) + p k) y = colS W (k + 1) p y := by
  show (if y = k % W then _ else _) = sumN (k + 1) _
  rw [sumN]
  by_cases e : y = k % W
  · subst e; rw [if_pos rfl, if_pos rfl]; rfl
  · rw [if_neg e, if_neg (fun h => e h.symm)]; simp [colS]

set_option maxRecDepth 100000 in
set_option maxHeartbeats 1000000 in
theorem profile_ok (W H : Int) (A : Option Addr) (n c : Nat) (p : Int → Int) (w : World) (hA : ArrB w w.heap.size A n p) (hn : n ≤ maxLen) (hB : IsB p) (hE : chk W H n p = 0) :
    Calls Tryd.prog 46 #[.agg #[.int .i64 W, .int .i64 H, .slice A n c]] w
      (New w fun v w' => ∃ g1 g2, v = .tuple #[.slice (some ⟨g1, 0, none⟩) H.toNat H.toNat, .slice (some ⟨g2, 0, none⟩) W.toNat W.toNat, .int .i64 0] ∧ w.heap.size ≤ g1 ∧ w.heap.size ≤ g2 ∧ g1 ≠ g2 ∧
        Blk w' g1 3 (i64s H.toNat (rowS W n p)) ∧ Blk w' g2 3 (i64s W.toNat (colS W n p))) := by
  obtain ⟨hW1, hW2, hH1, hH2, hnn, hp⟩ := chk_ok hE
  have HC := Lib.hid hE
  have hn4 : n ≤ 409600 := by have := (area_bd hW1 hW2 hH1 hH2).2; omega
  have HN := Lib.hid hnn
  clear hE hnn
  have hmk1 := makeI H hH1 (by omega)
  have hmk2 := makeI W hW1 (by omega)
  go_enter Tryd.func46, Tryd.ntmps46
  go_wp2_with fail
  refine (check_any W H A n c p _ (hA.to (by (repeat (first | exact Below.refl _ _ | assumption | refine Below.drew ?_ | refine below_drewN ?_ _ | refine Below.alloc ?_ (by first | omega | (simp; done) | (simp; omega)) _ | refine Below.setCell ?_ (by first | omega | (simp; done) | (simp; omega)) _ | refine below_setRow ?_ (by first | omega | (simp; done) | (simp; omega)) _ )))) hn).mono ?_
  rintro e w1 ⟨rfl, hb1⟩
  rw [HC.out]
  have k1 : Blk w1 w.heap.size 24 #[.int .i64 W, .int .i64 H, .slice A n c] := (Blk.new _ _ _).below' hb1
  have z1 : w.heap.size < w1.heap.size := by have := hb1.size; simp at this; omega
  have b1 : Below w.heap.size w w1 := below_call (by (repeat (first | exact Below.refl _ _ | assumption | refine Below.drew ?_ | refine below_drewN ?_ _ | refine Below.alloc ?_ (by first | omega | (simp; done) | (simp; omega)) _ | refine Below.setCell ?_ (by first | omega | (simp; done) | (simp; omega)) _ | refine below_setRow ?_ (by first | omega | (simp; done) | (simp; omega)) _ ))) (by simp; try omega) hb1
  obtain ⟨p1, p2, p3⟩ := k1.cells3
  clear hb1
  go_upto_region 4 with fail
  go_cut [2, 3] (fun a b wx => ∃ g1 g2, a = .slice (some ⟨g1, 0, none⟩) H.toNat H.toNat ∧ b = .slice (some ⟨g2, 0, none⟩) W.toNat W.toNat ∧ g1 ≠ g2 ∧ w1.heap.size ≤ g1 ∧ w1.heap.size ≤ g2 ∧
    Blk wx g1 3 (i64s H.toNat (fun _ => 0)) ∧ Blk wx g2 3 (i64s W.toNat (fun _ => 0)) ∧ Below w1.heap.size w1 wx)
  case first =>
    go_region
    · go_wp2_with fail
      go_meet
      exact ⟨w1.heap.size, w1.heap.size + 1, rfl, rfl, by omega, by omega, by omega, ((Blk.new _ _ _).alloc _).drew, (Blk.new' (by simp) _ _).drew, by (repeat (first | exact Below.refl _ _ | assumption | refine Below.drew ?_ | refine below_drewN ?_ _ | refine Below.alloc ?_ (by first | omega | (simp; done) | (simp; omega)) _ | refine Below.setCell ?_ (by first | omega | (simp; done) | (simp; omega)) _ | refine below_setRow ?_ (by first | omega | (simp; done) | (simp; omega)) _ ))⟩
    · go_wp2_with fail
      go_meet
      exact ⟨w1.heap.size + 1, w1.heap.size, rfl, rfl, by omega, by omega, by omega, (Blk.new' (by simp) _ _).drew, ((Blk.new _ _ _).alloc _).drew, by (repeat (first | exact Below.refl _ _ | assumption | refine Below.drew ?_ | refine below_drewN ?_ _ | refine Below.alloc ?_ (by first | omega | (simp; done) | (simp; omega)) _ | refine Below.setCell ?_ (by first | omega | (simp; done) | (simp; omega)) _ | refine below_setRow ?_ (by first | omega | (simp; done) | (simp; omega)) _ ))⟩
  case rest =>
    obtain ⟨g1, g2, rfl, rfl, hne, hg1, hg2, kg1, kg2, hb2⟩ := hcut
    have k1 := k1.below' hb2
    have b1 := below_call b1 (by omega) hb2
    clear hb2 p1 p2 p3 hmk1 hmk2
    obtain ⟨p1, p2, p3⟩ := k1.cells3
    go_wp2
    go_loopw [22] (fun s wr => ∃ i : Nat, i ≤ n ∧ s = .int .i64 i ∧ Below w.heap.size w wr ∧ Blk wr w.heap.size 24 #[.int .i64 W, .int .i64 H, .slice A n c] ∧
      Blk wr g1 3 (i64s H.toNat (rowS W i p)) ∧ Blk wr g2 3 (i64s W.toNat (colS W i p))) (fun s _ => n - (intOf s).toNat)
    case atStart => exact ⟨0, by omega, rfl, b1, k1, kg1, kg2⟩
    case round =>
      obtain ⟨i, hi, rfl, b2, k2, kr, kc⟩ := hrel
      clear p1 p2 p3 k1 b1 kg1 kg2
      obtain ⟨p1, p2, p3⟩ := k2.cells3
      by_cases hlt : i < n
      · have hi0 : (0 : Int) ≤ i := by omega
        have hiN : (i : Int) < n := by omega
        have hWp : 0 < W := by
          rcases Int.lt_or_le 0 W with h | h
          · exact h
          · have e : W = 0 := by omega
            have := HN.out; rw [e] at this; simp at this; omega
        have hW0 : ¬ W = 0 := by omega
        obtain ⟨_, _, hx0, hx, hy0, hy, -, rfl, rfl⟩ := idx_of hi0 hWp (H := H) (by have := HN.out; rw [Int.mul_comm] at this; omega)
        have SR := Lib.hid (fun y => rowS_step (W := W) (k := i) (p := p) y)
        have SC := Lib.hid (fun y => colS_step (W := W) (k := i) (p := p) y)
        have hr := kr.i64at hy0 (by omega)
        have hc := kc.i64at hx0 (by omega)
        have fr := kr.frozen (↑i / W).toNat
        have fc := kc.frozen (↑i % W).toNat
        obtain ⟨br1, br2⟩ := rowS_bd (W := W) (n := i) hB (fun j a b => hp j a (by omega)) (↑i / W)
        obtain ⟨bc1, bc2⟩ := colS_bd (W := W) (n := i) hB (fun j a b => hp j a (by omega)) (↑i % W)
        obtain ⟨pb1, pb2⟩ := hB i
        obtain ⟨b, off, rfl, hbB, hcell⟩ := ArrB.at_ (ArrB.below hA b2) hi0 hiN
        rw [Int.toNat_natCast] at hcell
        have UR := Lib.hid (kr.i64set _ hy0 (rowS W i p (↑i / W) + p i))
        have hp1 := hp i hi0 hiN
        go_wp2
        go_roundw
        case rel =>
          refine ⟨i + 1, by omega, by go_num, by (repeat (first | exact Below.refl _ _ | assumption | refine Below.drew ?_ | refine below_drewN ?_ _ | refine Below.alloc ?_ (by first | omega | (simp; done) | (simp; omega)) _ | refine Below.setCell ?_ (by first | omega | (simp; done) | (simp; omega)) _ | refine below_setRow ?_ (by first | omega | (simp; done) | (simp; omega)) _ )), (k2.far (by simp; omega) _).far (by simp; omega) _, ?_, ?_⟩
          · exact (UR.out.far (by simpa using hne) _).i64conv fun y _ _ => SR.out y
          · exact ((kc.far (by simpa using hne.symm) _).i64set _ hx0 _).i64conv fun y _ _ => SC.out y
        case measure => simp [intOf]; omega
      · obtain rfl : i = n := by omega
        go_wp2
        go_ret3
        exact ⟨_, rfl, ⟨g1, g2, rfl, by omega, by omega, hne, kr, kc⟩, b2⟩

set_option maxHeartbeats 400000 in
theorem profile_bad (W H : Int) (A : Option Addr) (n c : Nat) (p : Int → Int) (z : Int) (w : World) (hA : ArrB w w.heap.size A n p) (hn : n ≤ maxLen) (hE : chk W H n p = z) (hz : z ≠ 0) :
    Calls Tryd.prog 46 #[.agg #[.int .i64 W, .int .i64 H, .slice A n c]] w
      fun e w' => e = .returned (.tuple #[.slice none 0 0, .slice none 0 0, .int .i64 z]) ∧ Below w.heap.size w w' := by
  have CA := fun w' hA' => check_any W H A n c p w' hA' hn
  rw [hE] at CA
  clear hE
  have CA := Lib.hid CA
  go_enter Tryd.func46, Tryd.ntmps46
  go_wp2_with fail
  refine (CA.out _ (hA.to (by (repeat (first | exact Below.refl _ _ | assumption | refine Below.drew ?_ | refine below_drewN ?_ _ | refine Below.alloc ?_ (by first | omega | (simp; done) | (simp; omega)) _ | refine Below.setCell ?_ (by first | omega | (simp; done) | (simp; omega)) _ | refine below_setRow ?_ (by first | omega | (simp; done) | (simp; omega)) _ ))))).mono ?_
  rintro e w1 ⟨rfl, hb1⟩
  have b1 : Below w.heap.size w w1 := below_call (by (repeat (first | exact Below.refl _ _ | assumption | refine Below.drew ?_ | refine below_drewN ?_ _ | refine Below.alloc ?_ (by first | omega | (simp; done) | (simp; omega)) _ | refine Below.setCell ?_ (by first | omega | (simp; done) | (simp; omega)) _ | refine below_setRow ?_ (by first | omega | (simp; done) | (simp; omega)) _ ))) (by simp; try omega) hb1
  go_wp2_with fail
  go_ret3
  exact ⟨rfl, b1⟩

/-- how many of the first m rows are full -/
def fullP (W : Int) (n : Nat) (p : Int → Int) (m : Nat) : Int := if 0 < W then sumN m (fun y => if rowS W n p y = W then 1 else 0) else 0
def fullS (W H : Int) (n : Nat) (p : Int → Int) : Int := fullP W n p H.toNat
theorem fullP_bd (W : Int) (n m : Nat) (p : Int → Int) : 0 ≤ fullP W n p m ∧ fullP W n p m ≤ m := by
  have := sumN_bd (n := m) (f := fun y => if rowS W n p y = W then 1 else 0) (m := 1) (fun i a b => by
    show 0 ≤ (if rowS W n p i = W then (1 : Int) else 0) ∧ (if rowS W n p i = W then (1 : Int) else 0) ≤ 1
    split <;> omega)
  unfold fullP
  split <;> omega
theorem fullP_yes {W : Int} {n m : Nat} {p : Int → Int} (h : 0 < W) (e : rowS W n p m = W) : fullP W n p (m + 1) = fullP W n p m + 1 := by
  unfold fullP; rw [if_pos h, if_pos h, sumN, if_pos e]
theorem fullP_no {W : Int} {n m : Nat} {p : Int → Int} (h : ¬ (0 < W ∧ rowS W n p m = W)) : fullP W n p (m + 1) = fullP W n p m := by
  unfold fullP
  by_cases hW : 0 < W
  · rw [if_pos hW, if_pos hW, sumN, if_neg (fun e => h ⟨hW, e⟩)]; simp
  · rw [if_neg hW, if_neg hW]

end Go.Proofs.YtoonkpjddfiopaaDoor

/- Walks: how many pixels have each level; the threshold of a grey image. -/
namespace Go.Proofs.YtoonkpjddfiopaaDoor
open Go.RowKit
set_option linter.unusedVariables false

def cntS (n : Nat) (p : Int → Int) (v : Int) : Int := sumN n fun j => if p j = v then 1 else 0
theorem cntS_bd (n : Nat) (p : Int → Int) (v : Int) : 0 ≤ cntS n p v ∧ cntS n p v ≤ n := by
  have := sumN_bd (n := n) (f := fun j => if p j = v then 1 else 0) (m := 1) (fun i a b => by
    show 0 ≤ (if p i = v then (1 : Int) else 0) ∧ (if p i = v then (1 : Int) else 0) ≤ 1
    split <;> omega)
  unfold cntS; omega
theorem cntS_step {n : Nat} {p : Int → Int} (v : Int) : upd (cntS n p) (p n) (cntS n p (p n) + 1) v = cntS (n + 1) p v := by
  show (if v = p n then _ else _) = sumN (n + 1) _
  rw [sumN]
  by_cases e : v = p n
  · subst e; rw [if_pos rfl, if_pos rfl]; rfl
  · rw [if_neg e, if_neg (fun h => e h.symm)]; simp [cntS]

theorem make256 (w : World) : (Instr.makeSlice 58 (.int .i64 256) (.int .i64 256)).run Tryd.prog w =
    .ok (.slice (some ⟨w.heap.size, 0, none⟩) 256 256) (w.alloc (.cells (i64s 256 (fun _ => 0)) 3)) := makeI 256 (by omega) (by omega) w

set_option maxHeartbeats 1000000 in
theorem levels_ok (W H : Int) (A : Option Addr) (n c : Nat) (p : Int → Int) (w : World) (hA : ArrB w w.heap.size A n p) (hn : n ≤ maxLen) (hB : IsB p) (hE : sidesB W H n = true) :
    Calls Tryd.prog 35 #[.agg #[.int .i64 W, .int .i64 H, .slice A n c]] w
      (New w fun v w' => ∃ g, v = .tuple #[.slice (some ⟨g, 0, none⟩) 256 256, .int .i64 0] ∧ w.heap.size ≤ g ∧ Blk w' g 3 (i64s 256 (cntS n p))) := by
  have CA := fun w' => checkGrey_any W H A n c w'
  rw [hE, if_pos rfl] at CA
  clear hE
  have CA := Lib.hid CA
  have hmk := make256
  unfold maxLen at hn
  go_enter Tryd.func35, Tryd.ntmps35
  go_wp2_with fail
  refine (CA.out _).mono ?_
  rintro e w1 ⟨rfl, hb1⟩
  have k1 : Blk w1 w.heap.size 55 #[.int .i64 W, .int .i64 H, .slice A n c] := (Blk.new _ _ _).below' hb1
  have z1 : w.heap.size < w1.heap.size := by have := hb1.size; simp at this; omega
  have b1 : Below w.heap.size w w1 := below_call (by (repeat (first | exact Below.refl _ _ | assumption | refine Below.drew ?_ | refine below_drewN ?_ _ | refine Below.alloc ?_ (by first | omega | (simp; done) | (simp; omega)) _ | refine Below.setCell ?_ (by first | omega | (simp; done) | (simp; omega)) _ | refine below_setRow ?_ (by first | omega | (simp; done) | (simp; omega)) _ ))) (by simp; try omega) hb1
  obtain ⟨p1, p2, p3⟩ := k1.cells3
  clear hb1
  go_wp2_with fail
  go_loopw [17] (fun s wr => ∃ i : Nat, i ≤ n ∧ s = .int .i64 i ∧ Below w.heap.size w wr ∧ Blk wr w1.heap.size 3 (i64s 256 (cntS i p))) (fun s _ => n - (intOf s).toNat)
  case atStart => exact ⟨0, by omega, rfl, by (repeat (first | exact Below.refl _ _ | assumption | refine Below.drew ?_ | refine below_drewN ?_ _ | refine Below.alloc ?_ (by first | omega | (simp; done) | (simp; omega)) _ | refine Below.setCell ?_ (by first | omega | (simp; done) | (simp; omega)) _ | refine below_setRow ?_ (by first | omega | (simp; done) | (simp; omega)) _ )), Blk.new _ _ _⟩
  case round =>
    obtain ⟨i, hi, rfl, b2, kr⟩ := hrel
    clear hmk
    by_cases hlt : i < n
    · have hi0 : (0 : Int) ≤ i := by omega
      have hiN : (i : Int) < n := by omega
      obtain ⟨pb1, pb2⟩ := hB i
      obtain ⟨b, off, rfl, hbB, hcell⟩ := ArrB.at_ (ArrB.below hA b2) hi0 hiN
      rw [Int.toNat_natCast] at hcell
      have hr := kr.i64at pb1 (by omega)
      have fr := kr.frozen (p i).toNat
      have SR := Lib.hid (fun v => cntS_step (n := i) (p := p) v)
      obtain ⟨c1, c2⟩ := cntS_bd i p (p i)
      have UR := Lib.hid (kr.i64set _ pb1 (cntS i p (p i) + 1))
      go_wp2
      go_roundw
      case rel => exact ⟨i + 1, by omega, by go_num, by (repeat (first | exact Below.refl _ _ | assumption | refine Below.drew ?_ | refine below_drewN ?_ _ | refine Below.alloc ?_ (by first | omega | (simp; done) | (simp; omega)) _ | refine Below.setCell ?_ (by first | omega | (simp; done) | (simp; omega)) _ | refine below_setRow ?_ (by first | omega | (simp; done) | (simp; omega)) _ )), UR.out.i64conv fun v _ _ => SR.out v⟩
      case measure => simp [intOf]; omega
    · obtain rfl : i = n := by omega
      go_wp2
      go_ret2
      exact ⟨_, rfl, ⟨_, rfl, by omega, kr⟩, b2⟩

set_option maxHeartbeats 400000 in
theorem levels_bad (W H : Int) (A : Option Addr) (n c : Nat) (w : World) (hE : sidesB W H n = false) :
    Calls Tryd.prog 35 #[.agg #[.int .i64 W, .int .i64 H, .slice A n c]] w
      fun e w' => e = .returned (.tuple #[.slice none 0 0, .int .i64 2]) ∧ Below w.heap.size w w' := by
  have CA := fun w' => checkGrey_any W H A n c w'
  rw [hE, if_neg (by simp)] at CA
  clear hE
  have CA := Lib.hid CA
  go_enter Tryd.func35, Tryd.ntmps35
  go_wp2_with fail
  refine (CA.out _).mono ?_
  rintro e w1 ⟨rfl, hb1⟩
  have b1 : Below w.heap.size w w1 := below_call (by (repeat (first | exact Below.refl _ _ | assumption | refine Below.drew ?_ | refine below_drewN ?_ _ | refine Below.alloc ?_ (by first | omega | (simp; done) | (simp; omega)) _ | refine Below.setCell ?_ (by first | omega | (simp; done) | (simp; omega)) _ | refine below_setRow ?_ (by first | omega | (simp; done) | (simp; omega)) _ ))) (by simp; try omega) hb1
  go_wp2_with fail
  go_ret2
  exact ⟨rfl, b1⟩

/-- threshold, gap and last level behind m levels -/
def levP (c : Int → Int) : Nat → Int × Int × Int
  | 0 => (128, 0, -1)
  | m + 1 =>
    if c m = 0 then levP c m
    else if 0 ≤ (levP c m).2.2 ∧ (levP c m).2.1 < m - (levP c m).2.2 then (((levP c m).2.2 + m + 1) / 2, m - (levP c m).2.2, m)
    else ((levP c m).1, (levP c m).2.1, m)
def levelS (n : Nat) (p : Int → Int) : Int := (levP (cntS n p) 256).1
theorem levP_bd (c : Int → Int) (m : Nat) : 0 ≤ (levP c m).1 ∧ (levP c m).1 ≤ 128 + m ∧ 0 ≤ (levP c m).2.1 ∧ (levP c m).2.1 ≤ m ∧ -1 ≤ (levP c m).2.2 ∧ (levP c m).2.2 < m := by
  induction m with
  | zero => simp [levP]
  | succ m ih =>
    rw [levP]
    split
    · omega
    · split
      · simp only; omega
      · simp only; omega

end Go.Proofs.YtoonkpjddfiopaaDoor

/- Walks: the skews in their order; FindSkew. -/
namespace Go.Proofs.YtoonkpjddfiopaaDoor
open Go.RowKit Go.Shelf
set_option linter.unusedVariables false
attribute [local go_sem] Oper.semAt_some

def skp : Nat → List Int
  | 0 => []
  | 1 => [0]
  | n + 2 => skp (n + 1) ++ [(n : Int) + 1, -((n : Int) + 1)]
theorem skp_len (n : Nat) : (skp n).length ≤ 2 * n := by
  induction n using skp.induct with
  | case1 => simp [skp]
  | case2 => simp [skp]
  | case3 n ih => simp [skp]; omega

theorem keeps_of_below {W W' : World} (h : Below W.heap.size W W') : KeepsOthers W W' :=
  ⟨h.size, fun k o hk _ => (h.block k (Array.getElem?_eq_some_iff.1 hk).1).trans hk⟩

theorem isB_mov {W H : Int} {p : Int → Int} {k way : Int} (hB : IsB p) : IsB (movQ W H p k way) := by
  intro i; unfold movQ; split
  · exact hB _
  · omega
theorem chk_mk {W H : Int} {n : Nat} {p : Int → Int} (h1 : 0 ≤ W) (h2 : W ≤ 640) (h3 : 0 ≤ H) (h4 : H ≤ 640) (hn : (n : Int) = W * H) (hp : ∀ i : Int, 0 ≤ i → i < n → p i ≤ 1) : chk W H n p = 0 := by
  unfold chk
  have hq : pixB n p = true := allN_iff.2 fun i a b => by simpa using hp i a b
  rw [if_pos (sidesB_iff.2 ⟨h1, h2, h3, h4, hn⟩), hq]; rfl
theorem chk_mov {W H h : Int} {n : Nat} {p : Int → Int} {k way : Int} (hE : movE W H n p k way = 0) (hh : h = H + way * grt W k) : chk W h (W * h).toNat (movQ W H p k way) = 0 := by
  obtain ⟨hc, hk1, hk2, hh1, hh2⟩ := movE_ok hE
  obtain ⟨hW1, hW2, hH1, hH2, hnn, hp⟩ := chk_ok hc
  subst hh
  refine chk_mk hW1 hW2 hh1 hh2 (Int.toNat_of_nonneg (area_bd hW1 hW2 hh1 hh2).1) fun i h0 hi => ?_
  rw [Int.toNat_of_nonneg (area_bd hW1 hW2 hh1 hh2).1] at hi
  unfold movQ
  split
  · rename_i hs
    have hp' : 0 < W := by
      rcases Int.lt_or_le 0 W with h | h
      · exact h
      · have : W = 0 := by omega
        subst this; simp at hi; omega
    obtain ⟨j1, j2, -⟩ := idx_lt (Int.emod_nonneg i (show W ≠ 0 by omega)) (Int.emod_lt_of_pos i hp') hs.1 hs.2
    rw [Int.mul_comm H W] at j2
    exact hp _ j1 (by omega)
  · omega

/-- how many full rows an image has when it is straightened by k; -1 if it cannot be -/
def fsN (W H : Int) (n : Nat) (p : Int → Int) (k : Int) : Int :=
  if movE W H n p k (-1) = 0 then fullS W (H - grt W k) (W * (H - grt W k)).toNat (movQ W H p k (-1)) else -1
def fsStep (f : Int → Int) (s : Int × Int) (k : Int) : Int × Int := if s.2 < f k then (k, f k) else s
def fsL (f : Int → Int) (l : List Int) : Int × Int := l.foldl (fsStep f) (0, -1)
theorem fsL_snoc (f : Int → Int) (l : List Int) (k : Int) : fsL f (l ++ [k]) = fsStep f (fsL f l) k := by simp [fsL]
def findS (W H : Int) (n : Nat) (p : Int → Int) : Int := (fsL (fsN W H n p) [0, 1, -1, 2, -2, 3, -3]).1
theorem fsL_bd {f : Int → Int} (hf : ∀ k, -1 ≤ f k ∧ f k ≤ 640) (l : List Int) : -1 ≤ (fsL f l).2 ∧ (fsL f l).2 ≤ 640 := by
  unfold fsL
  suffices ∀ s : Int × Int, (-1 ≤ s.2 ∧ s.2 ≤ 640) → -1 ≤ (l.foldl (fsStep f) s).2 ∧ (l.foldl (fsStep f) s).2 ≤ 640 from this _ (by simp)
  induction l with
  | nil => exact fun s h => h
  | cons k l ih =>
    intro s h
    refine ih _ ?_
    unfold fsStep
    split
    · exact hf k
    · exact h
theorem fsN_bd (W H : Int) (n : Nat) (p : Int → Int) (k : Int) : -1 ≤ fsN W H n p k ∧ fsN W H n p k ≤ 640 := by
  unfold fsN
  split
  · rename_i hE
    obtain ⟨hc, hk1, hk2, hh1, hh2⟩ := movE_ok hE
    have := fullP_bd W (W * (H - grt W k)).toNat (H - grt W k).toNat (movQ W H p k (-1))
    unfold fullS
    omega
  · omega

theorem ownFrom_of_below {β : Type} {B : Nat} {I : β → World → Prop} (hI : ∀ s W W', I s W → Below B W W' → I s W') (hsz : ∀ s W, I s W → B ≤ W.heap.size) : OwnFrom B I :=
  fun s W W' row hs hg hr => hI s W W' hs ((Below.refl B W).grown hg (hsz s W hs) fun k e => (hr k e).1)

end Go.Proofs.YtoonkpjddfiopaaDoor

/- Walk: FindSkew. -/
namespace Go.Proofs.YtoonkpjddfiopaaDoor
open Go.RowKit Go.Shelf
set_option linter.unusedVariables false
attribute [local go_sem] Oper.semAt_some

structure FsR (w : World) (V1 V2 V3 : Value) (f : Int → Int) (B5 : Nat) (pre : List Int) (W : World) : Prop where
  bl : Below w.heap.size w W
  k1 : Blk W w.heap.size 24 #[V1, V2, V3]
  k5 : Blk W B5 3 #[.int .i64 (fsL f pre).1]
  k6 : Blk W (B5 + 1) 3 #[.int .i64 (fsL f pre).2]

end Go.Proofs.YtoonkpjddfiopaaDoor

/- Walks: two lists of bytes, two images compared. -/
namespace Go.Proofs.YtoonkpjddfiopaaDoor
open Go.RowKit
set_option linter.unusedVariables false

def sameB (n m : Nat) (p q : Int → Int) : Bool := decide (n = m) && allN n fun i => decide (p i = q i)
theorem sameB_iff {n m : Nat} {p q : Int → Int} : sameB n m p q = true ↔ n = m ∧ ∀ i : Int, 0 ≤ i → i < n → p i = q i := by
  unfold sameB; rw [Bool.and_eq_true, decide_eq_true_iff, allN_iff]; simp

set_option maxHeartbeats 400000 in
theorem sameBytes_any (A B : Option Addr) (n m c d : Nat) (p q : Int → Int) (w : World) (hA : ArrB w w.heap.size A n p) (hB : ArrB w w.heap.size B m q) (hn : n ≤ maxLen) (hm : m ≤ maxLen) :
    Calls Tryd.prog 86 #[.slice A n c, .slice B m d] w fun e w' => e = .returned (.bool (sameB n m p q)) ∧ ∃ k, w' = w.drewN k := by
  unfold maxLen at hn hm
  by_cases hnm : n = m
  · subst hnm
    go_enter Tryd.func86, Tryd.ntmps86
    go_wp2
    go_loopw [5] (fun s wr => ∃ i : Int, 0 ≤ i ∧ i ≤ n ∧ s = .int .i64 i ∧ (∀ j : Int, 0 ≤ j → j < i → p j = q j) ∧ ∃ k, wr = w.drewN k) (fun s _ => n - (intOf s).toNat)
    case atStart => exact ⟨0, by omega, by omega, rfl, fun j a b => by omega, 0, rfl⟩
    case round =>
      obtain ⟨i, h0, hi, rfl, hall, k, rfl⟩ := hrel
      have HA := Lib.hid hall; clear hall
      by_cases hlt : i < n
      · obtain ⟨b, off, rfl, hb, hc⟩ := hA.at_ h0 hlt
        obtain ⟨b', off', rfl, hb', hc'⟩ := hB.at_ h0 hlt
        by_cases he : p i = q i
        · have hbool : (p i != q i) = false := by simp [he]
          have HE := Lib.hid he; clear he
          go_wp2_with fail
          go_quiet (fail)
          go_wp2
          go_roundw
          case rel =>
            refine ⟨i + 1, by omega, by omega, by go_num, fun j a b => ?_, _, rfl⟩
            by_cases e : j = i
            · rw [e]; exact HE.out
            · exact HA.out j a (by omega)
          case measure => simp [intOf]; omega
        · have hbool : (p i != q i) = true := by simp [he]
          have HE := Lib.hid he; clear he
          have hr : Hid (sameB n n p q = false) := by
            show _ = _
            rw [Bool.eq_false_iff]; intro h; exact HE.out ((sameB_iff.1 h).2 i h0 hlt)
          go_wp2_with fail
          go_quiet (fail)
          go_wp2
          go_ret
          exact ⟨ret_bool hr.out.symm, _, World.drewN_drewN _ _ _⟩
      · have hr : Hid (sameB n n p q = true) := by
          show _ = _
          exact sameB_iff.2 ⟨rfl, fun j a b => HA.out j a (by omega)⟩
        go_wp2
        go_ret
        exact ⟨ret_bool hr.out.symm, _, rfl⟩
  · have hr : Hid (sameB n m p q = false) := by
      show _ = _
      rw [Bool.eq_false_iff]; intro h; exact hnm (sameB_iff.1 h).1
    go_enter Tryd.func86, Tryd.ntmps86
    go_wp2
    all_goals
      go_ret
      exact ⟨ret_bool hr.out.symm, 0, rfl⟩

theorem drewN_below {w : World} (k : Nat) : Below w.heap.size w (w.drewN k) := below_drewN (Below.refl _ _) k

set_option maxHeartbeats 1000000 in
theorem sameInk_any (W H W' H' : Int) (A B : Option Addr) (n m c d : Nat) (p q : Int → Int) (w : World) (hA : ArrB w w.heap.size A n p) (hB : ArrB w w.heap.size B m q) (hn : n ≤ maxLen) (hm : m ≤ maxLen) :
    Calls Tryd.prog 22 #[.agg #[.int .i64 W, .int .i64 H, .slice A n c], .agg #[.int .i64 W', .int .i64 H', .slice B m d]] w
      fun e w' => e = .returned (.bool (decide (W = W') && decide (H = H') && sameB n m p q)) ∧ Below w.heap.size w w' := by
  have SA := Lib.hid fun w1 h1 h2 => sameBytes_any A B n m c d p q w1 h1 h2 hn hm
  by_cases hW : W = W'
  · subst hW
    by_cases hH : H = H'
    · subst hH
      have hr : Hid ((decide (W = W) && decide (H = H) && sameB n m p q) = sameB n m p q) := by show _ = _; simp
      rw [hr.out]
      go_enter Tryd.func22, Tryd.ntmps22
      go_wp2_with fail
      refine (SA.out _ (hA.to (by (repeat (first | exact Below.refl _ _ | assumption | refine Below.drew ?_ | refine below_drewN ?_ _ | refine Below.alloc ?_ (by first | omega | (simp; done) | (simp; omega)) _ | refine Below.setCell ?_ (by first | omega | (simp; done) | (simp; omega)) _ | refine below_setRow ?_ (by first | omega | (simp; done) | (simp; omega)) _ )))) (hB.to (by (repeat (first | exact Below.refl _ _ | assumption | refine Below.drew ?_ | refine below_drewN ?_ _ | refine Below.alloc ?_ (by first | omega | (simp; done) | (simp; omega)) _ | refine Below.setCell ?_ (by first | omega | (simp; done) | (simp; omega)) _ | refine below_setRow ?_ (by first | omega | (simp; done) | (simp; omega)) _ ))))).mono ?_
      rintro e w' ⟨rfl, k, rfl⟩
      generalize hb : sameB n m p q = b
      have HBB := Lib.hid hb; clear hb
      cases b <;> (go_wp2; go_ret; exact ⟨ret_bool HBB.out.symm, by (repeat (first | exact Below.refl _ _ | assumption | refine Below.drew ?_ | refine below_drewN ?_ _ | refine Below.alloc ?_ (by first | omega | (simp; done) | (simp; omega)) _ | refine Below.setCell ?_ (by first | omega | (simp; done) | (simp; omega)) _ | refine below_setRow ?_ (by first | omega | (simp; done) | (simp; omega)) _ ))⟩)
    · have hb : (H == H') = false := by simp [hH]
      have hr : Hid ((decide (W = W) && decide (H = H') && sameB n m p q) = false) := by show _ = _; simp [hH]
      rw [hr.out]
      have HH := Lib.hid hH; clear hH
      go_enter Tryd.func22, Tryd.ntmps22
      go_wp2
      go_ret
      exact ⟨rfl, by (repeat (first | exact Below.refl _ _ | assumption | refine Below.drew ?_ | refine below_drewN ?_ _ | refine Below.alloc ?_ (by first | omega | (simp; done) | (simp; omega)) _ | refine Below.setCell ?_ (by first | omega | (simp; done) | (simp; omega)) _ | refine below_setRow ?_ (by first | omega | (simp; done) | (simp; omega)) _ ))⟩
  · have hb : (W == W') = false := by simp [hW]
    have hr : Hid ((decide (W = W') && decide (H = H') && sameB n m p q) = false) := by show _ = _; simp [hW]
    rw [hr.out]
    have HW := Lib.hid hW; clear hW
    go_enter Tryd.func22, Tryd.ntmps22
    go_wp2
    go_ret
    exact ⟨rfl, by (repeat (first | exact Below.refl _ _ | assumption | refine Below.drew ?_ | refine below_drewN ?_ _ | refine Below.alloc ?_ (by first | omega | (simp; done) | (simp; omega)) _ | refine Below.setCell ?_ (by first | omega | (simp; done) | (simp; omega)) _ | refine below_setRow ?_ (by first | omega | (simp; done) | (simp; omega)) _ ))⟩

theorem sameInk_true (W H : Int) (A B : Option Addr) (n c d : Nat) (p q : Int → Int) (w : World) (hA : ArrB w w.heap.size A n p) (hB : ArrB w w.heap.size B n q) (hn : n ≤ maxLen) (he : ∀ i : Int, 0 ≤ i → i < n → p i = q i) :
    Calls Tryd.prog 22 #[.agg #[.int .i64 W, .int .i64 H, .slice A n c], .agg #[.int .i64 W, .int .i64 H, .slice B n d]] w
      fun e w' => e = .returned (.bool true) ∧ Below w.heap.size w w' :=
  (sameInk_any W H W H A B n n c d p q w hA hB hn hn).mono fun e w' ⟨h, hb⟩ => ⟨by rw [h, sameB_iff.2 ⟨rfl, he⟩]; simp, hb⟩
end Go.Proofs.YtoonkpjddfiopaaDoor

/- Walks: a line of ink; the examples of the chapter. -/
namespace Go.Proofs.YtoonkpjddfiopaaDoor
open Go.RowKit
set_option linter.unusedVariables false

def gA : Int → Int := movQ 129 1 (fun _ => 1) (-1) 1
theorem awA1 : movE 129 1 129 (fun _ => 1) (-1) 1 = 0 := by decide +kernel
theorem awA2 : (3 : Int) = 1 + grt 129 (-1) := by decide +kernel
theorem awA3 : findS 129 3 387 gA = -1 := by decide +kernel
theorem awA4 : chk 129 3 387 gA = 0 := by decide +kernel
theorem awB1 : movE 64 1 64 (fun _ => 1) 1 1 = 0 := by decide +kernel
theorem awB2 : (1 : Int) = 1 + grt 64 1 := by decide +kernel
theorem awB3 : allN 64 (fun i => decide (movQ 64 1 (fun _ => 1) 1 1 i = 1)) = true := by decide +kernel
theorem awL1 : levelS 4 (lit [10, 20, 200, 210]) = 110 := by decide +kernel
theorem awL2 : levelS 3 (lit [200, 0, 100]) = 50 := by decide +kernel
theorem awS1 : sidesB 4 1 (4 : Nat) = true := by decide
theorem awS2 : sidesB 3 1 (3 : Nat) = true := by decide

theorem cells_a : #[Value.int .u8 10, .int .u8 20, .int .u8 200, .int .u8 210] = u8s 4 (lit [10, 20, 200, 210]) := u8s_lit (l := [10, 20, 200, 210])
theorem cells_b : #[Value.int .u8 200, .int .u8 0, .int .u8 100] = u8s 3 (lit [200, 0, 100]) := u8s_lit (l := [200, 0, 100])
theorem isB_1 : IsB (fun _ => 1) := fun _ => by simp
theorem Blk.to {w : World} {g : Nat} {t : TypeId} {cs cs' : Array Value} (h : Blk w g t cs) (e : cs = cs') : Blk w g t cs' := e ▸ h

end Go.Proofs.YtoonkpjddfiopaaDoor

/- Walk: Ruled: images of full rows. -/
namespace Go.Proofs.YtoonkpjddfiopaaDoor
open Go.RowKit
set_option linter.unusedVariables false

/-- the place of row number i -/
def ruY (r : Int → Int) : Nat → Int
  | 0 => r 0 % 6
  | i + 1 => ruY r i + (3 + r (i + 1) % 4)
/-- the places of the first m rows -/
def ruL (r : Int → Int) (m : Nat) : List Int := (List.range m).map (ruY r)
theorem ruL_snoc (r : Int → Int) (m : Nat) : ruL r (m + 1) = ruL r m ++ [ruY r m] := by simp [ruL, List.range_succ]
theorem ruY_bd {r : Int → Int} (hr : IsB r) (i : Nat) : 0 ≤ ruY r i ∧ ruY r i ≤ 5 + 6 * i := by
  induction i with
  | zero => have := hr 0; simp only [ruY]; omega
  | succ i ih => have := hr (i + 1); simp only [ruY]; omega
/-- y behind m rows -/
def ruE (r : Int → Int) : Nat → Int
  | 0 => 0
  | m + 1 => ruY r m

def ruM (r : Int → Int) (m : Nat) : List Int := if m = 0 then [2] else ruL r m
def ruYe (r : Int → Int) (m : Nat) : Int := if m = 0 then 2 else ruE r m
theorem ruL_len (r : Int → Int) (m : Nat) : (ruL r m).length = m := by simp [ruL]
theorem ruYe_bd {r : Int → Int} (hr : IsB r) {m : Nat} (hm : m ≤ 12) : 0 ≤ ruYe r m ∧ ruYe r m ≤ 77 := by
  unfold ruYe
  split
  · omega
  · obtain ⟨j, rfl⟩ : ∃ j, m = j + 1 := ⟨m - 1, by omega⟩
    have := ruY_bd hr j
    simp only [ruE]; omega
theorem ruY_mono {r : Int → Int} (hr : IsB r) {i j : Nat} (h : i ≤ j) : ruY r i ≤ ruY r j := by
  induction j with
  | zero => have : i = 0 := by omega
            subst this; exact Int.le_refl _
  | succ j ih =>
    by_cases e : i = j + 1
    · subst e; exact Int.le_refl _
    · have := ih (by omega)
      have := hr ((j + 1 : Nat) : Int)
      simp only [ruY]
      simp only [Int.natCast_add, Int.natCast_one] at this
      omega
theorem ruM_bd {r : Int → Int} (hr : IsB r) {m : Nat} (y : Int) (h : y ∈ ruM r m) : 0 ≤ y ∧ y ≤ ruYe r m := by
  unfold ruM ruYe at *
  split at h
  · rename_i e; rw [if_pos e]; simp at h; omega
  · rename_i e
    rw [if_neg e]
    obtain ⟨i, hi, rfl⟩ := List.mem_map.1 h
    have hi := List.mem_range.1 hi
    obtain ⟨j, rfl⟩ : ∃ j, m = j + 1 := ⟨m - 1, by omega⟩
    exact ⟨(ruY_bd hr i).1, ruY_mono hr (by omega)⟩
theorem getD_lit {l : List Int} {i : Int} (h0 : 0 ≤ i) (hi : i < l.length) : (l.map (Value.int .i64)).getD i.toNat default = .int .i64 (lit l i) := by
  unfold lit
  simp only [List.getD_eq_getElem?_getD, List.getElem?_map]
  rw [List.getElem?_eq_getElem (by omega)]
  simp

/-- the pixels of an image whose full rows are L -/
def ruQ (W : Int) (L : List Int) : Int → Int := fun k => if k / W ∈ L then 1 else 0
def ruP (W : Int) (L : List Int) (t : Nat) (x : Int) : Int → Int := fun k => if k / W ∈ L.take t ∨ (L[t]? = some (k / W) ∧ k % W < x) then 1 else 0
theorem ruP_start {W : Int} (L : List Int) {k : Int} (h0 : 0 ≤ k) (hW : 0 < W) : ruP W L 0 0 k = 0 := by
  have := Int.emod_nonneg k (show W ≠ 0 by omega)
  unfold ruP; rw [if_neg]; simp; intro _; omega
theorem ruP_end (W : Int) (L : List Int) (k : Int) : ruP W L L.length 0 k = ruQ W L k := by
  unfold ruP ruQ; simp
theorem ruP_row {W : Int} {L : List Int} {t : Nat} (ht : t < L.length) {k : Int} (hW : 0 < W) : ruP W L t W k = ruP W L (t + 1) 0 k := by
  unfold ruP
  have h1 := Int.emod_lt_of_pos k hW
  have h2 := Int.emod_nonneg k (show W ≠ 0 by omega)
  rw [List.take_add_one]
  by_cases h : L[t]? = some (k / W)
  · rw [if_pos (.inr ⟨h, h1⟩), if_pos (.inl (by rw [h]; simp))]
  · have e1 : (k / W ∈ L.take t ∨ L[t]? = some (k / W) ∧ k % W < W) ↔ k / W ∈ L.take t := ⟨fun x => x.elim id fun y => absurd y.1 h, .inl⟩
    have e2 : (k / W ∈ L.take t ++ L[t]?.toList ∨ L[t + 1]? = some (k / W) ∧ k % W < 0) ↔ k / W ∈ L.take t := by
      constructor
      · rintro (x | x)
        · rcases List.mem_append.1 x with x | x
          · exact x
          · exfalso; apply h
            cases hh : L[t]? with
            | none => rw [hh] at x; simp at x
            | some v => rw [hh] at x; simp at x; rw [x]
        · omega
      · exact fun x => .inl (List.mem_append.2 (.inl x))
    simp only [e1, e2]
theorem ruP_set {W : Int} {L : List Int} {t : Nat} (ht : t < L.length) {x k : Int} (hx0 : 0 ≤ x) (hx : x < W) :
    upd (ruP W L t x) (lit L t * W + x) 1 k = ruP W L t (x + 1) k := by
  have hL : L[t]? = some (lit L t) := by unfold lit; simp [List.getElem?_eq_getElem ht]
  unfold upd
  by_cases e : k = lit L t * W + x
  · rw [if_pos e]
    unfold ruP
    rw [e, idx_div hx0 hx, idx_mod hx0 hx, if_pos (.inr ⟨hL, by omega⟩)]
  · rw [if_neg e]
    unfold ruP
    have hne : ¬ (lit L t = k / W ∧ k % W = x) := by
      rintro ⟨h1, h2⟩
      have := Int.emod_add_mul_ediv k W
      rw [h2, ← h1, Int.mul_comm] at this
      omega
    rw [hL]
    by_cases c1 : k / W ∈ L.take t
    · rw [if_pos (.inl c1), if_pos (.inl c1)]
    · by_cases c2 : some (lit L t) = some (k / W) ∧ k % W < x
      · rw [if_pos (.inr c2), if_pos (.inr ⟨c2.1, by omega⟩)]
      · rw [if_neg (fun h => h.elim c1 c2), if_neg]
        rintro (h | ⟨h1, h2⟩)
        · exact c1 h
        · have h1' : lit L t = k / W := by simpa using h1
          by_cases h3 : k % W = x
          · exact hne ⟨h1', h3⟩
          · exact c2 ⟨h1, by omega⟩

end Go.Proofs.YtoonkpjddfiopaaDoor

/- Walk: CleanStraight. -/
namespace Go.Proofs.YtoonkpjddfiopaaDoor
open Go.RowKit
set_option linter.unusedVariables false

/-! ### the best skew, in plain numbers -/
def absI (x : Int) : Int := if x < 0 then -x else x
def L7 : List Int := [0, 1, -1, 2, -2, 3, -3]
theorem fsL_spec (f : Int → Int) (l : List Int) : (∀ k ∈ l, f k ≤ (fsL f l).2) ∧ -1 ≤ (fsL f l).2 ∧
    ((fsL f l).2 = -1 ∨ ∃ pre post, l = pre ++ (fsL f l).1 :: post ∧ f (fsL f l).1 = (fsL f l).2 ∧ ∀ k ∈ pre, f k < (fsL f l).2) := by
  suffices H : ∀ r : List Int, (∀ k ∈ r.reverse, f k ≤ (fsL f r.reverse).2) ∧ -1 ≤ (fsL f r.reverse).2 ∧
      ((fsL f r.reverse).2 = -1 ∨ ∃ pre post, r.reverse = pre ++ (fsL f r.reverse).1 :: post ∧ f (fsL f r.reverse).1 = (fsL f r.reverse).2 ∧ ∀ k ∈ pre, f k < (fsL f r.reverse).2) by
    have := H l.reverse
    rwa [List.reverse_reverse] at this
  intro r
  induction r with
  | nil => simp [fsL]
  | cons x r ih =>
    rw [List.reverse_cons, fsL_snoc]
    generalize r.reverse = s at *
    obtain ⟨h1, h2, h3⟩ := ih
    generalize fsL f s = q at *
    unfold fsStep
    by_cases hx : q.2 < f x
    · rw [if_pos hx]
      refine ⟨fun k hk => ?_, by simp only; omega, .inr ⟨s, [], rfl, rfl, fun k hk => by have := h1 k hk; simp only; omega⟩⟩
      simp only
      rcases List.mem_append.1 hk with hk | hk
      · have := h1 k hk; omega
      · have : k = x := by simpa using hk
        subst this; exact Int.le_refl _
    · rw [if_neg hx]
      refine ⟨fun k hk => ?_, h2, ?_⟩
      · rcases List.mem_append.1 hk with hk | hk
        · exact h1 k hk
        · have : k = x := by simpa using hk
          subst this; omega
      · rcases h3 with h3 | ⟨pre, post, e, e2, e3⟩
        · exact .inl h3
        · exact .inr ⟨pre, post ++ [x], by rw [e]; simp, e2, e3⟩
theorem L7_order {pre post : List Int} {b k : Int} (h : L7 = pre ++ b :: post) (hk : k ∈ L7) (hp : k ∉ pre) : absI b < absI k ∨ absI b = absI k ∧ k ≤ b := by
  have hlen : pre.length + (post.length + 1) = 7 := by
    have := congrArg List.length h
    simpa [L7] using this.symm
  have hb : L7[pre.length]? = some b := by rw [h]; simp
  have hpre : pre = L7.take pre.length := by rw [h]; simp
  rw [hpre] at hp
  generalize pre.length = j at *
  have hj : j < 7 := by omega
  clear h hpre hlen
  unfold L7 at *
  match j, hj with
  | 0, _ | 1, _ | 2, _ | 3, _ | 4, _ | 5, _ | 6, _ => simp at hb hk hp; subst hb; unfold absI; rcases hk with rfl | rfl | rfl | rfl | rfl | rfl | rfl <;> simp_all
theorem best_ok {f : Int → Int} (h0 : -1 < f 0) (hf : ∀ k, -1 ≤ f k) : f (fsL f L7).1 = (fsL f L7).2 ∧ (fsL f L7).1 ∈ L7 ∧ -1 < (fsL f L7).2 ∧
    ∀ k ∈ L7, f k ≤ (fsL f L7).2 ∧ (f k = (fsL f L7).2 → absI (fsL f L7).1 < absI k ∨ absI (fsL f L7).1 = absI k ∧ k ≤ (fsL f L7).1) := by
  obtain ⟨h1, h2, h3⟩ := fsL_spec f L7
  have h4 : f 0 ≤ (fsL f L7).2 := h1 0 (by simp [L7])
  rcases h3 with h3 | ⟨pre, post, e, e2, e3⟩
  · omega
  · have hmem : ∀ b, L7 = pre ++ b :: post → b ∈ L7 := fun b h => by rw [h]; simp
    refine ⟨e2, hmem _ e, by omega, fun k hk => ⟨h1 k hk, fun he => L7_order e hk fun hp => ?_⟩⟩
    have := e3 k hp
    omega
theorem mem_L7 {k : Int} : k ∈ L7 ↔ -3 ≤ k ∧ k ≤ 3 := by
  unfold L7; simp; omega

theorem xor1_0 : bits .xor .u8 0 1 = 1 := by decide
theorem xor1_1 : bits .xor .u8 1 1 = 0 := by decide
def ArrU (w : World) (B : Nat) (A : Option Addr) (n : Nat) (q : Int → Int) : Prop := Arr w B A n fun j => .int .u16 (q j)
theorem ruQ_01 (W : Int) (L : List Int) (i : Int) : ruQ W L i = 0 ∨ ruQ W L i = 1 := by unfold ruQ; split <;> simp

theorem movE_mk {W H : Int} {n : Nat} {p : Int → Int} {k way : Int} (hc : chk W H n p = 0) (h1 : -3 ≤ k) (h2 : k ≤ 3) (h3 : 0 ≤ H + way * grt W k) (h4 : H + way * grt W k ≤ 640) : movE W H n p k way = 0 := by
  unfold movE
  rw [if_neg (by omega), if_neg (by omega), if_neg (by omega)]
theorem isB_01 {q : Int → Int} (h : ∀ i, q i = 0 ∨ q i = 1) : IsB q := fun i => by rcases h i with e | e <;> rw [e] <;> omega
theorem grt_0 (W : Int) : grt W 0 = 0 := by unfold grt; simp
theorem fsN_ok {W H : Int} {n : Nat} {p : Int → Int} {k : Int} : -1 < fsN W H n p k ↔ movE W H n p k (-1) = 0 := by
  unfold fsN
  by_cases h : movE W H n p k (-1) = 0
  · rw [if_pos h]
    have := fullP_bd W (W * (H - grt W k)).toNat (H - grt W k).toNat (movQ W H p k (-1))
    unfold fullS
    simp only [h, iff_true]; omega
  · rw [if_neg h]; simp [h]
structure CsR (w : World) (W H : Int) (N g B9 : Nat) (q : Int → Int) (wr : World) : Prop where
  bl : Below w.heap.size w wr
  k9 : Blk wr B9 24 #[.int .i64 W, .int .i64 H, .slice (some ⟨g, 0, none⟩) N N]
  kg : Blk wr g 5 (u8s N q)
  hq : ∀ i, q i = 0 ∨ q i = 1

end Go.Proofs.YtoonkpjddfiopaaDoor

/- Plain laws: full rows counted by sums and by pixels; moved images of pixels. No program in sight. -/
namespace Go.Proofs.YtoonkpjddfiopaaDoor
open Go.RowKit
set_option linter.unusedVariables false

/-- the row y of the pixels is full -/
def rowB (W : Nat) (p : Int → Int) (b : Int) : Bool := allN W fun x => decide (p (b + x) = 1)
theorem sumN_one {n : Nat} {f : Int → Int} (h : ∀ i : Int, 0 ≤ i → i < n → f i = 0 ∨ f i = 1) : sumN n f ≤ n ∧ 0 ≤ sumN n f ∧ (sumN n f = n ↔ allN n (fun i => decide (f i = 1)) = true) := by
  induction n with
  | zero => simp [sumN, allN]
  | succ n ih =>
    obtain ⟨a, b, c⟩ := ih (fun i h0 hi => h i h0 (by omega))
    have d := h n (by omega) (by omega)
    rw [sumN, allN, Bool.and_eq_true, ← c]
    simp only [decide_eq_true_eq]
    refine ⟨by omega, by omega, ?_⟩
    omega
/-- the row's pixels, before place m -/
theorem rowS_part {W y : Nat} {p : Int → Int} (hW : 0 < W) (m : Nat) : rowS W m p y = sumN (min (m - y * W) W) (fun x => p (y * W + x)) := by
  induction m with
  | zero => simp [rowS, sumN]
  | succ m ih =>
    have hs : rowS W (m + 1) p y = rowS W m p y + (if (m : Int) / W = y then p m else 0) := rfl
    rw [hs, ih]
    have hd : (m : Int) / (W : Int) = ((m / W : Nat) : Int) := (Int.natCast_ediv m W).symm
    rw [hd]
    by_cases h : m / W = y
    · have h1 : y * W ≤ m := by rw [← h]; exact Nat.div_mul_le_self m W
      have h2 : m < y * W + W := by
        have := Nat.lt_div_mul_add (a := m) hW
        rw [h] at this; omega
      rw [if_pos (by rw [h])]
      have e1 : min (m - y * W) W = m - y * W := by omega
      have e2 : min (m + 1 - y * W) W = (m - y * W) + 1 := by omega
      rw [e1, e2, sumN]
      congr 2
      omega
    · rw [if_neg (by omega)]
      have hh : m < y * W ∨ y * W + W ≤ m := by
        rcases Nat.lt_or_ge (m / W) y with h' | h'
        · left
          exact (Nat.div_lt_iff_lt_mul hW).1 h'
        · right
          have : y + 1 ≤ m / W := by omega
          have := (Nat.le_div_iff_mul_le hW).1 this
          rw [Nat.add_mul] at this; omega
      rcases hh with hh | hh
      · have e1 : min (m - y * W) W = 0 := by omega
        have e2 : min (m + 1 - y * W) W = 0 := by omega
        rw [e1, e2]; simp [sumN]
      · have e1 : min (m - y * W) W = W := by omega
        have e2 : min (m + 1 - y * W) W = W := by omega
        rw [e1, e2]; simp
theorem rowS_row {W H n y : Nat} {p : Int → Int} (hW : 0 < W) (hn : n = H * W) (hy : y < H) : rowS W n p y = sumN W (fun x => p (y * W + x)) := by
  rw [rowS_part hW]
  have : (y + 1) * W ≤ H * W := Nat.mul_le_mul_right _ hy
  rw [Nat.add_mul] at this
  have e : min (n - y * W) W = W := by omega
  rw [e]
theorem rowS_iff {W H : Int} {n y : Nat} {p : Int → Int} (hW : 0 < W) (hn : (n : Int) = W * H) (hB : IsB p) (hp : ∀ i : Int, 0 ≤ i → i < n → p i ≤ 1) (hy : (y : Int) < H) :
    rowS W n p y = W ↔ rowB W.toNat p (y * W) = true := by
  obtain ⟨Wn, rfl⟩ : ∃ Wn : Nat, W = Wn := ⟨W.toNat, by omega⟩
  obtain ⟨Hn, rfl⟩ : ∃ Hn : Nat, H = Hn := ⟨H.toNat, by omega⟩
  have hn' : n = Hn * Wn := by rw [Int.mul_comm, ← Int.natCast_mul] at hn; omega
  rw [rowS_row (by omega) hn' (by omega)]
  have := (sumN_one (n := Wn) (f := fun x => p (y * Wn + x)) (fun i h0 hi => by
    have hl : ((y + 1 : Nat) : Int) * Wn ≤ Hn * Wn := Int.mul_le_mul_of_nonneg_right (by omega) (by omega)
    have hm : ((y + 1 : Nat) : Int) * Wn = y * Wn + Wn := by rw [Int.natCast_add, Int.add_mul]; simp
    have hc : (n : Int) = Hn * Wn := by rw [hn']; simp
    have h9 : 0 ≤ (y : Int) * Wn := Int.mul_nonneg (by omega) (by omega)
    have h1 := hp (y * Wn + i) (by omega) (by omega)
    have h2 := hB (y * Wn + i)
    show p _ = 0 ∨ p _ = 1
    omega)).2.2
  exact this
/-- full rows, as the document counts them -/
def fullR (W : Int) (p : Int → Int) (m : Nat) : Int := if 0 < W then sumN m (fun y => if rowB W.toNat p (y * W) = true then 1 else 0) else 0
theorem fullR_eq {W H : Int} {n : Nat} {p : Int → Int} (h : chk W H n p = 0) (hB : IsB p) (m : Nat) (hm : m ≤ H.toNat) : fullR W p m = fullP W n p m := by
  obtain ⟨h1, h2, h3, h4, h5, h6⟩ := chk_ok h
  unfold fullR fullP
  by_cases hW : 0 < W
  · rw [if_pos hW, if_pos hW]
    refine sumN_congr fun i h0 hi => ?_
    obtain ⟨y, rfl⟩ : ∃ y : Nat, i = y := ⟨i.toNat, by omega⟩
    have := rowS_iff hW h5 hB h6 (show (y : Int) < H by omega)
    by_cases hr : rowS W n p y = W
    · rw [if_pos hr, if_pos (this.1 hr)]
    · rw [if_neg hr, if_neg (fun e => hr (this.2 e))]
  · rw [if_neg hW, if_neg hW]
theorem fullR_bd (W : Int) (p : Int → Int) (m : Nat) : 0 ≤ fullR W p m ∧ fullR W p m ≤ m := by
  have := sumN_bd (n := m) (f := fun y => if rowB W.toNat p (y * W) = true then 1 else 0) (m := 1) (fun i a b => by
    show 0 ≤ (if rowB W.toNat p (i * W) = true then (1 : Int) else 0) ∧ (if rowB W.toNat p (i * W) = true then (1 : Int) else 0) ≤ 1
    split <;> omega)
  unfold fullR
  split <;> omega

/-- ink of a valid image -/
def inkB (W H : Int) (p : Int → Int) (x y : Int) : Bool := decide (0 ≤ x) && (decide (x < W) && (decide (0 ≤ y) && (decide (y < H) && decide (p (y * W + x) = 1))))
theorem inkB_iff {W H : Int} {p : Int → Int} {x y : Int} : inkB W H p x y = true ↔ 0 ≤ x ∧ x < W ∧ 0 ≤ y ∧ y < H ∧ p (y * W + x) = 1 := by simp [inkB]
/-- the moved image as the document has it -/
def movR (W H : Int) (p : Int → Int) (k way : Int) : Int → Int := fun i => if inkB W H p (i % W) (i / W - way * dropI W k (i % W)) = true then 1 else 0
theorem movR_eq {W H h : Int} {n : Nat} {p : Int → Int} {k way : Int} (hc : chk W H n p = 0) (hB : IsB p) {i : Int} (h0 : 0 ≤ i) (hi : i < W * h) : movR W H p k way i = movQ W H p k way i := by
  obtain ⟨h1, h2, h3, h4, h5, h6⟩ := chk_ok hc
  have hW : 0 < W := by
    rcases Int.lt_or_le 0 W with h | h
    · exact h
    · obtain rfl : W = 0 := by omega
      simp at hi; omega
  have hx0 : 0 ≤ i % W := Int.emod_nonneg _ (by omega)
  have hx1 : i % W < W := Int.emod_lt_of_pos _ hW
  unfold movR movQ
  by_cases hy : 0 ≤ i / W - way * dropI W k (i % W) ∧ i / W - way * dropI W k (i % W) < H
  · rw [if_pos hy]
    obtain ⟨j1, j2, j3⟩ := idx_lt hx0 hx1 hy.1 hy.2
    rw [Int.mul_comm H W] at j2
    have hb := hB ((i / W - way * dropI W k (i % W)) * W + i % W)
    have hp := h6 _ j1 (by omega)
    by_cases e : p ((i / W - way * dropI W k (i % W)) * W + i % W) = 1
    · rw [if_pos (inkB_iff.2 ⟨hx0, hx1, hy.1, hy.2, e⟩), e]
    · rw [if_neg (fun h => e (inkB_iff.1 h).2.2.2.2)]; omega
  · rw [if_neg hy, if_neg (fun h => hy ⟨(inkB_iff.1 h).2.2.1, (inkB_iff.1 h).2.2.2.1⟩)]
end Go.Proofs.YtoonkpjddfiopaaDoor

/- Walks: the reference's checks, New, Ink and Set. -/
namespace Go.Proofs.YtoonkpjddfiopaaDoor
open Go.RowKit
set_option linter.unusedVariables false

def fitsB (W H : Int) : Bool := decide (0 ≤ W ∧ W ≤ 640 ∧ 0 ≤ H ∧ H ≤ 640)
theorem fitsB_iff {W H : Int} : fitsB W H = true ↔ 0 ≤ W ∧ W ≤ 640 ∧ 0 ≤ H ∧ H ≤ 640 := by simp [fitsB]
set_option maxHeartbeats 400000 in
theorem fits_any (W H : Int) (w : World) : Calls Tryd.prog 85 #[.int .i64 W, .int .i64 H] w fun e w' => e = .returned (.bool (fitsB W H)) ∧ w = w' := by
  by_cases h : 0 ≤ W ∧ W ≤ 640 ∧ 0 ≤ H ∧ H ≤ 640
  · rw [fitsB_iff.2 h]
    obtain ⟨h1, h2, h3, h4⟩ := h
    go_enter Tryd.func85, Tryd.ntmps85
    go_wp2
    go_ret
    exact ⟨rfl, rfl⟩
  · have h' : fitsB W H = false := Bool.eq_false_iff.2 fun e => h (fitsB_iff.1 e)
    rw [h']
    by_cases a : 0 ≤ W
    · by_cases b : W ≤ 640
      · by_cases c : 0 ≤ H
        · have d : ¬ H ≤ 640 := fun d => h ⟨a, b, c, d⟩
          clear h h'
          go_enter Tryd.func85, Tryd.ntmps85
          go_wp2
          go_ret
          exact ⟨rfl, rfl⟩
        · clear h h'
          go_enter Tryd.func85, Tryd.ntmps85
          go_wp2
          go_ret
          exact ⟨rfl, rfl⟩
      · clear h h'
        go_enter Tryd.func85, Tryd.ntmps85
        go_wp2
        go_ret
        exact ⟨rfl, rfl⟩
    · clear h h'
      go_enter Tryd.func85, Tryd.ntmps85
      go_wp2
      go_ret
      exact ⟨rfl, rfl⟩

theorem chk_nofit {W H : Int} {n : Nat} {p : Int → Int} (h : fitsB W H = false) : chk W H n p = 2 := by
  have : sidesB W H n = false := Bool.eq_false_iff.2 fun e => by
    obtain ⟨a, b, c, d, _⟩ := sidesB_iff.1 e
    rw [fitsB_iff.2 ⟨a, b, c, d⟩] at h; cases h
  unfold chk; rw [this]; rfl
theorem chk_size {W H : Int} {n : Nat} {p : Int → Int} (h : (n : Int) ≠ W * H) : chk W H n p = 2 := by
  have : sidesB W H n = false := Bool.eq_false_iff.2 fun e => h (sidesB_iff.1 e).2.2.2.2
  unfold chk; rw [this]; rfl
theorem sides_mk {W H : Int} {n : Nat} (h : fitsB W H = true) (hn : (n : Int) = W * H) : sidesB W H n = true := by
  obtain ⟨a, b, c, d⟩ := fitsB_iff.1 h; exact sidesB_iff.2 ⟨a, b, c, d, hn⟩
theorem chk_pix {W H : Int} {n : Nat} {p : Int → Int} (h : sidesB W H n = true) {i : Int} (h0 : 0 ≤ i) (hi : i < n) (hp : ¬ p i ≤ 1) : chk W H n p = 3 := by
  have : pixB n p = false := Bool.eq_false_iff.2 fun e => hp (by simpa using allN_iff.1 e i h0 hi)
  unfold chk; rw [h, this]; rfl

set_option maxHeartbeats 1000000 in
theorem rcheck_any (W H : Int) (A : Option Addr) (n c : Nat) (p : Int → Int) (w : World) (hA : ArrB w w.heap.size A n p) (hn : n ≤ maxLen) (hB : IsB p) :
    Calls Tryd.prog 21 #[.agg #[.int .i64 W, .int .i64 H, .slice A n c]] w fun e w' => e = .returned (.int .i64 (chk W H n p)) ∧ Below w.heap.size w w' := by
  unfold maxLen at hn
  have FT := Lib.hid (fits_any W H)
  have K0 := Blk.new w 24 #[.int .i64 W, .int .i64 H, .slice A n c]
  cases hf : fitsB W H
  · rw [chk_nofit hf]
    rw [hf] at FT
    clear hf
    go_enter Tryd.func21, Tryd.ntmps21
    go_wp2_with (go_at_call 85; refine (FT.out _).mono ?_; rintro e w' ⟨rfl, rfl⟩)
    go_ret
    exact ⟨rfl, by (repeat (first | exact Below.refl _ _ | assumption | refine Below.drew ?_ | refine below_drewN ?_ _ | refine Below.alloc ?_ (by first | omega | (simp; done) | (simp; omega)) _ | refine Below.setCell ?_ (by first | omega | (simp; done) | (simp; omega)) _ | refine below_setRow ?_ (by first | omega | (simp; done) | (simp; omega)) _ ))⟩
  · obtain ⟨h1, h2, h3, h4⟩ := fitsB_iff.1 hf
    obtain ⟨m1, m2⟩ := area_bd h1 h2 h3 h4
    rw [hf] at FT
    have m3 : IntKind.i64.wrap (W * H) = W * H := IntWalk.i64_in _ (by omega)
    by_cases hs : (n : Int) = W * H
    · have hS := Lib.hid (sides_mk hf hs)
      have hb : ((n : Int) != W * H) = false := by simp [hs]
      have HS := Lib.hid hs
      clear hf hs
      go_enter Tryd.func21, Tryd.ntmps21
      go_wp2_with (go_at_call 85; refine (FT.out _).mono ?_; rintro e w' ⟨rfl, rfl⟩)
      go_loop [3] (fun s => ∃ i : Int, 0 ≤ i ∧ i ≤ n ∧ s = .int .i64 i ∧ ∀ j : Int, 0 ≤ j → j < i → p j ≤ 1) (fun s => n - (intOf s).toNat)
      case atStart => exact ⟨0, by omega, by omega, rfl, fun j a b => by omega⟩
      case round =>
        obtain ⟨i, h0, hi, rfl, hall⟩ := hrel
        have HALL := Lib.hid hall; clear hall
        by_cases hlt : i < n
        · have hA' := hA.to (w' := w.alloc (.cells #[.int .i64 W, .int .i64 H, .slice A n c] 24)) (by (repeat (first | exact Below.refl _ _ | assumption | refine Below.drew ?_ | refine below_drewN ?_ _ | refine Below.alloc ?_ (by first | omega | (simp; done) | (simp; omega)) _ | refine Below.setCell ?_ (by first | omega | (simp; done) | (simp; omega)) _ | refine below_setRow ?_ (by first | omega | (simp; done) | (simp; omega)) _ )))
          obtain ⟨b, off, rfl, hbB, hcell⟩ := ArrB.at_ hA' h0 hlt
          obtain ⟨pb1, pb2⟩ := hB i
          by_cases e0 : p i = 0
          · have hb0 : (p i != 0) = false := by simp [e0]
            have E0 := Lib.hid e0; clear e0
            go_wp2
            go_round
            case rel => exact ⟨i + 1, by omega, by omega, by go_num, fun j a b => if e : j = i then by rw [e, E0.out]; omega else HALL.out j a (by omega)⟩
            case measure => simp [intOf]; omega
          · have hb0 : (p i != 0) = true := by simp [e0]
            by_cases e1 : p i = 1
            · have hb1 : (p i != 1) = false := by simp [e1]
              have E1 := Lib.hid e1; clear e1
              have E0 := Lib.hid e0; clear e0
              go_wp2
              go_round
              case rel => exact ⟨i + 1, by omega, by omega, by go_num, fun j a b => if e : j = i then by rw [e, E1.out]; omega else HALL.out j a (by omega)⟩
              case measure => simp [intOf]; omega
            · have hb1 : (p i != 1) = true := by simp [e1]
              have hr : Hid (chk W H n p = 3) := by show _ = _; exact chk_pix hS.out h0 hlt (by omega)
              have E1 := Lib.hid e1; clear e1
              have E0 := Lib.hid e0; clear e0
              go_wp2
              go_ret
              exact ⟨ret_int hr.out.symm, by (repeat (first | exact Below.refl _ _ | assumption | refine Below.drew ?_ | refine below_drewN ?_ _ | refine Below.alloc ?_ (by first | omega | (simp; done) | (simp; omega)) _ | refine Below.setCell ?_ (by first | omega | (simp; done) | (simp; omega)) _ | refine below_setRow ?_ (by first | omega | (simp; done) | (simp; omega)) _ ))⟩
        · have hr : Hid (chk W H n p = 0) := by
            show _ = _; unfold chk; rw [hS.out, show pixB n p = true from allN_iff.2 fun j a b => by simpa using HALL.out j a (by omega)]; rfl
          go_wp2
          go_ret
          exact ⟨ret_int hr.out.symm, by (repeat (first | exact Below.refl _ _ | assumption | refine Below.drew ?_ | refine below_drewN ?_ _ | refine Below.alloc ?_ (by first | omega | (simp; done) | (simp; omega)) _ | refine Below.setCell ?_ (by first | omega | (simp; done) | (simp; omega)) _ | refine below_setRow ?_ (by first | omega | (simp; done) | (simp; omega)) _ ))⟩
    · rw [chk_size hs]
      have hb : ((n : Int) != W * H) = true := by simp [hs]
      have HS := Lib.hid hs
      clear hf hs
      go_enter Tryd.func21, Tryd.ntmps21
      go_wp2_with (go_at_call 85; refine (FT.out _).mono ?_; rintro e w' ⟨rfl, rfl⟩)
      go_ret
      exact ⟨rfl, by (repeat (first | exact Below.refl _ _ | assumption | refine Below.drew ?_ | refine below_drewN ?_ _ | refine Below.alloc ?_ (by first | omega | (simp; done) | (simp; omega)) _ | refine Below.setCell ?_ (by first | omega | (simp; done) | (simp; omega)) _ | refine below_setRow ?_ (by first | omega | (simp; done) | (simp; omega)) _ ))⟩

set_option maxHeartbeats 400000 in
theorem rcheckGrey_any (W H : Int) (A : Option Addr) (n c : Nat) (w : World) (hn : n ≤ maxLen) :
    Calls Tryd.prog 36 #[.agg #[.int .i64 W, .int .i64 H, .slice A n c]] w fun e w' => e = .returned (.int .i64 (if sidesB W H n then 0 else 2)) ∧ Below w.heap.size w w' := by
  unfold maxLen at hn
  have FT := Lib.hid (fits_any W H)
  cases hf : fitsB W H
  · have hs : sidesB W H n = false := Bool.eq_false_iff.2 fun e => by
      obtain ⟨a, b, c, d, _⟩ := sidesB_iff.1 e
      rw [fitsB_iff.2 ⟨a, b, c, d⟩] at hf; cases hf
    rw [hs]
    rw [hf] at FT
    clear hf hs
    go_enter Tryd.func36, Tryd.ntmps36
    go_wp2_with (go_at_call 85; refine (FT.out _).mono ?_; rintro e w' ⟨rfl, rfl⟩)
    go_ret
    exact ⟨rfl, by (repeat (first | exact Below.refl _ _ | assumption | refine Below.drew ?_ | refine below_drewN ?_ _ | refine Below.alloc ?_ (by first | omega | (simp; done) | (simp; omega)) _ | refine Below.setCell ?_ (by first | omega | (simp; done) | (simp; omega)) _ | refine below_setRow ?_ (by first | omega | (simp; done) | (simp; omega)) _ ))⟩
  · obtain ⟨h1, h2, h3, h4⟩ := fitsB_iff.1 hf
    obtain ⟨m1, m2⟩ := area_bd h1 h2 h3 h4
    rw [hf] at FT
    have m3 : IntKind.i64.wrap (W * H) = W * H := IntWalk.i64_in _ (by omega)
    by_cases hs : (n : Int) = W * H
    · rw [sides_mk hf hs]
      have hb : ((n : Int) != W * H) = false := by simp [hs]
      have HS := Lib.hid hs
      clear hf hs
      go_enter Tryd.func36, Tryd.ntmps36
      go_wp2_with (go_at_call 85; refine (FT.out _).mono ?_; rintro e w' ⟨rfl, rfl⟩)
      go_ret
      exact ⟨rfl, by (repeat (first | exact Below.refl _ _ | assumption | refine Below.drew ?_ | refine below_drewN ?_ _ | refine Below.alloc ?_ (by first | omega | (simp; done) | (simp; omega)) _ | refine Below.setCell ?_ (by first | omega | (simp; done) | (simp; omega)) _ | refine below_setRow ?_ (by first | omega | (simp; done) | (simp; omega)) _ ))⟩
    · have hs' : sidesB W H n = false := Bool.eq_false_iff.2 fun e => hs (sidesB_iff.1 e).2.2.2.2
      rw [hs']
      have hb : ((n : Int) != W * H) = true := by simp [hs]
      have HS := Lib.hid hs
      clear hf hs hs'
      go_enter Tryd.func36, Tryd.ntmps36
      go_wp2_with (go_at_call 85; refine (FT.out _).mono ?_; rintro e w' ⟨rfl, rfl⟩)
      go_ret
      exact ⟨rfl, by (repeat (first | exact Below.refl _ _ | assumption | refine Below.drew ?_ | refine below_drewN ?_ _ | refine Below.alloc ?_ (by first | omega | (simp; done) | (simp; omega)) _ | refine Below.setCell ?_ (by first | omega | (simp; done) | (simp; omega)) _ | refine below_setRow ?_ (by first | omega | (simp; done) | (simp; omega)) _ ))⟩

set_option maxHeartbeats 400000 in
theorem rnew_any (W H : Int) (N : Nat) (w : World) (h1 : 0 ≤ W) (h2 : W ≤ 640) (h3 : 0 ≤ H) (h4 : H ≤ 640) (hN : (N : Int) = W * H) :
    Calls Tryd.prog 79 #[.int .i64 W, .int .i64 H] w (New w fun v w' => OutN w w' W H N (fun _ => 0) v) := by
  obtain ⟨m1, m2⟩ := area_bd h1 h2 h3 h4
  have hmk := makeB (W * H) m1 (by omega)
  have e : (W * H).toNat = N := by omega
  rw [e] at hmk
  have HN := Lib.hid hN
  clear hN e
  go_enter Tryd.func79, Tryd.ntmps79
  go_wp2
  refine bodyPost_ret (v := .agg #[.int .i64 W, .int .i64 H, .slice (some ⟨w.heap.size + 1, 0, none⟩) N N]) (by simp [results, Tryd.results79, go_sem]) rfl ?_
  exact ⟨_, rfl, OutN.mk (by omega) (Blk.new' (by simp) _ _), by (repeat (first | exact Below.refl _ _ | assumption | refine Below.drew ?_ | refine below_drewN ?_ _ | refine Below.alloc ?_ (by first | omega | (simp; done) | (simp; omega)) _ | refine Below.setCell ?_ (by first | omega | (simp; done) | (simp; omega)) _ | refine below_setRow ?_ (by first | omega | (simp; done) | (simp; omega)) _ ))⟩

set_option maxHeartbeats 1000000 in
theorem rink_any (W H : Int) (A : Option Addr) (n c : Nat) (p : Int → Int) (x y : Int) (w : World) (hA : ArrB w w.heap.size A n p) (hW : W ≤ 640) (hH : H ≤ 640) (hn : (n : Int) = W * H) :
    Calls Tryd.prog 80 #[.agg #[.int .i64 W, .int .i64 H, .slice A n c], .int .i64 x, .int .i64 y] w fun e w' => e = .returned (.bool (inkB W H p x y)) ∧ Below w.heap.size w w' := by
  by_cases a : 0 ≤ x
  · by_cases b : x < W
    · by_cases c' : 0 ≤ y
      · by_cases d : y < H
        · obtain ⟨i1, i2, i3⟩ := idx_lt a b c' d
          rw [Int.mul_comm H W] at i2
          have i4 : y * W + x < n := by omega
          have j6 := (area_bd (by omega : 0 ≤ W) hW (by omega : 0 ≤ H) hH).2
          have v1 : IntKind.i64.wrap (y * W) = y * W := IntWalk.i64_in _ (by omega)
          have v2 : IntKind.i64.wrap (y * W + x) = y * W + x := IntWalk.i64_in _ (by omega)
          obtain ⟨b', off, rfl, hbB, hcell⟩ := ArrB.at_ (hA.to (w' := w.alloc (.cells #[.int .i64 W, .int .i64 H, .slice A n c] 24)) (by (repeat (first | exact Below.refl _ _ | assumption | refine Below.drew ?_ | refine below_drewN ?_ _ | refine Below.alloc ?_ (by first | omega | (simp; done) | (simp; omega)) _ | refine Below.setCell ?_ (by first | omega | (simp; done) | (simp; omega)) _ | refine below_setRow ?_ (by first | omega | (simp; done) | (simp; omega)) _ )))) i1 i4
          by_cases e : p (y * W + x) = 1
          · have hr : inkB W H p x y = true := inkB_iff.2 ⟨a, b, c', d, e⟩
            rw [hr]
            have hb : (p (y * W + x) == 1) = true := by simp [e]
            have E := Lib.hid e; clear e hr
            go_enter Tryd.func80, Tryd.ntmps80
            go_wp2
            go_ret
            exact ⟨rfl, by (repeat (first | exact Below.refl _ _ | assumption | refine Below.drew ?_ | refine below_drewN ?_ _ | refine Below.alloc ?_ (by first | omega | (simp; done) | (simp; omega)) _ | refine Below.setCell ?_ (by first | omega | (simp; done) | (simp; omega)) _ | refine below_setRow ?_ (by first | omega | (simp; done) | (simp; omega)) _ ))⟩
          · have hr : inkB W H p x y = false := Bool.eq_false_iff.2 fun h => e (inkB_iff.1 h).2.2.2.2
            rw [hr]
            have hb : (p (y * W + x) == 1) = false := by simp [e]
            have E := Lib.hid e; clear e hr
            go_enter Tryd.func80, Tryd.ntmps80
            go_wp2
            go_ret
            exact ⟨rfl, by (repeat (first | exact Below.refl _ _ | assumption | refine Below.drew ?_ | refine below_drewN ?_ _ | refine Below.alloc ?_ (by first | omega | (simp; done) | (simp; omega)) _ | refine Below.setCell ?_ (by first | omega | (simp; done) | (simp; omega)) _ | refine below_setRow ?_ (by first | omega | (simp; done) | (simp; omega)) _ ))⟩
        · have hr : inkB W H p x y = false := Bool.eq_false_iff.2 fun e => d (inkB_iff.1 e).2.2.2.1
          rw [hr]
          go_enter Tryd.func80, Tryd.ntmps80
          go_wp2
          go_ret
          exact ⟨rfl, by (repeat (first | exact Below.refl _ _ | assumption | refine Below.drew ?_ | refine below_drewN ?_ _ | refine Below.alloc ?_ (by first | omega | (simp; done) | (simp; omega)) _ | refine Below.setCell ?_ (by first | omega | (simp; done) | (simp; omega)) _ | refine below_setRow ?_ (by first | omega | (simp; done) | (simp; omega)) _ ))⟩
      · have hr : inkB W H p x y = false := Bool.eq_false_iff.2 fun e => c' (inkB_iff.1 e).2.2.1
        rw [hr]
        go_enter Tryd.func80, Tryd.ntmps80
        go_wp2
        go_ret
        exact ⟨rfl, by (repeat (first | exact Below.refl _ _ | assumption | refine Below.drew ?_ | refine below_drewN ?_ _ | refine Below.alloc ?_ (by first | omega | (simp; done) | (simp; omega)) _ | refine Below.setCell ?_ (by first | omega | (simp; done) | (simp; omega)) _ | refine below_setRow ?_ (by first | omega | (simp; done) | (simp; omega)) _ ))⟩
    · have hr : inkB W H p x y = false := Bool.eq_false_iff.2 fun e => b (inkB_iff.1 e).2.1
      rw [hr]
      go_enter Tryd.func80, Tryd.ntmps80
      go_wp2
      go_ret
      exact ⟨rfl, by (repeat (first | exact Below.refl _ _ | assumption | refine Below.drew ?_ | refine below_drewN ?_ _ | refine Below.alloc ?_ (by first | omega | (simp; done) | (simp; omega)) _ | refine Below.setCell ?_ (by first | omega | (simp; done) | (simp; omega)) _ | refine below_setRow ?_ (by first | omega | (simp; done) | (simp; omega)) _ ))⟩
  · have hr : inkB W H p x y = false := Bool.eq_false_iff.2 fun e => a (inkB_iff.1 e).1
    rw [hr]
    go_enter Tryd.func80, Tryd.ntmps80
    go_wp2
    go_ret
    exact ⟨rfl, by (repeat (first | exact Below.refl _ _ | assumption | refine Below.drew ?_ | refine below_drewN ?_ _ | refine Below.alloc ?_ (by first | omega | (simp; done) | (simp; omega)) _ | refine Below.setCell ?_ (by first | omega | (simp; done) | (simp; omega)) _ | refine below_setRow ?_ (by first | omega | (simp; done) | (simp; omega)) _ ))⟩

set_option maxHeartbeats 400000 in
theorem rset_any (W H : Int) (g n c t : Nat) (q : Int → Int) (x y : Int) (w : World) (hA : Blk w g t (u8s n q)) (h1 : 0 ≤ x) (h2 : x < W) (h3 : 0 ≤ y) (h4 : y < H) (hW : W ≤ 640) (hH : H ≤ 640) (hn : (n : Int) = W * H) :
    Calls Tryd.prog 81 #[.agg #[.int .i64 W, .int .i64 H, .slice (some ⟨g, 0, none⟩) n c], .int .i64 x, .int .i64 y] w fun e w' => e = .returned (.tuple #[]) ∧ Blk w' g t (u8s n (upd q (y * W + x) 1)) ∧ w.grownBy w' (some g) := by
  obtain ⟨i1, i2, i3⟩ := idx_lt h1 h2 h3 h4
  rw [Int.mul_comm H W] at i2
  have i4 : y * W + x < n := by omega
  have j6 := (area_bd (by omega : 0 ≤ W) hW (by omega : 0 ≤ H) hH).2
  have v1 : IntKind.i64.wrap (y * W) = y * W := IntWalk.i64_in _ (by omega)
  have v2 : IntKind.i64.wrap (y * W + x) = y * W + x := IntWalk.i64_in _ (by omega)
  have hr := (hA.alloc (.cells #[.int .i64 W, .int .i64 H, .slice (some ⟨g, 0, none⟩) n c] 24)).u8at i1 i4
  have hf := (hA.alloc (.cells #[.int .i64 W, .int .i64 H, .slice (some ⟨g, 0, none⟩) n c] 24)).frozen (y * W + x).toNat
  have US := Lib.hid ((hA.u8set _ i1 1).alloc (.cells #[.int .i64 W, .int .i64 H, .slice (some ⟨g, 0, none⟩) n c] 24))
  have gl := hA.lt
  go_enter Tryd.func81, Tryd.ntmps81
  go_wp2
  go_end0
  refine ⟨rfl, US.out, rfl, rfl, rfl, by simp, fun k hk hne => ?_⟩
  rw [Below.heap_alloc _ _ k (by simpa using hk), heap_setCell_other _ _ _ _ (by intro e; exact hne (by rw [e]))]
end Go.Proofs.YtoonkpjddfiopaaDoor

/- Walks: images made of bits; lists of numbers compared. -/
namespace Go.Proofs.YtoonkpjddfiopaaDoor
open Go.RowKit
set_option linter.unusedVariables false

theorem and_one_u8 (E : Int) (h0 : 0 ≤ E) (h1 : E ≤ 255) : bits BinOp.and IntKind.u8 E 1 = E % 2 := by
  have h : ∀ k : Fin 256, bits BinOp.and IntKind.u8 (k.val : Int) 1 = (k.val : Int) % 2 := by decide +kernel
  have := h ⟨E.toNat, by omega⟩
  simpa [Int.toNat_of_nonneg h0] using this
/-- the bit i of a list of bytes; 0 behind its end -/
def bitV (r : Int → Int) (i : Int) : Int := r (i / 8) / 2 ^ (i % 8).toNat % 2
def bitQ (n : Nat) (r : Int → Int) : Int → Int := fun i => if i / 8 < n then bitV r i else 0
def bitP (n : Nat) (r : Int → Int) (k : Nat) : Int → Int := fun i => if i < k then bitQ n r i else 0
theorem bitV_01 (r : Int → Int) (i : Int) : 0 ≤ bitV r i ∧ bitV r i ≤ 1 := by unfold bitV; omega
theorem bitQ_01 (n : Nat) (r : Int → Int) (i : Int) : 0 ≤ bitQ n r i ∧ bitQ n r i ≤ 1 := by
  unfold bitQ; split
  · exact bitV_01 r i
  · omega
theorem bitP_yes {n : Nat} {r : Int → Int} {k : Nat} (h : (k : Int) / 8 < n) (i : Int) : upd (bitP n r k) k (bitV r k) i = bitP n r (k + 1) i := by
  unfold upd bitP
  by_cases e : i = k
  · subst e; rw [if_pos rfl, if_pos (by omega)]; unfold bitQ; rw [if_pos h]
  · rw [if_neg e]
    by_cases h2 : i < k
    · rw [if_pos h2, if_pos (by omega)]
    · rw [if_neg h2, if_neg (by omega)]
theorem bitP_no {n : Nat} {r : Int → Int} {k : Nat} (h : ¬ (k : Int) / 8 < n) (i : Int) : bitP n r k i = bitP n r (k + 1) i := by
  unfold bitP
  by_cases e : i = k
  · subst e; rw [if_neg (by omega), if_pos (by omega)]; unfold bitQ; rw [if_neg h]
  · by_cases h2 : i < k
    · rw [if_pos h2, if_pos (by omega)]
    · rw [if_neg h2, if_neg (by omega)]
theorem bitP_end {n : Nat} {r : Int → Int} {k : Nat} {i : Int} (h : i < k) : bitP n r k i = bitQ n r i := by unfold bitP; rw [if_pos h]

set_option maxRecDepth 100000 in
set_option maxHeartbeats 1000000 in
theorem made_any (s W H : Int) (A : Option Addr) (n c : Nat) (r : Int → Int) (w : World) (hA : ArrB w w.heap.size A n r) (hn : n ≤ maxLen) (hr : IsB r) (hs0 : 0 ≤ s) (hs1 : s ≤ 65535) (hW : s % 41 = W) (hH : s / 41 % 31 = H) (N : Nat) (hN : (N : Int) = W * H) :
    Calls Tryd.prog 56 #[.int .u16 s, .slice A n c] w (New w fun v w' => OutN w w' W H N (bitQ n r) v) := by
  unfold maxLen at hn
  have q1 : 0 ≤ W ∧ W ≤ 40 := by omega
  have q2 : 0 ≤ H ∧ H ≤ 30 := by omega
  obtain ⟨q11, q12⟩ := q1
  obtain ⟨q21, q22⟩ := q2
  obtain ⟨m1, m2⟩ := mul_bd q11 q12 q21 q22
  have hmk := makeB (W * H) m1 (by omega)
  rw [show (W * H).toNat = N by omega] at hmk
  have HN := Lib.hid hN; clear hN
  have u1 : IntKind.u16.wrap (s.tdiv 41) = s / 41 := by rw [Int.tdiv_eq_ediv_of_nonneg hs0]; exact IntWalk.u16_in _ (by omega)
  have u2 : (s / 41).tmod 31 = H := by rw [Int.tmod_eq_emod_of_nonneg (by omega)]; exact hH
  go_enter Tryd.func56, Tryd.ntmps56
  go_wp2_with fail
  clear hmk hs0 hs1 u1 u2 hW hH
  go_loopw [26] (fun x wr => ∃ i : Nat, i ≤ N ∧ x = .int .i64 i ∧ Below w.heap.size w wr ∧ Blk wr w.heap.size 24 #[.int .i64 0, .int .i64 0, .slice none 0 0] ∧
    Blk wr (w.heap.size + 1 + 1) 24 #[.int .i64 W, .int .i64 H, .slice (some ⟨w.heap.size + 1, 0, none⟩) N N] ∧ Blk wr (w.heap.size + 1) 5 (u8s N (bitP n r i))) (fun x _ => N - (intOf x).toNat)
  case atStart =>
    exact ⟨0, by omega, rfl, by (repeat (first | exact Below.refl _ _ | assumption | refine Below.drew ?_ | refine below_drewN ?_ _ | refine Below.alloc ?_ (by first | omega | (simp; done) | (simp; omega)) _ | refine Below.setCell ?_ (by first | omega | (simp; done) | (simp; omega)) _ | refine below_setRow ?_ (by first | omega | (simp; done) | (simp; omega)) _ )), ((Blk.new _ _ _).alloc _).alloc _, Blk.new' (by simp) _ _, Blk.u8conv ((Blk.new' (by simp) _ _).alloc _) fun i h0 hi => by unfold bitP; rw [if_neg (by omega)]⟩
  case round =>
    obtain ⟨i, hi, rfl, b1, k1, k2, k3⟩ := hrel
    obtain ⟨p1, p2, p3⟩ := k2.cells3
    by_cases hlt : i < N
    · have hi0 : (0 : Int) ≤ (i : Int) := by omega
      have hin : (i : Int) < (N : Int) := by omega
      have hNb : (N : Int) ≤ 1200 := by rw [HN.out]; omega
      by_cases hb : (i : Int) / 8 < n
      · have d0 : 0 ≤ (i : Int) / 8 := by omega
        have e0 : 0 ≤ (i : Int) % 8 := by omega
        have e1 : (i : Int) % 8 < 8 := by omega
        obtain ⟨bA, off, rfl, hbA, hcell⟩ := ArrB.at_ (ArrB.below hA b1) d0 hb
        have hr1 := hr ((i : Int) / 8)
        obtain ⟨hr2, hr3⟩ := hr1
        have hv : 0 ≤ r ((i : Int) / 8) / 2 ^ ((i : Int) % 8).toNat ∧ r ((i : Int) / 8) / 2 ^ ((i : Int) % 8).toNat ≤ 255 := by
          have h1 : (0 : Int) < 2 ^ ((i : Int) % 8).toNat := Int.pow_pos (by omega)
          exact ⟨Int.ediv_nonneg hr2 (by omega), Int.le_trans (Int.ediv_le_self _ hr2) hr3⟩
        obtain ⟨hv1, hv2⟩ := hv
        have BV : Hid (bits BinOp.and IntKind.u8 (r ((i : Int) / 8) / 2 ^ ((i : Int) % 8).toNat) 1 = bitV r i) := by show _ = _; rw [and_one_u8 _ hv1 hv2]; rfl
        have YS := Lib.hid (fun j => bitP_yes (r := r) hb j)
        have ho := k3.u8at hi0 hin
        have hf := k3.frozen i
        have U := Lib.hid (k3.u8set i hi0 (bitV r i))
        rw [Int.toNat_natCast] at ho
        have bv := BV.out
        have t1 : IntKind.i64.wrap ((i : Int) / 8) = (i : Int) / 8 := IntWalk.i64_in _ (by omega)
        have t2 : (i : Int).tmod 8 = (i : Int) % 8 := Int.tmod_eq_emod_of_nonneg hi0
        have e2 : (i : Int) % 8 ≤ 8 := by omega
        go_wp2_with fail
        go_still_tail 13, (by kernel_rfl)
        change wpList _ _ _ _ _ wr.drew
        clear t1 t2 bv
        go_wp2
        go_roundw
        case rel => exact ⟨i + 1, by omega, by go_num, by (repeat (first | exact Below.refl _ _ | assumption | refine Below.drew ?_ | refine below_drewN ?_ _ | refine Below.alloc ?_ (by first | omega | (simp; done) | (simp; omega)) _ | refine Below.setCell ?_ (by first | omega | (simp; done) | (simp; omega)) _ | refine below_setRow ?_ (by first | omega | (simp; done) | (simp; omega)) _ )), k1.far (by (first | omega | (simp; done) | (simp; omega))) _, k2.far (by (first | omega | (simp; done) | (simp; omega))) _, Blk.u8conv (by simpa using U.out.drew) fun j _ _ => YS.out j⟩
        case measure => simp [intOf]; omega
      · have NS := Lib.hid (fun j => bitP_no (r := r) hb j)
        go_wp2
        go_roundw
        case rel => exact ⟨i + 1, by omega, by go_num, b1, k1, k2, k3.u8conv fun j _ _ => NS.out j⟩
        case measure => simp [intOf]; omega
    · obtain rfl : i = N := by omega
      obtain ⟨s1, s2, s3⟩ := k1.cells3
      obtain ⟨f1, f2, f3⟩ := k1.frozen3
      have z1 := k1.lt
      go_wp2
      refine bodyPost_ret (v := .agg #[.int .i64 W, .int .i64 H, .slice (some ⟨w.heap.size + 1, 0, none⟩) i i]) (by simp [results, Tryd.results56, go_sem, s1, s2, s3]) rfl ?_
      refine ⟨_, rfl, OutN.mk (w := w) (g := w.heap.size + 1) (by omega) ?_, by (repeat (first | exact Below.refl _ _ | assumption | refine Below.drew ?_ | refine below_drewN ?_ _ | refine Below.alloc ?_ (by first | omega | (simp; done) | (simp; omega)) _ | refine Below.setCell ?_ (by first | omega | (simp; done) | (simp; omega)) _ | refine below_setRow ?_ (by first | omega | (simp; done) | (simp; omega)) _ ))⟩
      exact (((k3.u8conv fun j h0 hj => bitP_end hj).far (by simp) _).far (by simp) _).far (by simp) _

def sameI (n m : Nat) (p q : Int → Int) : Bool := decide (n = m) && allN n fun i => decide (p i = q i)
theorem sameI_iff {n m : Nat} {p q : Int → Int} : sameI n m p q = true ↔ n = m ∧ ∀ i : Int, 0 ≤ i → i < n → p i = q i := by
  simp [sameI, allN_iff]
set_option maxHeartbeats 1000000 in
theorem equalI_any (A B : Option Addr) (n m c d : Nat) (p q : Int → Int) (w : World) (hA : ArrI w w.heap.size A n p) (hB : ArrI w w.heap.size B m q) (hn : n ≤ maxLen) (hm : m ≤ maxLen) :
    Calls Tryd.prog 37 #[.slice A n c, .slice B m d] w fun e w' => e = .returned (.bool (sameI n m p q)) ∧ ∃ k, w' = w.drewN k := by
  unfold maxLen at hn hm
  by_cases hnm : n = m
  · subst hnm
    have HD : Hid (sameI n n p q = allN n fun i => decide (p i = q i)) := by show _ = _; simp [sameI]
    go_enter Tryd.func37, Tryd.ntmps37
    go_wp2_with fail
    go_loopw [13] (fun s wr => ∃ i : Nat, i ≤ n ∧ s = .int .i64 i ∧ (∃ k, wr = w.drewN k) ∧ ∀ j : Int, 0 ≤ j → j < i → p j = q j) (fun s _ => n - (intOf s).toNat)
    case atStart => exact ⟨0, by omega, rfl, ⟨0, rfl⟩, fun j a b => by omega⟩
    case round =>
      obtain ⟨i, hi, rfl, ⟨k, rfl⟩, hall⟩ := hrel
      have HALL := Lib.hid hall; clear hall
      by_cases hlt : i < n
      · have hi0 : (0 : Int) ≤ (i : Int) := by omega
        have hin : (i : Int) < (n : Int) := by omega
        obtain ⟨ba, oa, rfl, hba, hca⟩ := ArrI.at_ hA hi0 hin
        obtain ⟨bb, ob, rfl, hbb, hcb⟩ := ArrI.at_ hB hi0 hin
        rw [Int.toNat_natCast] at hca hcb
        by_cases e : p i = q i
        · have hb : (p i != q i) = false := by simp [e]
          have E := Lib.hid e; clear e
          go_wp2_with fail
          go_quiet (fail)
          go_wp2
          go_roundw
          case rel => exact ⟨i + 1, by omega, by go_num, ⟨_, rfl⟩, fun j a b => if e : j = i then by rw [e, E.out] else HALL.out j a (by omega)⟩
          case measure => simp [intOf]; omega
        · have hb : (p i != q i) = true := by simp [e]
          have hr : Hid (sameI n n p q = false) := by
            show _ = _
            exact Bool.eq_false_iff.2 fun h => e ((sameI_iff.1 h).2 i hi0 hin)
          have E := Lib.hid e; clear e
          go_wp2_with fail
          go_quiet (fail)
          go_wp2
          go_ret
          exact ⟨ret_bool hr.out.symm, _, World.drewN_drewN _ _ _⟩
      · obtain rfl : i = n := by omega
        have hr : Hid (sameI i i p q = true) := by show _ = _; exact sameI_iff.2 ⟨rfl, HALL.out⟩
        go_wp2
        go_ret
        exact ⟨ret_bool hr.out.symm, _, rfl⟩
  · have hr : Hid (sameI n m p q = false) := by show _ = _; simp [sameI, hnm]
    have hb : ((n : Int) != (m : Int)) = true := by simp; omega
    have HN := Lib.hid hnm; clear hnm
    go_enter Tryd.func37, Tryd.ntmps37
    go_wp2
    go_ret
    exact ⟨ret_bool hr.out.symm, 0, rfl⟩
end Go.Proofs.YtoonkpjddfiopaaDoor

/- Walks of package stave and of its reference: paths and their costs. -/
namespace Go.Proofs.YtoonkpjddfiopaaDoor
open Go.RowKit
set_option linter.unusedVariables false

/-- a place of a path is right -/
def stepB (H : Int) (q : Int → Int) (x : Int) : Bool := decide (0 ≤ q x) && (decide (q x < H) && (decide (x ≤ 0) || (decide (q (x - 1) - 1 ≤ q x) && decide (q x ≤ q (x - 1) + 1))))
theorem stepB_iff {H : Int} {q : Int → Int} {x : Int} : stepB H q x = true ↔ 0 ≤ q x ∧ q x < H ∧ (x ≤ 0 ∨ (q (x - 1) - 1 ≤ q x ∧ q x ≤ q (x - 1) + 1)) := by simp [stepB]
def isPathB (W H : Int) (m : Nat) (q : Int → Int) : Bool := decide (1 ≤ W ∧ 1 ≤ H ∧ (m : Int) = W) && allN m (stepB H q)
theorem isPathB_iff {W H : Int} {m : Nat} {q : Int → Int} : isPathB W H m q = true ↔ (1 ≤ W ∧ 1 ≤ H ∧ (m : Int) = W) ∧ ∀ i : Int, 0 ≤ i → i < m → stepB H q i = true := by
  unfold isPathB; rw [Bool.and_eq_true, allN_iff, decide_eq_true_iff]
/-- the cost of a pixel -/
def cst (p : Int → Int) (W : Int) : Int → Int → Int := fun x y => if p (y * W + x) = 1 then 0 else 2
theorem cst_bd (p : Int → Int) (W : Int) (x y : Int) : 0 ≤ cst p W x y ∧ cst p W x y ≤ 2 := by unfold cst; split <;> omega
theorem costP_bd {c : Int → Int → Int} (hc : ∀ x y, 0 ≤ c x y ∧ c x y ≤ 2) (l : Int → Int) (x : Nat) : 0 ≤ costP c l x ∧ costP c l x ≤ 3 * x := by
  induction x with
  | zero => simp [costP]
  | succ x ih => rw [costP]; have := hc x (l x); split <;> omega

/-- the error of a cost, and the cost -/
def costE (W H : Int) (n : Nat) (p : Int → Int) (m : Nat) (q : Int → Int) : Int := if chk W H n p ≠ 0 then chk W H n p else if isPathB W H m q then 0 else 1
def costV (W H : Int) (n : Nat) (p : Int → Int) (m : Nat) (q : Int → Int) : Int := if costE W H n p m q = 0 then costP (cst p W) q m else 0
theorem costE_ok {W H : Int} {n : Nat} {p : Int → Int} {m : Nat} {q : Int → Int} (h : costE W H n p m q = 0) : chk W H n p = 0 ∧ isPathB W H m q = true := by
  unfold costE at h
  by_cases a : chk W H n p = 0
  · rw [if_neg (by simp [a])] at h
    cases b : isPathB W H m q
    · rw [b] at h; simp at h
    · exact ⟨a, rfl⟩
  · rw [if_pos a] at h; exact absurd h a

end Go.Proofs.YtoonkpjddfiopaaDoor

/- Walk: the rows next to a row, from above. -/
namespace Go.Proofs.YtoonkpjddfiopaaDoor
open Go.RowKit Go.Shelf
set_option linter.unusedVariables false
attribute [local go_sem] Oper.semAt_some

/-- a row of an image of height h -/
abbrev RowIn (h : Int) := { t : Int // 0 ≤ t ∧ t < h }
/-- the first i of the rows next to y -/
def nbT (y : Int) (i : Nat) : List Int := (List.range i).map fun j => nxLo y + (j : Nat)
theorem nbT_snoc (y : Int) (i : Nat) : nbT y (i + 1) = nbT y i ++ [nxLo y + i] := by simp [nbT, List.range_succ]
theorem nbT_len (y : Int) (i : Nat) : (nbT y i).length = i := by simp [nbT]
/-- these two blocks are as they were -/
def KpB (a b : Nat) (W W' : World) : Prop := W'.heap[a]? = W.heap[a]? ∧ W'.heap[b]? = W.heap[b]?
theorem KpB.trans {a b : Nat} {A B C : World} (h : KpB a b A B) (k : KpB a b B C) : KpB a b A C := ⟨k.1.trans h.1, k.2.trans h.2⟩
theorem Blk.at0 {w : World} {g t : Nat} {v : Value} (h : Blk w g t #[v]) : w.cell? ⟨g, 0, none⟩ = some v := by rw [h.cell]; rfl

end Go.Proofs.YtoonkpjddfiopaaDoor

/- Walks: the reference's paths and their costs; costs with their errors. -/
namespace Go.Proofs.YtoonkpjddfiopaaDoor
open Go.RowKit
set_option linter.unusedVariables false

theorem inkB_in {W H : Int} {p : Int → Int} {x y : Int} (h1 : 0 ≤ x) (h2 : x < W) (h3 : 0 ≤ y) (h4 : y < H) : inkB W H p x y = decide (p (y * W + x) = 1) := by
  unfold inkB; simp [h1, h2, h3, h4]
end Go.Proofs.YtoonkpjddfiopaaDoor

/- Walks: costs with their errors, the program's and the reference's. -/
namespace Go.Proofs.YtoonkpjddfiopaaDoor
open Go.RowKit
set_option linter.unusedVariables false

end Go.Proofs.YtoonkpjddfiopaaDoor

/- Walk: the least cost from a pixel to the last column (the closure of best). -/
namespace Go.Proofs.YtoonkpjddfiopaaDoor
open Go.RowKit Go.Shelf
set_option linter.unusedVariables false
attribute [local go_sem] Oper.semAt_some

/-- what the closure best$1 has captured, and reads -/
structure BestK (w : World) (W H : Int) (Bf Bw Bh Br Bi gr N : Nat) (Fa A : Option Addr) (fc n c : Nat) (fb : Int → Bool) (R p : Int → Int) : Prop where
  kf : Blk w Bf 160 #[.slice Fa N fc]
  kw : Blk w Bw 3 #[.int .i64 W]
  kh : Blk w Bh 3 #[.int .i64 H]
  kr : Blk w Br 58 #[.slice (some ⟨gr, 0, none⟩) N N]
  kR : Blk w gr 3 (i64s N R)
  ki : Blk w Bi 24 #[.int .i64 W, .int .i64 H, .slice A n c]
  aF : Arr w w.heap.size Fa N (fun i => .bool (fb i))
  aA : ArrB w w.heap.size A n p
theorem BestK.below {w w' : World} {W H : Int} {Bf Bw Bh Br Bi gr N : Nat} {Fa A : Option Addr} {fc n c : Nat} {fb : Int → Bool} {R p : Int → Int} (k : BestK w W H Bf Bw Bh Br Bi gr N Fa A fc n c fb R p) (hb : Below w.heap.size w w') : BestK w' W H Bf Bw Bh Br Bi gr N Fa A fc n c fb R p :=
  ⟨k.kf.below' hb, k.kw.below' hb, k.kh.below' hb, k.kr.below' hb, k.kR.below' hb, k.ki.below' hb, (k.aF.below hb).more hb.size, k.aA.to hb⟩

/-- the same below a fixed number of blocks -/
structure BestB (B : Nat) (w : World) (W H : Int) (Bf Bw Bh Br Bi gr N : Nat) (Fa A : Option Addr) (fc n c : Nat) (fb : Int → Bool) (R p : Int → Int) : Prop where
  kf : Blk w Bf 160 #[.slice Fa N fc] ∧ Bf < B
  kw : Blk w Bw 3 #[.int .i64 W] ∧ Bw < B
  kh : Blk w Bh 3 #[.int .i64 H] ∧ Bh < B
  kr : Blk w Br 58 #[.slice (some ⟨gr, 0, none⟩) N N] ∧ Br < B
  kR : Blk w gr 3 (i64s N R) ∧ gr < B
  ki : Blk w Bi 24 #[.int .i64 W, .int .i64 H, .slice A n c] ∧ Bi < B
  aF : Arr w B Fa N (fun i => .bool (fb i))
  aA : ArrB w B A n p
section
variable {B : Nat} {w w' : World} {W H : Int} {Bf Bw Bh Br Bi gr N : Nat} {Fa A : Option Addr} {fc n c : Nat} {fb : Int → Bool} {R p : Int → Int}
theorem BestK.toB (k : BestK w W H Bf Bw Bh Br Bi gr N Fa A fc n c fb R p) : BestB w.heap.size w W H Bf Bw Bh Br Bi gr N Fa A fc n c fb R p :=
  ⟨⟨k.kf, k.kf.lt⟩, ⟨k.kw, k.kw.lt⟩, ⟨k.kh, k.kh.lt⟩, ⟨k.kr, k.kr.lt⟩, ⟨k.kR, k.kR.lt⟩, ⟨k.ki, k.ki.lt⟩, k.aF, k.aA⟩
theorem BestB.below (k : BestB B w W H Bf Bw Bh Br Bi gr N Fa A fc n c fb R p) (hb : Below B w w') : BestB B w' W H Bf Bw Bh Br Bi gr N Fa A fc n c fb R p :=
  ⟨⟨k.kf.1.below hb k.kf.2, k.kf.2⟩, ⟨k.kw.1.below hb k.kw.2, k.kw.2⟩, ⟨k.kh.1.below hb k.kh.2, k.kh.2⟩, ⟨k.kr.1.below hb k.kr.2, k.kr.2⟩, ⟨k.kR.1.below hb k.kR.2, k.kR.2⟩, ⟨k.ki.1.below hb k.ki.2, k.ki.2⟩, k.aF.below hb, k.aA.below hb⟩
end
/-- the state of the loop over the next rows -/
structure StepI (w : World) (W H x y : Int) (Bf Bw Bh Br Bi gr N : Nat) (Fa A : Option Addr) (fc n c : Nat) (fb : Int → Bool) (R p : Int → Int) (m : Int) (S : Nat) (w' : World) : Prop where
  bl : Below w.heap.size w w'
  k : BestB w.heap.size w' W H Bf Bw Bh Br Bi gr N Fa A fc n c fb R p
  bx : Blk w' w.heap.size 3 #[.int .i64 x]
  by' : Blk w' (w.heap.size + 1) 3 #[.int .i64 y]
  bn : Blk w' (w.heap.size + 1 + 1) 3 #[.int .i64 m]
  sz : S ≤ w'.heap.size

/-- the least of N and of what going on to the rows of a list costs -/
def minL (N : Int) (D : Int → Int) (y : Int) (l : List Int) : Int := l.foldl (fun n t => min n (goTo D y t)) N
theorem minL_snoc (N : Int) (D : Int → Int) (y t : Int) (l : List Int) : minL N D y (l ++ [t]) = min (minL N D y l) (goTo D y t) := by simp [minL]
theorem minL_nb (N : Int) (D : Int → Int) (y : Int) (j : Nat) : minL N D y (nbT y j) = mfold N (goTo D y) (nxLo y) j := by
  induction j with
  | zero => rfl
  | succ j ih => rw [nbT_snoc, minL_snoc, ih, mfold]
theorem minL_bd {N H : Int} {D : Int → Int} {y : Int} (hN : 0 ≤ N) (hD : ∀ t, 0 ≤ t → t < H → 0 ≤ D t) (l : List (RowIn H)) : 0 ≤ minL N D y (l.map Subtype.val) ∧ minL N D y (l.map Subtype.val) ≤ N := by
  have : ∀ (l : List (RowIn H)) (m : Int), 0 ≤ m → m ≤ N → 0 ≤ minL m D y (l.map Subtype.val) ∧ minL m D y (l.map Subtype.val) ≤ N := by
    intro l
    induction l with
    | nil => intro m h0 h1; exact ⟨h0, h1⟩
    | cons t l ih =>
      intro m h0 h1
      have := hD t.1 t.2.1 t.2.2
      exact ih (min m (goTo D y t.1)) (by unfold goTo; split <;> omega) (by omega)
  exact this l N hN (Int.le_refl _)

end Go.Proofs.YtoonkpjddfiopaaDoor

/- Walk: the closure of best in one piece; the table of least costs while it is filled. -/
namespace Go.Proofs.YtoonkpjddfiopaaDoor
open Go.RowKit
set_option linter.unusedVariables false

def NV : Int := 1073741824
/-- the table of least costs: the columns behind x are done, and the first y rows of column x -/
def restR (W : Int) (G : Int → Int → Int) (x y : Int) : Int → Int := fun i => if x < i % W ∨ (i % W = x ∧ i / W < y) then G (i % W) (i / W) else 0
theorem restR_start {W : Int} {G : Int → Int → Int} {i : Int} (hW : 0 < W) (h0 : 0 ≤ i) : restR W G (W - 1) 0 i = 0 := by
  have h1 : i % W < W := Int.emod_lt_of_pos _ hW
  have h2 : 0 ≤ i / W := Int.ediv_nonneg h0 (by omega)
  unfold restR; rw [if_neg (by omega)]
theorem restR_set {W : Int} {G : Int → Int → Int} {x y : Int} (hx0 : 0 ≤ x) (hx : x < W) (i : Int) : upd (restR W G x y) (y * W + x) (G x y) i = restR W G x (y + 1) i := by
  have a := idx_mod (y := y) hx0 hx
  have b := idx_div (y := y) hx0 hx
  show (if i = y * W + x then G x y else restR W G x y i) = _
  by_cases e : i = y * W + x
  · rw [if_pos e]; subst e
    unfold restR
    rw [a, b, if_pos (by omega)]
  · rw [if_neg e]
    unfold restR
    have : ¬ (i / W = y ∧ i % W = x) := fun ⟨h1, h2⟩ => e (by
      have := Int.emod_add_mul_ediv i W
      rw [h1, h2, Int.mul_comm] at this; omega)
    by_cases e2 : x < i % W ∨ (i % W = x ∧ i / W < y)
    · rw [if_pos e2, if_pos (by omega)]
    · rw [if_neg e2, if_neg (by omega)]
theorem restR_col {W H : Int} {G : Int → Int → Int} {x i : Int} (hW : 0 < W) (h0 : 0 ≤ i) (hi : i < W * H) : restR W G x H i = restR W G (x - 1) 0 i := by
  have h1 : i / W < H := Int.ediv_lt_of_lt_mul hW (by rw [Int.mul_comm]; exact hi)
  have h2 : 0 ≤ i / W := Int.ediv_nonneg h0 (by omega)
  unfold restR
  by_cases e : x < i % W ∨ (i % W = x ∧ i / W < H)
  · rw [if_pos e, if_pos (by omega)]
  · rw [if_neg e, if_neg (by omega)]
theorem restR_at {W : Int} {G : Int → Int → Int} {x y t u : Int} (hu0 : 0 ≤ u) (hu : u < W) (h : x < u) : restR W G x y (t * W + u) = G u t := by
  unfold restR
  rw [idx_mod hu0 hu, idx_div hu0 hu, if_pos (by omega)]
end Go.Proofs.YtoonkpjddfiopaaDoor

/- A function that leaves with several marks of ranges over functions among its deferred calls. No program in sight. -/
namespace Go.Proofs.YtoonkpjddfiopaaDoor
open Go.RowKit
set_option linter.unusedVariables false

/-- the marks of these blocks -/
def marks (Ds : List Nat) : List Deferred := Ds.map fun D => { target := .collected D, args := #[] }
/-- blocks that hold no deferred calls -/
def Held (w : World) (Ds : List Nat) : Prop := Ds.Nodup ∧ ∀ D ∈ Ds, w.heap[D]? = some (.deferred (some []))
theorem Held.nil (w : World) : Held w [] := ⟨List.nodup_nil, fun _ h => by simp at h⟩
theorem Held.cons {w : World} {Ds : List Nat} {D : Nat} (h : Held w Ds) (hD : w.heap[D]? = some (.deferred (some []))) (hn : D ∉ Ds) : Held w (D :: Ds) :=
  ⟨List.nodup_cons.2 ⟨hn, h.1⟩, fun E hE => by rcases List.mem_cons.1 hE with rfl | hE <;> first | exact hD | exact h.2 E hE⟩
theorem Held.keep {w w' : World} {Ds : List Nat} (h : Held w Ds) (k : ∀ D : Nat, w.heap[D]? = some (Obj.deferred (some [])) → w'.heap[D]? = some (Obj.deferred (some []))) : Held w' Ds := ⟨h.1, fun D hD => k D (h.2 D hD)⟩
theorem leavesM_marks {P : Program} {F : Fence} {n : Nat} {fn : Func} {tmps : Array Value} {R : Ending → World → Prop} {B : Nat} (Ds : List Nat) (w : World) (h : Held w Ds) (hB : ∀ D ∈ Ds, B ≤ D)
    (hend : ∀ w', Below B w w' → (∀ k, k < w.heap.size → k ∉ Ds → w'.heap[k]? = w.heap[k]?) → LeavesIn F n P fn tmps R [] .returning w') : LeavesInM F n P fn tmps R (marks Ds) .returning w := by
  induction Ds generalizing w with
  | nil => exact hend w (Below.refl _ _) fun _ _ _ => rfl
  | cons D Ds ih =>
    have hD := h.2 D (List.mem_cons_self ..)
    have hl := (Array.getElem?_eq_some_iff.1 hD).1
    have hg := grownBy_putObj' w D (.deferred none)
    have hb : Below B w (w.putObj D (.deferred none)) := (Below.refl B w).grown hg (by have := hB D (List.mem_cons_self ..); omega) (fun k e => by cases e; exact hB D (List.mem_cons_self ..))
    refine ⟨by simp, .inl ⟨D, _, rfl, run_takeDeferred hD, ?_⟩⟩
    refine ih _ ⟨(List.nodup_cons.1 h.1).2, fun E hE => ?_⟩ (fun E hE => hB E (List.mem_cons_of_mem _ hE)) (fun w' hw hk => hend w' (hb.trans hw) fun k h1 h2 => ?_)
    · have hne : E ≠ D := fun e => (List.nodup_cons.1 h.1).1 (e ▸ hE)
      have hE' := h.2 E (List.mem_cons_of_mem _ hE)
      rw [← hE']
      exact hg.block E ((Array.getElem?_eq_some_iff.1 hE').1) (by intro e; cases e; exact hne rfl)
    · refine (hk k (Nat.lt_of_lt_of_le h1 hg.size) fun hm => h2 (List.mem_cons_of_mem _ hm)).trans (hg.block k h1 ?_)
      intro e; cases e; exact h2 (List.mem_cons_self ..)
end Go.Proofs.YtoonkpjddfiopaaDoor
