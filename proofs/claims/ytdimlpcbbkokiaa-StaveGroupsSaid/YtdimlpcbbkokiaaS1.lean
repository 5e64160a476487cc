/- Plain laws of the cheapest paths: least costs column by column, once with the program's number for 'never', once with the reference's. No program in sight. -/
import Derived.Test.YtdimlpcbbkokiaaLib
namespace Go.Proofs.Ytdimlpcbbkokiaa
open Go.RowKit
set_option linter.unusedVariables false

/-- the least of N and of f at j places from lo on -/
def mfold (N : Int) (f : Int → Int) (lo : Int) : Nat → Int
  | 0 => N
  | j + 1 => min (mfold N f lo j) (f (lo + j))
theorem mfold_le (N : Int) (f : Int → Int) (lo : Int) (j : Nat) : mfold N f lo j ≤ N := by
  induction j with
  | zero => exact Int.le_refl _
  | succ j ih => rw [mfold]; omega
theorem mfold_ge {N m : Int} {f : Int → Int} {lo : Int} {j : Nat} (hN : m ≤ N) (h : ∀ i : Nat, i < j → m ≤ f (lo + i)) : m ≤ mfold N f lo j := by
  induction j with
  | zero => exact hN
  | succ j ih => rw [mfold]; have := ih (fun i hi => h i (by omega)); have := h j (by omega); omega
theorem mfold_at {N : Int} {f : Int → Int} {lo : Int} {j i : Nat} (h : i < j) : mfold N f lo j ≤ f (lo + i) := by
  induction j with
  | zero => omega
  | succ j ih =>
    rw [mfold]
    by_cases e : i = j
    · subst e; omega
    · have := ih (by omega); omega
theorem mfold_is {N : Int} {f : Int → Int} {lo : Int} {j : Nat} : mfold N f lo j = N ∨ ∃ i : Nat, i < j ∧ mfold N f lo j = f (lo + i) := by
  induction j with
  | zero => exact .inl rfl
  | succ j ih =>
    rw [mfold]
    rcases Int.le_total (mfold N f lo j) (f (lo + j)) with h | h
    · rw [Int.min_eq_left h]
      rcases ih with e | ⟨i, hi, e⟩
      · exact .inl e
      · exact .inr ⟨i, by omega, e⟩
    · rw [Int.min_eq_right h]
      exact .inr ⟨j, by omega, rfl⟩

/-- what it costs to go on to a row -/
def goTo (d : Int → Int) (y : Int) : Int → Int := fun to => d to + if to = y then 0 else 1
/-- the first of the rows next to a row, and how many there are -/
def nxLo (y : Int) : Int := if y - 1 < 0 then 0 else y - 1
def nxN (H y : Int) : Nat := ((if y + 1 < H - 1 then y + 1 else H - 1) - nxLo y + 1).toNat
/-- the least costs to the last column: k columns are to the right -/
def gcol (N W H : Int) (c : Int → Int → Int) (F : Int → Int → Bool) : Nat → Int → Int
  | 0, y => if F (W - 1) y then N else min (c (W - 1) y) N
  | k + 1, y => if F (W - 1 - (k + 1 : Nat)) y then N else min (mfold N (goTo (gcol N W H c F k) y) (nxLo y) (nxN H y) + c (W - 1 - (k + 1 : Nat)) y) N
/-- the same as the reference has it -/
def rgo (N H cc : Int) (d : Int → Int) (y : Int) : Int → Int := fun to => if to < 0 ∨ H ≤ to ∨ d to = N then N else cc + d to + if to = y then 0 else 1
def rcol (N W H : Int) (c : Int → Int → Int) (F : Int → Int → Bool) : Nat → Int → Int
  | 0, y => if F (W - 1) y then N else c (W - 1) y
  | k + 1, y => if F (W - 1 - (k + 1 : Nat)) y then N else mfold N (rgo N H (c (W - 1 - (k + 1 : Nat)) y) (rcol N W H c F k) y) (y - 1) 3
/-- two numbers are the same cost, or both are none -/
def Alike (N M b x y : Int) : Prop := (0 ≤ x ∧ x ≤ b ∧ y = x) ∨ (x = N ∧ y = M)
theorem nx_in {H y : Int} (h0 : 0 ≤ y) (h : y < H) (i : Nat) : i < nxN H y ↔ nxLo y + i < H ∧ nxLo y + i ≤ y + 1 := by
  unfold nxN nxLo; split <;> split <;> omega
theorem alike_N (N M b : Int) : Alike N M b N M := .inr ⟨rfl, rfl⟩
theorem alike_min {N M b x y x' y' : Int} (hN : b < N) (hM : b < M) (h : Alike N M b x y) (h' : Alike N M b x' y') : Alike N M b (min x x') (min y y') := by
  rcases h with ⟨h1, h2, h3⟩ | ⟨h1, h2⟩ <;> rcases h' with ⟨g1, g2, g3⟩ | ⟨g1, g2⟩
  · left; omega
  · left; omega
  · left; omega
  · right; omega
theorem alike_capR {N M b x y : Int} (hM : b < M) (h : Alike N M b x y) : Alike N M b x (min y M) := by
  rcases h with ⟨h1, h2, h3⟩ | ⟨h1, h2⟩
  · left; omega
  · right; omega
theorem alike_term {N M b d e cc z : Int} (hN : b + 3 < N) (hc0 : 0 ≤ cc) (hc : cc ≤ 2) (z0 : 0 ≤ z) (z1 : z ≤ 1) (hM : b + 3 < M) (h : Alike N M b d e) :
    Alike N M (b + 3) (min (d + z + cc) N) (if e = M then M else cc + e + z) := by
  rcases h with ⟨h1, h2, h3⟩ | ⟨h1, h2⟩
  · left; rw [if_neg (by omega)]; omega
  · right; rw [if_pos h2]; exact ⟨by omega, rfl⟩
theorem mfold_cap {N cc : Int} (hc0 : 0 ≤ cc) (f : Int → Int) (lo : Int) (j : Nat) : min (mfold N f lo j + cc) N = mfold N (fun t => min (f t + cc) N) lo j := by
  induction j with
  | zero => simp only [mfold]; omega
  | succ j ih =>
    simp only [mfold]
    rw [← ih]
    generalize mfold N f lo j = a
    generalize f (lo + j) = b
    omega
theorem step_alike {N M H b cc : Int} {d e : Int → Int} {y : Int} (h0 : 0 ≤ y) (h : y < H) (hN : b + 3 < N) (hM : b + 3 < M) (hc0 : 0 ≤ cc) (hc : cc ≤ 2) (ha : ∀ t, 0 ≤ t → t < H → Alike N M b (d t) (e t)) :
    Alike N M (b + 3) (min (mfold N (goTo d y) (nxLo y) (nxN H y) + cc) N) (mfold M (rgo M H cc e y) (y - 1) 3) := by
  have e3 : mfold M (rgo M H cc e y) (y - 1) 3 = min (min (min M (rgo M H cc e y (y - 1))) (rgo M H cc e y y)) (rgo M H cc e y (y + 1)) := by
    simp only [mfold]
    rw [show y - 1 + ((0 : Nat) : Int) = y - 1 by omega, show y - 1 + ((1 : Nat) : Int) = y by omega, show y - 1 + ((2 : Nat) : Int) = y + 1 by omega]
  rw [e3, mfold_cap hc0]
  have g0 : goTo d y y = d y + 0 := by unfold goTo; rw [if_pos rfl]
  have gm : goTo d y (y - 1) = d (y - 1) + 1 := by unfold goTo; rw [if_neg (by omega)]
  have gp : goTo d y (y + 1) = d (y + 1) + 1 := by unfold goTo; rw [if_neg (by omega)]
  have r0 : rgo M H cc e y y = if e y = M then M else cc + e y + 0 := by
    unfold rgo; rw [if_pos rfl]
    by_cases h1 : e y = M
    · rw [if_pos (.inr (.inr h1)), if_pos h1]
    · rw [if_neg (by omega), if_neg h1]
  have T0 := alike_term (z := 0) hN hc0 hc (by omega) (by omega) hM (ha y h0 h)
  have rm : 0 ≤ y - 1 → rgo M H cc e y (y - 1) = if e (y - 1) = M then M else cc + e (y - 1) + 1 := by
    intro hm
    unfold rgo; rw [if_neg (by omega : ¬ y - 1 = y)]
    by_cases h1 : e (y - 1) = M
    · rw [if_pos (.inr (.inr h1)), if_pos h1]
    · rw [if_neg (by omega), if_neg h1]
  have rp : y + 1 < H → rgo M H cc e y (y + 1) = if e (y + 1) = M then M else cc + e (y + 1) + 1 := by
    intro hp
    unfold rgo; rw [if_neg (by omega : ¬ y + 1 = y)]
    by_cases h1 : e (y + 1) = M
    · rw [if_pos (.inr (.inr h1)), if_pos h1]
    · rw [if_neg (by omega), if_neg h1]
  by_cases hm : 0 ≤ y - 1
  · have Tm := alike_term (z := 1) hN hc0 hc (by omega) (by omega) hM (ha (y - 1) hm (by omega))
    have lo : nxLo y = y - 1 := by unfold nxLo; rw [if_neg (by omega)]
    rw [rm hm, r0]
    by_cases hp : y + 1 < H
    · have Tp := alike_term (z := 1) hN hc0 hc (by omega) (by omega) hM (ha (y + 1) (by omega) hp)
      have nn : nxN H y = 3 := by
        have := (nx_in h0 h 2).2 (by rw [lo]; omega)
        have := mt (nx_in h0 h 3).1 (by rw [lo]; omega)
        omega
      rw [rp hp, nn, lo]
      simp only [mfold]
      rw [show y - 1 + ((0 : Nat) : Int) = y - 1 by omega, show y - 1 + ((1 : Nat) : Int) = y by omega, show y - 1 + ((2 : Nat) : Int) = y + 1 by omega, g0, gm, gp]
      exact alike_min hN hM (alike_min hN hM (alike_min hN hM (alike_N _ _ _) Tm) T0) Tp
    · have rq : rgo M H cc e y (y + 1) = M := by unfold rgo; rw [if_pos (by omega)]
      have nn : nxN H y = 2 := by
        have := (nx_in h0 h 1).2 (by rw [lo]; omega)
        have := mt (nx_in h0 h 2).1 (by rw [lo]; omega)
        omega
      rw [rq, nn, lo]
      simp only [mfold]
      rw [show y - 1 + ((0 : Nat) : Int) = y - 1 by omega, show y - 1 + ((1 : Nat) : Int) = y by omega, g0, gm]
      exact alike_capR hM (alike_min hN hM (alike_min hN hM (alike_N _ _ _) Tm) T0)
  · have rq : rgo M H cc e y (y - 1) = M := by unfold rgo; rw [if_pos (by omega)]
    have lo : nxLo y = y := by unfold nxLo; rw [if_pos (by omega)]; omega
    rw [rq, r0, show min M M = M from Int.min_self M]
    by_cases hp : y + 1 < H
    · have Tp := alike_term (z := 1) hN hc0 hc (by omega) (by omega) hM (ha (y + 1) (by omega) hp)
      have nn : nxN H y = 2 := by
        have := (nx_in h0 h 1).2 (by rw [lo]; omega)
        have := mt (nx_in h0 h 2).1 (by rw [lo]; omega)
        omega
      rw [rp hp, nn, lo]
      simp only [mfold]
      rw [show y + ((0 : Nat) : Int) = y by omega, show y + ((1 : Nat) : Int) = y + 1 by omega, g0, gp]
      exact alike_min hN hM (alike_min hN hM (alike_N _ _ _) T0) Tp
    · have rs : rgo M H cc e y (y + 1) = M := by unfold rgo; rw [if_pos (by omega)]
      have nn : nxN H y = 1 := by
        have := (nx_in h0 h 0).2 (by rw [lo]; omega)
        have := mt (nx_in h0 h 1).1 (by rw [lo]; omega)
        omega
      rw [rs, nn, lo]
      simp only [mfold]
      rw [show y + ((0 : Nat) : Int) = y by omega, g0]
      exact alike_capR hM (alike_min hN hM (alike_N _ _ _) T0)
theorem cols_alike {N M W H : Int} {c : Int → Int → Int} {F : Int → Int → Bool} (hc : ∀ x y, 0 ≤ c x y ∧ c x y ≤ 2) (hN : 3 * W < N) (hM : 3 * W < M) (k : Nat) (hk : (k : Int) < W) (y : Int) (h0 : 0 ≤ y) (h : y < H) :
    Alike N M (3 * (k + 1)) (gcol N W H c F k y) (rcol M W H c F k y) := by
  induction k generalizing y with
  | zero =>
    rw [gcol, rcol]
    have := hc (W - 1) y
    unfold Alike
    split <;> omega
  | succ k ih =>
    rw [gcol, rcol]
    by_cases hF : F (W - 1 - (k + 1 : Nat)) y = true
    · rw [if_pos hF, if_pos hF]; exact .inr ⟨rfl, rfl⟩
    · rw [if_neg hF, if_neg hF]
      have hcc := hc (W - 1 - (k + 1 : Nat)) y
      have := step_alike (N := N) (M := M) (H := H) (b := 3 * (k + 1)) (cc := c (W - 1 - (k + 1 : Nat)) y) (d := gcol N W H c F k) (e := rcol M W H c F k) h0 h (by omega) (by omega) hcc.1 hcc.2 (fun t a b => ih (by omega) t a b)
      rw [show (3 * (((k + 1 : Nat) : Int) + 1)) = 3 * ((k : Int) + 1) + 3 by omega]
      exact this
end Go.Proofs.Ytdimlpcbbkokiaa
