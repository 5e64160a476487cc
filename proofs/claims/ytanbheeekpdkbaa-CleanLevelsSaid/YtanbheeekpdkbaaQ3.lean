/- Plain laws: the threshold by all pairs of levels is the threshold by one pass. No program in sight. -/
import Derived.Test.YtanbheeekpdkbaaW7
namespace Go.Proofs.Ytanbheeekpdkbaa
open Go.RowKit
set_option linter.unusedVariables false

theorem first_occ (c : Int → Int) (a : Nat) (h : a ≤ 256) : ∃ m : Nat, a ≤ m ∧ m ≤ 256 ∧ (∀ j : Nat, a ≤ j → j < m → c j = 0) ∧ (m < 256 → c m ≠ 0) := by
  by_cases e : a = 256
  · exact ⟨a, by omega, by omega, fun j h1 h2 => by omega, fun h => by omega⟩
  · by_cases hc : c a = 0
    · obtain ⟨m, h1, h2, h3, h4⟩ := first_occ c (a + 1) (by omega)
      refine ⟨m, by omega, h2, fun j j1 j2 => ?_, h4⟩
      by_cases ej : j = a
      · subst ej; exact hc
      · exact h3 j (by omega) j2
    · exact ⟨a, by omega, by omega, fun j h1 h2 => by omega, fun _ => hc⟩
termination_by 256 - a
theorem levP_skip (c : Int → Int) (a m : Nat) (h : a ≤ m) (hz : ∀ j : Nat, a ≤ j → j < m → c j = 0) : levP c m = levP c a := by
  induction m with
  | zero => obtain rfl : a = 0 := by omega
            rfl
  | succ m ih =>
    by_cases e : a = m + 1
    · rw [e]
    · rw [levP, if_pos (hz m (by omega) (by omega))]
      exact ih (by omega) fun j h1 h2 => hz j h1 (by omega)
/-- the pairs that begin before the level a are done; m is the first level that occurs from a on -/
structure RL (c : Int → Int) (a m : Nat) (o b : Int) : Prop where
  le : a ≤ m
  top : m ≤ 256
  gap : ∀ j : Nat, a ≤ j → j < m → c j = 0
  occ : m < 256 → c m ≠ 0
  o : o = (levP c (min (m + 1) 256)).1
  b : b = (levP c (min (m + 1) 256)).2.1
theorem RL.start (c : Int → Int) : ∃ m, RL c 0 m 128 0 := by
  obtain ⟨m, h1, h2, h3, h4⟩ := first_occ c 0 (by omega)
  have hs := levP_skip c 0 m h1 h3
  by_cases e : m < 256
  · have hl : levP c (m + 1) = (128, 0, (m : Int)) := by
      rw [levP, if_neg (h4 e), hs]
      simp [levP]
    refine ⟨m, h1, h2, h3, h4, ?_, ?_⟩ <;> rw [Nat.min_eq_left (by omega), hl]
  · obtain rfl : m = 256 := by omega
    refine ⟨256, h1, h2, h3, h4, ?_, ?_⟩ <;> rw [Nat.min_eq_right (by omega), hs] <;> rfl
theorem RL.skip {c : Int → Int} {a m : Nat} {o b : Int} (h : RL c a m o b) (ha : a < 256) (hc : c a = 0) : RL c (a + 1) m o b := by
  have : a ≠ m := by rintro rfl; exact h.occ ha hc
  have := h.le
  exact ⟨by omega, h.top, fun j h1 h2 => h.gap j (by omega) h2, h.occ, h.o, h.b⟩
theorem RL.here {c : Int → Int} {a m : Nat} {o b : Int} (h : RL c a m o b) (ha : a < 256) (hc : c a ≠ 0) : levP c (a + 1) = (o, b, (a : Int)) := by
  have h1 := h.le
  have : m = a := by
    by_cases e : m = a
    · exact e
    · exact absurd (h.gap a (by omega) (by omega)) hc
  subst this
  have ho := h.o; have hb := h.b
  rw [Nat.min_eq_left (by omega)] at ho hb
  rw [ho, hb]
  have h3 : (levP c (m + 1)).2.2 = m := by
    rw [levP, if_neg hc]; split <;> rfl
  rw [← h3]
theorem RL.next {c : Int → Int} {a m : Nat} {o b : Int} (h : RL c a m o b) (ha : a < 256) (hc : c a ≠ 0) {k : Nat} (h1 : a < k) (hk : k < 256) (hz : ∀ j : Nat, a < j → j < k → c j = 0) (hck : c k ≠ 0) :
    RL c (a + 1) k (if b < (k : Int) - a then ((a : Int) + k + 1) / 2 else o) (if b < (k : Int) - a then (k : Int) - a else b) := by
  have hl := h.here ha hc
  have hs := levP_skip c (a + 1) k (by omega) fun j j1 j2 => hz j (by omega) j2
  rw [hl] at hs
  have e : levP c (k + 1) = if b < (k : Int) - a then (((a : Int) + k + 1) / 2, (k : Int) - a, (k : Int)) else (o, b, (k : Int)) := by
    rw [levP, if_neg hck, hs]
    by_cases hb : b < (k : Int) - a
    · simp [hb]
    · simp [hb]
  refine ⟨by omega, by omega, fun j j1 j2 => hz j (by omega) j2, fun _ => hck, ?_, ?_⟩ <;> rw [Nat.min_eq_left (by omega), e] <;> split <;> rfl
theorem RL.none {c : Int → Int} {a m : Nat} {o b : Int} (h : RL c a m o b) (ha : a < 256) (hc : c a ≠ 0) (hz : ∀ j : Nat, a < j → j < 256 → c j = 0) : RL c (a + 1) 256 o b := by
  have hl := h.here ha hc
  have hs := levP_skip c (a + 1) 256 (by omega) fun j j1 j2 => hz j (by omega) j2
  rw [hl] at hs
  refine ⟨by omega, by omega, fun j j1 j2 => hz j (by omega) j2, fun h => by omega, ?_, ?_⟩ <;> rw [Nat.min_eq_right (by omega), hs]
theorem RL.end_ {c : Int → Int} {m : Nat} {o b : Int} (h : RL c 256 m o b) : o = (levP c 256).1 := by
  have h1 := h.le; have h2 := h.top
  rw [h.o, Nat.min_eq_right (by omega)]
theorem RL.bd {c : Int → Int} {a m : Nat} {o b : Int} (h : RL c a m o b) : 0 ≤ o ∧ o ≤ 384 ∧ 0 ≤ b ∧ b ≤ 256 := by
  have hm := Nat.min_le_right (m + 1) 256
  rw [h.o, h.b]
  obtain ⟨d1, d2, d3, d4, d5, d6⟩ := levP_bd c (min (m + 1) 256)
  omega
end Go.Proofs.Ytanbheeekpdkbaa
