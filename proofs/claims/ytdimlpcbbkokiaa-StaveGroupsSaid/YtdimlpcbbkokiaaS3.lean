/- Plain laws of the cheapest paths: the reference finds the same path. No program in sight. -/
import Derived.Test.YtdimlpcbbkokiaaS2
namespace Go.Proofs.Ytdimlpcbbkokiaa
open Go.RowKit
set_option linter.unusedVariables false
section
variable {N M W H : Int} {c : Int → Int → Int} {F : Int → Int → Bool}
theorem gr_alike (hc : ∀ x y, 0 ≤ c x y ∧ c x y ≤ 2) (hN : 3 * W < N) (hM : 3 * W < M) {x y : Int} (h0 : 0 ≤ x) (h : x < W) (y0 : 0 ≤ y) (y1 : y < H) :
    (gAt N W H c F x y < N ∧ rAt M W H c F x y = gAt N W H c F x y ∧ gAt N W H c F x y ≤ 3 * W ∧ 0 ≤ gAt N W H c F x y) ∨ (gAt N W H c F x y = N ∧ rAt M W H c F x y = M) := by
  have := cols_alike (F := F) hc hN hM (W - 1 - x).toNat (by omega) y y0 y1
  unfold gAt rAt
  unfold Alike at this
  omega
/-- the least cost of the first column, as the reference reckons it -/
def rleast (M W H : Int) (c : Int → Int → Int) (F : Int → Int → Bool) : Int := mfold M (rAt M W H c F 0) 0 H.toNat
theorem rleast_eq (hc : ∀ x y, 0 ≤ c x y ∧ c x y ≤ 2) (hN : 3 * W < N) (hM : 3 * W < M) (hW : 0 < W) (hH : 0 < H) :
    (gAt N W H c F 0 (pathP N W H c F 0) < N ∧ rleast M W H c F = gAt N W H c F 0 (pathP N W H c F 0) ∧ rleast M W H c F < M) ∨ (gAt N W H c F 0 (pathP N W H c F 0) = N ∧ rleast M W H c F = M) := by
  have hp := fmin_bd (gAt N W H c F 0) H.toNat
  have h2 := hp.2 (by omega)
  have e : pathP N W H c F 0 = fmin (gAt N W H c F 0) H.toNat := rfl
  rw [← e] at hp h2
  have ha := gr_alike (H := H) (F := F) hc hN hM (x := 0) (y := pathP N W H c F 0) (by omega) hW hp.1 (by omega)
  have hle : ∀ i : Nat, i < H.toNat → gAt N W H c F 0 (pathP N W H c F 0) ≤ gAt N W H c F 0 i := fun i hi => fmin_le (by omega) (by omega)
  have hat := mfold_at (N := M) (f := rAt M W H c F 0) (lo := 0) (j := H.toNat) (i := (pathP N W H c F 0).toNat) (by omega)
  rw [show (0 : Int) + ((pathP N W H c F 0).toNat : Int) = pathP N W H c F 0 by omega] at hat
  have hlM := mfold_le M (rAt M W H c F 0) 0 H.toNat
  rcases ha with ⟨a1, a2, a3, a4⟩ | ⟨a1, a2⟩
  · left
    have hge : gAt N W H c F 0 (pathP N W H c F 0) ≤ mfold M (rAt M W H c F 0) 0 H.toNat := mfold_ge (by omega) fun i hi => by
      have hi2 := hle i hi
      rw [Int.zero_add]
      have := gr_alike (H := H) (F := F) hc hN hM (x := 0) (y := i) (by omega) hW (by omega) (by omega)
      omega
    unfold rleast
    omega
  · right
    refine ⟨a1, ?_⟩
    unfold rleast
    rcases mfold_is (N := M) (f := rAt M W H c F 0) (lo := 0) (j := H.toNat) with h | ⟨i, hi, h⟩
    · exact h
    · have hi2 := hle i hi
      rw [Int.zero_add] at h
      have := gr_alike (H := H) (F := F) hc hN hM (x := 0) (y := i) (by omega) hW (by omega) (by omega)
      omega
/-- the reference's test in the first column -/
theorem rfirst (hc : ∀ x y, 0 ≤ c x y ∧ c x y ≤ 2) (hN : 3 * W < N) (hM : 3 * W < M) (hW : 0 < W) (hH : 0 < H) (hf : gAt N W H c F 0 (pathP N W H c F 0) < N) :
    (rAt M W H c F 0 (pathP N W H c F 0) ≠ M ∧ rAt M W H c F 0 (pathP N W H c F 0) = rleast M W H c F) ∧ ∀ y, 0 ≤ y → y < pathP N W H c F 0 → ¬ (rAt M W H c F 0 y ≠ M ∧ rAt M W H c F 0 y = rleast M W H c F) := by
  have hp := fmin_bd (gAt N W H c F 0) H.toNat
  have h2 := hp.2 (by omega)
  have e : pathP N W H c F 0 = fmin (gAt N W H c F 0) H.toNat := rfl
  rw [← e] at hp h2
  have hl := rleast_eq (H := H) (F := F) hc hN hM hW hH
  have ha := gr_alike (H := H) (F := F) hc hN hM (x := 0) (y := pathP N W H c F 0) (by omega) hW hp.1 (by omega)
  refine ⟨by omega, fun y y0 y1 => ?_⟩
  have hy := gr_alike (H := H) (F := F) hc hN hM (x := 0) (y := y) (by omega) hW y0 (by omega)
  have := fmin_first (g := gAt N W H c F 0) (n := H.toNat) y0 (by rw [← e]; exact y1)
  rw [← e] at this
  omega
/-- the reference's test in a later column: what is left is the cost of the last pixel's rest -/
theorem rnext (hc : ∀ x y, 0 ≤ c x y ∧ c x y ≤ 2) (hN : 3 * W < N) (hM : 3 * W < M) (hW : 0 < W) (hH : 0 < H) (hf : gAt N W H c F 0 (pathP N W H c F 0) < N) (x : Nat) (hx : (x : Int) + 1 < W) :
    (rAt M W H c F (x + 1) (pathP N W H c F (x + 1)) ≠ M ∧ rAt M W H c F (x + 1) (pathP N W H c F (x + 1)) + (if pathP N W H c F (x + 1) = pathP N W H c F x then 0 else 1) = rAt M W H c F x (pathP N W H c F x) - c x (pathP N W H c F x)) ∧
    (0 ≤ pathP N W H c F (x + 1) ∧ pathP N W H c F (x + 1) < H ∧ pathP N W H c F x - 1 ≤ pathP N W H c F (x + 1) ∧ pathP N W H c F (x + 1) ≤ pathP N W H c F x + 1) ∧
    ∀ y, 0 ≤ y → y < H → pathP N W H c F x - 1 ≤ y → y < pathP N W H c F (x + 1) → ¬ (rAt M W H c F (x + 1) y ≠ M ∧ rAt M W H c F (x + 1) y + (if y = pathP N W H c F x then 0 else 1) = rAt M W H c F x (pathP N W H c F x) - c x (pathP N W H c F x)) := by
  obtain ⟨i1, i2, i3⟩ := path_ok hc hN hH hW hf x (by omega)
  obtain ⟨j1, j2, j3⟩ := path_ok hc hN hH hW hf (x + 1) (by omega)
  obtain ⟨s1, s2, s3, s4, s5, s6⟩ := nxt_spec hc (by omega) (by omega : (x : Int) < W - 1) i1 i2 i3
  have e : nxt N W H c F x (pathP N W H c F x) = pathP N W H c F (x + 1) := rfl
  rw [e] at s1 s2 s3 s4 s5 s6
  have ha := gr_alike (H := H) (F := F) hc hN hM (x := x) (by omega) (by omega) i1 i2
  have hb := gr_alike (H := H) (F := F) hc hN hM (x := (x : Int) + 1) (by omega) (by omega) j1 j2
  rw [show ((x + 1 : Nat) : Int) = (x : Int) + 1 by omega] at j3
  have hcc := hc x (pathP N W H c F x)
  unfold goTo at s1 s6
  refine ⟨⟨by omega, ?_⟩, ⟨s2, s3, s4, s5⟩, fun y y0 y1 y2 y3 ⟨h1, h2⟩ => ?_⟩
  · split at s1 <;> split <;> omega
  · have hy := gr_alike (H := H) (F := F) hc hN hM (x := (x : Int) + 1) (y := y) (by omega) (by omega) y0 y1
    have := s6 y y0 y2 y3
    split at h2 <;> split at this <;> omega
end
end Go.Proofs.Ytdimlpcbbkokiaa
