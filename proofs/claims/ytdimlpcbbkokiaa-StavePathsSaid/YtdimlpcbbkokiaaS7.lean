/- Plain: the first line is a cheapest path; lines keep their distance. No program in sight. -/
import Derived.Test.YtdimlpcbbkokiaaS5
import Derived.Test.YtdimlpcbbkokiaaT1
namespace Go.Proofs.Ytdimlpcbbkokiaa
open Go.RowKit
set_option linter.unusedVariables false
section
variable {N W H : Int} {c : Int → Int → Int}
/-- from every pixel on no path is cheaper -/
theorem least_rest {F : Int → Int → Bool} {l : Int → Int} (hc : ∀ x y, 0 ≤ c x y ∧ c x y ≤ 2) (hF : ∀ x y, F x y = false) (hl : ∀ x : Int, 0 ≤ x → x < W → 0 ≤ l x ∧ l x < H) (hs : ∀ x : Int, 0 ≤ x → x + 1 < W → l x - 1 ≤ l (x + 1) ∧ l (x + 1) ≤ l x + 1) (k x : Nat) (hk : (x : Int) + k + 1 = W) :
    gAt N W H c F x (l x) ≤ c x (l x) + (costP c l W.toNat - costP c l (x + 1)) := by
  induction k generalizing x with
  | zero =>
    have e : (x : Int) = W - 1 := by omega
    rw [show W.toNat = x + 1 by omega]
    have h1 := gAt_last (N := N) (W := W) (H := H) (c := c) (F := F) (l x)
    rw [← e, hF, if_neg (by simp)] at h1
    rw [h1]
    omega
  | succ k ih =>
    have ih := ih (x + 1) (by omega)
    have hx := hl x (by omega) (by omega)
    have hx' := hl ((x : Int) + 1) (by omega) (by omega)
    have hst := hs x (by omega) (by omega)
    rw [gAt_step (by omega) (by omega), if_neg (by rw [hF]; simp)]
    have lo : nxLo (l x) = if l x - 1 < 0 then 0 else l x - 1 := rfl
    obtain ⟨i, hi⟩ : ∃ i : Nat, nxLo (l x) + i = l ((x : Int) + 1) := ⟨(l ((x : Int) + 1) - nxLo (l x)).toNat, by rw [lo]; split <;> omega⟩
    have hin := (nx_in hx.1 hx.2 i).2 (by rw [hi]; omega)
    have hm := mfold_at (N := N) (f := goTo (gAt N W H c F ((x : Int) + 1)) (l x)) (lo := nxLo (l x)) hin
    rw [hi] at hm
    rw [show ((x + 1 : Nat) : Int) = (x : Int) + 1 by omega] at ih
    have hcost : costP c l (x + 1 + 1) = costP c l (x + 1) + c ((x : Int) + 1) (l ((x : Int) + 1)) + if l ((x : Int) + 1) ≠ l x then 1 else 0 := by
      rw [costP]
      simp only [show ((x + 1 : Nat) : Int) = (x : Int) + 1 by omega, show (x : Int) + 1 - 1 = x by omega]
      congr 1
      by_cases h : l ((x : Int) + 1) ≠ l x
      · rw [if_pos ⟨by omega, h⟩, if_pos h]
      · rw [if_neg (fun h2 => h h2.2), if_neg h]
    rw [hcost] at ih
    have hgo : goTo (gAt N W H c F ((x : Int) + 1)) (l x) (l ((x : Int) + 1)) = gAt N W H c F ((x : Int) + 1) (l ((x : Int) + 1)) + if l ((x : Int) + 1) = l x then 0 else 1 := rfl
    rw [hgo] at hm
    clear hgo
    by_cases h : l ((x : Int) + 1) = l x
    · rw [if_pos h] at hm
      rw [if_neg (by simp [h])] at ih
      omega
    · rw [if_neg h] at hm
      rw [if_pos h] at ih
      omega
theorem least_all {l : Int → Int} (hc : ∀ x y, 0 ≤ c x y ∧ c x y ≤ 2) (hW : 0 < W) (hH : 0 < H) (hl : ∀ x : Int, 0 ≤ x → x < W → 0 ≤ l x ∧ l x < H) (hs : ∀ x : Int, 0 ≤ x → x + 1 < W → l x - 1 ≤ l (x + 1) ∧ l (x + 1) ≤ l x + 1) :
    GC N W H c 0 ≤ costP c l W.toNat := by
  have h1 := least_rest (N := N) (F := fun x y => FB N W H c 0 (y * W + x)) hc (fun _ _ => rfl) hl hs (W.toNat - 1) 0 (by omega)
  have h0 := hl 0 (by omega) hW
  have h2 := fmin_le (g := gAt N W H c (fun x y => FB N W H c 0 (y * W + x)) 0) (n := H.toNat) (i := l 0) h0.1 (by omega)
  have e : GC N W H c 0 = gAt N W H c (fun x y => FB N W H c 0 (y * W + x)) 0 (fmin (gAt N W H c (fun x y => FB N W H c 0 (y * W + x)) 0) H.toNat) := rfl
  rw [e]
  have h3 : costP c l (0 + 1) = c 0 (l 0) := by simp [costP]
  rw [h3] at h1
  simp only [Int.natCast_zero] at h1
  omega
/-- what a line costs -/
theorem ln_cost {k : Nat} (hc : ∀ x y, 0 ≤ c x y ∧ c x y ≤ 2) (hN : 3 * W < N) (hW : 0 < W) (hH : 0 < H) (hg : GC N W H c k < N) : costP c (fun i => LN N W H c k i.toNat) W.toNat = GC N W H c k :=
  path_total (F := fun x y => FB N W H c k (y * W + x)) hc hN hH hW hg
theorem ln_step {k : Nat} (hc : ∀ x y, 0 ≤ c x y ∧ c x y ≤ 2) (hN : 3 * W < N) (hW : 0 < W) (hH : 0 < H) (hg : GC N W H c k < N) (x : Nat) (hx : (x : Int) + 1 < W) :
    LN N W H c k x - 1 ≤ LN N W H c k (x + 1) ∧ LN N W H c k (x + 1) ≤ LN N W H c k x + 1 := by
  obtain ⟨h1, h2, h3⟩ := path_ok (F := fun x y => FB N W H c k (y * W + x)) hc hN hH hW hg x (by omega)
  obtain ⟨-, -, -, h4, h5, -⟩ := nxt_spec hc (by omega) (by omega : (x : Int) < W - 1) h1 h2 h3
  exact ⟨h4, h5⟩
theorem FB_mono {i j : Nat} (h : i ≤ j) {t : Int} (ht : FB N W H c i t = true) : FB N W H c j t = true := by
  induction j with
  | zero => obtain rfl : i = 0 := by omega
            exact ht
  | succ j ih =>
    by_cases e : i = j + 1
    · subst e; exact ht
    · rw [FB]; unfold mkF
      rw [ih (by omega), Bool.true_or]
/-- a later line stays off the marks of an earlier one -/
theorem ln_off {i j : Nat} (hc : ∀ x y, 0 ≤ c x y ∧ c x y ≤ 2) (hN : 3 * W < N) (hW : 0 < W) (hH : 0 < H) (hij : i < j) (hg : GC N W H c j < N) (x : Nat) (hx : (x : Int) < W) :
    LN N W H c j x < LN N W H c i x - 2 ∨ LN N W H c i x + 2 < LN N W H c j x := by
  obtain ⟨h1, h2, h3⟩ := ln_ok hc hN hW hH hg x hx
  have hn : FB N W H c (i + 1) (LN N W H c j x * W + x) = false := by
    cases h : FB N W H c (i + 1) (LN N W H c j x * W + x) with
    | false => rfl
    | true => rw [FB_mono (by omega) h] at h3; cases h3
  rw [FB] at hn
  unfold mkF at hn
  rw [idx_mod (by omega) hx, idx_div (by omega) hx, Int.toNat_natCast, Bool.or_eq_false_iff] at hn
  have h4 := of_decide_eq_false hn.2
  have e : pathP N W H c (fun x y => FB N W H c i (y * W + x)) x = LN N W H c i x := rfl
  rw [e] at h4
  omega
theorem ln_apart {a b : Nat} (hc : ∀ x y, 0 ≤ c x y ∧ c x y ≤ 2) (hN : 3 * W < N) (hW : 0 < W) (hH : 0 < H) (hab : a ≠ b) (ha : GC N W H c a < N) (hb : GC N W H c b < N) (h0 : LN N W H c a 0 ≤ LN N W H c b 0) (x : Nat) (hx : (x : Int) < W) :
    LN N W H c a x + 2 < LN N W H c b x := by
  have off : ∀ x : Nat, (x : Int) < W → LN N W H c b x < LN N W H c a x - 2 ∨ LN N W H c a x + 2 < LN N W H c b x := fun x hx => by
    rcases Nat.lt_or_gt_of_ne hab with h | h
    · exact ln_off hc hN hW hH h hb x hx
    · have := ln_off hc hN hW hH h ha x hx; omega
  induction x with
  | zero => have := off 0 (by omega); omega
  | succ x ih =>
    have ih := ih (by omega)
    have h1 := off (x + 1) hx
    have h2 := ln_step hc hN hW hH ha x (by omega)
    have h3 := ln_step hc hN hW hH hb x (by omega)
    omega
theorem path_B {n : Nat} {l : Int → Int} (hW : 1 ≤ W) (hH : 1 ≤ H) (hn : (n : Int) = W) (hl : ∀ x : Int, 0 ≤ x → x < W → 0 ≤ l x ∧ l x < H) (hs : ∀ x : Int, 0 ≤ x → x + 1 < W → l x - 1 ≤ l (x + 1) ∧ l (x + 1) ≤ l x + 1) : isPathB W H n l = true := by
  refine isPathB_iff.2 ⟨⟨hW, hH, hn⟩, fun i i0 i1 => ?_⟩
  have h1 := hl i i0 (by omega)
  unfold stepB
  by_cases h : 0 < i
  · have h2 := hs (i - 1) (by omega) (by omega)
    rw [show i - 1 + 1 = i by omega] at h2
    simp
    omega
  · simp
    omega
end
end Go.Proofs.Ytdimlpcbbkokiaa
