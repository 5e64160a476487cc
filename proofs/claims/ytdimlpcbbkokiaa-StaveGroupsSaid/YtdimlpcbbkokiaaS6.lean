/- Plain: the least costs column by column as lists, to reckon examples. No program in sight. -/
import Derived.Test.YtdimlpcbbkokiaaS5
import Derived.Test.YtdimlpcbbkokiaaT10
namespace Go.Proofs.Ytdimlpcbbkokiaa
open Go.RowKit
set_option linter.unusedVariables false

section
variable (N W H : Int) (c : Int → Int → Int) (F : Int → Int → Bool)
def stepL (d : List Int) (x : Int) : List Int := (List.range H.toNat).map fun (y : Nat) => if F x y then N else min (mfold N (goTo (fun t => d.getD t.toNat 0) y) (nxLo y) (nxN H y) + c x y) N
def colL : Nat → List Int
  | 0 => (List.range H.toNat).map fun (y : Nat) => if F (W - 1) y then N else min (c (W - 1) y) N
  | k + 1 => stepL N H c F (colL k) (W - 1 - (k + 1 : Nat))
def nxtL (d : List Int) (g cc a : Int) : Int := ((nbT a (nxN H a)).find? fun t => decide (goTo (fun t => d.getD t.toNat 0) a t = g - cc)).getD a
def pathL : Nat → Int
  | 0 => fmin (fun t => (colL N W H c F (W - 1).toNat).getD t.toNat 0) H.toNat
  | x + 1 => nxtL H (colL N W H c F (W - 1 - (x + 1 : Nat)).toNat) ((colL N W H c F (W - 1 - x).toNat).getD (pathL x).toNat 0) (c x (pathL x)) (pathL x)
end
theorem mfold_congr {N : Int} {f g : Int → Int} {lo : Int} {j : Nat} (h : ∀ i : Nat, i < j → f (lo + i) = g (lo + i)) : mfold N f lo j = mfold N g lo j := by
  induction j with
  | zero => rfl
  | succ j ih => rw [mfold, mfold, ih (fun i hi => h i (by omega)), h j (by omega)]
theorem fmin_congr {f g : Int → Int} {n : Nat} (h : ∀ i : Int, 0 ≤ i → i < n → f i = g i) : fmin f n = fmin g n := by
  induction n with
  | zero => rfl
  | succ n ih =>
    have e := ih fun i a b => h i a (by omega)
    have b := fmin_bd g n
    rw [fmin, fmin, e, h n (by omega) (by omega)]
    by_cases hn : 0 < n
    · rw [h (fmin g n) b.1 (by have := b.2 hn; omega)]
    · obtain rfl : n = 0 := by omega
      rw [show fmin g 0 = (0 : Nat) from rfl, h (0 : Nat) (by omega) (by omega)]
theorem getD_range_map (n : Nat) (f : Nat → Int) (y : Int) (h0 : 0 ≤ y) (h : y < n) : ((List.range n).map f).getD y.toNat 0 = f y.toNat := by
  rw [List.getD_eq_getElem?_getD, List.getElem?_map, List.getElem?_range (by omega)]; rfl
theorem colL_eq {N W H : Int} {c : Int → Int → Int} {F : Int → Int → Bool} (k : Nat) (y : Int) (h0 : 0 ≤ y) (h : y < H) : gcol N W H c F k y = (colL N W H c F k).getD y.toNat 0 := by
  induction k generalizing y with
  | zero =>
    rw [colL, getD_range_map _ _ _ h0 (by omega), gcol, Int.toNat_of_nonneg h0]
  | succ k ih =>
    rw [colL, stepL, getD_range_map _ _ _ h0 (by omega), gcol, Int.toNat_of_nonneg h0]
    have : mfold N (goTo (gcol N W H c F k) y) (nxLo y) (nxN H y) = mfold N (goTo (fun t => (colL N W H c F k).getD t.toNat 0) y) (nxLo y) (nxN H y) := mfold_congr fun i hi => by
      have h1 := (nx_in h0 h i).1 hi
      unfold goTo
      rw [ih (nxLo y + i) (by unfold nxLo; split <;> omega) h1.1]
    rw [this]
theorem nb_mem {H a t : Int} (a0 : 0 ≤ a) (a1 : a < H) (h : t ∈ nbT a (nxN H a)) : 0 ≤ t ∧ t < H := by
  obtain ⟨j, hj, rfl⟩ := List.mem_map.1 h
  have h1 := (nx_in a0 a1 j).1 (List.mem_range.1 hj)
  have : 0 ≤ nxLo a := by unfold nxLo; split <;> omega
  omega
theorem find_congr {f g : Int → Bool} {l : List Int} (h : ∀ t ∈ l, f t = g t) : l.find? f = l.find? g := by
  induction l with
  | nil => rfl
  | cons a l ih => rw [List.find?_cons, List.find?_cons, h a (List.mem_cons_self ..), ih fun t ht => h t (List.mem_cons_of_mem _ ht)]
theorem nxt_in {N W H : Int} {c : Int → Int → Int} {F : Int → Int → Bool} {x a : Int} (a0 : 0 ≤ a) (a1 : a < H) : 0 ≤ nxt N W H c F x a ∧ nxt N W H c F x a < H := by
  rw [nxt_find]
  cases h : (nbT a (nxN H a)).find? (fun t => decide (goTo (gAt N W H c F (x + 1)) a t = gAt N W H c F x a - c x a)) with
  | none => exact ⟨a0, a1⟩
  | some t => exact nb_mem a0 a1 (List.mem_of_find?_eq_some h)
theorem pathL_eq {N W H : Int} {c : Int → Int → Int} {F : Int → Int → Bool} (hH : 0 < H) (x : Nat) : pathP N W H c F x = pathL N W H c F x ∧ 0 ≤ pathP N W H c F x ∧ pathP N W H c F x < H := by
  induction x with
  | zero =>
    have b := fmin_bd (gAt N W H c F 0) H.toNat
    refine ⟨?_, b.1, by have := b.2 (by omega); show fmin _ _ < _; omega⟩
    show fmin _ _ = fmin _ _
    refine fmin_congr fun i a b => ?_
    unfold gAt
    rw [colL_eq _ i a (by omega), Int.sub_zero]
  | succ x ih =>
    obtain ⟨e, i0, i1⟩ := ih
    refine ⟨?_, nxt_in i0 i1⟩
    show nxt N W H c F x (pathP N W H c F x) = _
    rw [nxt_find, pathL, ← e, nxtL]
    congr 1
    refine find_congr fun t ht => ?_
    obtain ⟨t0, t1⟩ := nb_mem i0 i1 ht
    have h1 : gAt N W H c F (x + 1) t = (colL N W H c F (W - 1 - (x + 1 : Nat)).toNat).getD t.toNat 0 := colL_eq _ t t0 t1
    have h2 : gAt N W H c F x (pathP N W H c F x) = (colL N W H c F (W - 1 - x).toNat).getD (pathP N W H c F x).toNat 0 := colL_eq _ _ i0 i1
    unfold goTo
    rw [h1, h2]

def rowQ (hole : Int) : Int → Int := fun i => if 32 ≤ i ∧ i < 48 ∧ i - 32 ≠ hole then 1 else 0
def rowQ2 : Int → Int := fun i => if i = 23 then 1 else rowQ 7 i
theorem rowQ_B (h : Int) : IsB (rowQ h) := fun i => by unfold rowQ; split <;> omega
theorem rowQ2_B : IsB rowQ2 := fun i => by unfold rowQ2; split; omega; exact rowQ_B 7 i
theorem aw1 : allN 16 (fun i => decide (pathL 1073741824 16 5 (cst (rowQ 7) 16) (fun _ _ => false) i.toNat = 2)) = true := by decide +kernel
theorem aw2 : (colL 1073741824 16 5 (cst (rowQ 7) 16) (fun _ _ => false) 15).getD 2 0 = 2 := by decide +kernel
theorem aw3 : pathL 1073741824 16 5 (cst rowQ2 16) (fun _ _ => false) 0 = 2 ∧ pathL 1073741824 16 5 (cst rowQ2 16) (fun _ _ => false) 7 = 1 := by decide +kernel
theorem aw4 : (colL 1073741824 16 5 (cst rowQ2 16) (fun _ _ => false) 15).getD 2 0 = 2 := by decide +kernel
theorem aw1' : pathL 1073741824 16 5 (cst (rowQ 7) 16) (fun _ _ => false) 0 = 2 := of_decide_eq_true (allN_iff.1 aw1 0 (by decide) (by decide))
theorem aw1'' (i : Int) (h0 : 0 ≤ i) (h : i < (16 : Nat)) : LN 1073741824 16 5 (cst (rowQ 7) 16) 0 i.toNat = 2 := (pathL_eq (by decide) i.toNat).1.trans (of_decide_eq_true (allN_iff.1 aw1 i h0 h))
theorem aw3' : LN 1073741824 16 5 (cst rowQ2 16) 0 7 = 1 := (pathL_eq (by decide) 7).1.trans aw3.2
/-- one line, if the first path is cheap and begins in row 2 of five rows -/
theorem many_one {p : Int → Int} (h0 : pathL 1073741824 16 5 (cst p 16) (fun _ _ => false) 0 = 2) (h1 : (colL 1073741824 16 5 (cst p 16) (fun _ _ => false) 15).getD 2 0 = 2) : Many 1073741824 16 5 (cst p 16) 1 := by
  have e0 : LN 1073741824 16 5 (cst p 16) 0 0 = 2 := (pathL_eq (by decide) 0).1.trans h0
  have g0 : GC 1073741824 16 5 (cst p 16) 0 = 2 := by
    unfold GC
    rw [e0]
    exact (colL_eq (15 : Nat) 2 (by decide) (by decide)).trans h1
  refine ⟨by decide, fun j hj => ?_, fun _ hg => ?_⟩
  · obtain rfl : j = 0 := by omega
    exact ⟨by rw [g0]; decide, by rw [g0]; decide⟩
  · have b := (pathL_eq (N := 1073741824) (W := 16) (H := 5) (c := cst p 16) (F := fun x y => FB 1073741824 16 5 (cst p 16) 1 (y * 16 + x)) (by decide) 0).2
    have h2 := hg.1
    unfold GC at h2
    rw [gAt_step (by decide) (by decide), if_pos] at h2
    · omega
    · show FB 1073741824 16 5 (cst p 16) (0 + 1) (LN 1073741824 16 5 (cst p 16) 1 0 * 16 + 0) = true
      have b' : 0 ≤ LN 1073741824 16 5 (cst p 16) 1 0 ∧ LN 1073741824 16 5 (cst p 16) 1 0 < 5 := b
      rw [FB]
      unfold mkF
      rw [show (LN 1073741824 16 5 (cst p 16) 1 0 * 16 + 0) % 16 = 0 by omega, show (LN 1073741824 16 5 (cst p 16) 1 0 * 16 + 0) / 16 = LN 1073741824 16 5 (cst p 16) 1 0 by omega]
      show (_ || decide (LN 1073741824 16 5 (cst p 16) 0 0 - 2 ≤ _ ∧ _ ≤ LN 1073741824 16 5 (cst p 16) 0 0 + 2)) = true
      rw [e0, Bool.or_eq_true]
      exact .inr (decide_eq_true (by omega))
end Go.Proofs.Ytdimlpcbbkokiaa
