/- Texts of mine in build order: T10, G1, C1, C2, C3, C4, I1, I2, T11, S16, W14, T7, S5, T12, S6, T13. Conditions: each theorem's own. -/
import Derived.Test.YtoonkpjddfiopaaDoorMImageSetsx2
import Derived.Deep.RegionHeld3
import Derived.Deep.DeepCutAuto
import Derived.Deep.Cut
import Derived.Deep.CutBlock
import Derived.Shelf.SlSortCmp.Whole1
import Derived.Laws.AppendOwnNone
import Derived.Shelf.SlSortCmp.NoneTotal
import Derived.Lib.LazyBuf
/- Plain: the row in which the path goes on, as the first of a list that meets a test; worlds that differ in one block. No program in sight. -/
namespace Go.Proofs.YtoonkpjddfiopaaDoor
open Go.RowKit
set_option linter.unusedVariables false

theorem nbT_find (f : Int → Bool) (a : Int) (n : Nat) : (nbT a n).find? f = if 0 ≤ idxF (fun i => f (nxLo a + i)) n then some (nxLo a + idxF (fun i => f (nxLo a + i)) n) else none := by
  induction n with
  | zero => simp [nbT, idxF]
  | succ n ih =>
    rw [nbT_snoc, List.find?_append, ih, idxF]
    by_cases h : 0 ≤ idxF (fun i => f (nxLo a + i)) n
    · rw [if_pos h, if_pos h, if_pos h]; rfl
    · rw [if_neg h, if_neg h]
      cases h2 : f (nxLo a + (n : Int)) with
      | true => simp [h2]
      | false => simp [h2]
theorem nxt_find (N W H : Int) (c : Int → Int → Int) (F : Int → Int → Bool) (x a : Int) :
    nxt N W H c F x a = ((nbT a (nxN H a)).find? (fun t => decide (goTo (gAt N W H c F (x + 1)) a t = gAt N W H c F x a - c x a))).getD a := by
  rw [nbT_find]
  unfold nxt
  split <;> rfl
theorem find_none {f : Int → Bool} {h : Int} {l : List (RowIn h)} {m : List Int} (e : l.map Subtype.val = m) (hf : ∀ t ∈ l, f t.1 = false) (a : Int) : (m.find? f).getD a = a := by
  have : m.find? f = none := List.find?_eq_none.2 fun t ht => by
    rw [← e] at ht
    obtain ⟨s, hs, rfl⟩ := List.mem_map.1 ht
    simp [hf s hs]
  rw [this]; rfl
theorem nbT_add (a : Int) (j k : Nat) : ∃ r, nbT a (j + k) = nbT a j ++ r := by
  induction k with
  | zero => exact ⟨[], by simp⟩
  | succ k ih => obtain ⟨r, hr⟩ := ih; exact ⟨r ++ [nxLo a + (j + k : Nat)], by rw [← Nat.add_assoc, nbT_snoc, hr, List.append_assoc]⟩
theorem find_some {f : Int → Bool} {h a : Int} {n : Nat} {l p : List (RowIn h)} {t : RowIn h} (hj : ∃ j, j ≤ n ∧ l.map Subtype.val = nbT a j) (e : l = p ++ [t]) (hf : ∀ s ∈ p, f s.1 = false) (ht : f t.1 = true) (b : Int) : ((nbT a n).find? f).getD b = t.1 := by
  obtain ⟨j, hj, hl⟩ := hj
  obtain ⟨r, hr⟩ := nbT_add a j (n - j)
  rw [show j + (n - j) = n by omega] at hr
  rw [hr, ← hl, e, List.map_append, List.append_assoc, List.find?_append]
  have : (p.map Subtype.val).find? f = none := List.find?_eq_none.2 fun t ht => by
    obtain ⟨s, hs, rfl⟩ := List.mem_map.1 ht
    simp [hf s hs]
  rw [this]
  simp [ht]

/-- the blocks below B, but for block k, are as they were -/
structure But (B k : Nat) (w w' : World) : Prop where
  os : w'.os = w.os
  tape : w'.tape = w.tape
  output : w'.output = w.output
  size : B ≤ w'.heap.size
  block : ∀ j, j < B → j ≠ k → w'.heap[j]? = w.heap[j]?
theorem But.refl {B : Nat} {w : World} (k : Nat) (h : B ≤ w.heap.size) : But B k w w := ⟨rfl, rfl, rfl, h, fun _ _ _ => rfl⟩
theorem But.then {B k : Nat} {w w' w'' : World} (h : But B k w w') (hb : Below B w' w'') : But B k w w'' :=
  ⟨hb.os.trans h.os, hb.tape.trans h.tape, hb.output.trans h.output, Nat.le_trans h.size hb.size, fun j hj hk => (hb.block j hj).trans (h.block j hj hk)⟩
theorem But.set {B k : Nat} {w w' : World} (h : But B k w w') (o : Nat) (u : Value) : But B k w (w'.setCell ⟨k, o, none⟩ u) := by
  have hb := Below.setCell (Below.refl k w') (show k ≤ (⟨k, o, none⟩ : Addr).block from Nat.le_refl _) u
  refine ⟨hb.os.trans h.os, hb.tape.trans h.tape, hb.output.trans h.output, by simpa using h.size, fun j hj hk => ?_⟩
  rw [heap_setCell_other w' ⟨k, o, none⟩ j u hk]
  exact h.block j hj hk
theorem But.to {B k m : Nat} {w w' : World} (h : But B k w w') (hs : w.heap.size = B) (hk : m ≤ k) (hB : m ≤ B) : Below m w w' := ⟨h.os, h.tape, h.output, hs ▸ h.size, fun j hj => h.block j (by omega) (by omega)⟩
theorem Blk.but {B k : Nat} {w w' : World} {g t : Nat} {cs : Array Value} (h : Blk w g t cs) (hb : But B k w w') (hg : g < B) (hn : g ≠ k) : Blk w' g t cs := h.move (hb.block g hg hn)
theorem Held.but {B k : Nat} {w w' : World} {Ds : List Nat} (h : Held w Ds) (hb : But B k w w') (hB : w.heap.size = B) (hk : ∃ t cs, Blk w k t cs) : Held w' Ds := h.keep fun D hD => by
  have hl := (Array.getElem?_eq_some_iff.1 hD).1
  refine (hb.block D (by omega) fun e => ?_).trans hD
  obtain ⟨t, cs, hc⟩ := hk
  rw [e, hc] at hD; cases hD
theorem Held.below {w w' : World} {Ds : List Nat} (h : Held w Ds) (hb : Below w.heap.size w w') : Held w' Ds := h.keep fun D hD => (hb.block D (Array.getElem?_eq_some_iff.1 hD).1).trans hD
theorem own_cells {w : World} {base : Nat} {e : TypeId} {size n k : Nat} {v : Value} {xs : List Value} (h : w.ownsRow base e size v n xs) (hk : v.ownBlock = some k) : ∃ cs, w.heap[k]? = some (.cells cs e (0, 0)) := by
  rcases h.2 with ⟨rfl, _⟩ | ⟨g, cap, cur, rfl, hb, hh, _⟩
  · simp [Value.ownBlock] at hk
  · simp [Value.ownBlock] at hk
    subst hk
    exact ⟨_, hh⟩
theorem own_but {w w' : World} {base n B k : Nat} {e : TypeId} {v : Value} {xs : List Value} (h : w.ownsRow base e 1 v n xs) (hb : But B k w w') (hB : w.heap.size = B) (hk : k < base) : w'.ownsRow base e 1 v n xs := by
  refine ⟨h.1, ?_⟩
  rcases h.2 with h2 | ⟨g, cap, cur, hv, hg, hh, r⟩
  · exact .inl h2
  · exact .inr ⟨g, cap, cur, hv, hg, (hb.block g (by rw [← hB]; exact (Array.getElem?_eq_some_iff.1 hh).1) (by omega)).trans hh, r⟩
theorem own_held {w w' : World} {base n : Nat} {e : TypeId} {v : Value} {xs : List Value} {Ds : List Nat} (h : w.ownsRow base e 1 v n xs) (hd : Held w Ds) (hk : ∀ k, k < w.heap.size → k ∉ Ds → w'.heap[k]? = w.heap[k]?) : w'.ownsRow base e 1 v n xs := by
  refine ⟨h.1, ?_⟩
  rcases h.2 with h2 | ⟨g, cap, cur, hv, hg, hh, r⟩
  · exact .inl h2
  · refine .inr ⟨g, cap, cur, hv, hg, (hk g (Array.getElem?_eq_some_iff.1 hh).1 fun hm => ?_).trans hh, r⟩
    have := hd.2 g hm
    rw [hh] at this; cases this
theorem own_one {w : World} {base g : Nat} {e : TypeId} {u : Value} (h : Blk w g e #[u]) (hb : base ≤ g) : w.ownsRow base e 1 (.slice (some ⟨g, 0, none⟩) 1 1) 1 [u] :=
  ⟨rfl, .inr ⟨g, 1, #[u], rfl, hb, h, Nat.le_refl _, by unfold maxLen; omega, rfl, rfl⟩⟩
theorem Held.grown {w w' : World} {Ds : List Nat} {base : Nat} {e : TypeId} {n : Nat} {v : Value} {xs : List Value} (h : Held w Ds) (ho : w.ownsRow base e 1 v n xs) (hg : w.grownBy w' v.ownBlock) : Held w' Ds := h.keep fun D hD => by
  refine (hg.block D (Array.getElem?_eq_some_iff.1 hD).1 fun e => ?_).trans hD
  obtain ⟨cs, hc⟩ := own_cells ho e.symm
  rw [hc] at hD; cases hD
theorem Held.lt {w : World} {Ds : List Nat} (h : Held w Ds) {D : Nat} (hD : D ∈ Ds) : D < w.heap.size := (Array.getElem?_eq_some_iff.1 (h.2 D hD)).1
theorem range_snoc {α : Type} (f : Nat → α) (n : Nat) : (List.range (n + 1)).map f = (List.range n).map f ++ [f n] := by rw [List.range_succ, List.map_append]; rfl
theorem own_base {w : World} {base base' n : Nat} {e : TypeId} {v : Value} {xs : List Value} (h : w.ownsRow base e 1 v n xs) (hb : base' ≤ base) : w.ownsRow base' e 1 v n xs := by
  refine ⟨h.1, ?_⟩
  rcases h.2 with h2 | ⟨g, cap, cur, hv, hg, r⟩
  · exact .inl h2
  · exact .inr ⟨g, cap, cur, hv, Nat.le_trans hb hg, r⟩
/-- rows of different types lie apart -/
theorem own_apart {w : World} {base base' n n' k : Nat} {e e' : TypeId} {v v' : Value} {xs xs' : List Value} (h : w.ownsRow base e 1 v n xs) (h' : w.ownsRow base' e' 1 v' n' xs') (hne : e ≠ e') (hk : v.ownBlock = some k) : v'.ownBlock ≠ some k := fun hk' => by
  obtain ⟨cs, hc⟩ := own_cells h hk
  obtain ⟨cs', hc'⟩ := own_cells h' hk'
  rw [hc] at hc'; cases hc'; exact hne rfl
theorem own_move {w w' : World} {base n : Nat} {e : TypeId} {v : Value} {xs : List Value} (h : w.ownsRow base e 1 v n xs) (hk : ∀ k, v.ownBlock = some k → w'.heap[k]? = w.heap[k]?) : w'.ownsRow base e 1 v n xs := by
  refine ⟨h.1, ?_⟩
  rcases h.2 with h2 | ⟨g, cap, cur, hv, hg, hh, r⟩
  · exact .inl h2
  · exact .inr ⟨g, cap, cur, hv, hg, (hk g (by rw [hv]; rfl)).trans hh, r⟩
theorem own_grown {w w' : World} {base base' n n' : Nat} {e e' : TypeId} {v v' : Value} {xs xs' : List Value} (h : w.ownsRow base e 1 v n xs) (h' : w.ownsRow base' e' 1 v' n' xs') (hne : e ≠ e') (hg : w.grownBy w' v'.ownBlock) : w'.ownsRow base e 1 v n xs :=
  own_move h fun k hk => hg.block k (own_ge h hk).2 fun e => own_apart h h' hne hk e.symm
theorem own_far {w : World} {base n g t : Nat} {e : TypeId} {v : Value} {xs : List Value} {cs : Array Value} (h : w.ownsRow base e 1 v n xs) (hb : Blk w g t cs) (hne : e ≠ t) (o : Nat) (u : Value) : (w.setCell ⟨g, o, none⟩ u).ownsRow base e 1 v n xs :=
  own_move h fun k hk => heap_setCell_other w ⟨g, o, none⟩ k u fun e => by
    obtain ⟨cs', hc⟩ := own_cells h hk
    have e : k = g := e
    subst e
    rw [hb] at hc; cases hc; exact hne rfl
theorem own_neB {w : World} {base n g t : Nat} {e : TypeId} {v : Value} {xs : List Value} {cs : Array Value} (h : w.ownsRow base e 1 v n xs) (hb : Blk w g t cs) (hne : t ≠ e) : some g ≠ v.ownBlock := fun hk => by
  obtain ⟨cs', hc⟩ := own_cells h hk.symm
  rw [hb] at hc; cases hc; exact hne rfl
/-- how long a slice is -/
def lenV : Value → Nat
  | .slice _ n _ => n
  | _ => 0
theorem own_len {w : World} {base n : Nat} {e : TypeId} {v : Value} {xs : List Value} (h : w.ownsRow base e 1 v n xs) : lenV v = n := by
  obtain ⟨A, c, rfl, _⟩ := own_arr h
  rfl
section
variable {w w' : World} {B n size : Nat} {e : TypeId} {v : Value} {xs : List Value}
theorem own_moveS (h : w.ownsRow B e size v n xs) (hk : ∀ k, v.ownBlock = some k → w'.heap[k]? = w.heap[k]?) : w'.ownsRow B e size v n xs := by
  refine ⟨h.1, ?_⟩
  rcases h.2 with h2 | ⟨g, cap, cur, hv, hg, hh, r⟩
  · exact .inl h2
  · exact .inr ⟨g, cap, cur, hv, hg, (hk g (by rw [hv]; rfl)).trans hh, r⟩
theorem own_belowS (h : w.ownsRow B e size v n xs) (hb : Below w.heap.size w w') : w'.ownsRow B e size v n xs := own_moveS h fun k hk => hb.block k (own_ge h hk).2
end
end Go.Proofs.YtoonkpjddfiopaaDoor

/- Rows of elements of several cells, by an encoder. -/
namespace Go.Proofs.YtoonkpjddfiopaaDoor
open Go.RowKit
set_option linter.unusedVariables false

section
variable {α : Type} {enc : α → List Value} {k : Nat}
def flatE (enc : α → List Value) (l : List α) : List Value := l.flatMap enc
theorem flatE_len (hk : ∀ a, (enc a).length = k) (l : List α) : (flatE enc l).length = l.length * k := by
  induction l with
  | nil => simp [flatE]
  | cons a l ih =>
    show (enc a ++ flatE enc l).length = (l.length + 1) * k
    rw [List.length_append, ih, hk, Nat.succ_mul, Nat.add_comm]
theorem flatE_snoc (l : List α) (r : α) : flatE enc (l ++ [r]) = flatE enc l ++ enc r := by simp [flatE]
theorem flatE_at (hk : ∀ a, (enc a).length = k) : ∀ (l : List α) (i : Nat) (r : α), l[i]? = some r → ∀ t, t < k → (flatE enc l)[i * k + t]? = (enc r)[t]?
  | [], i, r, h, t, ht => by simp at h
  | a :: l, 0, r, h, t, ht => by
    simp at h; subst h
    show ((enc a) ++ flatE enc l)[0 * k + t]? = _
    rw [Nat.zero_mul, Nat.zero_add, List.getElem?_append_left (by rw [hk]; exact ht)]
  | a :: l, i + 1, r, h, t, ht => by
    have ih := flatE_at hk l i r (by simpa using h) t ht
    show ((enc a) ++ flatE enc l)[(i + 1) * k + t]? = _
    rw [List.getElem?_append_right (by rw [hk, Nat.succ_mul]; omega), ← ih]
    congr 1
    rw [hk, Nat.succ_mul]; omega
/-- a row of such elements that the call owns -/
def ERow (w : World) (B : Nat) (T : TypeId) (k : Nat) (enc : α → List Value) (v : Value) (l : List α) : Prop := w.ownsRow B T k v l.length (flatE enc l)
/-- a slice that reads as these elements -/
def EArr (w : World) (B : Nat) (k : Nat) (enc : α → List Value) (A : Option Addr) (l : List α) : Prop := l ≠ [] → ∃ g, A = some ⟨g, 0, none⟩ ∧ g < B ∧ ∀ i r, l[i]? = some r → ∀ t, t < k → w.cell? ⟨g, i * k + t, none⟩ = (enc r)[t]?
variable {w w' : World} {B : Nat} {T : TypeId} {v : Value} {l : List α}
theorem ERow.below (h : ERow w B T k enc v l) (hb : Below w.heap.size w w') : ERow w' B T k enc v l := own_belowS h hb
theorem ERow.move (h : ERow w B T k enc v l) (hk : ∀ j, v.ownBlock = some j → w'.heap[j]? = w.heap[j]?) : ERow w' B T k enc v l := own_moveS h hk
theorem ERow.nil (w : World) (B : Nat) (T : TypeId) (k : Nat) (enc : α → List Value) : ERow w B T k enc (.slice none 0 0) [] := by
  refine ⟨by simp [flatE], .inl ⟨rfl, rfl⟩⟩
theorem ERow.base {B' : Nat} (h : ERow w B T k enc v l) (hB : B' ≤ B) : ERow w B' T k enc v l := ⟨h.1, h.2.imp id fun ⟨g, c, cur, a, b, r⟩ => ⟨g, c, cur, a, Nat.le_trans hB b, r⟩⟩
theorem ERow.val (h : ERow w B T k enc v l) : ∃ A c, v = .slice A l.length c ∧ l.length ≤ c := by
  rcases h.2 with ⟨rfl, h2⟩ | ⟨g, cap, cur, rfl, hb, hh, hc, _⟩
  · have h3 : l = [] := by
      have := h2
      cases l with
      | nil => rfl
      | cons a t => simp at h2
    subst h3
    exact ⟨none, 0, rfl, Nat.le_refl _⟩
  · exact ⟨_, _, rfl, hc⟩
theorem ERow.blk (h : ERow w B T k enc v l) (hl : l ≠ []) : ∃ g c cs, v = .slice (some ⟨g, 0, none⟩) l.length c ∧ l.length ≤ c ∧ B ≤ g ∧ Blk w g T cs ∧ cs.size = c * k ∧ c ≤ maxLen ∧ cs.toList.take (l.length * k) = flatE enc l := by
  rcases h.2 with ⟨-, h2⟩ | ⟨g, cap, cur, rfl, hb, hh, hc, hm, hs, ht⟩
  · exfalso
    cases l with
    | nil => exact hl rfl
    | cons a t => simp at h2
  · exact ⟨g, cap, cur, rfl, hc, hb, hh, hs, hm, ht⟩
theorem ERow.of {g c : Nat} {cs : Array Value} (hk : ∀ a, (enc a).length = k) (h : Blk w g T cs) (hB : B ≤ g) (hc : l.length ≤ c) (hm : c ≤ maxLen) (hs : cs.size = c * k) (ht : cs.toList.take (l.length * k) = flatE enc l) : ERow w B T k enc (.slice (some ⟨g, 0, none⟩) l.length c) l :=
  ⟨flatE_len hk l, .inr ⟨g, c, cs, rfl, hB, h, hc, hm, hs, ht⟩⟩
theorem ERow.cell (hk : ∀ a, (enc a).length = k) {g : Nat} {cs : Array Value} (h : Blk w g T cs) (ht : cs.toList.take (l.length * k) = flatE enc l) {i : Nat} {r : α} (hi : l[i]? = some r) {t : Nat} (h1 : t < k) : w.cell? ⟨g, i * k + t, none⟩ = (enc r)[t]? := by
  have hl := (List.getElem?_eq_some_iff.1 hi).1
  rw [h.cell, ← flatE_at hk l i r hi t h1, ← ht, List.getElem?_take, if_pos ?_, Array.getElem?_toList]
  have h2 : i * k + k ≤ l.length * k := by
    have := Nat.mul_le_mul_right k (show i + 1 ≤ l.length from hl)
    rw [Nat.succ_mul] at this; exact this
  omega
theorem ERow.arr (hk : ∀ a, (enc a).length = k) (h : ERow w B T k enc v l) : ∃ A c, v = .slice A l.length c ∧ l.length ≤ c ∧ EArr w w.heap.size k enc A l := by
  by_cases hl : l = []
  · obtain ⟨A, c, e, hc⟩ := h.val
    exact ⟨A, c, e, hc, fun h => absurd hl h⟩
  · obtain ⟨g, c, cs, e, hc, hg, hb, hs, hm, ht⟩ := h.blk hl
    exact ⟨_, c, e, hc, fun _ => ⟨g, rfl, hb.lt, fun i r hi t h1 => ERow.cell hk hb ht hi h1⟩⟩
theorem EArr.to {A : Option Addr} (h : EArr w w.heap.size k enc A l) (hb : Below w.heap.size w w') : EArr w' w'.heap.size k enc A l := fun hl => by
  obtain ⟨g, rfl, hg, hc⟩ := h hl
  refine ⟨g, rfl, Nat.lt_of_lt_of_le hg hb.size, fun i r hi t ht => (hb.cell (p := ⟨g, i * k + t, none⟩) hg).trans (hc i r hi t ht)⟩
theorem EArr.below {A : Option Addr} (h : EArr w B k enc A l) (hb : Below B w w') : EArr w' B k enc A l := fun hl => by
  obtain ⟨g, rfl, hg, hc⟩ := h hl
  refine ⟨g, rfl, hg, fun i r hi t ht => (hb.cell (p := ⟨g, i * k + t, none⟩) hg).trans (hc i r hi t ht)⟩
end
/-- the place i of a grid W wide, as a point's cells -/
def encP (W : Nat) (i : Nat) : List Value := [.int .i64 ((i % W : Nat) : Int), .int .i64 ((i / W : Nat) : Int)]
theorem encP_len (W : Nat) (i : Nat) : (encP W i).length = 2 := rfl
end Go.Proofs.YtoonkpjddfiopaaDoor

/- Plain: connected parts of a set of numbers. No program in sight. -/
namespace Go.Proofs.YtoonkpjddfiopaaDoor
set_option linter.unusedVariables false

/-- b is reached from a by steps within a set -/
inductive Cn (ink : Nat → Prop) (A : Nat → Nat → Prop) : Nat → Nat → Prop
  | refl {a : Nat} : ink a → Cn ink A a a
  | step {a b c : Nat} : Cn ink A a b → ink c → A b c → Cn ink A a c
section
variable {ink : Nat → Prop} {A : Nat → Nat → Prop} {a b c : Nat}
theorem Cn.left (h : Cn ink A a b) : ink a := by
  induction h with
  | refl h => exact h
  | step _ _ _ ih => exact ih
theorem Cn.right (h : Cn ink A a b) : ink b := by
  cases h with
  | refl h => exact h
  | step _ h _ => exact h
theorem Cn.trans (h : Cn ink A a b) (h' : Cn ink A b c) : Cn ink A a c := by
  induction h' with
  | refl _ => exact h
  | step _ hc hA ih => exact ih.step hc hA
theorem Cn.symm (hA : ∀ a b, A a b → A b a) (h : Cn ink A a b) : Cn ink A b a := by
  induction h with
  | refl h => exact .refl h
  | step h hc hs ih => exact ((Cn.refl hc).step h.right (hA _ _ hs)).trans ih
theorem Cn.one (ha : ink a) (hb : ink b) (h : A a b) : Cn ink A a b := (Cn.refl ha).step hb h
/-- a closed set that holds a holds all that a leads to -/
theorem Cn.closed {S : Nat → Prop} (h : Cn ink A a b) (ha : S a) (hc : ∀ x y, S x → ink y → A x y → S y) : S b := by
  induction h with
  | refl _ => exact ha
  | step _ h1 h2 ih => exact hc _ _ ih h1 h2
theorem Cn.mono {ink' : Nat → Prop} {A' : Nat → Nat → Prop} (hi : ∀ x, ink x → ink' x) (hA : ∀ x y, A x y → A' x y) (h : Cn ink A a b) : Cn ink' A' a b := by
  induction h with
  | refl h => exact .refl (hi _ h)
  | step _ h1 h2 ih => exact ih.step (hi _ h1) (hA _ _ h2)
end
open Classical in
/-- all numbers of a part, in order -/
noncomputable def partN (n : Nat) (ink : Nat → Prop) (A : Nat → Nat → Prop) (i : Nat) : List Nat := (List.range n).filter fun j => decide (Cn ink A i j)
/-- the least of its part -/
def Root (ink : Nat → Prop) (A : Nat → Nat → Prop) (i : Nat) : Prop := ink i ∧ ∀ j, Cn ink A i j → i ≤ j
open Classical in
/-- the first numbers of all parts, in order -/
noncomputable def rootN (n : Nat) (ink : Nat → Prop) (A : Nat → Nat → Prop) : List Nat := (List.range n).filter fun i => decide (Root ink A i)
section
variable {n : Nat} {ink : Nat → Prop} {A : Nat → Nat → Prop} {i j : Nat}
theorem mem_partN : j ∈ partN n ink A i ↔ j < n ∧ Cn ink A i j := by
  simp only [partN, List.mem_filter, List.mem_range, decide_eq_true_eq]
theorem mem_rootN : i ∈ rootN n ink A ↔ i < n ∧ Root ink A i := by
  simp only [rootN, List.mem_filter, List.mem_range, decide_eq_true_eq]
theorem partN_sorted : (partN n ink A i).Pairwise (· < ·) := List.Pairwise.filter _ List.pairwise_lt_range
theorem rootN_sorted : (rootN n ink A).Pairwise (· < ·) := List.Pairwise.filter _ List.pairwise_lt_range
/-- two lists in order with the same members -/
theorem sorted_ext : ∀ {l l' : List Nat}, l.Pairwise (· < ·) → l'.Pairwise (· < ·) → (∀ x, x ∈ l ↔ x ∈ l') → l = l'
  | [], [], _, _, _ => rfl
  | [], y :: l', _, _, h => absurd ((h y).2 (by simp)) (by simp)
  | x :: l, [], _, _, h => absurd ((h x).1 (by simp)) (by simp)
  | x :: l, y :: l', hl, hl', h => by
    rw [List.pairwise_cons] at hl hl'
    have e : x = y := by
      have h1 := (h x).1 (by simp)
      have h2 := (h y).2 (by simp)
      rcases List.mem_cons.1 h1 with e | h1
      · exact e
      · rcases List.mem_cons.1 h2 with e | h2
        · exact e.symm
        · have := hl.1 y h2; have := hl'.1 x h1; omega
    subst e
    rw [sorted_ext hl.2 hl'.2 fun z => ⟨fun hz => by
        have h1 := (h z).1 (List.mem_cons_of_mem _ hz)
        rcases List.mem_cons.1 h1 with e | h1
        · subst e; have := hl.1 z hz; omega
        · exact h1, fun hz => by
        have h1 := (h z).2 (List.mem_cons_of_mem _ hz)
        rcases List.mem_cons.1 h1 with e | h1
        · subst e; have := hl'.1 z hz; omega
        · exact h1⟩]
/-- what has been found is whole and closed: it is the part -/
theorem part_found {l : List Nat} (hl : l.Pairwise (· < ·)) (hb : ∀ x ∈ l, x < n) (hi : i ∈ l) (hc : ∀ x ∈ l, Cn ink A i x) (hcl : ∀ x y, x ∈ l → ink y → A x y → y ∈ l) : l = partN n ink A i := by
  refine sorted_ext hl partN_sorted fun x => ?_
  rw [mem_partN]
  exact ⟨fun h => ⟨hb x h, hc x h⟩, fun ⟨_, h⟩ => h.closed (S := (· ∈ l)) hi hcl⟩
/-- each member of the set has a root -/
theorem root_ex (hA : ∀ a b, A a b → A b a) (h : ink i) : ∃ r, r ≤ i ∧ Root ink A r ∧ Cn ink A r i := by
  classical
  have : ∀ m, ∀ r, r ≤ m → Cn ink A r i → ∃ r', r' ≤ r ∧ Root ink A r' ∧ Cn ink A r' i := by
    intro m
    induction m with
    | zero =>
      intro r hr hc
      obtain rfl : r = 0 := by omega
      exact ⟨0, Nat.le_refl _, ⟨hc.left, fun j _ => Nat.zero_le _⟩, hc⟩
    | succ m ih =>
      intro r hr hc
      by_cases hR : ∀ j, Cn ink A r j → r ≤ j
      · exact ⟨r, Nat.le_refl _, ⟨hc.left, hR⟩, hc⟩
      · obtain ⟨j, hj⟩ := Classical.not_forall.1 hR
        have hj1 : Cn ink A r j := Classical.byContradiction fun h => hj fun h' => absurd h' h
        have hj2 : j < r := by
          rcases Nat.lt_or_ge j r with h | h
          · exact h
          · exact absurd (fun _ => h) hj
        obtain ⟨r', h1, h2, h3⟩ := ih j (by omega) ((hj1.symm hA).trans hc)
        exact ⟨r', by omega, h2, h3⟩
  exact this i i (Nat.le_refl _) (.refl h)
theorem root_uniq (hA : ∀ a b, A a b → A b a) {r r' : Nat} (h : Root ink A r) (h' : Root ink A r') (hc : Cn ink A r r') : r = r' := by
  have h1 := h.2 _ hc
  have h2 := h'.2 _ (hc.symm hA)
  omega
end
/-! ### what is left while the parts are found -/
/-- i is in the set, and no part that begins ahead of k holds it -/
def LeftN (ink : Nat → Prop) (A : Nat → Nat → Prop) (k i : Nat) : Prop := ink i ∧ ∀ r, Root ink A r → r < k → ¬ Cn ink A r i
section
variable {ink : Nat → Prop} {A : Nat → Nat → Prop} {i k : Nat}
theorem left_zero : LeftN ink A 0 i ↔ ink i := ⟨fun h => h.1, fun h => ⟨h, fun r _ h2 => by omega⟩⟩
/-- what is first left is a root -/
theorem left_root (hA : ∀ a b, A a b → A b a) : LeftN ink A k k ↔ Root ink A k := by
  constructor
  · intro h
    obtain ⟨r, h1, h2, h3⟩ := root_ex hA h.1
    by_cases e : r = k
    · exact e ▸ h2
    · exact absurd h3 (h.2 r h2 (by omega))
  · intro h
    refine ⟨h.1, fun r h1 h2 h3 => ?_⟩
    have := root_uniq hA h1 h h3
    omega
theorem left_skip (h : ¬ Root ink A k) : LeftN ink A (k + 1) i ↔ LeftN ink A k i := by
  constructor
  · exact fun h1 => ⟨h1.1, fun r a b => h1.2 r a (by omega)⟩
  · exact fun h1 => ⟨h1.1, fun r a b => by
      by_cases e : r = k
      · exact absurd (e ▸ a) h
      · exact h1.2 r a (by omega)⟩
theorem left_take (h : Root ink A k) : LeftN ink A (k + 1) i ↔ LeftN ink A k i ∧ ¬ Cn ink A k i := by
  constructor
  · exact fun h1 => ⟨⟨h1.1, fun r a b => h1.2 r a (by omega)⟩, h1.2 k h (by omega)⟩
  · exact fun ⟨h1, h2⟩ => ⟨h1.1, fun r a b => by
      by_cases e : r = k
      · rw [e]; exact h2
      · exact h1.2 r a (by omega)⟩
/-- what a root leads to is still left when it comes up -/
theorem left_part (hA : ∀ a b, A a b → A b a) (h : Root ink A k) (hc : Cn ink A k i) : LeftN ink A k i :=
  ⟨hc.right, fun r a b hc' => by
    have := root_uniq hA a h (hc'.trans (hc.symm hA))
    omega⟩
end
open Classical in
/-- the roots ahead of k -/
noncomputable def rootK (k : Nat) (ink : Nat → Prop) (A : Nat → Nat → Prop) : List Nat := (List.range k).filter fun i => decide (Root ink A i)
theorem rootK_zero (ink : Nat → Prop) (A : Nat → Nat → Prop) : rootK 0 ink A = [] := rfl
theorem rootK_yes {k : Nat} {ink : Nat → Prop} {A : Nat → Nat → Prop} (h : Root ink A k) : rootK (k + 1) ink A = rootK k ink A ++ [k] := by
  unfold rootK; rw [List.range_succ, List.filter_append]; congr 1; simp [List.filter, h]
theorem rootK_no {k : Nat} {ink : Nat → Prop} {A : Nat → Nat → Prop} (h : ¬ Root ink A k) : rootK (k + 1) ink A = rootK k ink A := by
  unfold rootK; rw [List.range_succ, List.filter_append]; simp [List.filter, h]
theorem rootK_n {n : Nat} {ink : Nat → Prop} {A : Nat → Nat → Prop} : rootK n ink A = rootN n ink A := rfl
theorem rootK_len (k : Nat) (ink : Nat → Prop) (A : Nat → Nat → Prop) : (rootK k ink A).length ≤ k := by
  unfold rootK
  exact Nat.le_trans (List.length_filter_le _ _) (by simp)
/-! ### neighbours of a grid -/
/-- neighbours: in a row, in a column, and aslant if e -/
def AdjN (W : Nat) (e : Bool) (i j : Nat) : Prop :=
  i ≠ j ∧ (j % W : Int) - (i % W : Int) ≤ 1 ∧ (i % W : Int) - (j % W : Int) ≤ 1 ∧ (j / W : Int) - (i / W : Int) ≤ 1 ∧ (i / W : Int) - (j / W : Int) ≤ 1 ∧ (e = true ∨ (i % W : Int) = (j % W : Int) ∨ (i / W : Int) = (j / W : Int))
theorem AdjN.symm {W : Nat} {e : Bool} (i j : Nat) (h : AdjN W e i j) : AdjN W e j i := by
  obtain ⟨h1, h2, h3, h4, h5, h6⟩ := h
  refine ⟨fun e => h1 e.symm, h3, h2, h5, h4, ?_⟩
  rcases h6 with h | h | h
  · exact .inl h
  · exact .inr (.inl h.symm)
  · exact .inr (.inr h.symm)
/-- the set of an image's ink -/
def InkN (n : Nat) (p : Int → Int) (i : Nat) : Prop := i < n ∧ p i = 1
end Go.Proofs.YtoonkpjddfiopaaDoor

/- Plain: the least rectangle around some places of a grid. No program in sight. -/
namespace Go.Proofs.YtoonkpjddfiopaaDoor
set_option linter.unusedVariables false
/-- the rectangle around a list of places: left, upper, width, height -/
def IsBox (W : Nat) (l : List Nat) (b : Int × Int × Int × Int) : Prop :=
  (l = [] ∧ b = (0, 0, 0, 0)) ∨ (l ≠ [] ∧ (∀ i ∈ l, b.1 ≤ ((i % W : Nat) : Int) ∧ ((i % W : Nat) : Int) ≤ b.1 + b.2.2.1 - 1 ∧ b.2.1 ≤ ((i / W : Nat) : Int) ∧ ((i / W : Nat) : Int) ≤ b.2.1 + b.2.2.2 - 1) ∧
    (∃ i ∈ l, ((i % W : Nat) : Int) = b.1) ∧ (∃ i ∈ l, ((i % W : Nat) : Int) = b.1 + b.2.2.1 - 1) ∧ (∃ i ∈ l, ((i / W : Nat) : Int) = b.2.1) ∧ ∃ i ∈ l, ((i / W : Nat) : Int) = b.2.1 + b.2.2.2 - 1)
theorem IsBox.uniq {W : Nat} {l : List Nat} {b b' : Int × Int × Int × Int} (h : IsBox W l b) (h' : IsBox W l b') : b = b' := by
  rcases h with ⟨h1, rfl⟩ | ⟨h1, h2, ⟨i1, m1, e1⟩, ⟨i2, m2, e2⟩, ⟨i3, m3, e3⟩, ⟨i4, m4, e4⟩⟩
  · rcases h' with ⟨-, rfl⟩ | ⟨h2, -⟩
    · rfl
    · exact absurd h1 h2
  · rcases h' with ⟨h3, -⟩ | ⟨-, g2, ⟨j1, n1, f1⟩, ⟨j2, n2, f2⟩, ⟨j3, n3, f3⟩, ⟨j4, n4, f4⟩⟩
    · exact absurd h3 h1
    · obtain ⟨x, y, w, h⟩ := b
      obtain ⟨x', y', w', h'⟩ := b'
      simp only at *
      have a1 := g2 i1 m1; have a2 := g2 i2 m2; have a3 := g2 i3 m3; have a4 := g2 i4 m4
      have c1 := h2 j1 n1; have c2 := h2 j2 n2; have c3 := h2 j3 n3; have c4 := h2 j4 n4
      have q1 : x = x' := by omega
      have q2 : y = y' := by omega
      have q3 : w = w' := by omega
      have q4 : h = h' := by omega
      subst q1 q2 q3 q4; rfl
theorem IsBox.perm {W : Nat} {l l' : List Nat} {b : Int × Int × Int × Int} (hm : ∀ i, i ∈ l ↔ i ∈ l') (h : IsBox W l b) : IsBox W l' b := by
  rcases h with ⟨h1, rfl⟩ | ⟨h1, h2, ⟨i1, m1, e1⟩, ⟨i2, m2, e2⟩, ⟨i3, m3, e3⟩, ⟨i4, m4, e4⟩⟩
  · refine .inl ⟨List.eq_nil_iff_forall_not_mem.2 fun x hx => ?_, rfl⟩
    have := (hm x).2 hx
    rw [h1] at this; simp at this
  · refine .inr ⟨fun e => ?_, fun i hi => h2 i ((hm i).2 hi), ⟨i1, (hm _).1 m1, e1⟩, ⟨i2, (hm _).1 m2, e2⟩, ⟨i3, (hm _).1 m3, e3⟩, ⟨i4, (hm _).1 m4, e4⟩⟩
    rw [e] at hm
    exact absurd ((hm _).1 m1) (by simp)
/-- corners on the way: least and greatest column and row -/
structure Corn (W : Nat) (l : List Nat) (ax ay bx by' : Int) : Prop where
  in_ : ∀ i ∈ l, ax ≤ ((i % W : Nat) : Int) ∧ ((i % W : Nat) : Int) ≤ bx ∧ ay ≤ ((i / W : Nat) : Int) ∧ ((i / W : Nat) : Int) ≤ by'
  ax : ∃ i ∈ l, ((i % W : Nat) : Int) = ax
  bx : ∃ i ∈ l, ((i % W : Nat) : Int) = bx
  ay : ∃ i ∈ l, ((i / W : Nat) : Int) = ay
  by' : ∃ i ∈ l, ((i / W : Nat) : Int) = by'
theorem Corn.one (W i : Nat) : Corn W [i] ((i % W : Nat) : Int) ((i / W : Nat) : Int) ((i % W : Nat) : Int) ((i / W : Nat) : Int) :=
  ⟨fun j hj => by rw [List.mem_singleton] at hj; subst hj; exact ⟨Int.le_refl _, Int.le_refl _, Int.le_refl _, Int.le_refl _⟩, ⟨i, by simp, rfl⟩, ⟨i, by simp, rfl⟩, ⟨i, by simp, rfl⟩, ⟨i, by simp, rfl⟩⟩
theorem Corn.snoc {W : Nat} {l : List Nat} {ax ay bx by' : Int} (h : Corn W l ax ay bx by') (i : Nat) : Corn W (l ++ [i]) (min ax ((i % W : Nat) : Int)) (min ay ((i / W : Nat) : Int)) (max bx ((i % W : Nat) : Int)) (max by' ((i / W : Nat) : Int)) := by
  have key : ∀ {P : Nat → Prop}, (∃ j ∈ l, P j) ∨ P i → ∃ j ∈ l ++ [i], P j := fun h => by
    rcases h with ⟨j, hj, h⟩ | h
    · exact ⟨j, by simp [hj], h⟩
    · exact ⟨i, by simp, h⟩
  refine ⟨fun j hj => ?_, key ?_, key ?_, key ?_, key ?_⟩
  · rcases List.mem_append.1 hj with hj | hj
    · have := h.in_ j hj; omega
    · rw [List.mem_singleton] at hj; subst hj; omega
  · rcases Int.le_total ax ((i % W : Nat) : Int) with c | c
    · rw [Int.min_eq_left c]; exact .inl h.ax
    · rw [Int.min_eq_right c]; exact .inr rfl
  · rcases Int.le_total bx ((i % W : Nat) : Int) with c | c
    · rw [Int.max_eq_right c]; exact .inr rfl
    · rw [Int.max_eq_left c]; exact .inl h.bx
  · rcases Int.le_total ay ((i / W : Nat) : Int) with c | c
    · rw [Int.min_eq_left c]; exact .inl h.ay
    · rw [Int.min_eq_right c]; exact .inr rfl
  · rcases Int.le_total by' ((i / W : Nat) : Int) with c | c
    · rw [Int.max_eq_right c]; exact .inr rfl
    · rw [Int.max_eq_left c]; exact .inl h.by'
theorem Corn.again {W : Nat} {l : List Nat} {ax ay bx by' : Int} (h : Corn W l ax ay bx by') {i : Nat} (hi : i ∈ l) : min ax ((i % W : Nat) : Int) = ax ∧ min ay ((i / W : Nat) : Int) = ay ∧ max bx ((i % W : Nat) : Int) = bx ∧ max by' ((i / W : Nat) : Int) = by' := by
  have := h.in_ i hi; omega
theorem Corn.box {W : Nat} {l : List Nat} {ax ay bx by' : Int} (h : Corn W l ax ay bx by') : IsBox W l (ax, ay, bx - ax + 1, by' - ay + 1) := by
  obtain ⟨i, hi, -⟩ := h.ax
  refine .inr ⟨fun e => by rw [e] at hi; simp at hi, fun j hj => ?_, h.ax, ?_, h.ay, ?_⟩
  · have := h.in_ j hj; simp only; omega
  · obtain ⟨j, hj, e⟩ := h.bx; exact ⟨j, hj, by simp only; omega⟩
  · obtain ⟨j, hj, e⟩ := h.by'; exact ⟨j, hj, by simp only; omega⟩
theorem Corn.bd {W H : Nat} {l : List Nat} {ax ay bx by' : Int} (h : Corn W l ax ay bx by') (hl : ∀ i ∈ l, i < W * H) (hW : 0 < W) : 0 ≤ ax ∧ ax ≤ bx ∧ bx < W ∧ 0 ≤ ay ∧ ay ≤ by' ∧ by' < H := by
  obtain ⟨i, hi, e1⟩ := h.ax
  obtain ⟨j, hj, e2⟩ := h.bx
  obtain ⟨k, hk, e3⟩ := h.ay
  obtain ⟨m, hm, e4⟩ := h.by'
  have a1 := h.in_ i hi
  have a2 := h.in_ m hm
  have c1 : ((j % W : Nat) : Int) < (W : Int) := Int.ofNat_lt.2 (Nat.mod_lt j hW)
  have c2 : ((m / W : Nat) : Int) < (H : Int) := Int.ofNat_lt.2 (Nat.div_lt_of_lt_mul (hl m hm))
  have c3 : (0 : Int) ≤ ((i % W : Nat) : Int) := Int.natCast_nonneg _
  have c4 : (0 : Int) ≤ ((k / W : Nat) : Int) := Int.natCast_nonneg _
  generalize ((i % W : Nat) : Int) = u1 at *
  generalize ((j % W : Nat) : Int) = u2 at *
  generalize ((k / W : Nat) : Int) = u3 at *
  generalize ((m / W : Nat) : Int) = u4 at *
  omega
end Go.Proofs.YtoonkpjddfiopaaDoor

/- Plain: numbers that sink to the least of each part. No program in sight. -/
namespace Go.Proofs.YtoonkpjddfiopaaDoor
set_option linter.unusedVariables false
structure NumI (n : Nat) (ink : Nat → Prop) (A : Nat → Nat → Prop) (num : Int → Int) : Prop where
  le : ∀ i : Nat, i < n → 0 ≤ num i ∧ num i ≤ i
  cn : ∀ i : Nat, ink i → Cn ink A i (num i).toNat
section
variable {n : Nat} {ink : Nat → Prop} {A : Nat → Nat → Prop} {num : Int → Int}
theorem NumI.start (n : Nat) (ink : Nat → Prop) (A : Nat → Nat → Prop) : NumI n ink A fun i => i :=
  ⟨fun i _ => ⟨by simp, by simp⟩, fun i h => by simpa using Cn.refl h⟩
theorem NumI.step (h : NumI n ink A num) {i j : Nat} (hi : ink i) (hj : ink j) (hA : A i j) (hn : j < n) (hl : num j < num i) : NumI n ink A (upd num i (num j)) := by
  refine ⟨fun k hk => ?_, fun k hk => ?_⟩
  · unfold upd
    split
    · rename_i e
      have e' : k = i := by omega
      subst e'
      have := h.le k hk; have := h.le j hn
      omega
    · exact h.le k hk
  · unfold upd
    split
    · rename_i e
      have e' : k = i := by omega
      subst e'
      exact (Cn.one hi hj hA).trans (h.cn j hj)
    · exact h.cn k hk
theorem NumI.fixed (h : NumI n ink A num) (hin : ∀ i, ink i → i < n) (hA : ∀ a b, A a b → A b a) (hf : ∀ i j : Nat, ink i → ink j → A i j → num i ≤ num j) {i r : Nat} (hr : Root ink A r) (hc : Cn ink A r i) : num i = r := by
  have e : num i = num r := by
    induction hc with
    | refl _ => rfl
    | step h1 h2 h3 ih => rw [← ih]; exact Int.le_antisymm (hf _ _ h2 h1.right (hA _ _ h3)) (hf _ _ h1.right h2 h3)
  have h1 := h.le r (hin r hr.1)
  have h2 := hr.2 _ (h.cn r hr.1)
  omega
theorem NumI.root (h : NumI n ink A num) (hin : ∀ i, ink i → i < n) (hA : ∀ a b, A a b → A b a) (hf : ∀ i j : Nat, ink i → ink j → A i j → num i ≤ num j) {i : Nat} (hi : ink i) : num i = i ↔ Root ink A i := by
  obtain ⟨r, h1, h2, h3⟩ := root_ex hA hi
  have e := h.fixed hin hA hf h2 h3
  constructor
  · intro h4
    have : r = i := by omega
    exact this ▸ h2
  · intro h4
    exact h.fixed hin hA hf h4 (.refl h4.1)
theorem NumI.part (h : NumI n ink A num) (hin : ∀ i, ink i → i < n) (hA : ∀ a b, A a b → A b a) (hf : ∀ i j : Nat, ink i → ink j → A i j → num i ≤ num j) {i r : Nat} (hr : Root ink A r) (hi : ink i) : num i = r ↔ Cn ink A r i := by
  obtain ⟨r', h1, h2, h3⟩ := root_ex hA hi
  have e := h.fixed hin hA hf h2 h3
  constructor
  · intro h4
    have : r' = r := by omega
    exact this ▸ h3
  · exact fun h4 => h.fixed hin hA hf hr h4
end
theorem sumN_upd (num : Int → Int) (i : Nat) (v : Int) : ∀ n : Nat, sumN n (upd num i v) = if i < n then sumN n num - num i + v else sumN n num
  | 0 => by simp [sumN]
  | n + 1 => by
    rw [sumN, sumN, sumN_upd num i v n]
    unfold upd
    by_cases e : n = i
    · subst e
      rw [if_neg (by omega), if_pos rfl, if_pos (by omega)]; omega
    · rw [if_neg (by omega : ¬ ((n : Int) = i))]
      by_cases c : i < n
      · rw [if_pos c, if_pos (by omega)]; omega
      · rw [if_neg c, if_neg (by omega)]
theorem sumN_nonneg {q : Int → Int} : ∀ {n : Nat}, (∀ i : Nat, i < n → 0 ≤ q i) → 0 ≤ sumN n q
  | 0, _ => by simp [sumN]
  | n + 1, h => by
    have := sumN_nonneg (n := n) fun i hi => h i (by omega)
    have := h n (by omega)
    rw [sumN]; omega
open Classical in
/-- the numbers of a part, from i on, up to k -/
noncomputable def partK (i k : Nat) (ink : Nat → Prop) (A : Nat → Nat → Prop) : List Nat := (List.range k).filter fun j => decide (Cn ink A i j)
section
variable {n k i : Nat} {ink : Nat → Prop} {A : Nat → Nat → Prop}
theorem partK_start (h : Root ink A i) : partK i i ink A = [] := by
  refine List.eq_nil_iff_forall_not_mem.2 fun x hx => ?_
  simp only [partK, List.mem_filter, List.mem_range, decide_eq_true_eq] at hx
  have := h.2 _ hx.2
  omega
theorem partK_yes (h : Cn ink A i k) : partK i (k + 1) ink A = partK i k ink A ++ [k] := by
  unfold partK; rw [List.range_succ, List.filter_append]; congr 1; simp [List.filter, h]
theorem partK_no (h : ¬ Cn ink A i k) : partK i (k + 1) ink A = partK i k ink A := by
  unfold partK; rw [List.range_succ, List.filter_append]; simp [List.filter, h]
theorem partK_n : partK i n ink A = partN n ink A i := rfl
theorem partK_len : (partK i k ink A).length ≤ k := by
  unfold partK
  exact Nat.le_trans (List.length_filter_le _ _) (by simp)
end
end Go.Proofs.YtoonkpjddfiopaaDoor

/- Plain: a part is filled from its first place. No program in sight. -/
namespace Go.Proofs.YtoonkpjddfiopaaDoor
set_option linter.unusedVariables false
/-- the eight directions, clockwise from above -/
def dX (d : Nat) : Int := [0, 1, 1, 1, 0, -1, -1, -1].getD d 0
def dY (d : Nat) : Int := [-1, -1, 0, 1, 1, 1, 0, -1].getD d 0
theorem dXY_bd (d : Nat) : -1 ≤ dX d ∧ dX d ≤ 1 ∧ -1 ≤ dY d ∧ dY d ≤ 1 := by
  match d with
  | 0 => decide
  | 1 => decide
  | 2 => decide
  | 3 => decide
  | 4 => decide
  | 5 => decide
  | 6 => decide
  | 7 => decide
  | d + 8 => simp [dX, dY]
theorem dir_of {a b : Int} (h1 : -1 ≤ a) (h2 : a ≤ 1) (h3 : -1 ≤ b) (h4 : b ≤ 1) (h5 : ¬ (a = 0 ∧ b = 0)) : ∃ d, d < 8 ∧ dX d = a ∧ dY d = b ∧ (d % 2 = 0 ↔ (a = 0 ∨ b = 0)) := by
  have ha : a = -1 ∨ a = 0 ∨ a = 1 := by omega
  have hb : b = -1 ∨ b = 0 ∨ b = 1 := by omega
  rcases ha with rfl | rfl | rfl <;> rcases hb with rfl | rfl | rfl
  · exact ⟨7, by decide⟩
  · exact ⟨6, by decide⟩
  · exact ⟨5, by decide⟩
  · exact ⟨0, by decide⟩
  · exact absurd ⟨rfl, rfl⟩ h5
  · exact ⟨4, by decide⟩
  · exact ⟨1, by decide⟩
  · exact ⟨2, by decide⟩
  · exact ⟨3, by decide⟩
theorem dir_ne (d : Nat) (h : d < 8) : ¬ (dX d = 0 ∧ dY d = 0) := by
  match d, h with
  | 0, _ => decide
  | 1, _ => decide
  | 2, _ => decide
  | 3, _ => decide
  | 4, _ => decide
  | 5, _ => decide
  | 6, _ => decide
  | 7, _ => decide
theorem dir_even (d : Nat) (h : d < 8) (h2 : d % 2 = 0) : dX d = 0 ∨ dY d = 0 := by
  have hd : d = 0 ∨ d = 2 ∨ d = 4 ∨ d = 6 := by omega
  rcases hd with rfl | rfl | rfl | rfl <;> decide
theorem divmod_eq {W x y : Nat} (h1 : ((x % W : Nat) : Int) = ((y % W : Nat) : Int)) (h2 : ((x / W : Nat) : Int) = ((y / W : Nat) : Int)) : x = y := by
  have e1 : x % W = y % W := Int.ofNat_inj.1 h1
  have e2 : x / W = y / W := Int.ofNat_inj.1 h2
  rw [← Nat.div_add_mod x W, ← Nat.div_add_mod y W, e1, e2]
theorem adj_dir {W : Nat} {e : Bool} {x y : Nat} (h : AdjN W e x y) : ∃ d, d < 8 ∧ (e = true ∨ d % 2 = 0) ∧ ((y % W : Nat) : Int) = ((x % W : Nat) : Int) + dX d ∧ ((y / W : Nat) : Int) = ((x / W : Nat) : Int) + dY d := by
  obtain ⟨h1, h2, h3, h4, h5, h6⟩ := h
  obtain ⟨d, d1, d2, d3, d4⟩ := dir_of (a := ((y % W : Nat) : Int) - ((x % W : Nat) : Int)) (b := ((y / W : Nat) : Int) - ((x / W : Nat) : Int)) (by push_cast; omega) (by push_cast; omega) (by push_cast; omega) (by push_cast; omega) (fun ⟨a, b⟩ => h1 (divmod_eq (W := W) (by omega) (by omega)))
  refine ⟨d, d1, ?_, by omega, by omega⟩
  rcases h6 with h | h | h
  · exact .inl h
  · exact .inr (d4.2 (.inl (by push_cast; omega)))
  · exact .inr (d4.2 (.inr (by push_cast; omega)))
theorem dir_adj {W : Nat} {e : Bool} {x y d : Nat} (hd : d < 8) (he : e = true ∨ d % 2 = 0) (h1 : ((y % W : Nat) : Int) = ((x % W : Nat) : Int) + dX d) (h2 : ((y / W : Nat) : Int) = ((x / W : Nat) : Int) + dY d) : AdjN W e x y := by
  have hb := dXY_bd d
  push_cast at h1 h2
  refine ⟨fun e => dir_ne d hd (by subst e; omega), by omega, by omega, by omega, by omega, ?_⟩
  rcases he with h | h
  · exact .inl h
  · rcases dir_even d hd h with h | h
    · exact .inr (.inl (by omega))
    · exact .inr (.inr (by omega))
theorem nodup_len : ∀ (n : Nat) (l : List Nat), l.Nodup → (∀ x ∈ l, x < n) → l.length ≤ n
  | 0, l, _, h => by
    cases l with
    | nil => simp
    | cons a t => have := h a (by simp); omega
  | n + 1, l, hn, h => by
    by_cases hm : n ∈ l
    · have h1 := nodup_len n (l.erase n) (hn.erase n) fun x hx => by
        have h2 := (List.Nodup.mem_erase_iff hn).1 hx
        have := h x h2.2
        omega
      rw [List.length_erase_of_mem hm] at h1
      omega
    · have := nodup_len n l hn fun x hx => by
        have := h x hx
        have : x ≠ n := fun e => hm (e ▸ hx)
        omega
      omega
/-- the state of the filling: what has been found, how far its places and their directions are done, what is left -/
structure Bfs (n W : Nat) (e : Bool) (p : Int → Int) (i : Nat) (l : List Nat) (k j : Nat) (lf : Int → Int) : Prop where
  mem : i ∈ l
  nd : l.Nodup
  cn : ∀ x ∈ l, Cn (InkN n p) (AdjN W e) i x
  lv : ∀ x : Nat, x < n → (lf x = 1 ↔ LeftN (InkN n p) (AdjN W e) i x ∧ x ∉ l)
  lz : ∀ x : Nat, x < n → lf x = 0 ∨ lf x = 1
  done : ∀ t, t < k → ∀ x, l[t]? = some x → ∀ y, InkN n p y → AdjN W e x y → y ∈ l
  dir : ∀ x, l[k]? = some x → ∀ d, d < j → (e = true ∨ d % 2 = 0) → ∀ y, InkN n p y → ((y % W : Nat) : Int) = ((x % W : Nat) : Int) + dX d → ((y / W : Nat) : Int) = ((x / W : Nat) : Int) + dY d → y ∈ l
section
variable {n W : Nat} {e : Bool} {p : Int → Int} {i : Nat} {l : List Nat} {k j : Nat} {lf : Int → Int}
/-- what is left ahead of place k -/
def LfI (n W : Nat) (e : Bool) (p : Int → Int) (k : Nat) (lf : Int → Int) : Prop := ∀ x : Nat, x < n → (lf x = 1 ↔ LeftN (InkN n p) (AdjN W e) k x) ∧ (lf x = 0 ∨ lf x = 1)
theorem LfI.start (hp : ∀ i : Int, 0 ≤ i → i < n → p i = 0 ∨ p i = 1) : LfI n W e p 0 p := fun x hx => ⟨by rw [left_zero]; exact ⟨fun h => ⟨hx, h⟩, fun h => h.2⟩, hp x (by omega) (by omega)⟩
theorem LfI.skip (h : LfI n W e p k lf) (hk : k < n) (h0 : lf k ≠ 1) : ¬ Root (InkN n p) (AdjN W e) k ∧ LfI n W e p (k + 1) lf := by
  have hr : ¬ Root (InkN n p) (AdjN W e) k := fun hr => h0 ((h k hk).1.2 ((left_root AdjN.symm).2 hr))
  exact ⟨hr, fun x hx => ⟨by rw [left_skip hr]; exact (h x hx).1, (h x hx).2⟩⟩
theorem Bfs.start (h : LfI n W e p i lf) (hi : i < n) (h1 : lf i = 1) : Root (InkN n p) (AdjN W e) i ∧ Bfs n W e p i [i] 0 0 (upd lf i 0) := by
  have hr : Root (InkN n p) (AdjN W e) i := (left_root AdjN.symm).1 ((h i hi).1.1 h1)
  refine ⟨hr, by simp, by simp, fun x hx => ?_, fun x hx => ?_, fun x hx => ?_, fun t ht => by omega, fun x _ d hd => by omega⟩
  · rw [List.mem_singleton] at hx; subst hx; exact .refl hr.1
  · unfold upd
    by_cases c : (x : Int) = i
    · rw [if_pos c]
      constructor
      · intro h; omega
      · intro h; exact absurd (by simp; omega) h.2
    · rw [if_neg c, (h x hx).1]
      constructor
      · exact fun h => ⟨h, by simp; omega⟩
      · exact fun h => h.1
  · unfold upd
    split
    · exact .inl rfl
    · exact (h x hx).2
theorem Bfs.in_ (h : Bfs n W e p i l k j lf) : ∀ x ∈ l, x < n := fun x hx => (h.cn x hx).right.1
theorem Bfs.len (h : Bfs n W e p i l k j lf) : l.length ≤ n := nodup_len n l h.nd h.in_
/-- a direction that is not asked, or leads to nothing that is left -/
theorem Bfs.skip (hr : Root (InkN n p) (AdjN W e) i) (h : Bfs n W e p i l k j lf) {x : Nat} (hx : l[k]? = some x) (hj : j < 8) (hs : (e = true ∨ j % 2 = 0) → ∀ y : Nat, y < n → ((y % W : Nat) : Int) = ((x % W : Nat) : Int) + dX j → ((y / W : Nat) : Int) = ((x / W : Nat) : Int) + dY j → lf y ≠ 1) :
    Bfs n W e p i l k (j + 1) lf := by
  refine ⟨h.mem, h.nd, h.cn, h.lv, h.lz, h.done, fun x' hx' d hd he y hy h1 h2 => ?_⟩
  rw [hx] at hx'
  cases hx'
  by_cases c : d = j
  · subst c
    have h3 := hs he y hy.1 h1 h2
    refine Classical.byContradiction fun hn => h3 ((h.lv y hy.1).2 ⟨left_part AdjN.symm hr ?_, hn⟩)
    exact (h.cn x (List.mem_of_getElem? hx)).step hy (dir_adj hj he h1 h2)
  · exact h.dir x hx d (by omega) he y hy h1 h2
/-- a direction that leads to a place that is left -/
theorem Bfs.take (h : Bfs n W e p i l k j lf) {x y : Nat} (hx : l[k]? = some x) (hj : j < 8) (he : e = true ∨ j % 2 = 0) (hy : y < n) (h1 : ((y % W : Nat) : Int) = ((x % W : Nat) : Int) + dX j) (h2 : ((y / W : Nat) : Int) = ((x / W : Nat) : Int) + dY j) (h3 : lf y = 1) :
    Bfs n W e p i (l ++ [y]) k (j + 1) (upd lf y 0) := by
  obtain ⟨g1, g2⟩ := (h.lv y hy).1 h3
  have hk : k < l.length := (List.getElem?_eq_some_iff.1 hx).1
  have hcn : Cn (InkN n p) (AdjN W e) i y := (h.cn x (List.mem_of_getElem? hx)).step g1.1 (dir_adj hj he h1 h2)
  refine ⟨by simp [h.mem], ?_, fun z hz => ?_, fun z hz => ?_, fun z hz => ?_, fun t ht z hz w hw ha => ?_, fun z hz d hd he' w hw ha hb => ?_⟩
  · rw [List.nodup_append]
    exact ⟨h.nd, by simp, fun a ha b hb e => g2 (by rw [List.mem_singleton] at hb; rw [← hb, ← e]; exact ha)⟩
  · rcases List.mem_append.1 hz with hz | hz
    · exact h.cn z hz
    · rw [List.mem_singleton] at hz; subst hz; exact hcn
  · unfold upd
    by_cases c : (z : Int) = y
    · have c' : z = y := by omega
      subst c'
      rw [if_pos rfl]
      exact ⟨fun h => by omega, fun h => absurd (by simp) h.2⟩
    · rw [if_neg c, h.lv z hz]
      constructor
      · exact fun ⟨a, b⟩ => ⟨a, by simp only [List.mem_append, List.mem_singleton, not_or]; exact ⟨b, by omega⟩⟩
      · exact fun ⟨a, b⟩ => ⟨a, fun hb => b (by simp [hb])⟩
  · unfold upd
    split
    · exact .inl rfl
    · exact h.lz z hz
  · rw [List.getElem?_append_left (by omega)] at hz
    exact List.mem_append_left _ (h.done t ht z hz w hw ha)
  · rw [List.getElem?_append_left hk, hx] at hz
    cases hz
    by_cases c : d = j
    · subst c
      have e1 : w = y := divmod_eq (W := W) (by omega) (by omega)
      rw [e1]; simp
    · exact List.mem_append_left _ (h.dir x hx d (by omega) he' w hw ha hb)
theorem Bfs.next (h : Bfs n W e p i l k 8 lf) (hk : k < l.length) : Bfs n W e p i l (k + 1) 0 lf := by
  refine ⟨h.mem, h.nd, h.cn, h.lv, h.lz, fun t ht x hx y hy ha => ?_, fun x _ d hd => by omega⟩
  by_cases c : t = k
  · subst c
    obtain ⟨d, d1, d2, d3, d4⟩ := adj_dir ha
    exact h.dir x hx d d1 d2 y hy d3 d4
  · exact h.done t (by omega) x hx y hy ha
theorem Bfs.mem_iff (h : Bfs n W e p i l l.length 0 lf) {x : Nat} : x ∈ l ↔ Cn (InkN n p) (AdjN W e) i x :=
  ⟨fun hx => h.cn x hx, fun hc => hc.closed (S := (· ∈ l)) h.mem fun a b ha hb hab => by
    obtain ⟨t, ht, e⟩ := List.getElem_of_mem ha
    exact h.done t ht a (by rw [List.getElem?_eq_getElem ht, e]) b hb hab⟩
theorem Bfs.left (hr : Root (InkN n p) (AdjN W e) i) (h : Bfs n W e p i l l.length 0 lf) : LfI n W e p (i + 1) lf := fun x hx => ⟨by
  rw [left_take hr, h.lv x hx, h.mem_iff], h.lz x hx⟩
theorem Bfs.sorted (h : Bfs n W e p i l l.length 0 lf) {l' : List Nat} (hp : l'.Perm l) (hs : l'.Pairwise (· ≤ ·)) : l' = partN n (InkN n p) (AdjN W e) i := by
  have hnd : l'.Nodup := hp.nodup_iff.2 h.nd
  refine sorted_ext ?_ partN_sorted fun x => ?_
  · exact (List.pairwise_and_iff.2 ⟨hs, hnd⟩).imp fun ⟨a, b⟩ => by omega
  · rw [hp.mem_iff, h.mem_iff, mem_partN]
    exact ⟨fun hc => ⟨hc.right.1, hc⟩, fun hc => hc.2⟩
end
end Go.Proofs.YtoonkpjddfiopaaDoor

/- Walks: image.at anywhere; the eight neighbours (image.around); the least rectangle of some points (image.box). -/
namespace Go.Proofs.YtoonkpjddfiopaaDoor
open Go.RowKit Go.Shelf
set_option linter.unusedVariables false
attribute [local go_sem] Oper.semAt_some

set_option maxHeartbeats 2000000 in
/-- a pixel, or paper -/
theorem at_all (W H : Int) (A : Option Addr) (n c : Nat) (x y : Int) (p : Int → Int) (w : World) (hA : ArrB w w.heap.size A n p) (hW0 : 0 ≤ W) (hW : W ≤ 640) (hH0 : 0 ≤ H) (hH : H ≤ 640) (hn : (n : Int) = W * H) (hp : ∀ i : Int, 0 ≤ i → i < n → p i = 0 ∨ p i = 1) :
    Calls Tryd.prog 91 #[.agg #[.int .i64 W, .int .i64 H, .slice A n c], .int .i64 x, .int .i64 y] w fun e w' => e = .returned (.int .u8 (if inkB W H p x y then 1 else 0)) ∧ Below w.heap.size w w' := by
  by_cases a : x < 0
  · have hr : inkB W H p x y = false := Bool.eq_false_iff.2 fun e => by have := inkB_iff.1 e; omega
    rw [hr]
    go_enter Tryd.func91, Tryd.ntmps91
    go_wp2
    go_ret
    exact ⟨rfl, by (repeat (first | exact Below.refl _ _ | assumption | refine Below.drew ?_ | refine below_drewN ?_ _ | refine Below.alloc ?_ (by first | omega | (simp; done) | (simp; omega)) _ | refine Below.setCell ?_ (by first | omega | (simp; done) | (simp; omega)) _ | refine below_setRow ?_ (by first | omega | (simp; done) | (simp; omega)) _ ))⟩
  · by_cases b : W ≤ x
    · have hr : inkB W H p x y = false := Bool.eq_false_iff.2 fun e => by have := inkB_iff.1 e; omega
      rw [hr]
      go_enter Tryd.func91, Tryd.ntmps91
      go_wp2
      go_ret
      exact ⟨rfl, by (repeat (first | exact Below.refl _ _ | assumption | refine Below.drew ?_ | refine below_drewN ?_ _ | refine Below.alloc ?_ (by first | omega | (simp; done) | (simp; omega)) _ | refine Below.setCell ?_ (by first | omega | (simp; done) | (simp; omega)) _ | refine below_setRow ?_ (by first | omega | (simp; done) | (simp; omega)) _ ))⟩
    · by_cases c' : y < 0
      · have hr : inkB W H p x y = false := Bool.eq_false_iff.2 fun e => by have := inkB_iff.1 e; omega
        rw [hr]
        go_enter Tryd.func91, Tryd.ntmps91
        go_wp2
        go_ret
        exact ⟨rfl, by (repeat (first | exact Below.refl _ _ | assumption | refine Below.drew ?_ | refine below_drewN ?_ _ | refine Below.alloc ?_ (by first | omega | (simp; done) | (simp; omega)) _ | refine Below.setCell ?_ (by first | omega | (simp; done) | (simp; omega)) _ | refine below_setRow ?_ (by first | omega | (simp; done) | (simp; omega)) _ ))⟩
      · by_cases d : H ≤ y
        · have hr : inkB W H p x y = false := Bool.eq_false_iff.2 fun e => by have := inkB_iff.1 e; omega
          rw [hr]
          go_enter Tryd.func91, Tryd.ntmps91
          go_wp2
          go_ret
          exact ⟨rfl, by (repeat (first | exact Below.refl _ _ | assumption | refine Below.drew ?_ | refine below_drewN ?_ _ | refine Below.alloc ?_ (by first | omega | (simp; done) | (simp; omega)) _ | refine Below.setCell ?_ (by first | omega | (simp; done) | (simp; omega)) _ | refine below_setRow ?_ (by first | omega | (simp; done) | (simp; omega)) _ ))⟩
        · obtain ⟨i1, i2, i3⟩ := idx_lt (x := x) (y := y) (W := W) (H := H) (by omega) (by omega) (by omega) (by omega)
          rw [Int.mul_comm H W] at i2
          have i4 : y * W + x < n := by omega
          have j6 := (area_bd hW0 hW hH0 hH).2
          have v1 : IntKind.i64.wrap (y * W) = y * W := IntWalk.i64_in _ (by omega)
          have v2 : IntKind.i64.wrap (y * W + x) = y * W + x := IntWalk.i64_in _ (by omega)
          obtain ⟨b', off, rfl, hbB, hcell⟩ := ArrB.at_ (hA.to (w' := w.alloc (.cells #[.int .i64 W, .int .i64 H, .slice A n c] 24)) (by (repeat (first | exact Below.refl _ _ | assumption | refine Below.drew ?_ | refine below_drewN ?_ _ | refine Below.alloc ?_ (by first | omega | (simp; done) | (simp; omega)) _ | refine Below.setCell ?_ (by first | omega | (simp; done) | (simp; omega)) _ | refine below_setRow ?_ (by first | omega | (simp; done) | (simp; omega)) _ )))) i1 i4
          have hv : (if inkB W H p x y then (1 : Int) else 0) = p (y * W + x) := by
            rw [inkB_in (by omega) (by omega) (by omega) (by omega)]
            rcases hp _ i1 i4 with e | e <;> rw [e] <;> rfl
          rw [hv]
          generalize p (y * W + x) = v at *
          have y0 : 0 ≤ y := by omega
          have x0 : 0 ≤ x := by omega
          have x1 : x < W := by omega
          have y1 : y < H := by omega
          clear hA hv hp
          go_enter Tryd.func91, Tryd.ntmps91
          go_wp2
          go_ret
          exact ⟨rfl, by (repeat (first | exact Below.refl _ _ | assumption | refine Below.drew ?_ | refine below_drewN ?_ _ | refine Below.alloc ?_ (by first | omega | (simp; done) | (simp; omega)) _ | refine Below.setCell ?_ (by first | omega | (simp; done) | (simp; omega)) _ | refine below_setRow ?_ (by first | omega | (simp; done) | (simp; omega)) _ ))⟩
/-- the eight neighbours, as a value -/
def aroundV : Value := .agg #[.int .i64 0, .int .i64 (-1), .int .i64 1, .int .i64 (-1), .int .i64 1, .int .i64 0, .int .i64 1, .int .i64 1, .int .i64 0, .int .i64 1, .int .i64 (-1), .int .i64 1, .int .i64 (-1), .int .i64 0, .int .i64 (-1), .int .i64 (-1)]
set_option maxRecDepth 100000 in
set_option maxHeartbeats 2000000 in
theorem around_any (w : World) : Calls Tryd.prog 90 #[] w fun e w' => e = .returned aroundV ∧ Below w.heap.size w w' := by
  go_enter Tryd.func90, Tryd.ntmps90
  go_wp2_with fail
  have k := Blk.new w 119 #[Value.int .i64 0, .int .i64 (-1), .int .i64 1, .int .i64 (-1), .int .i64 1, .int .i64 0, .int .i64 1, .int .i64 1, .int .i64 0, .int .i64 1, .int .i64 (-1), .int .i64 1, .int .i64 (-1), .int .i64 0, .int .i64 (-1), .int .i64 (-1)]
  have hc := k.cell
  have b1 : Below w.heap.size w (w.alloc (.cells #[Value.int .i64 0, .int .i64 (-1), .int .i64 1, .int .i64 (-1), .int .i64 1, .int .i64 0, .int .i64 1, .int .i64 1, .int .i64 0, .int .i64 1, .int .i64 (-1), .int .i64 1, .int .i64 (-1), .int .i64 0, .int .i64 (-1), .int .i64 (-1)] 119)) := by (repeat (first | exact Below.refl _ _ | assumption | refine Below.drew ?_ | refine below_drewN ?_ _ | refine Below.alloc ?_ (by first | omega | (simp; done) | (simp; omega)) _ | refine Below.setCell ?_ (by first | omega | (simp; done) | (simp; omega)) _ | refine below_setRow ?_ (by first | omega | (simp; done) | (simp; omega)) _ ))
  refine bodyPost_ret (v := aroundV) (by simp [results, Tryd.results90, go_sem, aroundV, hc]) rfl ?_
  exact ⟨rfl, b1⟩
/-- the rectangle of corners -/
def boxV (b : Int × Int × Int × Int) : Value := .agg #[.int .i64 b.1, .int .i64 b.2.1, .int .i64 b.2.2.1, .int .i64 b.2.2.2]
end Go.Proofs.YtoonkpjddfiopaaDoor

/- Walk: the least rectangle of some points (image.box). -/
namespace Go.Proofs.YtoonkpjddfiopaaDoor
open Go.RowKit Go.Shelf
set_option linter.unusedVariables false
attribute [local go_sem] Oper.semAt_some

section
variable {w : World} {g t : Nat} {a b a' b' : Value}
theorem Blk.cells2 (h : Blk w g t #[a, b]) : w.cell? ⟨g, 0, none⟩ = some a ∧ w.cell? ⟨g, 1, none⟩ = some b := ⟨by rw [h.cell]; rfl, by rw [h.cell]; rfl⟩
theorem Blk.frozen2 (h : Blk w g t #[a, b]) : w.frozen? ⟨g, 0, none⟩ = false ∧ w.frozen? ⟨g, 1, none⟩ = false := ⟨h.frozen _, h.frozen _⟩
theorem Blk.fill2 (h : Blk w g t #[a, b]) : Blk ((w.setCell ⟨g, 0, none⟩ a').setCell ⟨g, 1, none⟩ b') g t #[a', b'] := (h.set_ 0 a').set_ 1 b'
theorem Blk.conv2 {x y x' y' : Int} (h : Blk w g t #[.int .i64 x, .int .i64 y]) (e1 : x = x') (e2 : y = y') : Blk w g t #[.int .i64 x', .int .i64 y'] := by subst e1 e2; exact h
theorem Blk.far2 {k : Nat} {cs : Array Value} (h : Blk w k t cs) (hk : k ≠ g) : Blk ((w.setCell ⟨g, 0, none⟩ a').setCell ⟨g, 1, none⟩ b') k t cs := (h.far (p := ⟨g, 0, none⟩) hk _).far (p := ⟨g, 1, none⟩) hk _
end
set_option maxRecDepth 100000 in
set_option maxHeartbeats 4000000 in
theorem box_any (W : Nat) (A : Option Addr) (l : List Nat) (c : Nat) (w : World) (hA : EArr w w.heap.size 2 (encP W) A l) (hs : ∀ i ∈ l, i < 1000000) (hl : l.length ≤ 1000000) :
    Calls Tryd.prog 95 #[.slice A l.length c] w fun e w' => ∃ b, e = .returned (boxV b) ∧ IsBox W l b ∧ Below w.heap.size w w' := by
  cases l with
  | nil =>
    have k := Blk.new w 44 #[Value.int .i64 0, .int .i64 0, .int .i64 0, .int .i64 0]
    have hc := k.cell
    show Calls Tryd.prog 95 #[.slice A 0 c] w _
    clear hA hs hl
    go_enter Tryd.func95, Tryd.ntmps95
    go_wp2_with fail
    refine bodyPost_ret (v := boxV (0, 0, 0, 0)) (by simp [results, Tryd.results95, go_sem, boxV, hc]) rfl ?_
    exact ⟨_, rfl, .inl ⟨rfl, rfl⟩, by (repeat (first | exact Below.refl _ _ | assumption | refine Below.drew ?_ | refine below_drewN ?_ _ | refine Below.alloc ?_ (by first | omega | (simp; done) | (simp; omega)) _ | refine Below.setCell ?_ (by first | omega | (simp; done) | (simp; omega)) _ | refine below_setRow ?_ (by first | omega | (simp; done) | (simp; omega)) _ ))⟩
  | cons i0 l =>
    obtain ⟨g, rfl, hg, hcell⟩ := hA (by simp)
    have c0 := hcell 0 i0 (by simp) 0 (by omega)
    have c1 := hcell 0 i0 (by simp) 1 (by omega)
    rw [show 0 * 2 + 0 = 0 from rfl] at c0
    rw [show 0 * 2 + 1 = 1 from rfl] at c1
    change _ = some (Value.int .i64 ((i0 % W : Nat) : Int)) at c0
    change _ = some (Value.int .i64 ((i0 / W : Nat) : Int)) at c1
    obtain ⟨L, hL⟩ : ∃ L, (i0 :: l).length = L := ⟨_, rfl⟩
    have hL0 : L = l.length + 1 := by rw [← hL]; rfl
    have hL1 : (1 : Int) ≤ (L : Int) := by omega
    have hL2 : (0 : Int) < (L : Int) := by omega
    have hLn : ¬ (L : Int) = 0 := by omega
    have HC := Lib.hid hcell
    have HL := Lib.hid hL
    obtain ⟨x0, hx0⟩ : ∃ x0 : Int, ((i0 % W : Nat) : Int) = x0 := ⟨_, rfl⟩
    obtain ⟨y0, hy0⟩ : ∃ y0 : Int, ((i0 / W : Nat) : Int) = y0 := ⟨_, rfl⟩
    rw [hx0] at c0
    rw [hy0] at c1
    have HX := Lib.hid hx0; have HY := Lib.hid hy0
    rw [hL] at hl
    rw [hL]
    have HS := Lib.hid hs
    have hL3 : 0 < L := by omega
    clear hA hcell hs hL hL0 hx0 hy0
    go_enter Tryd.func95, Tryd.ntmps95
    go_upto_region 3 with fail
    have kr := Blk.new w 44 #[Value.int .i64 0, .int .i64 0, .int .i64 0, .int .i64 0]
    have b1 : Below w.heap.size w (w.alloc (.cells #[.int .i64 0, .int .i64 0, .int .i64 0, .int .i64 0] 44)) := by (repeat (first | exact Below.refl _ _ | assumption | refine Below.drew ?_ | refine below_drewN ?_ _ | refine Below.alloc ?_ (by first | omega | (simp; done) | (simp; omega)) _ | refine Below.setCell ?_ (by first | omega | (simp; done) | (simp; omega)) _ | refine below_setRow ?_ (by first | omega | (simp; done) | (simp; omega)) _ ))
    have d0 : (w.alloc (.cells #[.int .i64 0, .int .i64 0, .int .i64 0, .int .i64 0] 44)).cell? ⟨g, 0, none⟩ = _ := (b1.cell (p := ⟨g, 0, none⟩) hg).trans c0
    have d1 : (w.alloc (.cells #[.int .i64 0, .int .i64 0, .int .i64 0, .int .i64 0] 44)).cell? ⟨g, 1, none⟩ = _ := (b1.cell (p := ⟨g, 1, none⟩) hg).trans c1
    have zr := kr.lt
    generalize w.alloc (.cells #[.int .i64 0, .int .i64 0, .int .i64 0, .int .i64 0] 44) = w1 at *
    go_cut [3, 4] (fun t3 t4 wx => ∃ ga gb, t3 = .pointer (some ⟨ga, 0, none⟩) ∧ t4 = .pointer (some ⟨gb, 0, none⟩) ∧ ga ≠ gb ∧ w1.heap.size ≤ ga ∧ w1.heap.size ≤ gb ∧ Blk wx ga 51 #[.int .i64 x0, .int .i64 y0] ∧ Blk wx gb 51 #[.int .i64 x0, .int .i64 y0] ∧ Below w1.heap.size w1 wx)
    case first =>
      go_region_held3 (fun w' => w'.cell? ⟨g, 0, none⟩ = some (.int .i64 x0) ∧ w'.cell? ⟨g, 1, none⟩ = some (.int .i64 y0)) ((first | (simp [go_sem, *]; done) | (go_keep; done))) (fail)
      all_goals
        go_wp2_with fail
        go_meet
      · exact ⟨_, _, rfl, rfl, by omega, by omega, by omega, ((Blk.new _ _ _).alloc _).drew, (Blk.new' (by simp) _ _).drew, by (repeat (first | exact Below.refl _ _ | assumption | refine Below.drew ?_ | refine below_drewN ?_ _ | refine Below.alloc ?_ (by first | omega | (simp; done) | (simp; omega)) _ | refine Below.setCell ?_ (by first | omega | (simp; done) | (simp; omega)) _ | refine below_setRow ?_ (by first | omega | (simp; done) | (simp; omega)) _ ))⟩
      · exact ⟨_, _, rfl, rfl, by omega, by omega, by omega, (Blk.new' (by simp) _ _).drew, ((Blk.new _ _ _).alloc _).drew, by (repeat (first | exact Below.refl _ _ | assumption | refine Below.drew ?_ | refine below_drewN ?_ _ | refine Below.alloc ?_ (by first | omega | (simp; done) | (simp; omega)) _ | refine Below.setCell ?_ (by first | omega | (simp; done) | (simp; omega)) _ | refine below_setRow ?_ (by first | omega | (simp; done) | (simp; omega)) _ ))⟩
    case rest =>
    obtain ⟨ga, gb, rfl, rfl, hne, hga, hgb, ka, kb, b2⟩ := hcut
    have kr2 := kr.below' b2
    generalize wc = w2 at *
    clear d0 d1 c0 c1
    have b12 := b1.trans (b2.mono b1.size)
    have zg : g < w1.heap.size := by omega
    have za := ka.lt
    have zb := kb.lt
    have CN := Lib.hid (Corn.one W i0)
    rw [HX.out, HY.out] at CN
    go_wp2_with fail
    go_loopw [19] (fun s wr => ∃ (k : Nat) (ax ay bx b_y : Int), k ≤ L ∧ s = .int .i64 k ∧ Below w1.heap.size w1 wr ∧ Blk wr ga 51 #[.int .i64 ax, .int .i64 ay] ∧ Blk wr gb 51 #[.int .i64 bx, .int .i64 b_y] ∧ Hid (Corn W (i0 :: (i0 :: l).take k) ax ay bx b_y)) (fun s _ => L - (intOf s).toNat)
    case atStart => exact ⟨0, _, _, _, _, by omega, rfl, b2, ka, kb, CN⟩
    case round =>
      obtain ⟨k, ax, ay, bx, b_y, hk, rfl, b3, ma, mb, HCo⟩ := hrel
      clear ka kb
      by_cases kl : (k : Int) < L
      · obtain ⟨i, hi⟩ : ∃ i, (i0 :: l)[k]? = some i := ⟨(i0 :: l)[k]'(by rw [HL.out]; omega), List.getElem?_eq_getElem _⟩
        have HI := Lib.hid hi
        have bb : Below w.heap.size w wr := b1.trans (b3.mono b1.size)
        have e0 := (bb.cell (p := ⟨g, k * 2 + 0, none⟩) hg).trans (HC.out k i hi 0 (by omega))
        have e1 := (bb.cell (p := ⟨g, k * 2 + 1, none⟩) hg).trans (HC.out k i hi 1 (by omega))
        change _ = some (Value.int .i64 ((i % W : Nat) : Int)) at e0
        change _ = some (Value.int .i64 ((i / W : Nat) : Int)) at e1
        rw [Nat.add_zero] at e0
        obtain ⟨u, hu⟩ : ∃ u : Int, ((i % W : Nat) : Int) = u := ⟨_, rfl⟩
        obtain ⟨v, hv⟩ : ∃ v : Int, ((i / W : Nat) : Int) = v := ⟨_, rfl⟩
        rw [hu] at e0
        rw [hv] at e1
        have HU := Lib.hid hu; have HV := Lib.hid hv
        clear hi hu hv
        obtain ⟨gq, hgq⟩ : ∃ q, wr.heap.size = q := ⟨_, rfl⟩
        go_upto_region 7 with fail
        have kq := Blk.new wr 51 #[.int .i64 u, .int .i64 v]
        have bq : Below wr.heap.size wr (wr.alloc (.cells #[.int .i64 u, .int .i64 v] 51)) := (Below.refl _ _).alloc (Nat.le_refl _) _
        have na := ma.below' bq
        have nb := mb.below' bq
        have b4 : Below w1.heap.size w1 _ := b3.trans (bq.mono b3.size)
        have zq : wr.heap.size ≠ ga := fun e => by have := ma.lt; omega
        have zq2 : wr.heap.size ≠ gb := fun e => by have := mb.lt; omega
        generalize wr.alloc (.cells #[.int .i64 u, .int .i64 v] 51) = w3 at *
        rw [hgq] at kq zq zq2
        clear e0 e1 bb ma mb b3 bq
        go_cut [19] (fun s wx => s = .int .i64 k ∧ Blk wx ga 51 #[.int .i64 (min ax u), .int .i64 (min ay v)] ∧ Blk wx gb 51 #[.int .i64 bx, .int .i64 b_y] ∧ Blk wx gq 51 #[.int .i64 u, .int .i64 v] ∧ Below w1.heap.size w1 wx)
        case first =>
          obtain ⟨f1, f2⟩ := na.cells2
          obtain ⟨f3, f4⟩ := kq.cells2
          obtain ⟨f5, f6⟩ := na.frozen2
          by_cases t1 : u < ax
          all_goals by_cases t2 : v < ay
          all_goals
            go_wp2_with fail
            go_meet
            refine ⟨rfl, ?_, nb.far2 (Ne.symm hne), kq.far2 zq, (b4.setCell (by show w1.heap.size ≤ ga; omega) _).setCell (by show w1.heap.size ≤ ga; omega) _⟩
            exact (na.fill2).conv2 (by omega) (by omega)
        case rest =>
        obtain ⟨rfl, pa, pb, pq, b5⟩ := hcut
        clear na nb kq b4
        generalize wc = w4 at *
        have HT : Hid ((i0 :: l).take (k + 1) = (i0 :: l).take k ++ [i]) := Lib.hid (by rw [List.take_add_one, HI.out]; rfl)
        obtain ⟨f1, f2⟩ := pb.cells2
        obtain ⟨f3, f4⟩ := pq.cells2
        obtain ⟨f5, f6⟩ := pb.frozen2
        by_cases t1 : bx < u
        all_goals by_cases t2 : b_y < v
        all_goals
          go_wp2_with fail
          go_roundw
          case rel =>
            refine ⟨k + 1, _, _, max bx u, max b_y v, by omega, by go_num, (b5.setCell (by show w1.heap.size ≤ gb; omega) _).setCell (by show w1.heap.size ≤ gb; omega) _, pa.far2 hne, (pb.fill2).conv2 (by omega) (by omega), Lib.hid ?_⟩
            rw [HT.out, ← List.cons_append, ← HU.out, ← HV.out]
            exact HCo.out.snoc i
          case measure => simp [intOf]; omega
      · have ek : k = L := by omega
        have CB : Corn W (i0 :: i0 :: l) ax ay bx b_y := by
          have := HCo.out
          rw [ek, ← HL.out, List.take_length] at this
          exact this
        have BX := CB.box
        have hbd : ax ≤ bx ∧ ay ≤ b_y ∧ 0 ≤ ax ∧ 0 ≤ ay ∧ bx ≤ 1000000 ∧ b_y ≤ 1000000 := by
          obtain ⟨j1, m1, e1⟩ := CB.ax
          obtain ⟨j2, m2, e2⟩ := CB.bx
          obtain ⟨j3, m3, e3⟩ := CB.ay
          obtain ⟨j4, m4, e4⟩ := CB.by'
          have n1 := CB.in_ j1 m1
          have hj : ∀ j ∈ i0 :: i0 :: l, j < 1000000 := fun j hj => HS.out j (by
            rcases List.mem_cons.1 hj with rfl | h
            · exact List.mem_cons_self ..
            · exact h)
          have s2 : j2 % W ≤ j2 := Nat.mod_le _ _
          have s4 : j4 / W ≤ j4 := Nat.div_le_self _ _
          have h2 := hj j2 m2; have h4 := hj j4 m4
          have p1 : (0 : Int) ≤ ((j1 % W : Nat) : Int) := Int.natCast_nonneg _
          have p3 : (0 : Int) ≤ ((j3 / W : Nat) : Int) := Int.natCast_nonneg _
          have s2' : ((j2 % W : Nat) : Int) ≤ 1000000 := by omega
          have s4' : ((j4 / W : Nat) : Int) ≤ 1000000 := by omega
          omega
        obtain ⟨o1, o2, o3, o4, o5, o6⟩ := hbd
        have kr3 := kr.below' b3
        obtain ⟨f1, f2⟩ := ma.cells2
        obtain ⟨f3, f4⟩ := mb.cells2
        have v1 : IntKind.i64.wrap (bx - ax) = bx - ax := IntWalk.i64_in _ (by omega)
        have v2 : IntKind.i64.wrap (bx - ax + 1) = bx - ax + 1 := IntWalk.i64_in _ (by omega)
        have v3 : IntKind.i64.wrap (b_y - ay) = b_y - ay := IntWalk.i64_in _ (by omega)
        have v4 : IntKind.i64.wrap (b_y - ay + 1) = b_y - ay + 1 := IntWalk.i64_in _ (by omega)
        have fz := fun i => kr3.frozen i
        have f5 := fz 0; have f6 := fz 1; have f7 := fz 2; have f8 := fz 3
        have hcr := kr3.cell
        have g5 := hcr 0; have g6 := hcr 1; have g7 := hcr 2; have g8 := hcr 3
        change _ = some _ at g5 g6 g7 g8
        clear fz hcr
        go_wp2_with fail
        have k9 := (((kr3.set_ 0 (.int .i64 ax)).set_ 1 (.int .i64 ay)).set_ 2 (.int .i64 (bx - ax + 1))).set_ 3 (.int .i64 (b_y - ay + 1))
        have e0 := k9.cell 0; have e1 := k9.cell 1; have e2 := k9.cell 2; have e3 := k9.cell 3
        change _ = some (Value.int .i64 (ax)) at e0
        change _ = some (Value.int .i64 (ay)) at e1
        change _ = some (Value.int .i64 ((bx - ax + 1))) at e2
        change _ = some (Value.int .i64 (b_y - ay + 1)) at e3
        refine bodyPost_ret (v := boxV (ax, ay, bx - ax + 1, b_y - ay + 1)) (by simp [results, Tryd.results95, go_sem, boxV, e0, e1, e2, e3]) rfl ?_
        have b9 : Below w.heap.size w wr := b1.trans (b3.mono b1.size)
        refine ⟨_, _, _, _, rfl, BX.perm fun i => by simp, ?_⟩
        exact (((b9.setCell (Nat.le_refl _) _).setCell (Nat.le_refl _) _).setCell (Nat.le_refl _) _).setCell (Nat.le_refl _) _
end Go.Proofs.YtoonkpjddfiopaaDoor

/- The library's sort at the lines: the contract laid at this program, and what it says of a row of slices. -/
namespace Go.Proofs.YtoonkpjddfiopaaDoor
open Go.RowKit Go.Shelf Go.Sort
set_option linter.unusedVariables false
attribute [local go_sem] Oper.semAt_some

theorem heap_sortWorld {α : Type} [Inhabited α] (enc : α → Value) (w : World) (blk off m : Nat) (d : Array α) (os : Array Obj) {k : Nat} (hk : k < w.heap.size) (hn : k ≠ blk) : (Go.Proofs.sortWorld enc w blk off m d os).heap[k]? = w.heap[k]? := by
  unfold Go.Proofs.sortWorld
  rw [heap_grow_old _ _ (by simpa [putRow, mapBlock, ahead] using hk)]
  show (w.heap.modify blk _)[k]? = _
  rw [Array.getElem?_modify, if_neg (fun e => hn e.symm)]
theorem heap_sortWorld_row {α : Type} [Inhabited α] (enc : α → Value) (w : World) (blk off m : Nat) (d : Array α) (os : Array Obj) {cs : Array Value} {e : TypeId} (h : w.heap[blk]? = some (.cells cs e (0, 0))) : (Go.Proofs.sortWorld enc w blk off m d os).heap[blk]? = some (.cells (putCells enc off d cs) e (0, 0)) := by
  have hk := (Array.getElem?_eq_some_iff.1 h).1
  unfold Go.Proofs.sortWorld
  rw [heap_grow_old _ _ (by simpa [putRow, mapBlock, ahead] using hk)]
  show (w.heap.modify blk _)[blk]? = _
  rw [Array.getElem?_modify, if_pos rfl, h]; rfl
theorem size_sortWorld {α : Type} [Inhabited α] (enc : α → Value) (w : World) (blk off m : Nat) (d : Array α) (os : Array Obj) : w.heap.size ≤ (Go.Proofs.sortWorld enc w blk off m d os).heap.size := by
  unfold Go.Proofs.sortWorld
  rw [size_grow]
  simp [putRow, mapBlock]
theorem putCells_take {α : Type} [Inhabited α] (enc : α → Value) (d : Array α) (cs : Array Value) (h : d.size ≤ cs.size) : (putCells enc 0 d cs).toList.take d.size = d.toList.map enc := by
  apply List.ext_getElem?
  intro i
  rw [List.getElem?_take]
  by_cases hi : i < d.size
  · rw [if_pos hi, List.getElem?_map]
    show (putCells enc 0 d cs).toList[i]? = _
    rw [Array.getElem?_toList]
    unfold putCells
    rw [Array.getElem?_mapIdx, Array.getElem?_eq_getElem (by omega), Option.map_some, if_pos (by omega), Nat.sub_zero, Array.getElem?_toList, Array.getElem?_eq_getElem hi, getElem!_pos d i hi]
    rfl
  · rw [if_neg hi, List.getElem?_map, Array.getElem?_toList, Array.getElem?_eq_none (by omega)]; rfl

end Go.Proofs.YtoonkpjddfiopaaDoor

/- Plain: runs of columns; neighbours that are alike struck from a list. No program in sight. -/
namespace Go.Proofs.YtoonkpjddfiopaaDoor
open Go.RowKit
set_option linter.unusedVariables false
abbrev Rn := Int × Int × Int
def encR (r : Rn) : List Value := [.int .i64 r.1, .int .i64 r.2.1, .int .i64 r.2.2]
/-- neighbours that are alike are struck -/
def dd : List Rn → List Rn
  | [] => []
  | [a] => [a]
  | a :: b :: t => if a = b then dd (b :: t) else a :: dd (b :: t)
theorem dd_cons_ne (a : Rn) : ∀ t : List Rn, dd (a :: t) ≠ []
  | [] => by simp [dd]
  | b :: t => by
    unfold dd
    split
    · exact dd_cons_ne b t
    · simp
theorem dd_snoc : ∀ (l : List Rn) (a b : Rn), dd (l ++ [a] ++ [b]) = if a = b then dd (l ++ [a]) else dd (l ++ [a]) ++ [b]
  | [], a, b => by
    by_cases h : a = b
    · subst h; simp [dd]
    · simp [dd, h]
  | [c], a, b => by
    have ih := dd_snoc [] a b
    simp only [List.nil_append, List.cons_append] at ih ⊢
    show dd (c :: a :: [b]) = if a = b then dd (c :: [a]) else dd (c :: [a]) ++ [b]
    unfold dd
    by_cases h : c = a
    · rw [if_pos h, if_pos h]; exact ih
    · rw [if_neg h, if_neg h, ih]
      split <;> simp
  | c :: d :: l, a, b => by
    have ih := dd_snoc (d :: l) a b
    simp only [List.cons_append] at ih ⊢
    have e1 : ∀ t, dd (c :: d :: t) = if c = d then dd (d :: t) else c :: dd (d :: t) := fun t => by rw [dd]
    rw [e1, e1, ih]
    by_cases h : c = d
    · rw [if_pos h, if_pos h]
    · rw [if_neg h, if_neg h]
      split <;> simp
theorem mem_dd : ∀ (l : List Rn) (r : Rn), r ∈ dd l ↔ r ∈ l
  | [], r => by simp [dd]
  | [a], r => by simp [dd]
  | a :: b :: t, r => by
    rw [dd]
    by_cases h : a = b
    · rw [if_pos h, mem_dd (b :: t) r]
      subst h; simp
    · rw [if_neg h, List.mem_cons, mem_dd (b :: t) r, List.mem_cons (a := r) (b := a)]
theorem dd_sub : ∀ l : List Rn, (dd l).Sublist l
  | [] => by simp [dd]
  | [a] => by simp [dd]
  | a :: b :: t => by
    rw [dd]
    split
    · exact (dd_sub (b :: t)).cons _
    · exact (dd_sub (b :: t)).cons_cons _
theorem dd_len (l : List Rn) : (dd l).length ≤ l.length := (dd_sub l).length_le
/-- before, by column and first row -/
def ltR (a b : Rn) : Prop := a.1 < b.1 ∨ (a.1 = b.1 ∧ a.2.1 < b.2.1)
def leR (a b : Rn) : Prop := a.1 < b.1 ∨ (a.1 = b.1 ∧ a.2.1 ≤ b.2.1)
theorem leR_trans {a b c : Rn} (h : leR a b) (h' : leR b c) : leR a c := by unfold leR at *; omega
/-- a list in order, of runs that their column and first row tell apart, has each once behind the striking -/
theorem dd_sorted : ∀ (l : List Rn), l.Pairwise leR → (∀ a ∈ l, ∀ b ∈ l, a.1 = b.1 → a.2.1 = b.2.1 → a = b) → (dd l).Pairwise ltR
  | [], _, _ => by simp [dd]
  | [a], _, _ => by simp [dd]
  | a :: b :: t, h, hk => by
    rw [dd]
    have h2 := (List.pairwise_cons.1 h).2
    have hk2 : ∀ x ∈ b :: t, ∀ y ∈ b :: t, x.1 = y.1 → x.2.1 = y.2.1 → x = y := fun x hx y hy => hk x (List.mem_cons_of_mem _ hx) y (List.mem_cons_of_mem _ hy)
    by_cases e : a = b
    · rw [if_pos e]; exact dd_sorted (b :: t) h2 hk2
    · rw [if_neg e, List.pairwise_cons]
      refine ⟨fun r hr => ?_, dd_sorted (b :: t) h2 hk2⟩
      have hr2 := (mem_dd _ r).1 hr
      have hab := (List.pairwise_cons.1 h).1 b (by simp)
      have hne : ltR a b := by
        unfold leR at hab
        unfold ltR
        by_cases c : a.1 = b.1 ∧ a.2.1 = b.2.1
        · exact absurd (hk a (by simp) b (by simp) c.1 c.2) e
        · omega
      rcases List.mem_cons.1 hr2 with rfl | hr3
      · exact hne
      · have := (List.pairwise_cons.1 h2).1 r hr3
        unfold leR at this
        unfold ltR at *
        omega
/-- strictly sorted lists with the same members are one -/
theorem ltR_uniq : ∀ {l l' : List Rn}, l.Pairwise ltR → l'.Pairwise ltR → (∀ r, r ∈ l ↔ r ∈ l') → l = l'
  | [], [], _, _, _ => rfl
  | [], b :: t, _, _, h => by have := (h b).2 (by simp); simp at this
  | a :: t, [], _, _, h => by have := (h a).1 (by simp); simp at this
  | a :: s, b :: t, h1, h2, h => by
    have irr : ∀ x : Rn, ¬ ltR x x := fun x hx => by unfold ltR at hx; omega
    have asy : ∀ x y : Rn, ltR x y → ¬ ltR y x := fun x y hx hy => by unfold ltR at *; omega
    have e : a = b := by
      rcases List.mem_cons.1 ((h a).1 (by simp)) with e | e
      · exact e
      · rcases List.mem_cons.1 ((h b).2 (by simp)) with e2 | e2
        · exact e2.symm
        · exact absurd ((List.pairwise_cons.1 h1).1 b e2) (asy _ _ ((List.pairwise_cons.1 h2).1 a e))
    subst e
    congr 1
    refine ltR_uniq (List.pairwise_cons.1 h1).2 (List.pairwise_cons.1 h2).2 fun r => ?_
    constructor
    · intro hr
      rcases List.mem_cons.1 ((h r).1 (List.mem_cons_of_mem _ hr)) with e | e
      · subst e; exact absurd ((List.pairwise_cons.1 h1).1 r hr) (irr r)
      · exact e
    · intro hr
      rcases List.mem_cons.1 ((h r).2 (List.mem_cons_of_mem _ hr)) with e | e
      · subst e; exact absurd ((List.pairwise_cons.1 h2).1 r hr) (irr r)
      · exact e
/-! ### the run of a column that holds a row -/
/-- its first row -/
def topN (p : Int → Int) (W x : Int) : Nat → Nat
  | 0 => 0
  | y + 1 => if p ((y : Int) * W + x) = 1 then topN p W x y else y + 1
/-- its last row: k rows lie below -/
def botN (p : Int → Int) (W x : Int) : Nat → Nat → Nat
  | 0, y => y
  | k + 1, y => if p (((y : Int) + 1) * W + x) = 1 then botN p W x k (y + 1) else y
theorem topN_le (p : Int → Int) (W x : Int) : ∀ y, topN p W x y ≤ y
  | 0 => Nat.le_refl _
  | y + 1 => by
    unfold topN; split
    · have := topN_le p W x y; omega
    · exact Nat.le_refl _
theorem botN_bd (p : Int → Int) (W x : Int) : ∀ k y, y ≤ botN p W x k y ∧ botN p W x k y ≤ y + k
  | 0, y => by simp [botN]
  | k + 1, y => by
    unfold botN; split
    · have := botN_bd p W x k (y + 1); omega
    · omega
/-- all rows between are ink -/
theorem topN_ink (p : Int → Int) (W x : Int) : ∀ y j, topN p W x y ≤ j → j < y → p ((j : Int) * W + x) = 1
  | 0, j, _, h => by omega
  | y + 1, j, h1, h2 => by
    unfold topN at h1
    by_cases c : p ((y : Int) * W + x) = 1
    · rw [if_pos c] at h1
      by_cases e : j = y
      · subst e; exact c
      · exact topN_ink p W x y j h1 (by omega)
    · rw [if_neg c] at h1; omega
/-- above it is no ink -/
theorem topN_up (p : Int → Int) (W x : Int) : ∀ y j, j + 1 = topN p W x y → p ((j : Int) * W + x) ≠ 1
  | 0, j, h => by simp [topN] at h
  | y + 1, j, h => by
    unfold topN at h
    by_cases c : p ((y : Int) * W + x) = 1
    · rw [if_pos c] at h; exact topN_up p W x y j h
    · rw [if_neg c] at h
      obtain rfl : j = y := by omega
      exact c
theorem botN_ink (p : Int → Int) (W x : Int) : ∀ k y j, y < j → j ≤ botN p W x k y → p ((j : Int) * W + x) = 1
  | 0, y, j, h1, h2 => by simp [botN] at h2; omega
  | k + 1, y, j, h1, h2 => by
    unfold botN at h2
    by_cases c : p (((y : Int) + 1) * W + x) = 1
    · rw [if_pos c] at h2
      by_cases e : j = y + 1
      · subst e; simpa using c
      · exact botN_ink p W x k (y + 1) j (by omega) h2
    · rw [if_neg c] at h2; omega
theorem botN_down (p : Int → Int) (W x : Int) : ∀ k y, botN p W x k y < y + k → p (((botN p W x k y : Nat) + 1 : Int) * W + x) ≠ 1
  | 0, y, h => by simp [botN] at h
  | k + 1, y, h => by
    unfold botN at h ⊢
    by_cases c : p (((y : Int) + 1) * W + x) = 1
    · rw [if_pos c] at h ⊢; exact botN_down p W x k (y + 1) (by omega)
    · rw [if_neg c]; exact c
end Go.Proofs.YtoonkpjddfiopaaDoor

/- Walks: copies of bytes and of images; two grey images compared; the reference's checks. -/
namespace Go.Proofs.YtoonkpjddfiopaaDoor
open Go.RowKit
set_option linter.unusedVariables false

/-- a slice over fresh memory, or none -/
def OutSl (w w' : World) (n : Nat) (q : Int → Int) (v : Value) : Prop := ∃ A c, v = .slice A n c ∧ n ≤ c ∧ (A = none → c = 0) ∧ (∀ a, A = some a → w.heap.size ≤ a.block) ∧ ArrB w' w'.heap.size A n q
theorem own_out {w w' : World} {n : Nat} {e : TypeId} {v : Value} {q : Int → Int} {xs : List Value} (h : w'.ownsRow w.heap.size e 1 v n xs) (hx : xs = (List.range n).map (fun (j : Nat) => Value.int .u8 (q j))) : OutSl w w' n q v := by
  have hn : ∀ A c, v = .slice A n c → A = none → c = 0 := by
    rintro A c rfl rfl
    rcases h.2 with ⟨h, _⟩ | ⟨g, cap, cur, h, _⟩
    · simp at h; exact h.2
    · simp at h
  obtain ⟨A, c, rfl, hc, ha⟩ := own_arr h
  refine ⟨A, c, rfl, hc, hn A c rfl, fun a e => (own_ge h (k := a.block) (by subst e; simp [Value.ownBlock])).1, Arr.congr ha fun i h0 hi => ?_⟩
  subst hx
  simp only [List.getD_eq_getElem?_getD, List.getElem?_map]
  rw [List.getElem?_eq_getElem (by simp; omega)]
  simp [Int.toNat_of_nonneg h0]

set_option maxRecDepth 100000 in
set_option maxHeartbeats 400000 in
theorem copyBytes_any (A : Option Addr) (n c : Nat) (p : Int → Int) (w : World) (hA : ArrB w w.heap.size A n p) (hc : A = none → c = 0) (hn : n ≤ 140737488355328) :
    Calls Tryd.prog 77 #[.slice A n c] w (New w fun v w' => OutSl w w' n p v) := by
  obtain ⟨i0, hi0, hz0, hz1, hz2⟩ := info_parts infoU8
  have hnil := World.ownsRow_nil w w.heap.size 5 1
  cases A with
  | none =>
    have hn0 : n = 0 := by
      rcases Nat.eq_zero_or_pos n with h | h
      · exact h
      · obtain ⟨b, off, e, _⟩ := hA h; cases e
    subst hn0
    obtain rfl := hc rfl
    go_enter Tryd.func77, Tryd.ntmps77
    go_wp2_with (at_builtin; refine wpList_append_own_none rfl (.tmp 4) (.tmp 5) 22 rfl w.heap.size 5 i0 1 Tryd.underlying22 hi0 _ 0 [] rfl hnil rfl ?_)
    go_ret
    exact ⟨_, rfl, own_out hnil (by simp), Below.refl _ _⟩
  | some ad =>
    go_enter Tryd.func77, Tryd.ntmps77
    go_wp2_with (at_builtin; refine wpList_append_own _ rfl (.tmp 4) (.tmp 5) 22 rfl w.heap.size 5 i0 (.int .u8 0) 1 1 Tryd.underlying22 hi0 hz0 hz1 hz2 rfl (by decide) _ 0 [] rfl hnil ad n c ((List.range n).map (fun (j : Nat) => Value.int .u8 (p j))) rfl (by simp) ?c1 ?c2 ?c3 ?c4 (Nat.le_refl _) ?_)
    case c1 =>
      intro j u hj
      have hjn : j < n := by
        rcases Nat.lt_or_ge j n with h | h
        · exact h
        · rw [List.getElem?_eq_none (by simpa using h)] at hj; cases hj
      obtain ⟨b, off, e, _, hcell⟩ := hA (by omega)
      injection e with e; subst e
      have := hcell j (by omega) (by omega)
      simp [hjn] at hj
      subst hj
      rw [Int.toNat_natCast] at this
      unfold Addr.add
      split
      · rename_i e; subst e; exact this
      · exact this
    case c2 => intro u hu; simp at hu; obtain ⟨j, _, rfl⟩ := hu; rfl
    case c3 => unfold maxLen; omega
    case c4 => omega
    intro v' w1 hown' hg _
    go_wp2
    go_ret
    refine ⟨_, rfl, ?_, (Below.refl _ _).grown hg (Nat.le_refl _) (fun k hk => by simp [Value.ownBlock] at hk)⟩
    try rw [Nat.zero_add, List.nil_append] at hown'
    exact own_out hown' rfl

theorem ArrB.far {w : World} {B n : Nat} {A : Option Addr} {q : Int → Int} (h : ArrB w B A n q) {p : Addr} (hp : ∀ a, A = some a → a.block ≠ p.block) (u : Value) : ArrB (w.setCell p u) B A n q := fun hn => by
  obtain ⟨b, off, e, hb, hc⟩ := h hn
  exact ⟨b, off, e, hb, fun i h0 hi => (World.cell?_of_block (heap_setCell_other w p b u (hp _ e))).trans (hc i h0 hi)⟩
theorem ArrB.drew {w : World} {B n : Nat} {A : Option Addr} {q : Int → Int} (h : ArrB w B A n q) : ArrB w.drew B A n q := h
/-- an image over a fresh slice, or none -/
def OutCopy (w w' : World) (W H : Int) (n : Nat) (q : Int → Int) (v : Value) : Prop := ∃ s, v = .agg #[.int .i64 W, .int .i64 H, s] ∧ OutSl w w' n q s

set_option maxHeartbeats 1000000 in
theorem copyInk_any (W H : Int) (A : Option Addr) (n c : Nat) (p : Int → Int) (w : World) (hA : ArrB w w.heap.size A n p) (hc : A = none → c = 0) (hn : n ≤ 140737488355328) :
    Calls Tryd.prog 16 #[.agg #[.int .i64 W, .int .i64 H, .slice A n c]] w (New w fun v w' => OutCopy w w' W H n p v) := by
  have CB := Lib.hid fun w' hA' => copyBytes_any A n c p w' hA' hc hn
  clear hc
  go_enter Tryd.func16, Tryd.ntmps16
  go_wp2_with fail
  have k1 := (Blk.new w 24 #[.int .i64 W, .int .i64 H, .slice A n c]).alloc (.cells #[.int .i64 0, .int .i64 0, .slice none 0 0] 24)
  have k2 := Blk.new' (w := w.alloc (.cells #[.int .i64 W, .int .i64 H, .slice A n c] 24)) (World.size_alloc _ _) 24 #[.int .i64 0, .int .i64 0, .slice none 0 0]
  have b1 : Below w.heap.size w ((w.alloc (.cells #[.int .i64 W, .int .i64 H, .slice A n c] 24)).alloc (.cells #[.int .i64 0, .int .i64 0, .slice none 0 0] 24)) := by (repeat (first | exact Below.refl _ _ | assumption | refine Below.drew ?_ | refine below_drewN ?_ _ | refine Below.alloc ?_ (by first | omega | (simp; done) | (simp; omega)) _ | refine Below.setCell ?_ (by first | omega | (simp; done) | (simp; omega)) _ | refine below_setRow ?_ (by first | omega | (simp; done) | (simp; omega)) _ ))
  have hA1 := hA.to b1
  generalize (w.alloc (.cells #[.int .i64 W, .int .i64 H, .slice A n c] 24)).alloc (.cells #[.int .i64 0, .int .i64 0, .slice none 0 0] 24) = w1 at *
  clear hA
  have K1 := Lib.hid k1; have K2 := Lib.hid k2; have B1 := Lib.hid b1; have A1 := Lib.hid hA1
  obtain ⟨p1, p2, p3⟩ := k1.cells3
  obtain ⟨r1, r2, r3⟩ := k2.cells3
  obtain ⟨f1, f2, f3⟩ := k2.frozen3
  clear k1 k2 b1 hA1
  go_region_held3 (fun w' => w'.cell? ⟨w.heap.size, 0, none⟩ = some (.int .i64 W) ∧ w'.cell? ⟨w.heap.size, 1, none⟩ = some (.int .i64 H) ∧ w'.cell? ⟨w.heap.size, 2, none⟩ = some (.slice A n c))
    (simp [go_sem, *])
    (first
      | (go_at_call 77; refine (CB.out _ A1.out.drew).mono ?_; rintro e w2 ⟨_, rfl, ⟨A', c', rfl, hc', hnil', hge', ha'⟩, hb2⟩
         have k3 := K1.out.drew.below' hb2; have k4 := K2.out.drew.below' hb2
         obtain ⟨x1, x2, x3⟩ := k3.cells3; obtain ⟨y1, y2, y3⟩ := k4.cells3; obtain ⟨z1, z2, z3⟩ := k4.frozen3
         have b2 : Below w.heap.size w w2 := B1.out.drew.trans (hb2.mono B1.out.size)
         have z2 := K2.out.lt))
  go_wp2
  refine bodyPost_ret (v := .agg #[.int .i64 W, .int .i64 H, .slice A' n c']) (by simp [results, Tryd.results16, go_sem, y1, y2, y3]) rfl ?_
  have hfar : ∀ i, ∀ a, A' = some a → a.block ≠ (⟨w.heap.size + 1, i, none⟩ : Addr).block := fun i a e h => by
    have := hge' a e
    simp at h this
    omega
  refine ⟨_, rfl, ⟨_, rfl, A', c', rfl, hc', hnil', fun a e => ?_, ?_⟩, by (repeat (first | exact Below.refl _ _ | assumption | refine Below.drew ?_ | refine below_drewN ?_ _ | refine Below.alloc ?_ (by first | omega | (simp; done) | (simp; omega)) _ | refine Below.setCell ?_ (by first | omega | (simp; done) | (simp; omega)) _ | refine below_setRow ?_ (by first | omega | (simp; done) | (simp; omega)) _ ))⟩
  · have := hge' a e; have := B1.out.size; simp at *; omega
  · simpa using ((ha'.far (hfar 0) _).far (hfar 1) _).far (hfar 2) _
end Go.Proofs.YtoonkpjddfiopaaDoor

/- Walk: the cheapest path of an image. -/
namespace Go.Proofs.YtoonkpjddfiopaaDoor
open Go.RowKit Go.Shelf
set_option linter.unusedVariables false
attribute [local go_sem] Oper.semAt_some

theorem Arr.far1 {w : World} {B n : Nat} {A : Option Addr} {f : Int → Value} (h : Arr w B A n f) {p : Addr} (hp : ∀ a, A = some a → a.block ≠ p.block) (u : Value) : Arr (w.setCell p u) B A n f := fun hn => by
  obtain ⟨b, off, e, hb, hc⟩ := h hn
  exact ⟨b, off, e, hb, fun i h0 hi => (World.cell?_of_block (heap_setCell_other w p b u (hp _ e))).trans (hc i h0 hi)⟩
theorem BestK.store {w : World} {W H : Int} {Bf Bw Bh Br Bi gr N : Nat} {Fa A : Option Addr} {fc n c : Nat} {fb : Int → Bool} {R p : Int → Int} (k : BestK w W H Bf Bw Bh Br Bi gr N Fa A fc n c fb R p)
    (hf : Bf ≠ gr) (hw : Bw ≠ gr) (hh : Bh ≠ gr) (hr : Br ≠ gr) (hi : Bi ≠ gr) (hF : ∀ a, Fa = some a → a.block ≠ gr) (hA : ∀ a, A = some a → a.block ≠ gr) (i : Int) (h0 : 0 ≤ i) (v : Int) :
    BestK (w.setCell ⟨gr, i.toNat, none⟩ (.int .i64 v)) W H Bf Bw Bh Br Bi gr N Fa A fc n c fb (upd R i v) p :=
  ⟨k.kf.far (p := ⟨gr, i.toNat, none⟩) hf _, k.kw.far (p := ⟨gr, i.toNat, none⟩) hw _, k.kh.far (p := ⟨gr, i.toNat, none⟩) hh _, k.kr.far (p := ⟨gr, i.toNat, none⟩) hr _, k.kR.i64set i h0 v, k.ki.far (p := ⟨gr, i.toNat, none⟩) hi _,
    by rw [World.size_setCell]; exact k.aF.far1 (p := ⟨gr, i.toNat, none⟩) hF _, by rw [World.size_setCell]; exact ArrB.far1 k.aA (p := ⟨gr, i.toNat, none⟩) hA _⟩
theorem BestK.conv {w : World} {W H : Int} {Bf Bw Bh Br Bi gr N : Nat} {Fa A : Option Addr} {fc n c : Nat} {fb : Int → Bool} {R R' p : Int → Int} (k : BestK w W H Bf Bw Bh Br Bi gr N Fa A fc n c fb R p) (h : ∀ i : Int, 0 ≤ i → i < N → R i = R' i) : BestK w W H Bf Bw Bh Br Bi gr N Fa A fc n c fb R' p :=
  ⟨k.kf, k.kw, k.kh, k.kr, k.kR.i64conv h, k.ki, k.aF, k.aA⟩

/-- the search for the next row: none of these rows was the one; or the last one was -/
structure NxI {h : Int} (B12 : Nat) (f : Int → Bool) (a : Int) (w12 : World) (pre : List (RowIn h)) (W' : World) : Prop where
  bt : But w12.heap.size B12 w12 W'
  k : Blk W' B12 3 #[.int .i64 a]
  no : ∀ t ∈ pre, f t.1 = false
structure NxX {h : Int} (B12 : Nat) (f : Int → Bool) (w12 : World) (id : Nat) (c : Code) (pre : List (RowIn h)) (W' : World) : Prop where
  e : c = Code.exit id
  bt : But w12.heap.size B12 w12 W'
  ex : ∃ q t, pre = q ++ [t] ∧ (∀ s ∈ q, f s.1 = false) ∧ f t.1 = true ∧ Blk W' B12 3 #[.int .i64 t.1]

/-- what best returns: a cheapest path and its cost, or none -/
def BestOut (w : World) (W H : Int) (p : Int → Int) (fb : Int → Bool) (e : Ending) (w' : World) : Prop :=
  ((gAt 1073741824 W H (cst p W) (fun x y => fb (y * W + x)) 0 (pathP 1073741824 W H (cst p W) (fun x y => fb (y * W + x)) 0) = 1073741824 ∧ e = .returned (.tuple #[.slice none 0 0, .int .i64 0])) ∨
   (gAt 1073741824 W H (cst p W) (fun x y => fb (y * W + x)) 0 (pathP 1073741824 W H (cst p W) (fun x y => fb (y * W + x)) 0) < 1073741824 ∧
     ∃ v, e = .returned (.tuple #[v, .int .i64 (gAt 1073741824 W H (cst p W) (fun x y => fb (y * W + x)) 0 (pathP 1073741824 W H (cst p W) (fun x y => fb (y * W + x)) 0))]) ∧ w'.ownsRow w.heap.size 3 1 v W.toNat ((List.range W.toNat).map fun j => Value.int .i64 (pathP 1073741824 W H (cst p W) (fun x y => fb (y * W + x)) j)))) ∧
  Below w.heap.size w w'

end Go.Proofs.YtoonkpjddfiopaaDoor

/- Plain: the lines that are found one after the other, and what each marks as forbidden. No program in sight. -/
namespace Go.Proofs.YtoonkpjddfiopaaDoor
open Go.RowKit
set_option linter.unusedVariables false

/-- what is forbidden behind a line -/
def mkF (W : Int) (f : Int → Bool) (P : Nat → Int) : Int → Bool := fun i => f i || decide (P (i % W).toNat - 2 ≤ i / W ∧ i / W ≤ P (i % W).toNat + 2)
/-- the same while it is marked: the columns before x, and column x up to row t -/
def mkR (W : Int) (f : Int → Bool) (P : Nat → Int) (x : Nat) (t : Int) : Int → Bool := fun i =>
  f i || decide ((i % W < x ∧ P (i % W).toNat - 2 ≤ i / W ∧ i / W ≤ P (i % W).toNat + 2) ∨ (i % W = x ∧ P (i % W).toNat - 2 ≤ i / W ∧ i / W < t))
section
variable {W H : Int} {f : Int → Bool} {P : Nat → Int}
theorem bool_or_congr {a : Bool} {p q : Prop} [Decidable p] [Decidable q] (h : p ↔ q) : (a || decide p) = (a || decide q) := by
  rw [show decide p = decide q from by simp [h]]
theorem mkR_zero {i : Int} (hW : 0 < W) : mkR W f P 0 (P 0 - 2) i = f i := by
  unfold mkR
  have h1 : 0 ≤ i % W := Int.emod_nonneg _ (by omega)
  rw [show decide _ = false from decide_eq_false ?_, Bool.or_false]
  rintro (⟨h, -, -⟩ | ⟨h, h2, h3⟩)
  · omega
  · rw [h] at h2
    simp only [Int.natCast_zero, Int.toNat_zero] at h2
    omega
theorem mkR_start {x : Nat} {t i : Int} (h0 : 0 ≤ i) (hW : 0 < W) (ht : t = if P x - 2 < 0 then 0 else P x - 2) : mkR W f P x (P x - 2) i = mkR W f P x t i := by
  unfold mkR
  have h2 : 0 ≤ i / W := Int.ediv_nonneg h0 (by omega)
  refine bool_or_congr (or_congr Iff.rfl ?_)
  refine and_congr_right fun h => ?_
  rw [h, Int.toNat_natCast]
  split at ht <;> omega
theorem mkR_set {x : Nat} {t : Int} (hx : (x : Int) < W) (h1 : P x - 2 ≤ t) (i : Int) : (if i = t * W + x then true else mkR W f P x t i) = mkR W f P x (t + 1) i := by
  have a := idx_mod (x := (x : Int)) (y := t) (W := W) (by omega) hx
  have b := idx_div (x := (x : Int)) (y := t) (W := W) (by omega) hx
  by_cases e : i = t * W + x
  · rw [if_pos e]
    subst e
    unfold mkR
    rw [a, b, Int.toNat_natCast, show decide _ = true from decide_eq_true (.inr ⟨rfl, h1, by omega⟩), Bool.or_true]
  · rw [if_neg e]
    unfold mkR
    refine bool_or_congr (or_congr Iff.rfl ?_)
    refine and_congr_right fun h => ?_
    have : i / W ≠ t := fun h2 => e (by
      have := Int.emod_add_mul_ediv i W
      rw [h, h2, Int.mul_comm] at this; omega)
    omega
theorem mkR_col {x : Nat} {t i : Int} (h0 : 0 ≤ i) (hi : i < W * H) (hW : 0 < W) (ht : (if P x + 2 < H - 1 then P x + 2 else H - 1) < t) (ht2 : t ≤ P x + 3) : mkR W f P x t i = mkR W f P (x + 1) (P (x + 1) - 2) i := by
  have h1 : i / W < H := Int.ediv_lt_of_lt_mul hW (by rw [Int.mul_comm]; exact hi)
  unfold mkR
  refine bool_or_congr ?_
  constructor
  · rintro (⟨a, b, c⟩ | ⟨a, b, c⟩)
    · exact .inl ⟨by omega, b, c⟩
    · refine .inl ⟨by omega, b, ?_⟩
      rw [a, Int.toNat_natCast]
      omega
  · rintro (⟨a, b, c⟩ | ⟨a, b, c⟩)
    · by_cases e : i % W = x
      · refine .inr ⟨e, b, ?_⟩
        rw [e, Int.toNat_natCast] at c
        split at ht <;> omega
      · exact .inl ⟨by omega, b, c⟩
    · rw [a, Int.toNat_natCast] at b
      omega
theorem mkR_end {n : Nat} {i : Int} (hW : 0 < W) (hn : (n : Int) = W) : mkR W f P n (P n - 2) i = mkF W f P i := by
  unfold mkR mkF
  have h1 : i % W < W := Int.emod_lt_of_pos _ hW
  refine bool_or_congr ?_
  constructor
  · rintro (⟨a, b, c⟩ | ⟨a, b, c⟩)
    · exact ⟨b, c⟩
    · omega
  · rintro ⟨b, c⟩
    exact .inl ⟨by omega, b, c⟩
end

section
variable (N W H : Int) (c : Int → Int → Int)
/-- what is forbidden when k lines are found -/
def FB : Nat → Int → Bool
  | 0 => fun _ => false
  | k + 1 => mkF W (FB k) (pathP N W H c fun x y => FB k (y * W + x))
/-- line number k, in the order of finding, and its cost -/
def LN (k : Nat) : Nat → Int := pathP N W H c fun x y => FB N W H c k (y * W + x)
def GC (k : Nat) : Int := gAt N W H c (fun x y => FB N W H c k (y * W + x)) 0 (LN N W H c k 0)
def Good (k : Nat) : Prop := GC N W H c k < N ∧ 8 * GC N W H c k ≤ W
/-- so many lines are found -/
def Many (k : Nat) : Prop := k ≤ 60 ∧ (∀ j, j < k → Good N W H c j) ∧ (k < 60 → ¬ Good N W H c k)
end
theorem Many.uniq {N W H : Int} {c : Int → Int → Int} {k k' : Nat} (h : Many N W H c k) (h' : Many N W H c k') : k = k' := by
  rcases Nat.lt_trichotomy k k' with g | g | g
  · exact absurd (h'.2.1 k g) (h.2.2 (by have := h'.1; omega))
  · exact g
  · exact absurd (h.2.1 k' g) (h'.2.2 (by have := h.1; omega))

theorem ln_ok {N W H : Int} {c : Int → Int → Int} {k : Nat} (hc : ∀ x y, 0 ≤ c x y ∧ c x y ≤ 2) (hN : 3 * W < N) (hW : 0 < W) (hH : 0 < H) (hg : GC N W H c k < N) (x : Nat) (hx : (x : Int) < W) :
    0 ≤ LN N W H c k x ∧ LN N W H c k x < H ∧ FB N W H c k (LN N W H c k x * W + x) = false := by
  obtain ⟨h1, h2, h3⟩ := path_ok (F := fun x y => FB N W H c k (y * W + x)) hc hN hH hW hg x hx
  refine ⟨h1, h2, ?_⟩
  cases hF : FB N W H c k (LN N W H c k x * W + x) with
  | false => rfl
  | true =>
    exfalso
    have hF' : (fun x y => FB N W H c k (y * W + x)) (x : Int) (pathP N W H c (fun x y => FB N W H c k (y * W + x)) x) = true := hF
    by_cases hl : (x : Int) < W - 1
    · rw [gAt_step (by omega) hl, if_pos hF'] at h3; omega
    · have e : (x : Int) = W - 1 := by omega
      rw [e] at h3 hF'
      rw [gAt_last, if_pos hF'] at h3; omega

/-- the cells of a row of truth values -/
def bools (n : Nat) (f : Int → Bool) : Array Value := cellsF n fun j => .bool (f j)
theorem bools_congr {n : Nat} {f f' : Int → Bool} (he : ∀ i : Int, 0 ≤ i → i < n → f i = f' i) : bools n f = bools n f' := cellsF_congr fun j a b => by rw [he j a b]
theorem Blk.bset {w : World} {g t n : Nat} {f : Int → Bool} (h : Blk w g t (bools n f)) (i : Int) (h0 : 0 ≤ i) (b : Bool) : Blk (w.setCell ⟨g, i.toNat, none⟩ (.bool b)) g t (bools n fun j => if j = i then b else f j) := by
  have e : (bools n f).setIfInBounds i.toNat (.bool b) = bools n fun j => if j = i then b else f j := by
    unfold bools
    rw [cellsF_set n _ i h0]
    exact cellsF_congr fun j _ _ => by
      show (if j = i then Value.bool b else Value.bool (f j)) = Value.bool (if j = i then b else f j)
      split <;> rfl
  rw [← e]
  exact h.set_ i.toNat (.bool b)
theorem Blk.bconv {w : World} {g t n : Nat} {f f' : Int → Bool} (h : Blk w g t (bools n f)) (he : ∀ i : Int, 0 ≤ i → i < n → f i = f' i) : Blk w g t (bools n f') := by
  rw [← bools_congr he]; exact h
theorem bools_zero (n : Nat) : Array.replicate n (Value.bool false) = bools n (fun _ => false) := replicate_cellsF _ _
end Go.Proofs.YtoonkpjddfiopaaDoor

/- Walk: the lines of an image (stave.Trace). -/
namespace Go.Proofs.YtoonkpjddfiopaaDoor
open Go.RowKit Go.Shelf
set_option linter.unusedVariables false
attribute [local go_sem] Oper.semAt_some

theorem infoBool : (Tryd.prog.info? 4).map (fun i => (i.zero, i.size, i.bytes)) = some (some (.bool false), 1, 1) := by kernel_rfl
theorem infoInts : (Tryd.prog.info? 58).map (fun i => (i.zero, i.size, i.bytes)) = some (some (.slice none 0 0), 1, 24) := by kernel_rfl
theorem makeO (n : Int) (h0 : 0 ≤ n) (h : n ≤ 140737488355328) (w : World) : (Instr.makeSlice 160 (.int .i64 n) (.int .i64 n)).run Tryd.prog w =
    .ok (.slice (some ⟨w.heap.size, 0, none⟩) n.toNat n.toNat) (w.alloc (.cells (bools n.toNat (fun _ => false)) 4)) := by
  obtain ⟨i, hi, hz, hs, hb⟩ := info_parts infoBool
  have := run_make (P := Tryd.prog) w 160 4 i _ Tryd.underlying160 hi hz .i64 .i64 n n h0 (Int.le_refl _) (by rw [hb]; omega) (by omega)
  rw [this, hs]
  have e : madeCells (Value.bool false).cells (n.toNat * 1) = bools n.toNat (fun _ => false) := by
    rw [← bools_zero]
    apply Array.ext_getElem?
    intro j
    simp only [madeCells, Value.cells, Nat.mul_one]
    by_cases hj : j < n.toNat <;> simp [hj, Nat.mod_one]
  rw [e]

/-- k lines, a slice each, in memory of the call's own -/
structure Found (B : Nat) (w : World) (m : Nat) (ln : Nat → Nat → Int) (k : Nat) (vo : Value) (v : Nat → Value) : Prop where
  row : w.ownsRow B 58 1 vo k ((List.range k).map v)
  lines : ∀ i, i < k → w.ownsRow B 3 1 (v i) m ((List.range m).map fun j => Value.int .i64 (ln i j))
theorem Found.below {B : Nat} {w w' : World} {m : Nat} {ln : Nat → Nat → Int} {k : Nat} {vo : Value} {v : Nat → Value} (h : Found B w m ln k vo v) (hb : Below w.heap.size w w') : Found B w' m ln k vo v :=
  ⟨own_below h.row hb, fun i hi => own_below (h.lines i hi) hb⟩
theorem Found.far {B : Nat} {w : World} {m g t : Nat} {cs : Array Value} {ln : Nat → Nat → Int} {k : Nat} {vo : Value} {v : Nat → Value} (h : Found B w m ln k vo v) (hb : Blk w g t cs) (h1 : t ≠ 58) (h2 : t ≠ 3) (o : Nat) (u : Value) : Found B (w.setCell ⟨g, o, none⟩ u) m ln k vo v :=
  ⟨own_far h.row hb h1.symm o u, fun i hi => own_far (h.lines i hi) hb h2.symm o u⟩

/-- an owned row of numbers, read -/
theorem own_arrI {w : World} {B m : Nat} {v : Value} {q : Nat → Int} (h : w.ownsRow B 3 1 v m ((List.range m).map fun j => Value.int .i64 (q j))) : ∃ A c, v = .slice A m c ∧ ArrI w w.heap.size A m (fun j => q j.toNat) := by
  obtain ⟨A, c, e, -, ha⟩ := own_arr h
  refine ⟨A, c, e, Arr.congr ha fun i i0 i1 => ?_⟩
  rw [List.getD_eq_getElem?_getD, List.getElem?_map, List.getElem?_range (by omega)]
  rfl
theorem own_some {w : World} {B e m : Nat} {v : Value} {xs : List Value} (h : w.ownsRow B e 1 v m xs) (hm : 0 < m) : ∃ g c, v = .slice (some ⟨g, 0, none⟩) m c := by
  rcases h.2 with ⟨-, h2⟩ | ⟨g, cap, cur, hv, -⟩
  · omega
  · exact ⟨g, cap, hv⟩

/-- what Trace returns: so many lines, in the order of their first rows -/
def TraceOut (w : World) (W H : Int) (p : Int → Int) (v : Value) (w' : World) : Prop :=
  ∃ (k : Nat) (l : List Nat) (vs : Nat → Value), Many 1073741824 W H (cst p W) k ∧ l.Perm (List.range k) ∧ l.Pairwise (fun i j => LN 1073741824 W H (cst p W) i 0 ≤ LN 1073741824 W H (cst p W) j 0) ∧
    w'.ownsRow w.heap.size 58 1 v k (l.map vs) ∧ ∀ i, i < k → w'.ownsRow w.heap.size 3 1 (vs i) W.toNat ((List.range W.toNat).map fun j => Value.int .i64 (LN 1073741824 W H (cst p W) i j))

end Go.Proofs.YtoonkpjddfiopaaDoor

/- Plain: the least costs column by column as lists, to reckon examples. No program in sight. -/
namespace Go.Proofs.YtoonkpjddfiopaaDoor
open Go.RowKit
set_option linter.unusedVariables false

section
variable (N W H : Int) (c : Int → Int → Int) (F : Int → Int → Bool)
def stepL (d : List Int) (x : Int) : List Int := (List.range H.toNat).map fun (y : Nat) => if F x y then N else min (mfold N (goTo (fun t => d.getD t.toNat 0) y) (nxLo y) (nxN H y) + c x y) N
def colL : Nat → List Int
  | 0 => (List.range H.toNat).map fun (y : Nat) => if F (W - 1) y then N else min (c (W - 1) y) N
  | k + 1 => stepL N H c F (colL k) (W - 1 - (k + 1 : Nat))
def nxtL (d : List Int) (g cc a : Int) : Int := ((nbT a (nxN H a)).find? fun t => decide (goTo (fun t => d.getD t.toNat 0) a t = g - cc)).getD a
def pathL : Nat → Int
  | 0 => fmin (fun t => (colL N W H c F (W - 1).toNat).getD t.toNat 0) H.toNat
  | x + 1 => nxtL H (colL N W H c F (W - 1 - (x + 1 : Nat)).toNat) ((colL N W H c F (W - 1 - x).toNat).getD (pathL x).toNat 0) (c x (pathL x)) (pathL x)
end
theorem mfold_congr {N : Int} {f g : Int → Int} {lo : Int} {j : Nat} (h : ∀ i : Nat, i < j → f (lo + i) = g (lo + i)) : mfold N f lo j = mfold N g lo j := by
  induction j with
  | zero => rfl
  | succ j ih => rw [mfold, mfold, ih (fun i hi => h i (by omega)), h j (by omega)]
theorem fmin_congr {f g : Int → Int} {n : Nat} (h : ∀ i : Int, 0 ≤ i → i < n → f i = g i) : fmin f n = fmin g n := by
  induction n with
  | zero => rfl
  | succ n ih =>
    have e := ih fun i a b => h i a (by omega)
    have b := fmin_bd g n
    rw [fmin, fmin, e, h n (by omega) (by omega)]
    by_cases hn : 0 < n
    · rw [h (fmin g n) b.1 (by have := b.2 hn; omega)]
    · obtain rfl : n = 0 := by omega
      rw [show fmin g 0 = (0 : Nat) from rfl, h (0 : Nat) (by omega) (by omega)]
theorem getD_range_map (n : Nat) (f : Nat → Int) (y : Int) (h0 : 0 ≤ y) (h : y < n) : ((List.range n).map f).getD y.toNat 0 = f y.toNat := by
  rw [List.getD_eq_getElem?_getD, List.getElem?_map, List.getElem?_range (by omega)]; rfl
theorem colL_eq {N W H : Int} {c : Int → Int → Int} {F : Int → Int → Bool} (k : Nat) (y : Int) (h0 : 0 ≤ y) (h : y < H) : gcol N W H c F k y = (colL N W H c F k).getD y.toNat 0 := by
  induction k generalizing y with
  | zero =>
    rw [colL, getD_range_map _ _ _ h0 (by omega), gcol, Int.toNat_of_nonneg h0]
  | succ k ih =>
    rw [colL, stepL, getD_range_map _ _ _ h0 (by omega), gcol, Int.toNat_of_nonneg h0]
    have : mfold N (goTo (gcol N W H c F k) y) (nxLo y) (nxN H y) = mfold N (goTo (fun t => (colL N W H c F k).getD t.toNat 0) y) (nxLo y) (nxN H y) := mfold_congr fun i hi => by
      have h1 := (nx_in h0 h i).1 hi
      unfold goTo
      rw [ih (nxLo y + i) (by unfold nxLo; split <;> omega) h1.1]
    rw [this]
theorem nb_mem {H a t : Int} (a0 : 0 ≤ a) (a1 : a < H) (h : t ∈ nbT a (nxN H a)) : 0 ≤ t ∧ t < H := by
  obtain ⟨j, hj, rfl⟩ := List.mem_map.1 h
  have h1 := (nx_in a0 a1 j).1 (List.mem_range.1 hj)
  have : 0 ≤ nxLo a := by unfold nxLo; split <;> omega
  omega
theorem find_congr {f g : Int → Bool} {l : List Int} (h : ∀ t ∈ l, f t = g t) : l.find? f = l.find? g := by
  induction l with
  | nil => rfl
  | cons a l ih => rw [List.find?_cons, List.find?_cons, h a (List.mem_cons_self ..), ih fun t ht => h t (List.mem_cons_of_mem _ ht)]
theorem nxt_in {N W H : Int} {c : Int → Int → Int} {F : Int → Int → Bool} {x a : Int} (a0 : 0 ≤ a) (a1 : a < H) : 0 ≤ nxt N W H c F x a ∧ nxt N W H c F x a < H := by
  rw [nxt_find]
  cases h : (nbT a (nxN H a)).find? (fun t => decide (goTo (gAt N W H c F (x + 1)) a t = gAt N W H c F x a - c x a)) with
  | none => exact ⟨a0, a1⟩
  | some t => exact nb_mem a0 a1 (List.mem_of_find?_eq_some h)
theorem pathL_eq {N W H : Int} {c : Int → Int → Int} {F : Int → Int → Bool} (hH : 0 < H) (x : Nat) : pathP N W H c F x = pathL N W H c F x ∧ 0 ≤ pathP N W H c F x ∧ pathP N W H c F x < H := by
  induction x with
  | zero =>
    have b := fmin_bd (gAt N W H c F 0) H.toNat
    refine ⟨?_, b.1, by have := b.2 (by omega); show fmin _ _ < _; omega⟩
    show fmin _ _ = fmin _ _
    refine fmin_congr fun i a b => ?_
    unfold gAt
    rw [colL_eq _ i a (by omega), Int.sub_zero]
  | succ x ih =>
    obtain ⟨e, i0, i1⟩ := ih
    refine ⟨?_, nxt_in i0 i1⟩
    show nxt N W H c F x (pathP N W H c F x) = _
    rw [nxt_find, pathL, ← e, nxtL]
    congr 1
    refine find_congr fun t ht => ?_
    obtain ⟨t0, t1⟩ := nb_mem i0 i1 ht
    have h1 : gAt N W H c F (x + 1) t = (colL N W H c F (W - 1 - (x + 1 : Nat)).toNat).getD t.toNat 0 := colL_eq _ t t0 t1
    have h2 : gAt N W H c F x (pathP N W H c F x) = (colL N W H c F (W - 1 - x).toNat).getD (pathP N W H c F x).toNat 0 := colL_eq _ _ i0 i1
    unfold goTo
    rw [h1, h2]

def rowQ (hole : Int) : Int → Int := fun i => if 32 ≤ i ∧ i < 48 ∧ i - 32 ≠ hole then 1 else 0
def rowQ2 : Int → Int := fun i => if i = 23 then 1 else rowQ 7 i
theorem rowQ_B (h : Int) : IsB (rowQ h) := fun i => by unfold rowQ; split <;> omega
theorem rowQ2_B : IsB rowQ2 := fun i => by unfold rowQ2; split; omega; exact rowQ_B 7 i
theorem aw1 : allN 16 (fun i => decide (pathL 1073741824 16 5 (cst (rowQ 7) 16) (fun _ _ => false) i.toNat = 2)) = true := by decide +kernel
theorem aw2 : (colL 1073741824 16 5 (cst (rowQ 7) 16) (fun _ _ => false) 15).getD 2 0 = 2 := by decide +kernel
theorem aw3 : pathL 1073741824 16 5 (cst rowQ2 16) (fun _ _ => false) 0 = 2 ∧ pathL 1073741824 16 5 (cst rowQ2 16) (fun _ _ => false) 7 = 1 := by decide +kernel
theorem aw4 : (colL 1073741824 16 5 (cst rowQ2 16) (fun _ _ => false) 15).getD 2 0 = 2 := by decide +kernel
theorem aw1' : pathL 1073741824 16 5 (cst (rowQ 7) 16) (fun _ _ => false) 0 = 2 := of_decide_eq_true (allN_iff.1 aw1 0 (by decide) (by decide))
theorem aw1'' (i : Int) (h0 : 0 ≤ i) (h : i < (16 : Nat)) : LN 1073741824 16 5 (cst (rowQ 7) 16) 0 i.toNat = 2 := (pathL_eq (by decide) i.toNat).1.trans (of_decide_eq_true (allN_iff.1 aw1 i h0 h))
theorem aw3' : LN 1073741824 16 5 (cst rowQ2 16) 0 7 = 1 := (pathL_eq (by decide) 7).1.trans aw3.2
/-- one line, if the first path is cheap and begins in row 2 of five rows -/
theorem many_one {p : Int → Int} (h0 : pathL 1073741824 16 5 (cst p 16) (fun _ _ => false) 0 = 2) (h1 : (colL 1073741824 16 5 (cst p 16) (fun _ _ => false) 15).getD 2 0 = 2) : Many 1073741824 16 5 (cst p 16) 1 := by
  have e0 : LN 1073741824 16 5 (cst p 16) 0 0 = 2 := (pathL_eq (by decide) 0).1.trans h0
  have g0 : GC 1073741824 16 5 (cst p 16) 0 = 2 := by
    unfold GC
    rw [e0]
    exact (colL_eq (15 : Nat) 2 (by decide) (by decide)).trans h1
  refine ⟨by decide, fun j hj => ?_, fun _ hg => ?_⟩
  · obtain rfl : j = 0 := by omega
    exact ⟨by rw [g0]; decide, by rw [g0]; decide⟩
  · have b := (pathL_eq (N := 1073741824) (W := 16) (H := 5) (c := cst p 16) (F := fun x y => FB 1073741824 16 5 (cst p 16) 1 (y * 16 + x)) (by decide) 0).2
    have h2 := hg.1
    unfold GC at h2
    rw [gAt_step (by decide) (by decide), if_pos] at h2
    · omega
    · show FB 1073741824 16 5 (cst p 16) (0 + 1) (LN 1073741824 16 5 (cst p 16) 1 0 * 16 + 0) = true
      have b' : 0 ≤ LN 1073741824 16 5 (cst p 16) 1 0 ∧ LN 1073741824 16 5 (cst p 16) 1 0 < 5 := b
      rw [FB]
      unfold mkF
      rw [show (LN 1073741824 16 5 (cst p 16) 1 0 * 16 + 0) % 16 = 0 by omega, show (LN 1073741824 16 5 (cst p 16) 1 0 * 16 + 0) / 16 = LN 1073741824 16 5 (cst p 16) 1 0 by omega]
      show (_ || decide (LN 1073741824 16 5 (cst p 16) 0 0 - 2 ≤ _ ∧ _ ≤ LN 1073741824 16 5 (cst p 16) 0 0 + 2)) = true
      rw [e0, Bool.or_eq_true]
      exact .inr (decide_eq_true (by omega))
end Go.Proofs.YtoonkpjddfiopaaDoor

/- Walks: an image with one row of ink (custoslaw03.row), flat lines (custoslaw03.flat), slices.Clone of numbers. -/
namespace Go.Proofs.YtoonkpjddfiopaaDoor
open Go.RowKit Go.Shelf
set_option linter.unusedVariables false
attribute [local go_sem] Oper.semAt_some

theorem own_i64s {w : World} {g m base : Nat} {q : Int → Int} (h : Blk w g 3 (i64s m q)) (hb : base ≤ g) (hm : m ≤ maxLen) : w.ownsRow base 3 1 (.slice (some ⟨g, 0, none⟩) m m) m ((List.range m).map fun (j : Nat) => Value.int .i64 (q j)) := by
  refine ⟨by simp, .inr ⟨g, m, i64s m q, rfl, hb, h, Nat.le_refl _, hm, by rw [i64s_size, Nat.mul_one], ?_⟩⟩
  rw [Nat.mul_one]
  exact List.take_of_length_le (by simp [i64s, cellsF])
theorem Found.snoc {B m k : Nat} {w w' : World} {ln : Nat → Nat → Int} {vo v' : Value} {v : Nat → Value} {u : Value} (h : Found B w m ln k vo v) (hu : w.ownsRow B 3 1 u m ((List.range m).map fun j => Value.int .i64 (ln k j)))
    (hg : w.grownBy w' vo.ownBlock) (hr : w'.ownsRow B 58 1 v' (k + 1) ((List.range k).map v ++ [u])) : Found B w' m ln (k + 1) v' (fun i => if i = k then u else v i) := by
  refine ⟨?_, fun i hi => ?_⟩
  · rw [range_snoc]
    simp only [if_true]
    rw [show (List.range k).map (fun i => if i = k then u else v i) = (List.range k).map v from List.map_congr_left fun i hi => by rw [if_neg]; have := List.mem_range.1 hi; omega]
    exact hr
  · show World.ownsRow _ _ _ _ (if i = k then _ else v i) _ _
    by_cases e : i = k
    · subst e
      rw [if_pos rfl]
      exact own_grown hu h.row (by decide) hg
    · rw [if_neg e]
      exact own_grown (h.lines i (by omega)) h.row (by decide) hg

end Go.Proofs.YtoonkpjddfiopaaDoor
