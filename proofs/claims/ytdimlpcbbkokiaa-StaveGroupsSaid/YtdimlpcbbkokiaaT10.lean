/- Plain: the row in which the path goes on, as the first of a list that meets a test; worlds that differ in one block. No program in sight. -/
import Derived.Test.YtdimlpcbbkokiaaT6
import Derived.Test.YtdimlpcbbkokiaaT8
import Derived.Test.YtdimlpcbbkokiaaLib2
namespace Go.Proofs.Ytdimlpcbbkokiaa
open Go.RowKit
set_option linter.unusedVariables false

theorem nbT_find (f : Int → Bool) (a : Int) (n : Nat) : (nbT a n).find? f = if 0 ≤ idxF (fun i => f (nxLo a + i)) n then some (nxLo a + idxF (fun i => f (nxLo a + i)) n) else none := by
  induction n with
  | zero => simp [nbT, idxF]
  | succ n ih =>
    rw [nbT_snoc, List.find?_append, ih, idxF]
    by_cases h : 0 ≤ idxF (fun i => f (nxLo a + i)) n
    · rw [if_pos h, if_pos h, if_pos h]; rfl
    · rw [if_neg h, if_neg h]
      cases h2 : f (nxLo a + (n : Int)) with
      | true => simp [h2]
      | false => simp [h2]
theorem nxt_find (N W H : Int) (c : Int → Int → Int) (F : Int → Int → Bool) (x a : Int) :
    nxt N W H c F x a = ((nbT a (nxN H a)).find? (fun t => decide (goTo (gAt N W H c F (x + 1)) a t = gAt N W H c F x a - c x a))).getD a := by
  rw [nbT_find]
  unfold nxt
  split <;> rfl
theorem find_none {f : Int → Bool} {h : Int} {l : List (RowIn h)} {m : List Int} (e : l.map Subtype.val = m) (hf : ∀ t ∈ l, f t.1 = false) (a : Int) : (m.find? f).getD a = a := by
  have : m.find? f = none := List.find?_eq_none.2 fun t ht => by
    rw [← e] at ht
    obtain ⟨s, hs, rfl⟩ := List.mem_map.1 ht
    simp [hf s hs]
  rw [this]; rfl
theorem nbT_add (a : Int) (j k : Nat) : ∃ r, nbT a (j + k) = nbT a j ++ r := by
  induction k with
  | zero => exact ⟨[], by simp⟩
  | succ k ih => obtain ⟨r, hr⟩ := ih; exact ⟨r ++ [nxLo a + (j + k : Nat)], by rw [← Nat.add_assoc, nbT_snoc, hr, List.append_assoc]⟩
theorem find_some {f : Int → Bool} {h a : Int} {n : Nat} {l p : List (RowIn h)} {t : RowIn h} (hj : ∃ j, j ≤ n ∧ l.map Subtype.val = nbT a j) (e : l = p ++ [t]) (hf : ∀ s ∈ p, f s.1 = false) (ht : f t.1 = true) (b : Int) : ((nbT a n).find? f).getD b = t.1 := by
  obtain ⟨j, hj, hl⟩ := hj
  obtain ⟨r, hr⟩ := nbT_add a j (n - j)
  rw [show j + (n - j) = n by omega] at hr
  rw [hr, ← hl, e, List.map_append, List.append_assoc, List.find?_append]
  have : (p.map Subtype.val).find? f = none := List.find?_eq_none.2 fun t ht => by
    obtain ⟨s, hs, rfl⟩ := List.mem_map.1 ht
    simp [hf s hs]
  rw [this]
  simp [ht]

/-- the blocks below B, but for block k, are as they were -/
structure But (B k : Nat) (w w' : World) : Prop where
  os : w'.os = w.os
  tape : w'.tape = w.tape
  output : w'.output = w.output
  size : B ≤ w'.heap.size
  block : ∀ j, j < B → j ≠ k → w'.heap[j]? = w.heap[j]?
theorem But.refl {B : Nat} {w : World} (k : Nat) (h : B ≤ w.heap.size) : But B k w w := ⟨rfl, rfl, rfl, h, fun _ _ _ => rfl⟩
theorem But.then {B k : Nat} {w w' w'' : World} (h : But B k w w') (hb : Below B w' w'') : But B k w w'' :=
  ⟨hb.os.trans h.os, hb.tape.trans h.tape, hb.output.trans h.output, Nat.le_trans h.size hb.size, fun j hj hk => (hb.block j hj).trans (h.block j hj hk)⟩
theorem But.set {B k : Nat} {w w' : World} (h : But B k w w') (o : Nat) (u : Value) : But B k w (w'.setCell ⟨k, o, none⟩ u) := by
  have hb := Below.setCell (Below.refl k w') (show k ≤ (⟨k, o, none⟩ : Addr).block from Nat.le_refl _) u
  refine ⟨hb.os.trans h.os, hb.tape.trans h.tape, hb.output.trans h.output, by simpa using h.size, fun j hj hk => ?_⟩
  rw [heap_setCell_other w' ⟨k, o, none⟩ j u hk]
  exact h.block j hj hk
theorem But.to {B k m : Nat} {w w' : World} (h : But B k w w') (hs : w.heap.size = B) (hk : m ≤ k) (hB : m ≤ B) : Below m w w' := ⟨h.os, h.tape, h.output, hs ▸ h.size, fun j hj => h.block j (by omega) (by omega)⟩
theorem Blk.but {B k : Nat} {w w' : World} {g t : Nat} {cs : Array Value} (h : Blk w g t cs) (hb : But B k w w') (hg : g < B) (hn : g ≠ k) : Blk w' g t cs := h.move (hb.block g hg hn)
theorem Held.but {B k : Nat} {w w' : World} {Ds : List Nat} (h : Held w Ds) (hb : But B k w w') (hB : w.heap.size = B) (hk : ∃ t cs, Blk w k t cs) : Held w' Ds := h.keep fun D hD => by
  have hl := (Array.getElem?_eq_some_iff.1 hD).1
  refine (hb.block D (by omega) fun e => ?_).trans hD
  obtain ⟨t, cs, hc⟩ := hk
  rw [e, hc] at hD; cases hD
theorem Held.below {w w' : World} {Ds : List Nat} (h : Held w Ds) (hb : Below w.heap.size w w') : Held w' Ds := h.keep fun D hD => (hb.block D (Array.getElem?_eq_some_iff.1 hD).1).trans hD
theorem own_cells {w : World} {base : Nat} {e : TypeId} {size n k : Nat} {v : Value} {xs : List Value} (h : w.ownsRow base e size v n xs) (hk : v.ownBlock = some k) : ∃ cs, w.heap[k]? = some (.cells cs e (0, 0)) := by
  rcases h.2 with ⟨rfl, _⟩ | ⟨g, cap, cur, rfl, hb, hh, _⟩
  · simp [Value.ownBlock] at hk
  · simp [Value.ownBlock] at hk
    subst hk
    exact ⟨_, hh⟩
theorem own_but {w w' : World} {base n B k : Nat} {e : TypeId} {v : Value} {xs : List Value} (h : w.ownsRow base e 1 v n xs) (hb : But B k w w') (hB : w.heap.size = B) (hk : k < base) : w'.ownsRow base e 1 v n xs := by
  refine ⟨h.1, ?_⟩
  rcases h.2 with h2 | ⟨g, cap, cur, hv, hg, hh, r⟩
  · exact .inl h2
  · exact .inr ⟨g, cap, cur, hv, hg, (hb.block g (by rw [← hB]; exact (Array.getElem?_eq_some_iff.1 hh).1) (by omega)).trans hh, r⟩
theorem own_held {w w' : World} {base n : Nat} {e : TypeId} {v : Value} {xs : List Value} {Ds : List Nat} (h : w.ownsRow base e 1 v n xs) (hd : Held w Ds) (hk : ∀ k, k < w.heap.size → k ∉ Ds → w'.heap[k]? = w.heap[k]?) : w'.ownsRow base e 1 v n xs := by
  refine ⟨h.1, ?_⟩
  rcases h.2 with h2 | ⟨g, cap, cur, hv, hg, hh, r⟩
  · exact .inl h2
  · refine .inr ⟨g, cap, cur, hv, hg, (hk g (Array.getElem?_eq_some_iff.1 hh).1 fun hm => ?_).trans hh, r⟩
    have := hd.2 g hm
    rw [hh] at this; cases this
theorem own_one {w : World} {base g : Nat} {e : TypeId} {u : Value} (h : Blk w g e #[u]) (hb : base ≤ g) : w.ownsRow base e 1 (.slice (some ⟨g, 0, none⟩) 1 1) 1 [u] :=
  ⟨rfl, .inr ⟨g, 1, #[u], rfl, hb, h, Nat.le_refl _, by unfold maxLen; omega, rfl, rfl⟩⟩
theorem Held.grown {w w' : World} {Ds : List Nat} {base : Nat} {e : TypeId} {n : Nat} {v : Value} {xs : List Value} (h : Held w Ds) (ho : w.ownsRow base e 1 v n xs) (hg : w.grownBy w' v.ownBlock) : Held w' Ds := h.keep fun D hD => by
  refine (hg.block D (Array.getElem?_eq_some_iff.1 hD).1 fun e => ?_).trans hD
  obtain ⟨cs, hc⟩ := own_cells ho e.symm
  rw [hc] at hD; cases hD
theorem Held.lt {w : World} {Ds : List Nat} (h : Held w Ds) {D : Nat} (hD : D ∈ Ds) : D < w.heap.size := (Array.getElem?_eq_some_iff.1 (h.2 D hD)).1
theorem range_snoc {α : Type} (f : Nat → α) (n : Nat) : (List.range (n + 1)).map f = (List.range n).map f ++ [f n] := by rw [List.range_succ, List.map_append]; rfl
theorem own_base {w : World} {base base' n : Nat} {e : TypeId} {v : Value} {xs : List Value} (h : w.ownsRow base e 1 v n xs) (hb : base' ≤ base) : w.ownsRow base' e 1 v n xs := by
  refine ⟨h.1, ?_⟩
  rcases h.2 with h2 | ⟨g, cap, cur, hv, hg, r⟩
  · exact .inl h2
  · exact .inr ⟨g, cap, cur, hv, Nat.le_trans hb hg, r⟩
/-- rows of different types lie apart -/
theorem own_apart {w : World} {base base' n n' k : Nat} {e e' : TypeId} {v v' : Value} {xs xs' : List Value} (h : w.ownsRow base e 1 v n xs) (h' : w.ownsRow base' e' 1 v' n' xs') (hne : e ≠ e') (hk : v.ownBlock = some k) : v'.ownBlock ≠ some k := fun hk' => by
  obtain ⟨cs, hc⟩ := own_cells h hk
  obtain ⟨cs', hc'⟩ := own_cells h' hk'
  rw [hc] at hc'; cases hc'; exact hne rfl
theorem own_move {w w' : World} {base n : Nat} {e : TypeId} {v : Value} {xs : List Value} (h : w.ownsRow base e 1 v n xs) (hk : ∀ k, v.ownBlock = some k → w'.heap[k]? = w.heap[k]?) : w'.ownsRow base e 1 v n xs := by
  refine ⟨h.1, ?_⟩
  rcases h.2 with h2 | ⟨g, cap, cur, hv, hg, hh, r⟩
  · exact .inl h2
  · exact .inr ⟨g, cap, cur, hv, hg, (hk g (by rw [hv]; rfl)).trans hh, r⟩
theorem own_grown {w w' : World} {base base' n n' : Nat} {e e' : TypeId} {v v' : Value} {xs xs' : List Value} (h : w.ownsRow base e 1 v n xs) (h' : w.ownsRow base' e' 1 v' n' xs') (hne : e ≠ e') (hg : w.grownBy w' v'.ownBlock) : w'.ownsRow base e 1 v n xs :=
  own_move h fun k hk => hg.block k (own_ge h hk).2 fun e => own_apart h h' hne hk e.symm
theorem own_far {w : World} {base n g t : Nat} {e : TypeId} {v : Value} {xs : List Value} {cs : Array Value} (h : w.ownsRow base e 1 v n xs) (hb : Blk w g t cs) (hne : e ≠ t) (o : Nat) (u : Value) : (w.setCell ⟨g, o, none⟩ u).ownsRow base e 1 v n xs :=
  own_move h fun k hk => heap_setCell_other w ⟨g, o, none⟩ k u fun e => by
    obtain ⟨cs', hc⟩ := own_cells h hk
    have e : k = g := e
    subst e
    rw [hb] at hc; cases hc; exact hne rfl
theorem own_neB {w : World} {base n g t : Nat} {e : TypeId} {v : Value} {xs : List Value} {cs : Array Value} (h : w.ownsRow base e 1 v n xs) (hb : Blk w g t cs) (hne : t ≠ e) : some g ≠ v.ownBlock := fun hk => by
  obtain ⟨cs', hc⟩ := own_cells h hk.symm
  rw [hb] at hc; cases hc; exact hne rfl
/-- how long a slice is -/
def lenV : Value → Nat
  | .slice _ n _ => n
  | _ => 0
theorem own_len {w : World} {base n : Nat} {e : TypeId} {v : Value} {xs : List Value} (h : w.ownsRow base e 1 v n xs) : lenV v = n := by
  obtain ⟨A, c, rfl, _⟩ := own_arr h
  rfl
end Go.Proofs.Ytdimlpcbbkokiaa
