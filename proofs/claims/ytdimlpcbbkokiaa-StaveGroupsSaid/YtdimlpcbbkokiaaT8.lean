/- A function that leaves with several marks of ranges over functions among its deferred calls. No program in sight. -/
import Derived.Test.YtdimlpcbbkokiaaLib3
import Derived.RangeFuncNested
import Derived.RangeFuncFrom
namespace Go.Proofs.Ytdimlpcbbkokiaa
open Go.RowKit
set_option linter.unusedVariables false

/-- the marks of these blocks -/
def marks (Ds : List Nat) : List Deferred := Ds.map fun D => { target := .collected D, args := #[] }
/-- blocks that hold no deferred calls -/
def Held (w : World) (Ds : List Nat) : Prop := Ds.Nodup ∧ ∀ D ∈ Ds, w.heap[D]? = some (.deferred (some []))
theorem Held.nil (w : World) : Held w [] := ⟨List.nodup_nil, fun _ h => by simp at h⟩
theorem Held.cons {w : World} {Ds : List Nat} {D : Nat} (h : Held w Ds) (hD : w.heap[D]? = some (.deferred (some []))) (hn : D ∉ Ds) : Held w (D :: Ds) :=
  ⟨List.nodup_cons.2 ⟨hn, h.1⟩, fun E hE => by rcases List.mem_cons.1 hE with rfl | hE <;> first | exact hD | exact h.2 E hE⟩
theorem Held.keep {w w' : World} {Ds : List Nat} (h : Held w Ds) (k : ∀ D : Nat, w.heap[D]? = some (Obj.deferred (some [])) → w'.heap[D]? = some (Obj.deferred (some []))) : Held w' Ds := ⟨h.1, fun D hD => k D (h.2 D hD)⟩
theorem leavesM_marks {P : Program} {F : Fence} {n : Nat} {fn : Func} {tmps : Array Value} {R : Ending → World → Prop} {B : Nat} (Ds : List Nat) (w : World) (h : Held w Ds) (hB : ∀ D ∈ Ds, B ≤ D)
    (hend : ∀ w', Below B w w' → (∀ k, k < w.heap.size → k ∉ Ds → w'.heap[k]? = w.heap[k]?) → LeavesIn F n P fn tmps R [] .returning w') : LeavesInM F n P fn tmps R (marks Ds) .returning w := by
  induction Ds generalizing w with
  | nil => exact hend w (Below.refl _ _) fun _ _ _ => rfl
  | cons D Ds ih =>
    have hD := h.2 D (List.mem_cons_self ..)
    have hl := (Array.getElem?_eq_some_iff.1 hD).1
    have hg := grownBy_putObj' w D (.deferred none)
    have hb : Below B w (w.putObj D (.deferred none)) := (Below.refl B w).grown hg (by have := hB D (List.mem_cons_self ..); omega) (fun k e => by cases e; exact hB D (List.mem_cons_self ..))
    refine ⟨by simp, .inl ⟨D, _, rfl, run_takeDeferred hD, ?_⟩⟩
    refine ih _ ⟨(List.nodup_cons.1 h.1).2, fun E hE => ?_⟩ (fun E hE => hB E (List.mem_cons_of_mem _ hE)) (fun w' hw hk => hend w' (hb.trans hw) fun k h1 h2 => ?_)
    · have hne : E ≠ D := fun e => (List.nodup_cons.1 h.1).1 (e ▸ hE)
      have hE' := h.2 E (List.mem_cons_of_mem _ hE)
      rw [← hE']
      exact hg.block E ((Array.getElem?_eq_some_iff.1 hE').1) (by intro e; cases e; exact hne rfl)
    · refine (hk k (Nat.lt_of_lt_of_le h1 hg.size) fun hm => h2 (List.mem_cons_of_mem _ hm)).trans (hg.block k h1 ?_)
      intro e; cases e; exact h2 (List.mem_cons_self ..)
end Go.Proofs.Ytdimlpcbbkokiaa
