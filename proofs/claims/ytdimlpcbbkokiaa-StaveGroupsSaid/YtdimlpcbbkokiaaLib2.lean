/- More plain lemmas on memory: rows that the call owns. No program in sight. -/
import Derived.Test.YtdimlpcbbkokiaaLib
namespace Go.Proofs.Ytdimlpcbbkokiaa
open Go.RowKit
set_option linter.unusedVariables false
theorem own_ge {w : World} {base : Nat} {e : TypeId} {size n k : Nat} {v : Value} {xs : List Value} (h : w.ownsRow base e size v n xs) (hk : v.ownBlock = some k) : base ≤ k ∧ k < w.heap.size := by
  rcases h.2 with ⟨rfl, _⟩ | ⟨g, cap, cur, rfl, hb, hh, _⟩
  · simp [Value.ownBlock] at hk
  · simp [Value.ownBlock] at hk
    subst hk
    exact ⟨hb, (Array.getElem?_eq_some_iff.1 hh).1⟩
theorem own_ne {w : World} {base : Nat} {e : TypeId} {size n g : Nat} {v : Value} {xs : List Value} (h : w.ownsRow base e size v n xs) (hg : g < base) : some g ≠ v.ownBlock := fun e => by
  have := (own_ge h e.symm).1; omega
theorem own_below {w w' : World} {base n : Nat} {e : TypeId} {v : Value} {xs : List Value} (h : w.ownsRow base e 1 v n xs) (hb : Below w.heap.size w w') : w'.ownsRow base e 1 v n xs := by
  refine ⟨h.1, ?_⟩
  rcases h.2 with h2 | ⟨g, cap, cur, hv, hg, hh, r⟩
  · exact .inl h2
  · exact .inr ⟨g, cap, cur, hv, hg, (hb.block g (Array.getElem?_eq_some_iff.1 hh).1).trans hh, r⟩
/-- an owned row of one-cell elements, read as a list -/
theorem own_arr {w : World} {base n : Nat} {e : TypeId} {v : Value} {xs : List Value} (h : w.ownsRow base e 1 v n xs) : ∃ A c, v = .slice A n c ∧ n ≤ c ∧ Arr w w.heap.size A n (fun i => xs.getD i.toNat default) := by
  rcases h.2 with ⟨rfl, rfl⟩ | ⟨g, cap, cur, rfl, hb, hh, hc, _, hs, ht⟩
  · exact ⟨none, 0, rfl, Nat.le_refl _, Arr.nil⟩
  · refine ⟨_, _, rfl, hc, fun _ => ⟨g, 0, rfl, (Array.getElem?_eq_some_iff.1 hh).1, fun i h0 hi => ?_⟩⟩
    rw [Nat.zero_add, cell_of_row w g _ cur e (0, 0) hh]
    have hl : xs.length = n := by rw [h.1]; omega
    have hi' : i.toNat < xs.length := by omega
    show cur[i.toNat]? = some (xs.getD i.toNat default)
    rw [List.getD_eq_getElem?_getD, List.getElem?_eq_getElem hi']
    have : xs[i.toNat]? = cur.toList[i.toNat]? := by
      rw [← ht, List.getElem?_take]
      simp; omega
    rw [List.getElem?_eq_getElem hi'] at this
    simpa using this.symm
end Go.Proofs.Ytdimlpcbbkokiaa
