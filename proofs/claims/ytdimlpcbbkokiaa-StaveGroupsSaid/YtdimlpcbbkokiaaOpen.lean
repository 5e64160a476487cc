/- How an argument of a statement is opened: slices of integers and images, as functions of the index. -/
import Derived.Test.YtdimlpcbbkokiaaRows
import Derived.Test.YtdimlpcbbkokiaaLib
import Derived.ProofKit
import Derived.OpenShut
import Derived.ShutString
import Derived.ChangeOld
import Derived.Lib.SmallJoins
namespace Go.Proofs.Ytdimlpcbbkokiaa
open Go.ChangeShapes Go.WideShapes Go.ChangeAt Go.RowKit Go.Deep
set_option linter.unusedVariables false

theorem Try.own : ownKnob Try.prog.godebug = none := by kernel_rfl
theorem Try.laidOut : laidOutB Try.prog = true := by kernel_rfl

theorem addr_plain {w : World} {a : Addr} {v : Value} (h : w.cell? a = some v) : ∃ b off, a = ⟨b, off, none⟩ := by
  obtain ⟨b, off, spot⟩ := a
  have hs : spot = none := by simpa using World.cell?_spot h
  subst hs
  exact ⟨b, off, rfl⟩

section
variable {H : Type} {enc : TypeId × Value → H} {P : Program} {w : World}
theorem ints_of {t e : TypeId} {k : IntKind} {fuel : Nat} {v : Value} {x : DataW H × List MemPlace} (ht : P.underlying t = some (.slice e)) (he : P.underlying e = some (.int k)) (hc : P.cellsOf e = 1) (h0 : (Lit.int k 0).wf = true)
    (h : DataW.trod enc P w 0 (fun _ => true) true fuel t [v] = some x) :
    ∃ A n c zs, v = .slice A n c ∧ (A = none → c = 0) ∧ n ≤ c ∧ c ≤ maxLen ∧ Arr w w.heap.size A n (fun i => .int k (lit zs i)) ∧ ∀ i, (Lit.int k (lit zs i)).wf = true := by
  rcases open_ints ht he hc h with ⟨hcs, _⟩ | ⟨a, l, c, zs, hcs, _, hl, hm, hz, _, hcell, hwz⟩
  · simp at hcs
    exact ⟨none, 0, 0, [], hcs, fun _ => rfl, Nat.le_refl _, Nat.zero_le _, Arr.nil, fun i => by simpa [lit] using h0⟩
  · simp at hcs
    refine ⟨some a, l, c, zs, hcs, (fun e => by cases e), hl, hm, fun hn => ?_, fun i => ?_⟩
    · have hz' : zs.length = c := by simpa using hz
      have c0 := hcell 0 (by omega)
      obtain ⟨b, off, e⟩ := addr_plain c0
      have ha : a = ⟨b, off, none⟩ := by simpa [Addr.add] using e
      subst ha
      refine ⟨b, off, rfl, block_lt_of_cell c0, fun i h0 hi => ?_⟩
      have := hcell i.toNat (by omega)
      have hadd : (⟨b, off, none⟩ : Addr).add i.toNat = ⟨b, off + i.toNat, none⟩ := by
        unfold Addr.add; split
        · rename_i e; rw [e]; rfl
        · rfl
      rw [hadd] at this
      exact this
    · unfold lit
      rw [List.getD_eq_getElem?_getD]
      by_cases hi : i.toNat < zs.length
      · rw [List.getElem?_eq_getElem hi]; exact hwz _ (List.getElem_mem hi)
      · rw [List.getElem?_eq_none (by omega)]; exact h0
theorem open_sl {t e : TypeId} {k : IntKind} {v : Value} {d : DataW H} {p : List MemPlace} {base : Nat} (ht : P.underlying t = some (.slice e)) (he : P.underlying e = some (.int k)) (hc : P.cellsOf e = 1) (h0 : (Lit.int k 0).wf = true)
    (hv : Value.okWide P w .any base t v) (h : DataW.Trod enc P w 0 (fun _ => true) true t v d p) :
    ∃ A n c zs, v = .slice A n c ∧ (A = none → c = 0) ∧ n ≤ c ∧ c ≤ maxLen ∧ Arr w w.heap.size A n (fun i => .int k (lit zs i)) ∧ ∀ i, (Lit.int k (lit zs i)).wf = true := by
  obtain ⟨a0, l0, c0, rfl⟩ := okWide_slice ht hv
  obtain ⟨fuel, hf⟩ := h
  exact ints_of ht he hc h0 (by simpa [Value.cells] using hf)
/-- a struct of two ints and a slice of bytes: Ink, Grey -/
theorem open_img {t tI tB eB : TypeId} {f0 f1 f2 : Field} {v : Value} {d : DataW H} {p : List MemPlace} {base : Nat} (hs : P.underlying t = some (.struct #[f0, f1, f2])) (e0 : f0.type = tI) (e1 : f1.type = tI) (e2 : f2.type = tB)
    (hone : oneCellFields P #[f0, f1, f2] = true) (hC : P.cellsOf t = 3) (hI : P.underlying tI = some (.int .i64)) (hB : P.underlying tB = some (.slice eB)) (hE : P.underlying eB = some (.int .u8)) (hcE : P.cellsOf eB = 1)
    (hv : Value.okWide P w .any base t v) (h : DataW.Trod enc P w 0 (fun _ => true) true t v d p) :
    ∃ W Hh A n c zs, v = .agg #[.int .i64 W, .int .i64 Hh, .slice A n c] ∧ (Lit.int .i64 W).wf = true ∧ (Lit.int .i64 Hh).wf = true ∧ (A = none → c = 0) ∧ n ≤ c ∧ c ≤ maxLen ∧ ArrB w w.heap.size A n (lit zs) ∧ IsB (lit zs) := by
  obtain ⟨v0, v1, v2, y0, y1, y2, n, rfl, -, -, h0, h1, h2⟩ := Go.Joins.open_agg3 hs hone hC hv h
  rw [e0] at h0; rw [e1] at h1; rw [e2] at h2
  obtain ⟨W, hw, -, wW⟩ := DataW.trod_int hI h0
  obtain ⟨Hh, hh, -, wH⟩ := DataW.trod_int hI h1
  simp at hw hh
  subst hw; subst hh
  obtain ⟨A, m, c, zs, rfl, z, a, b, d, e⟩ := ints_of hB hE hcE (by decide) h2
  exact ⟨W, Hh, A, m, c, zs, rfl, wW, wH, z, a, b, d, fun i => bounds_u8 (e i)⟩
end
end Go.Proofs.Ytdimlpcbbkokiaa
