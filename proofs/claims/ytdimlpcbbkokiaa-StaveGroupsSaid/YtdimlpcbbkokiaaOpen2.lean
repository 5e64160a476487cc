/- How an argument that is a list of lists of numbers, or a struct of one, is opened. -/
import Derived.Test.YtdimlpcbbkokiaaOpen
import Derived.Test.YtdimlpcbbkokiaaT29
import Derived.Deep.Matrix
import Derived.SizedLaws
import Derived.ChangeSame
namespace Go.Proofs.Ytdimlpcbbkokiaa
open Go.ChangeShapes Go.WideShapes Go.ChangeAt Go.RowKit Go.Deep
set_option linter.unusedVariables false

theorem weightsAll_mem {H : Type} {P : Program} {e : TypeId} : ∀ {l : List (DataW H)} {d : DataW H}, d ∈ l → ∀ n ∈ d.weights P e, n ∈ DataW.weightsAll P e l
  | d' :: r, d, hd, n, hn => by
    simp only [DataW.weightsAll, List.mem_append]
    rcases List.mem_cons.1 hd with rfl | h
    · exact Or.inl hn
    · exact Or.inr (weightsAll_mem h n hn)
theorem add_plain (b off i : Nat) : (⟨b, off, none⟩ : Addr).add i = ⟨b, off + i, none⟩ := by
  unfold Addr.add; split
  · rename_i e; rw [e]; rfl
  · rfl
section
variable {H : Type} {enc : TypeId × Value → H} {P : Program} {w : World}
/-- what is known of lines that came in -/
structure LinesIn (w : World) (A : Option Addr) (K c : Nat) (m : Nat → Nat) (ln : Nat → Nat → Int) : Prop where
  nil : A = none → c = 0
  le : K ≤ c
  lines : LinesZ w w.heap.size A K m ln
  lens : ∀ i, i < K → m i ≤ 17592186044416
  outer : c ≤ 17592186044416
  wf : ∀ i j, i < K → (Lit.int .i64 (ln i j)).wf = true
theorem lines_of {t e q : TypeId} {fuel : Nat} {v : Value} {x : DataW H × List MemPlace} (ht : P.underlying t = some (.slice e)) (he : P.underlying e = some (.slice q)) (hq : P.underlying q = some (.int .i64)) (ce : P.cellsOf e = 1) (cq : P.cellsOf q = 1) (be : 8 ≤ P.bytesOf e) (bq : P.bytesOf q = 8)
    (h : DataW.trod enc P w 0 (fun _ => true) true fuel t [v] = some x) (hw : ∀ n ∈ x.1.weights P t, n ≤ reachBytes) :
    ∃ A K c m ln, v = .slice A K c ∧ LinesIn w A K c m ln := by
  have hr : reachBytes = 140737488351232 := rfl
  rcases open_int_rows ht he hq ce cq h with ⟨hcs, _⟩ | ⟨a, len, cap, A, L, C, Z, hcs, _, hl, hm, rfl, hrow⟩
  · simp at hcs
    exact ⟨none, 0, 0, fun _ => 0, fun _ _ => 0, hcs, fun _ => rfl, Nat.le_refl _, ⟨fun _ => default, Arr.nil, fun i hi => by omega⟩, fun i hi => by omega, by omega, fun i j hi => by omega⟩
  · simp at hcs
    have w0 : cap * P.bytesOf e ≤ reachBytes := hw _ (by
      simp only [DataW.weights, ht, List.mem_cons]
      left
      rw [List.length_map, List.length_map, List.length_range, List.length_range, show len + (cap - len) = cap by omega])
    have w1 : ∀ r, r < len → L r ≤ C r → (Z r).length = C r → (A r = none → C r = 0) → C r * 8 ≤ reachBytes := fun r hr' h1 h2 h3 => by
      cases hA : A r with
      | none => rw [h3 hA]; omega
      | some a' =>
        refine hw _ ?_
        simp only [DataW.weights, ht, List.mem_cons, List.mem_append]
        right; left
        refine weightsAll_mem (d := intRow .i64 (A r) (L r) (Z r)) (List.mem_map.2 ⟨r, List.mem_range.2 hr', rfl⟩) _ ?_
        unfold intRow
        rw [hA]
        simp only [DataW.weights, he, List.mem_cons]
        left
        rw [bq]
        simp only [lits, List.length_map, List.length_take, List.length_drop]
        rw [h2, show min (L r) (C r) + (C r - L r) = C r by omega]
    refine ⟨some a, len, cap, L, fun i j => (Z i).getD j 0, hcs, (fun e => by cases e), hl, ⟨fun r => .slice (A r) (L r) (C r), fun hn => ?_, fun r hr' => ?_⟩, fun r hr' => ?_, ?_, fun r j hr' => ?_⟩
    · obtain ⟨c0, -⟩ := hrow 0 (by omega)
      obtain ⟨b, off, e0⟩ := addr_plain c0
      have ha : a = ⟨b, off, none⟩ := by simpa [Addr.add] using e0
      subst ha
      refine ⟨b, off, rfl, block_lt_of_cell c0, fun i i0 i1 => ?_⟩
      obtain ⟨ci, -⟩ := hrow i.toNat (by omega)
      rw [add_plain] at ci
      exact ci
    · obtain ⟨_, h1, h2, h3, h4, h5, h6⟩ := hrow r (by omega)
      refine ⟨A r, C r, rfl, h5, fun hn => ?_⟩
      cases hA : A r with
      | none => have := h5 hA; omega
      | some a' =>
        obtain ⟨-, hcell⟩ := h6 a' hA
        have c0 := hcell 0 (by omega)
        obtain ⟨b, off, e0⟩ := addr_plain c0
        have ha : a' = ⟨b, off, none⟩ := by simpa [Addr.add] using e0
        subst ha
        refine ⟨b, off, rfl, block_lt_of_cell c0, fun i i0 i1 => ?_⟩
        have := hcell i.toNat (by omega)
        rw [add_plain] at this
        exact this
    · obtain ⟨_, h1, h2, h3, h4, h5, h6⟩ := hrow r (by omega)
      have := w1 r hr' h1 h3 h5
      omega
    · have : cap * 8 ≤ cap * P.bytesOf e := Nat.mul_le_mul_left _ be
      omega
    · obtain ⟨_, h1, h2, h3, h4, h5, h6⟩ := hrow r (by omega)
      rw [List.getD_eq_getElem?_getD]
      by_cases hj : j < (Z r).length
      · rw [List.getElem?_eq_getElem hj]; exact h4 _ (List.getElem_mem hj)
      · rw [List.getElem?_eq_none (by omega)]; decide
theorem open_lines {t e q : TypeId} {v : Value} {d : DataW H} {p : List MemPlace} {base : Nat} (ht : P.underlying t = some (.slice e)) (he : P.underlying e = some (.slice q)) (hq : P.underlying q = some (.int .i64)) (ce : P.cellsOf e = 1) (cq : P.cellsOf q = 1) (be : 8 ≤ P.bytesOf e) (bq : P.bytesOf q = 8)
    (hv : Value.okWide P w .any base t v) (h : DataW.Trod enc P w 0 (fun _ => true) true t v d p) (hw : ∀ n ∈ d.weights P t, n ≤ reachBytes) :
    ∃ A K c m ln, v = .slice A K c ∧ LinesIn w A K c m ln := by
  obtain ⟨a0, l0, c0, rfl⟩ := okWide_slice ht hv
  obtain ⟨fuel, hf⟩ := h
  exact lines_of ht he hq ce cq be bq (by simpa [Value.cells] using hf) hw
/-- a struct of one list of lines: Stave -/
theorem open_stave {t tL e q : TypeId} {f0 : Field} {v : Value} {d : DataW H} {p : List MemPlace} {base : Nat} (hs : P.underlying t = some (.struct #[f0])) (e0 : f0.type = tL) (o0 : f0.offset = 0) (hC : P.cellsOf t = 1) (hCL : P.cellsOf tL = 1)
    (ht : P.underlying tL = some (.slice e)) (he : P.underlying e = some (.slice q)) (hq : P.underlying q = some (.int .i64)) (ce : P.cellsOf e = 1) (cq : P.cellsOf q = 1) (be : 8 ≤ P.bytesOf e) (bq : P.bytesOf q = 8)
    (hv : Value.okWide P w .any base t v) (h : DataW.Trod enc P w 0 (fun _ => true) true t v d p) (hw : ∀ n ∈ d.weights P t, n ≤ reachBytes) :
    ∃ A K c m ln, v = .agg #[.slice A K c] ∧ LinesIn w A K c m ln := by
  obtain ⟨cs, rfl, hsz⟩ := okWide_struct hs hv
  obtain ⟨c0, rfl⟩ : ∃ c0, cs = #[c0] := Array.size_eq_one_iff.1 (hsz.trans hC)
  obtain ⟨fuel, hf⟩ := h
  obtain ⟨y0, n, hx, _, h0⟩ := trod_struct1 hs hf
  simp only [Prod.mk.injEq] at hx
  obtain ⟨A, K, c, m, ln, rfl, hl⟩ := lines_of (v := c0) (x := y0) ht he hq ce cq be bq (by rw [← e0]; simpa [Value.cells, o0, e0, hCL] using h0) (fun k hk => hw k (by
    rw [hx.1]
    simp only [DataW.weights, hs, DataW.weightsEach, List.map_cons, List.map_nil, List.mem_append]
    left
    rw [e0]; exact hk))
  exact ⟨A, K, c, m, ln, rfl, hl⟩
end
end Go.Proofs.Ytdimlpcbbkokiaa
