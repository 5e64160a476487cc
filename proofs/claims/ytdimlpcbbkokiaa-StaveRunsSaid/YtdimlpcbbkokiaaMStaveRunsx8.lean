/- Texts of mine in build order: S13, S14, T49, T50, T51, T52, B0, T53. Conditions: each theorem's own. -/
import Derived.Test.YtdimlpcbbkokiaaMStaveRunsx7
import Derived.Lib.SlicesCompact
import Derived.Lib.SliceRun
import Derived.Laws.StructEq
import Derived.Shelf.Slices.CompactI
import Derived.Shelf.SlSortCmp.NoneTotal
import Derived.Deep.DeepCutAuto
import Derived.Deep.Cut
import Derived.Deep.CutBlock
import Derived.Laws.CopyOwn
/- Plain: how lines bend (Wavy): where a bend stands, how far the lines have risen. No program in sight. -/
namespace Go.Proofs.Ytdimlpcbbkokiaa
open Go.RowKit
set_option linter.unusedVariables false
/-- where bend k stands, counted from 1 -/
def bxF (p : Int → Int) : Nat → Int
  | 0 => 0
  | k + 1 => bxF p k + (8 + p k % 16)
/-- how far bend k rises -/
def bdF (p : Int → Int) (k : Nat) : Int := p k / 16 % 3 - 1
/-- how far the lines have risen behind k bends -/
def byF (p : Int → Int) : Nat → Int
  | 0 => 0
  | k + 1 => byF p k + bdF p k
/-- how far the lines have risen in column i, of k bends -/
def rsF (p : Int → Int) : Nat → Int → Int
  | 0, _ => 0
  | k + 1, i => rsF p k i + if bxF p (k + 1) ≤ i then bdF p k else 0
section
variable {p : Int → Int}
theorem bdF_bd (k : Nat) : -1 ≤ bdF p k ∧ bdF p k ≤ 1 := by unfold bdF; omega
theorem bxF_step (k : Nat) : bxF p k + 8 ≤ bxF p (k + 1) ∧ bxF p (k + 1) ≤ bxF p k + 23 := by
  have e : bxF p (k + 1) = bxF p k + (8 + p k % 16) := rfl
  omega
theorem bxF_lo : ∀ k : Nat, 8 * (k : Int) ≤ bxF p k
  | 0 => by simp [bxF]
  | k + 1 => by have := bxF_lo k; have := (bxF_step (p := p) k).1; omega
theorem bxF_mono {k m : Nat} (h : k ≤ m) : bxF p k ≤ bxF p m := by
  induction m with
  | zero => obtain rfl : k = 0 := by omega
            exact Int.le_refl _
  | succ m ih =>
    by_cases e : k = m + 1
    · subst e; exact Int.le_refl _
    · have := ih (by omega); have := (bxF_step (p := p) m).1; omega
theorem byF_bd : ∀ k : Nat, -(k : Int) ≤ byF p k ∧ byF p k ≤ k
  | 0 => by simp [byF]
  | k + 1 => by have := byF_bd k; have := bdF_bd (p := p) k; unfold byF; omega
theorem rsF_bd : ∀ (k : Nat) (i : Int), -(k : Int) ≤ rsF p k i ∧ rsF p k i ≤ k
  | 0, i => by simp [rsF]
  | k + 1, i => by
    have := rsF_bd k i
    have := bdF_bd (p := p) k
    unfold rsF
    split <;> omega
/-- behind all bends -/
theorem rsF_far : ∀ {k : Nat} {i : Int}, bxF p k ≤ i → rsF p k i = byF p k
  | 0, i, _ => rfl
  | k + 1, i, h => by
    have := (bxF_step (p := p) k).1
    unfold rsF byF
    rw [rsF_far (show bxF p k ≤ i by omega), if_pos h]
/-- further bends turn nothing ahead of them -/
theorem rsF_stop {k : Nat} {i : Int} (h : i < bxF p (k + 1)) : ∀ {m : Nat}, k ≤ m → rsF p m i = rsF p k i := by
  intro m
  induction m with
  | zero => intro hk; obtain rfl : k = 0 := by omega
            rfl
  | succ m ih =>
    intro hk
    by_cases e : k = m + 1
    · subst e; rfl
    · have h1 := bxF_mono (p := p) (k := k + 1) (m := m + 1) (by omega)
      have e1 : rsF p (m + 1) i = rsF p m i + if bxF p (m + 1) ≤ i then bdF p m else 0 := rfl
      rw [e1, ih (by omega), if_neg (by omega)]; omega
/-- one bend more, drawn from its column on -/
theorem rsF_draw {k : Nat} {x : Int} (hx : bxF p (k + 1) ≤ x) : rsF p (k + 1) x = byF p (k + 1) := rsF_far hx
theorem rsF_ahead {k : Nat} {i : Int} (h : i < bxF p (k + 1)) : rsF p (k + 1) i = rsF p k i := rsF_stop h (by omega)
/-- neighbouring columns: the lines are paths -/
theorem rsF_near : ∀ (k : Nat) (i : Int), (-1 ≤ rsF p k (i + 1) - rsF p k i ∧ rsF p k (i + 1) - rsF p k i ≤ 1) ∧ (bxF p k < i + 1 → rsF p k (i + 1) = rsF p k i)
  | 0, i => by simp [rsF]
  | k + 1, i => by
    obtain ⟨h1, h2⟩ := rsF_near k i
    have h3 := bdF_bd (p := p) k
    have h4 := (bxF_step (p := p) k).1
    have e1 : rsF p (k + 1) (i + 1) = rsF p k (i + 1) + if bxF p (k + 1) ≤ i + 1 then bdF p k else 0 := rfl
    have e2 : rsF p (k + 1) i = rsF p k i + if bxF p (k + 1) ≤ i then bdF p k else 0 := rfl
    rw [e1, e2]
    by_cases c1 : bxF p (k + 1) ≤ i
    · have := h2 (by omega)
      rw [if_pos c1, if_pos (by omega)]
      omega
    · by_cases c2 : bxF p (k + 1) ≤ i + 1
      · have := h2 (by omega)
        rw [if_neg c1, if_pos c2]
        omega
      · rw [if_neg c1, if_neg c2]
        omega
end
/-- the least and the greatest of the first n + 1 -/
theorem minAq_le {q : Int → Int} {minA : (Int → Int) → Nat → Int} (h0 : ∀ q, minA q 0 = q 0) (hs : ∀ q i, minA q (i + 1) = if q ((i : Int) + 1) < minA q i then q ((i : Int) + 1) else minA q i) : ∀ n : Nat, (∀ j : Int, 0 ≤ j → j ≤ n → minA q n ≤ q j) ∧ ∃ j : Int, 0 ≤ j ∧ j ≤ n ∧ minA q n = q j
  | 0 => by
    rw [h0]
    exact ⟨fun j a b => by obtain rfl : j = 0 := by omega
                           exact Int.le_refl _, 0, by omega, by omega, rfl⟩
  | n + 1 => by
    obtain ⟨h1, j0, a0, b0, e0⟩ := minAq_le (q := q) h0 hs n
    rw [hs]
    by_cases c : q ((n : Int) + 1) < minA q n
    · rw [if_pos c]
      refine ⟨fun j a b => ?_, (n : Int) + 1, by omega, by omega, rfl⟩
      by_cases e : j = (n : Int) + 1
      · rw [e]; exact Int.le_refl _
      · have := h1 j a (by omega); omega
    · rw [if_neg c]
      refine ⟨fun j a b => ?_, j0, a0, by omega, e0⟩
      by_cases e : j = (n : Int) + 1
      · rw [e]; exact Int.not_lt.1 c
      · exact h1 j a (by omega)
theorem maxAq_ge {q : Int → Int} {maxA : (Int → Int) → Nat → Int} (h0 : ∀ q, maxA q 0 = q 0) (hs : ∀ q i, maxA q (i + 1) = if maxA q i < q ((i : Int) + 1) then q ((i : Int) + 1) else maxA q i) : ∀ n : Nat, (∀ j : Int, 0 ≤ j → j ≤ n → q j ≤ maxA q n) ∧ ∃ j : Int, 0 ≤ j ∧ j ≤ n ∧ maxA q n = q j
  | 0 => by
    rw [h0]
    exact ⟨fun j a b => by obtain rfl : j = 0 := by omega
                           exact Int.le_refl _, 0, by omega, by omega, rfl⟩
  | n + 1 => by
    obtain ⟨h1, j0, a0, b0, e0⟩ := maxAq_ge (q := q) h0 hs n
    rw [hs]
    by_cases c : maxA q n < q ((n : Int) + 1)
    · rw [if_pos c]
      refine ⟨fun j a b => ?_, (n : Int) + 1, by omega, by omega, rfl⟩
      by_cases e : j = (n : Int) + 1
      · rw [e]; exact Int.le_refl _
      · have := h1 j a (by omega); omega
    · rw [if_neg c]
      refine ⟨fun j a b => ?_, j0, a0, by omega, e0⟩
      by_cases e : j = (n : Int) + 1
      · rw [e]; exact Int.not_lt.1 c
      · exact h1 j a (by omega)
end Go.Proofs.Ytdimlpcbbkokiaa

/- Plain: the lines and pixels of images with staves that bend (Wavy). No program in sight. -/
namespace Go.Proofs.Ytdimlpcbbkokiaa
open Go.RowKit
set_option linter.unusedVariables false
/-- line t: line t % 5 of stave t / 5 -/
def wvL (low : Int) (R : Int → Int) (t : Nat) (j : Nat) : Int := 5 - low + ((t / 5 : Nat) : Int) * 36 + 6 * ((t % 5 : Nat) : Int) + R j
theorem wvL_at (low : Int) (R : Int → Int) (i k j : Nat) (hk : k < 5) : wvL low R (5 * i + k) j = 5 - low + (i : Int) * 36 + 6 * (k : Int) + R j := by
  unfold wvL
  rw [show (5 * i + k) / 5 = i by omega, show (5 * i + k) % 5 = k by omega]
/-- the pixels: the lines before t, and line t before column x -/
def wvQ (W : Int) (L : Nat → Nat → Int) (t : Nat) (x : Int) : Int → Int := fun i =>
  if (List.range t).any (fun s => decide (L s (i % W).toNat = i / W)) = true ∨ (L t (i % W).toNat = i / W ∧ i % W < x) then 1 else 0
section
variable {W : Int} {L : Nat → Nat → Int} {t : Nat} {x i : Int}
theorem wvQ_start (hW : 0 < W) : wvQ W L 0 0 i = 0 := by
  have := Int.emod_nonneg i (show W ≠ 0 by omega)
  unfold wvQ; rw [if_neg]
  rintro (h | h)
  · simp at h
  · omega
theorem wvQ_line (hW : 0 < W) : wvQ W L t W i = wvQ W L (t + 1) 0 i := by
  have h1 := Int.emod_lt_of_pos i hW
  have h2 := Int.emod_nonneg i (show W ≠ 0 by omega)
  unfold wvQ
  have e : (List.range (t + 1)).any (fun s => decide (L s (i % W).toNat = i / W)) = ((List.range t).any (fun s => decide (L s (i % W).toNat = i / W)) || decide (L t (i % W).toNat = i / W)) := by
    rw [List.range_succ, List.any_append]; simp
  rw [e]
  by_cases c : (List.range t).any (fun s => decide (L s (i % W).toNat = i / W)) = true
  · rw [if_pos (.inl c), if_pos (.inl (by rw [c]; rfl))]
  · by_cases d : L t (i % W).toNat = i / W
    · rw [if_pos (.inr ⟨d, h1⟩), if_pos (.inl (by rw [decide_eq_true d]; simp))]
    · rw [if_neg (by rintro (h | h); exact c h; exact d h.1), if_neg]
      rintro (h | h)
      · rw [Bool.or_eq_true] at h
        rcases h with h | h
        · exact c h
        · exact d (of_decide_eq_true h)
      · omega
theorem wvQ_set (x0 : 0 ≤ x) (x1 : x < W) : upd (wvQ W L t x) (L t x.toNat * W + x) 1 i = wvQ W L t (x + 1) i := by
  have a := idx_mod (y := L t x.toNat) x0 x1
  have b := idx_div (y := L t x.toNat) x0 x1
  unfold upd
  by_cases e : i = L t x.toNat * W + x
  · rw [if_pos e]
    unfold wvQ
    rw [e, a, b, if_pos (.inr ⟨rfl, by omega⟩)]
  · rw [if_neg e]
    have hne : ¬ (L t (i % W).toNat = i / W ∧ i % W = x) := by
      rintro ⟨h1, h2⟩
      rw [h2] at h1
      have := Int.emod_add_mul_ediv i W
      rw [h2, ← h1, Int.mul_comm] at this
      omega
    unfold wvQ
    by_cases c : (List.range t).any (fun s => decide (L s (i % W).toNat = i / W)) = true
    · rw [if_pos (.inl c), if_pos (.inl c)]
    · by_cases d : L t (i % W).toNat = i / W ∧ i % W < x
      · rw [if_pos (.inr d), if_pos (.inr ⟨d.1, by omega⟩)]
      · rw [if_neg (by rintro (h | h); exact c h; exact d h), if_neg]
        rintro (h | ⟨h1, h2⟩)
        · exact c h
        · by_cases h3 : i % W = x
          · exact hne ⟨h1, h3⟩
          · exact d ⟨h1, by omega⟩
theorem wvQ_is01 : Is01 (wvQ W L t x) := fun i => by unfold wvQ; split <;> simp
end
theorem But.trans {B B' k : Nat} {w w' w'' : World} (h : But B k w w') (h' : But B' k w' w'') (hB : B ≤ B') : But B k w w'' :=
  ⟨h'.os.trans h.os, h'.tape.trans h.tape, h'.output.trans h.output, Nat.le_trans hB h'.size, fun j hj hk => (h'.block j (by omega) hk).trans (h.block j hj hk)⟩
theorem But.below {B B' k : Nat} {w w' w'' : World} (h : But B k w w') (h' : Below B' w' w'') (hB : B ≤ B') : But B k w w'' := h.then (h'.mono hB)
theorem FoundM.but {B B' k g : Nat} {w w' : World} {m : Nat → Nat} {ln : Nat → Nat → Int} {vo : Value} {v : Nat → Value} (h : FoundM B w m ln k vo v) (hb : But B' g w w') (hB : w.heap.size = B') (hg : g < B) : FoundM B w' m ln k vo v :=
  ⟨own_but h.row hb hB hg, fun i hi => own_but (h.lines i hi) hb hB hg⟩
theorem own_but' {w w' : World} {base n B k : Nat} {e : TypeId} {v : Value} {xs : List Value} (h : w.ownsRow base e 1 v n xs) (hb : But B k w w') (hB : w.heap.size ≤ B) (hk : k < base) : w'.ownsRow base e 1 v n xs :=
  own_move h fun j hj => hb.block j (Nat.lt_of_lt_of_le (own_ge h hj).2 hB) (by have := (own_ge h hj).1; omega)
theorem StOut.but {B B' g : Nat} {w w' : World} {m : Nat → Nat} {ln : Nat → Nat → Int} {st : List Nat} {vo : Value} {vs : Nat → Value} (h : StOut B w m ln st vo vs) (hb : But B' g w w') (hB : w.heap.size = B') (hg : g < B) : StOut B w' m ln st vo vs :=
  ⟨own_but h.row hb hB hg, fun t ht => by obtain ⟨v, hv⟩ := h.each t ht; exact ⟨v, hv.but hb hB hg⟩⟩
theorem own_lo {w : World} {base n g t : Nat} {e : TypeId} {v : Value} {xs : List Value} {cs : Array Value} (h : w.ownsRow base e 1 v n xs) (hb : Blk w g t cs) (hg : g < base) (o : Nat) (u : Value) : (w.setCell ⟨g, o, none⟩ u).ownsRow base e 1 v n xs :=
  own_move h fun k hk => heap_setCell_other w ⟨g, o, none⟩ k u fun e => by
    have := (own_ge h hk).1
    have e : k = g := e
    omega
theorem StOut.far {B g t : Nat} {w : World} {m : Nat → Nat} {ln : Nat → Nat → Int} {st : List Nat} {vo : Value} {vs : Nat → Value} {cs : Array Value} (h : StOut B w m ln st vo vs) (hb : Blk w g t cs) (hg : g < B) (o : Nat) (u : Value) : StOut B (w.setCell ⟨g, o, none⟩ u) m ln st vo vs :=
  ⟨own_lo h.row hb hg o u, fun t ht => by obtain ⟨v, hv⟩ := h.each t ht; exact ⟨v, own_lo hv.row hb hg o u, fun i hi => own_lo (hv.lines i hi) hb hg o u⟩⟩
end Go.Proofs.Ytdimlpcbbkokiaa

/- Walk: slices.Compact at runs. -/
namespace Go.Proofs.Ytdimlpcbbkokiaa
open Go.RowKit Go.Shelf Go.Lib Go.Sort
set_option linter.unusedVariables false
attribute [local go_sem] Oper.semAt_some

theorem compact_dd (l : List Rn) : ∀ m, m ≤ l.length → compactUpTo l.toArray m = dd (l.take m)
  | 0, _ => by simp [compactUpTo, dd]
  | m + 1, h => by
    rw [compactUpTo_succ, compact_dd l m (by omega), List.take_succ_eq_append_getElem (by omega)]
    have hg : ∀ j (hj : j < l.length), l.toArray[j]! = l[j] := fun j hj => by simp [hj]
    rw [hg m (by omega)]
    cases m with
    | zero => simp [dd, keeps]
    | succ m =>
      rw [List.take_succ_eq_append_getElem (i := m) (by omega), dd_snoc]
      unfold keeps
      rw [hg (m + 1) (by omega), show m + 1 - 1 = m from rfl, hg m (by omega)]
      by_cases c : l[m] = l[m + 1]
      · rw [if_pos c, if_neg (by simp [c])]; simp
      · rw [if_neg c, if_pos (by simp; exact fun e => c e.symm)]
/-- the cells of a row of runs -/
def RunC (cs : Array Value) (n : Nat) (f : Nat → Rn) : Prop := ∀ i, i < n → cs[i * 3]? = some (.int .i64 (f i).1) ∧ cs[i * 3 + 1]? = some (.int .i64 (f i).2.1) ∧ cs[i * 3 + 2]? = some (.int .i64 (f i).2.2)
theorem RunC.set {cs : Array Value} {n : Nat} {f : Nat → Rn} (h : RunC cs n f) (k : Nat) (hk : k < n) (r : Rn) :
    RunC (((cs.setIfInBounds (k * 3) (.int .i64 r.1)).setIfInBounds (k * 3 + 1) (.int .i64 r.2.1)).setIfInBounds (k * 3 + 2) (.int .i64 r.2.2)) n (fun i => if i = k then r else f i) := fun i hi => by
  have h2 : k * 3 + 2 < cs.size := (Array.getElem?_eq_some_iff.1 (h k hk).2.2).1
  simp only [Array.getElem?_setIfInBounds, Array.size_setIfInBounds]
  by_cases e : i = k
  · subst e
    simp only [if_true]
    refine ⟨?_, ?_, ?_⟩
    · rw [if_neg (by omega), if_neg (by omega), if_pos (by omega)]
    · rw [if_neg (by omega), if_pos (by omega)]
    · rw [if_pos (by omega)]
  · simp only [if_neg e]
    obtain ⟨a, b, c⟩ := h i hi
    refine ⟨?_, ?_, ?_⟩
    · rw [if_neg (by omega), if_neg (by omega), if_neg (by omega)]; exact a
    · rw [if_neg (by omega), if_neg (by omega), if_neg (by omega)]; exact b
    · rw [if_neg (by omega), if_neg (by omega), if_neg (by omega)]; exact c
theorem eqRun (a b : Rn) (w : World) : (binOp .eql 84 (.agg #[.int .i64 a.1, .int .i64 a.2.1, .int .i64 a.2.2]) (.agg #[.int .i64 b.1, .int .i64 b.2.1, .int .i64 b.2.2])).run Try.prog w = .ok (.bool (decide (a = b))) w := by
  obtain ⟨a1, a2, a3⟩ := a
  obtain ⟨b1, b2, b3⟩ := b
  have e : decide ((a1, a2, a3) = (b1, b2, b3)) = (decide (a1 = b1) && (decide (a2 = b2) && decide (a3 = b3))) := by
    simp [Prod.ext_iff, Bool.decide_and]
  rw [e]
  clear e
  by_cases h1 : a1 = b1 <;> by_cases h2 : a2 = b2 <;> by_cases h3 : a3 = b3 <;> go_simp
theorem setCells_blk (g : Nat) {t : TypeId} : ∀ (vs : List Value) (o : Nat) (w : World) (cs : Array Value), Blk w g t cs →
    (∃ cs', Blk (w.setCells g o vs) g t cs' ∧ cs'.size = cs.size ∧ ∀ i, i < o → cs'[i]? = cs[i]?) ∧ But w.heap.size g w (w.setCells g o vs)
  | [], o, w, cs, h => ⟨⟨cs, h, rfl, fun _ _ => rfl⟩, But.refl _ (Nat.le_refl _)⟩
  | v :: r, o, w, cs, h => by
    obtain ⟨⟨cs', h1, h2, h3⟩, h4⟩ := setCells_blk g r (o + 1) (w.setCell ⟨g, o, none⟩ v) _ (h.set_ o v)
    refine ⟨⟨cs', h1, by rw [h2]; simp, fun i hi => ?_⟩, ?_⟩
    · rw [h3 i (by omega), Array.getElem?_setIfInBounds, if_neg (by omega)]
    · have h5 := (But.refl (w := w) g (Nat.le_refl _)).set o v
      have h6 : But w.heap.size g (w.setCell ⟨g, o, none⟩ v) ((w.setCell ⟨g, o, none⟩ v).setCells g (o + 1) r) := by
        have := h4; rwa [World.size_setCell] at this
      exact h5.trans h6 (Nat.le_refl _)
theorem run_clear_runs (w : World) (ty : TypeId) (g o n c : Nat) (cs : Array Value) (hn : 0 < n) (hk : Blk w g 84 cs) (ho : o + n * 3 ≤ cs.size) :
    (Builtin.clear_ #[75] ty #[.slice (some ⟨g, o, none⟩) n c]).run Try.prog w = .ok (.tuple #[]) (w.setCells g o (Builtin.zeroCells #[.int .i64 0, .int .i64 0, .int .i64 0] n).toList) := by
  have hzv : ∀ w, (zeroValue 84).run Try.prog w = .ok (.agg #[.int .i64 0, .int .i64 0, .int .i64 0]) w := fun _ => by kernel_rfl
  have hlen : (Builtin.zeroCells #[.int .i64 0, .int .i64 0, .int .i64 0] n).toList.length = n * 3 := by simp [Builtin.zeroCells]
  have h1 : ∀ v ∈ (Builtin.zeroCells #[.int .i64 0, .int .i64 0, .int .i64 0] n).toList, v.oneCell' = true := by
    intro v hv
    simp [Builtin.zeroCells] at hv
    obtain ⟨i, hi, rfl⟩ := hv
    have : i % 3 = 0 ∨ i % 3 = 1 ∨ i % 3 = 2 := by omega
    rcases this with e | e | e <;> rw [e] <;> rfl
  have hst := run_storeCells_cells (P := Try.prog) g o (Builtin.zeroCells #[.int .i64 0, .int .i64 0, .int .i64 0] n).toList 0 w
    (by intro j hj; rw [hlen] at hj; rw [hk.cell]; simp; omega) (by intro j _; exact hk.frozen _) h1
  simp only [Nat.add_zero] at hst
  obtain ⟨m, rfl⟩ : ∃ m, n = m + 1 := ⟨n - 1, by omega⟩
  simp [Builtin.clear_, run_underlying Try.underlying75, hzv, hst, Value.cells]
theorem neRun (a b : Rn) (w : World) : (binOp .neq 84 (.agg #[.int .i64 a.1, .int .i64 a.2.1, .int .i64 a.2.2]) (.agg #[.int .i64 b.1, .int .i64 b.2.1, .int .i64 b.2.2])).run Try.prog w = .ok (.bool (!decide (a = b))) w := by
  obtain ⟨a1, a2, a3⟩ := a
  obtain ⟨b1, b2, b3⟩ := b
  have e : decide ((a1, a2, a3) = (b1, b2, b3)) = (decide (a1 = b1) && (decide (a2 = b2) && decide (a3 = b3))) := by
    simp [Prod.ext_iff, Bool.decide_and]
  rw [e]
  clear e
  by_cases h1 : a1 = b1 <;> by_cases h2 : a2 = b2 <;> by_cases h3 : a3 = b3 <;> go_simp
theorem dd_short {l : List Rn} (h : l.length < 2) : dd l = l := by
  match l, h with
  | [], _ => rfl
  | [a], _ => rfl
theorem RunC.cells {w : World} {g n : Nat} {cs : Array Value} {f : Nat → Rn} (h : RunC cs n f) (hk : Blk w g 84 cs) {i : Nat} (hi : i < n) :
    w.cell? ⟨g, i * 3, none⟩ = some (.int .i64 (f i).1) ∧ w.cell? ⟨g, i * 3 + 1, none⟩ = some (.int .i64 (f i).2.1) ∧ w.cell? ⟨g, i * 3 + 2, none⟩ = some (.int .i64 (f i).2.2) :=
  ⟨by rw [hk.cell]; exact (h i hi).1, by rw [hk.cell]; exact (h i hi).2.1, by rw [hk.cell]; exact (h i hi).2.2⟩

set_option maxRecDepth 100000 in
set_option maxHeartbeats 4000000 in
theorem compact_any (g c : Nat) (l : List Rn) (cs : Array Value) (w : World) (hk : Blk w g 84 cs) (hC : RunC cs l.length (fun i => l.toArray[i]!)) (hsz : l.length * 3 ≤ cs.size) (hc : l.length ≤ c) (hn : l.length ≤ 1000000000) :
    Calls Try.prog 92 #[.slice (some ⟨g, 0, none⟩) l.length c] w fun e w' => e = .returned (.slice (some ⟨g, 0, none⟩) (dd l).length c) ∧
      ∃ cs', Blk w' g 84 cs' ∧ RunC cs' (dd l).length (fun i => (dd l).toArray[i]!) ∧ cs'.size = cs.size ∧ But w.heap.size g w w' := by
  have DD := Lib.hid (compact_dd l)
  have FULL := Lib.hid (fun (h : ∀ j, j < l.length → keeps l.toArray j = true) => (show dd l = l by
    have := compact_dd l l.length (Nat.le_refl _)
    rw [List.take_length] at this
    rw [← this, show l.length = l.toArray.size by simp, compactUpTo_all _ _ (by simpa using h), range_map_get]))
  have hdn : l.toArray.size = l.length := by simp
  by_cases h2 : (l.length : Int) < 2
  · have e := dd_short (l := l) (by omega)
    rw [e]
    have HC := Lib.hid hC
    clear hC hdn e
    generalize l.length = n at *
    go_enter Try.func92, Try.ntmps92
    go_wp2
    go_ret
    exact ⟨rfl, cs, hk, HC.out, rfl, But.refl _ (Nat.le_refl _)⟩
  · obtain ⟨d, hd⟩ : ∃ d, l.toArray = d := ⟨_, rfl⟩
    obtain ⟨n, hnn⟩ : ∃ n, l.length = n := ⟨_, rfl⟩
    rw [hd] at hC FULL DD hdn
    rw [hnn] at hC FULL hdn hsz hc hn h2 ⊢
    have HC := Lib.hid hC
    have HDN := Lib.hid hdn
    have HLN := Lib.hid hnn
    have HD := Lib.hid hd
    have h2' : (2 : Int) ≤ n := by omega
    clear hC hdn hnn hd
    go_enter Try.func92, Try.ntmps92
    go_wp2_with fail
    go_loopw [3] (fun s wr => ∃ k : Nat, 1 ≤ k ∧ k ≤ n ∧ s = .int .i64 k ∧ (Below w.heap.size w wr ∧ Blk wr g 84 cs) ∧ ∀ j, j < k → keeps d j = true) (fun s _ => n - (intOf s).toNat)
    case atStart => exact ⟨1, by omega, by omega, rfl, ⟨Below.refl _ _, hk⟩, keeps_lt_one d⟩
    case round =>
      obtain ⟨k, k1, kn, rfl, ⟨hbw, hkq⟩, hall⟩ := hrel
      have HALL := Lib.hid hall
      clear hall
      by_cases kl : (k : Int) < n
      · obtain ⟨j, hj⟩ : ∃ j, k - 1 = j := ⟨_, rfl⟩
        obtain ⟨x1, x2, x3⟩ := HC.out.cells hkq (i := k) (by omega)
        obtain ⟨y1, y2, y3⟩ := HC.out.cells hkq (i := j) (by omega)
        obtain ⟨X, hX⟩ : ∃ X, d[k]! = X := ⟨_, rfl⟩
        obtain ⟨Y, hY⟩ : ∃ Y, d[j]! = Y := ⟨_, rfl⟩
        have hw1 : IntKind.i64.wrap ((k : Int) - 1) = j := (IntWalk.i64_in _ (by omega)).trans (by omega)
        have hw2 : IntKind.i64.wrap ((k : Int) + -1) = j := (IntWalk.i64_in _ (by omega)).trans (by omega)
        have hw3 : IntKind.i64.wrap ((k : Int) + 1) = (k : Int) + 1 := IntWalk.i64_in _ (by omega)
        have hj0 : (0 : Int) ≤ j := by omega
        have hjn : (j : Int) < n := by omega
        rw [hX] at x1 x2 x3
        rw [hY] at y1 y2 y3
        have EQ := fun W => eqRun X Y W
        have HXY : Hid (d[k]! = X ∧ d[j]! = Y) := ⟨hX, hY⟩
        have HKJ := Lib.hid hj
        clear hX hY hj
        by_cases hxy : X = Y
        · rw [decide_eq_true hxy] at EQ
          have KF : Hid (keeps d k = false) := by
            show _ = _
            unfold keeps; rw [HKJ.out, HXY.out.1, HXY.out.2]; simp [hxy]; omega
          have HX2 := Lib.hid hxy
          clear hxy
          go_wp2_with fail
          go_quiet (fail)
          go_wp2_with fail
          clear x1 x2 x3 y1 y2 y3 EQ
          go_loopw [3, 5] (fun s s5 w9 => ∃ (kk k2 : Nat) (dk : Array Rn) (cs' : Array Value), s = .int .i64 kk ∧ s5 = .int .i64 k2 ∧ 1 ≤ k2 ∧ k + k2 ≤ n ∧ (But w.heap.size g w w9 ∧ Blk w9 g 84 cs' ∧ cs'.size = cs.size) ∧ Hid (RunC cs' n (fun i => dk[i]!)) ∧ Hid (CompInv d (k + k2) kk dk)) (fun _ s5 _ => n - k - (intOf s5).toNat)
          case atStart => exact ⟨k, 1, d, cs, rfl, rfl, Nat.le_refl _, by omega, ⟨(But.refl g (Nat.le_refl _)).then (below_drewN hbw _), hkq.drewN _, rfl⟩, HC, Lib.hid (CompInv.start HALL.out KF.out)⟩
          case round =>
            obtain ⟨kk, k2, dk, cs', rfl, rfl, h1, hle, ⟨hbt, hk9, hsz9⟩, HC9, HI⟩ := hrel
            have hkk := HI.out.lt
            have hds := HI.out.size
            rw [HDN.out] at hds
            by_cases hlt2 : ((k2 : Int) < (n : Int) - k)
            · have hl2 : k + k2 < n := by omega
              obtain ⟨e, he⟩ : ∃ e, k2 - 1 = e := ⟨_, rfl⟩
              obtain ⟨x1, x2, x3⟩ := HC9.out.cells hk9 (i := k + k2) (by omega)
              obtain ⟨y1, y2, y3⟩ := HC9.out.cells hk9 (i := k + e) (by omega)
              obtain ⟨z1, z2, z3⟩ := HC9.out.cells hk9 (i := kk) (by omega)
              obtain ⟨f1, f2, f3⟩ : wr.frozen? ⟨g, kk * 3, none⟩ = false ∧ wr.frozen? ⟨g, kk * 3 + 1, none⟩ = false ∧ wr.frozen? ⟨g, kk * 3 + 2, none⟩ = false := ⟨hk9.frozen _, hk9.frozen _, hk9.frozen _⟩
              rw [HI.out.high (k + k2) (by omega), Nat.add_mul] at x1 x2 x3
              rw [HI.out.high (k + e) (by omega), Nat.add_mul] at y1 y2 y3
              obtain ⟨U, hU⟩ : ∃ U, d[k + k2]! = U := ⟨_, rfl⟩
              obtain ⟨V, hV⟩ : ∃ V, d[k + e]! = V := ⟨_, rfl⟩
              obtain ⟨Z, hZ⟩ : ∃ Z, dk[kk]! = Z := ⟨_, rfl⟩
              have hw1 : IntKind.i64.wrap ((k2 : Int) - 1) = e := (IntWalk.i64_in _ (by omega)).trans (by omega)
              have hw2 : IntKind.i64.wrap ((k2 : Int) + -1) = e := (IntWalk.i64_in _ (by omega)).trans (by omega)
              have hw3 : IntKind.i64.wrap ((k2 : Int) + 1) = (k2 : Int) + 1 := IntWalk.i64_in _ (by omega)
              have hw4 : IntKind.i64.wrap ((kk : Int) + 1) = (kk : Int) + 1 := IntWalk.i64_in _ (by omega)
              have hj0 : (0 : Int) ≤ e := by omega
              have hjn : (e : Int) < (n : Int) - k := by omega
              have hkn : (kk : Int) < n := by omega
              rw [hU] at x1 x2 x3
              rw [hV] at y1 y2 y3
              rw [hZ] at z1 z2 z3
              have NE := fun W => neRun U V W
              have HUV : Hid (d[k + k2]! = U ∧ d[k + e]! = V) := ⟨hU, hV⟩
              have HE := Lib.hid he
              clear hU hV hZ he
              have hke : k + k2 - 1 = k + e := by have := HE.out; omega
              have HKE := Lib.hid hke
              clear hke
              by_cases huv : U = V
              · rw [decide_eq_true huv] at NE
                have KG : Hid (keeps d (k + k2) = false) := by
                  show _ = _
                  unfold keeps; rw [HKE.out, HUV.out.1, HUV.out.2]; simp [huv]; omega
                clear huv
                go_wp2_with fail
                go_quiet (fail)
                go_wp2
                go_round
                case rel => exact ⟨kk, k2 + 1, dk, cs', rfl, by go_num, by omega, by omega, ⟨hbt.then (below_drewN (Below.refl _ _) _), hk9.drewN _, hsz9⟩, HC9, Lib.hid (HI.out.skip KG.out)⟩
                case measure => simp [intOf]; omega
              · rw [decide_eq_false huv] at NE
                have KG : Hid (keeps d (k + k2) = true) := by
                  show _ = _
                  unfold keeps; rw [HKE.out, HUV.out.1, HUV.out.2]; simp [huv]
                clear huv
                go_wp2_with fail
                go_quiet (fail)
                go_wp2_with (fail)
                refine ⟨⟨kk + 1, k2 + 1, dk.setIfInBounds kk U, _, by go_num, by go_num, by omega, by omega, ⟨(((hbt.then (below_drewN (Below.refl _ _) _)).set _ _).set _ _).set _ _, (((hk9.drewN _).set_ _ _).set_ _ _).set_ _ _, by simpa using hsz9⟩, ?_, ?_⟩, by simp [intOf]; omega⟩
                · refine Lib.hid ?_
                  have := HC9.out.set kk (by omega) U
                  exact fun i hi => by
                    have h9 := this i hi
                    have e9 : (dk.setIfInBounds kk U)[i]! = if i = kk then U else dk[i]! := by
                      by_cases c : i = kk
                      · subst c; rw [if_pos rfl, getElem!_set_same dk _ _ (by omega)]
                      · rw [if_neg c, getElem!_set_other dk kk i _ c]
                    simp only [e9]; exact h9
                · have h9 := HI.out.keep (by rw [HDN.out]; omega) KG.out
                  rw [HUV.out.1] at h9
                  exact Lib.hid h9
            · have hend : k + k2 = n := by omega
              have hcl : ∀ ty, (Builtin.clear_ #[75] ty #[.slice (some ⟨g, kk * 3, none⟩) (n - kk) (c - kk)]).run Try.prog wr = .ok (.tuple #[]) (wr.setCells g (kk * 3) (Builtin.zeroCells #[.int .i64 0, .int .i64 0, .int .i64 0] (n - kk)).toList) := fun ty => run_clear_runs wr ty g (kk * 3) (n - kk) (c - kk) cs' (by omega) hk9 (by omega)
              have HB := Lib.hid hbt
              have HK9 := Lib.hid hk9
              have HS9 := Lib.hid hsz9
              have HEND := Lib.hid hend
              clear hbt hk9 hsz9 hend
              have hkk2 : (kk : Int) ≤ n := by omega
              have hkc : (kk : Int) ≤ c := by omega
              go_wp2
              go_ret
              obtain ⟨⟨c2, q1, q2, q3⟩, q4⟩ := setCells_blk g (Builtin.zeroCells #[.int .i64 0, .int .i64 0, .int .i64 0] (n - kk)).toList (kk * 3) _ _ HK9.out
              have hI := HI.out
              rw [HEND.out] at hI
              have hl := hI.len
              have hd1 := DD.out n (by rw [HLN.out]; exact Nat.le_refl _)
              rw [List.take_of_length_le (by rw [HLN.out]; exact Nat.le_refl _)] at hd1
              rw [hd1] at hl
              rw [hl]
              refine ⟨rfl, c2, q1, fun i hi => ?_, q2.trans HS9.out, HB.out.trans q4 HB.out.size⟩
              have hlo := hI.low i hi
              rw [hd1] at hlo
              have e9 : (dd l)[i]?.getD default = dk[i]! := by rw [hlo]; rfl
              obtain ⟨r1, r2, r3⟩ := HC9.out i (by omega)
              simp only [e9]
              exact ⟨(q3 _ (by omega)).trans r1, (q3 _ (by omega)).trans r2, (q3 _ (by omega)).trans r3⟩
        · rw [decide_eq_false hxy] at EQ
          have KT : Hid (keeps d k = true) := by
            show _ = _
            unfold keeps; rw [HKJ.out, HXY.out.1, HXY.out.2]; simp [hxy]
          clear hxy
          go_wp2_with fail
          go_quiet (fail)
          go_wp2
          go_round
          case rel => exact ⟨k + 1, by omega, by omega, by go_num, ⟨below_drewN hbw _, hkq.drewN _⟩, fun j hj => if e : j = k then e ▸ KT.out else HALL.out j (by omega)⟩
          case measure => simp [intOf]; omega
      · have hkn : k = n := by omega
        have FF := FULL.out (by have := HALL.out; rwa [hkn] at this)
        have HW := Lib.hid hbw
        have FF2 := Lib.hid FF
        clear FF hbw
        go_wp2
        go_ret
        rw [FF2.out]
        exact ⟨by rw [HLN.out]; rfl, cs, hkq, fun i hi => by have h9 := HC.out i (by rw [← HLN.out]; exact hi); rw [← HD.out] at h9; simpa using h9, rfl, (But.refl g (Nat.le_refl _)).then HW.out⟩
end Go.Proofs.Ytdimlpcbbkokiaa

/- The library's sort at runs: the contract laid at this program, and what it says of a row of runs. -/
namespace Go.Proofs.Ytdimlpcbbkokiaa
open Go.RowKit Go.Shelf Go.Lib Go.Sort
set_option linter.unusedVariables false
attribute [local go_sem] Oper.semAt_some

def Try.sortRuns_ren : Go.Shelf.Ren := ⟨fun | 6 => 89 | 15 => 106 | 14 => 110 | 28 => 130 | 29 => 131 | 20 => 132 | 21 => 133 | 22 => 134 | 23 => 135 | 24 => 136 | 25 => 137 | 26 => 138 | 27 => 139 | 46 => 152 | 47 => 148 | 48 => 149 | 49 => 153 | 50 => 154 | 57 => 158 | n => n, fun | 22 => 75 | 24 => 84 | 25 => 114 | 3 => 3 | 39 => 130 | 0 => 0 | 53 => 152 | 55 => 154 | 4 => 4 | 46 => 145 | 45 => 144 | 50 => 149 | 5 => 5 | 9 => 9 | 66 => 163 | 70 => 167 | 76 => 173 | 77 => 80 | n => n, fun | n => n⟩
theorem Try.sortRuns : Go.Proofs.SlLaysF0.n6 Try.prog Try.sortRuns_ren := {
  mixed := by kernel_rfl
  f6 := ⟨Try.f89.name, by decide, Try.func89.trans (congrArg some (by kernel_rfl))⟩
  f14 := ⟨Try.f110.name, by decide, Try.func110.trans (congrArg some (by kernel_rfl))⟩
  f15 := Try.func106.trans (congrArg some (by kernel_rfl))
  f20 := ⟨Try.f132.name, by decide, Try.func132.trans (congrArg some (by kernel_rfl))⟩
  f21 := ⟨Try.f133.name, by decide, Try.func133.trans (congrArg some (by kernel_rfl))⟩
  f22 := ⟨Try.f134.name, by decide, Try.func134.trans (congrArg some (by kernel_rfl))⟩
  f23 := ⟨Try.f135.name, by decide, Try.func135.trans (congrArg some (by kernel_rfl))⟩
  f24 := ⟨Try.f136.name, by decide, Try.func136.trans (congrArg some (by kernel_rfl))⟩
  f25 := ⟨Try.f137.name, by decide, Try.func137.trans (congrArg some (by kernel_rfl))⟩
  f26 := ⟨Try.f138.name, by decide, Try.func138.trans (congrArg some (by kernel_rfl))⟩
  f27 := ⟨Try.f139.name, by decide, Try.func139.trans (congrArg some (by kernel_rfl))⟩
  f28 := Try.func130.trans (congrArg some (by kernel_rfl))
  f29 := Try.func131.trans (congrArg some (by kernel_rfl))
  f46 := ⟨Try.f152.name, by decide, Try.func152.trans (congrArg some (by kernel_rfl))⟩
  f47 := Try.func148.trans (congrArg some (by kernel_rfl))
  f48 := Try.func149.trans (congrArg some (by kernel_rfl))
  f49 := ⟨Try.f153.name, by decide, Try.func153.trans (congrArg some (by kernel_rfl))⟩
  f50 := ⟨Try.f154.name, by decide, Try.func154.trans (congrArg some (by kernel_rfl))⟩
  f57 := ⟨Try.f158.name, by decide, Try.func158.trans (congrArg some (by kernel_rfl))⟩
  t0 := Try.underlying0
  a0 := Try.isAgg0
  z0 := Try.sizeOf0
  v0 := Try.zeroValue0
  t3 := Try.underlying3
  a3 := Try.isAgg3
  z3 := Try.sizeOf3
  v3 := Try.zeroValue3
  t4 := Try.underlying4
  a4 := Try.isAgg4
  z4 := Try.sizeOf4
  v4 := Try.zeroValue4
  t5 := Try.underlying5
  a5 := Try.isAgg5
  z5 := Try.sizeOf5
  v5 := Try.zeroValue5
  t9 := Try.underlying9
  a9 := Try.isAgg9
  z9 := Try.sizeOf9
  v9 := Try.zeroValue9
  t22 := Try.underlying75
  a22 := Try.isAgg75
  z22 := Try.sizeOf75
  v22 := Try.zeroValue75
  t25 := Try.underlying114
  a25 := Try.isAgg114
  z25 := Try.sizeOf114
  v25 := Try.zeroValue114
  t39 := Try.underlying130
  a39 := Try.isAgg130
  z39 := Try.sizeOf130
  v39 := Try.zeroValue130
  t45 := Try.underlying144
  a45 := Try.isAgg144
  z45 := Try.sizeOf144
  v45 := Try.zeroValue144
  t46 := Try.underlying145
  a46 := Try.isAgg145
  z46 := Try.sizeOf145
  v46 := Try.zeroValue145
  t50 := Try.underlying149
  a50 := Try.isAgg149
  z50 := Try.sizeOf149
  v50 := Try.zeroValue149
  t53 := Try.underlying152
  a53 := Try.isAgg152
  z53 := Try.sizeOf152
  v53 := Try.zeroValue152
  t55 := Try.underlying154
  a55 := Try.isAgg154
  z55 := Try.sizeOf154
  v55 := Try.zeroValue154
  t66 := Try.underlying163
  a66 := Try.isAgg163
  z66 := Try.sizeOf163
  v66 := Try.zeroValue163
  t70 := Try.underlying167
  a70 := Try.isAgg167
  z70 := Try.sizeOf167
  v70 := Try.zeroValue167
  t76 := Try.underlying173
  a76 := Try.isAgg173
  z76 := Try.sizeOf173
  v76 := Try.zeroValue173
  t77 := Try.underlying80
  a77 := Try.isAgg80
  z77 := Try.sizeOf80
  v77 := Try.zeroValue80 }

abbrev SRn := { r : Rn // Small r.1 ∧ Small r.2.1 }
instance : Inhabited SRn := ⟨⟨(0, 0, 0), by unfold Small; simp, by unfold Small; simp⟩⟩
def encS (r : SRn) : List Value := encR r.1
theorem rn_lift : ∀ l : List Rn, (∀ r ∈ l, Small r.1 ∧ Small r.2.1) → ∃ s : List SRn, s.map Subtype.val = l
  | [], _ => ⟨[], rfl⟩
  | a :: l, h => by
    obtain ⟨s, hs⟩ := rn_lift l fun r hr => h r (List.mem_cons_of_mem _ hr)
    exact ⟨⟨a, h a (List.mem_cons_self ..)⟩ :: s, by rw [List.map_cons, hs]⟩
theorem swo_runs : SWO (ltOf fun (x y : SRn) => cmpR x.1 y.1) := by
  refine ⟨fun x => ?_, fun x y z a b => ?_, fun x y z a b => ?_⟩ <;>
    simp only [ltOf, decide_eq_true_eq, decide_eq_false_iff_not] at * <;> simp only [cmpR, orE] at * <;> (repeat' split at *) <;> omega
theorem flat_at {d : Array SRn} {i t : Nat} (hi : i < d.size) (ht : t < 3) : (flatK encS 3 d)[i * 3 + t]! = (encS d[i]!)[t]! := by
  rw [get_flatK _ _ _ _ (by omega), show (i * 3 + t) / 3 = i by omega, show (i * 3 + t) % 3 = t by omega]
set_option maxHeartbeats 1000000 in
/-- the runs are put in order -/
theorem sortRuns_any (g c : Nat) (l : List Rn) (cs : Array Value) (w : World) (hk : Blk w g 84 cs) (hC : RunC cs l.length (fun i => l.toArray[i]!)) (hsz : l.length * 3 ≤ cs.size) (hs : ∀ r ∈ l, Small r.1 ∧ Small r.2.1) (hn : l.length ≤ 1000000000) :
    Calls Try.prog 89 #[.slice (some ⟨g, 0, none⟩) l.length c, .func (.func 90) #[] #[]] w fun e w' => e = .returned (.tuple #[]) ∧
      ∃ l' : List Rn, l'.Perm l ∧ l'.Pairwise leR ∧ ∃ cs', Blk w' g 84 cs' ∧ RunC cs' l'.length (fun i => l'.toArray[i]!) ∧ cs'.size = cs.size ∧ But w.heap.size g w w' := by
  obtain ⟨s, hs⟩ := rn_lift l hs
  have hlen : s.toArray.size = l.length := by rw [← hs]; simp
  have hget : ∀ i, i < l.length → s.toArray[i]!.1 = l.toArray[i]! := fun i hi => by
    have h1 : i < s.length := by rw [← List.size_toArray, hlen]; exact hi
    simp [← hs, h1]
  have hlt := (Array.getElem?_eq_some_iff.1 hk).1
  have hH : HoldsK encS 3 w g 0 s.toArray := fun j hj => by
    rw [size_flatK, hlen] at hj
    refine ⟨?_, by rw [Nat.zero_add]; exact hk.frozen _⟩
    obtain ⟨i, t, ht, rfl⟩ : ∃ i t, t < 3 ∧ j = i * 3 + t := ⟨j / 3, j % 3, by omega, by omega⟩
    rw [flat_at (by omega) ht, Nat.zero_add, hk.cell]
    obtain ⟨r1, r2, r3⟩ := hC i (by omega)
    simp only [← hget i (by omega)] at r1 r2 r3
    show _ = some ((encR s.toArray[i]!.1)[t]!)
    match t, ht with
    | 0, _ => exact r1
    | 1, _ => exact r2
    | 2, _ => exact r3
  have eg : ∀ args w, (callFunc 90 args).run Try.prog w = .ok (.enter 90 args) w := enters_of Try.func90 (by kernel_rfl) rfl
  have hcmp : CmpLays Try.prog 90 #[] encS 3 (fun x y => cmpR x.1 y.1) g 0 s.toArray.size w := fun m os dk _ x y => cmpRuns_any x.1 y.1 _ x.2 y.2
  have hcon := AnyQ.slices_SortFunc Try.sortRuns 3 (fun _ => by kernel_rfl) (fun _ => by kernel_rfl) encS (fun _ => rfl) (fun x v hv => by
    have : v ∈ encR x.1 := hv
    simp [encR] at this
    rcases this with h | h | h <;> rw [h] <;> rfl) (fun x y => cmpR x.1 y.1) swo_runs 90 #[] g 0 c s.toArray w eg hcmp hH hlt (by rw [hlen]; omega)
  rw [hlen] at hcon
  refine hcon.mono ?_
  rintro e w' ⟨rfl, d', n, os, hp, hs2, rfl⟩
  obtain ⟨p1, -, p3⟩ := hp
  have p1 : d'.size = l.length := by rw [p1, hlen]
  have p3 : d'.toList.Perm s := by
    have e1 : d'.extract 0 l.length = d' := by rw [← p1]; exact Array.extract_size
    have e2 : s.toArray.extract 0 l.length = s.toArray := by rw [← hlen]; exact Array.extract_size
    rw [e1, e2] at p3
    exact p3
  have hl' : (d'.toList.map Subtype.val).length = l.length := by simp [p1]
  refine ⟨rfl, d'.toList.map Subtype.val, hs ▸ p3.map _, ?_, putCells id 0 (flatK encS 3 d') cs, heap_sortWorld_row id w g 0 n (flatK encS 3 d') os hk, ?_, by simp [putCells], ⟨rfl, rfl, rfl, size_sortWorld id w g 0 n (flatK encS 3 d') os, fun j hj hn => heap_sortWorld id w g 0 n (flatK encS 3 d') os hj hn⟩⟩
  · rw [List.pairwise_map, List.pairwise_iff_getElem]
    intro i j hi hj hij
    rw [Array.length_toList, p1] at hi hj
    have := hs2 i j (Nat.zero_le _) hij hj
    rw [getElem!_pos d' i (by omega), getElem!_pos d' j (by omega)] at this
    simp only [ltOf, decide_eq_false_iff_not] at this
    simp only [cmpR, orE] at this
    simp only [Array.getElem_toList, leR]
    split at this <;> omega
  · rw [hl']
    intro i hi
    have hx : ∀ t, t < 3 → (putCells id 0 (flatK encS 3 d') cs)[i * 3 + t]? = some ((encS d'[i]!)[t]!) := fun t ht => by
      unfold putCells
      rw [Array.getElem?_mapIdx, Array.getElem?_eq_getElem (by omega), Option.map_some, if_pos (by rw [size_flatK]; omega), Nat.sub_zero, flat_at (by omega) ht]; rfl
    have e9 : (d'.toList.map Subtype.val).toArray[i]! = d'[i]!.1 := by
      have : i < d'.size := by omega
      simp [this]
    simp only [e9]
    exact ⟨hx 0 (by omega), hx 1 (by omega), hx 2 (by omega)⟩
end Go.Proofs.Ytdimlpcbbkokiaa

/- Runs put in order and without doubles: on rows that the call owns. -/
namespace Go.Proofs.Ytdimlpcbbkokiaa
open Go.RowKit Go.Shelf Go.Lib Go.Sort
set_option linter.unusedVariables false
attribute [local go_sem] Oper.semAt_some

theorem runC_of {cs : Array Value} {l : List Rn} (h : cs.toList.take (l.length * 3) = flatR l) : RunC cs l.length (fun i => l.toArray[i]!) := fun i hi => by
  have hg : l[i]? = some (l.toArray[i]!) := by simp [hi]
  obtain ⟨r1, r2, r3⟩ := flatR_at l i _ hg
  rw [← h] at r1 r2 r3
  rw [List.getElem?_take, if_pos (by omega), Array.getElem?_toList] at r1 r2 r3
  exact ⟨r1, r2, r3⟩
theorem runC_take {cs : Array Value} {l : List Rn} (h : RunC cs l.length (fun i => l.toArray[i]!)) (hs : l.length * 3 ≤ cs.size) : cs.toList.take (l.length * 3) = flatR l := by
  apply List.ext_getElem?
  intro j
  rw [List.getElem?_take]
  by_cases hj : j < l.length * 3
  · rw [if_pos hj]
    obtain ⟨i, t, ht, rfl⟩ : ∃ i t, t < 3 ∧ j = i * 3 + t := ⟨j / 3, j % 3, by omega, by omega⟩
    have hi : i < l.length := by omega
    have hg : l[i]? = some (l.toArray[i]!) := by simp [hi]
    obtain ⟨r1, r2, r3⟩ := flatR_at l i _ hg
    obtain ⟨s1, s2, s3⟩ := h i hi
    rw [Array.getElem?_toList]
    match t, ht with
    | 0, _ => exact s1.trans r1.symm
    | 1, _ => exact s2.trans r2.symm
    | 2, _ => exact s3.trans r3.symm
  · rw [if_neg hj, List.getElem?_eq_none (by rw [flatR_len]; omega)]
theorem sortRow_any (B : Nat) (v : Value) (l : List Rn) (w : World) (h : RunRow w B v l) (hB : B ≤ w.heap.size) (hs : ∀ r ∈ l, Small r.1 ∧ Small r.2.1) (hn : l.length ≤ 1000000000) :
    Calls Try.prog 89 #[v, .func (.func 90) #[] #[]] w fun e w' => e = .returned (.tuple #[]) ∧
      ∃ l' : List Rn, l'.Perm l ∧ l'.Pairwise leR ∧ RunRow w' B v l' ∧ Below B w w' := by
  by_cases hl : l = []
  · subst hl
    obtain ⟨A, c, rfl, -⟩ := h.val
    refine (AnyF.slices_SortFunc_none (P := Try.prog) (ρ := Try.sortRuns_ren) Try.sortRuns A c (.func (.func 90) #[] #[]) w).mono ?_
    rintro e w' ⟨rfl, rfl⟩
    exact ⟨rfl, [], List.Perm.refl _, List.Pairwise.nil, h, Below.refl _ _⟩
  · obtain ⟨g, c, cs, rfl, hc, hg, hk, hsz, hm, ht⟩ := h.blk hl
    refine (sortRuns_any g c l cs w hk (runC_of ht) (by omega) hs hn).mono ?_
    rintro e w' ⟨rfl, l', hp, hq, cs', hk', hC', hs', hb⟩
    have e1 := hp.length_eq
    refine ⟨rfl, l', hp, hq, ⟨by rw [flatR_len], .inr ⟨g, c, cs', by rw [e1], hg, hk', by omega, hm, by omega, ?_⟩⟩, hb.to rfl hg hB⟩
    exact runC_take hC' (by omega)
set_option maxHeartbeats 1000000 in
theorem compactNil_any (w : World) : Calls Try.prog 92 #[.slice none 0 0] w fun e w' => e = .returned (.slice none 0 0) ∧ w = w' := by
  go_enter Try.func92, Try.ntmps92
  go_wp2
  go_ret
  exact ⟨rfl, rfl⟩
theorem compactRow_any (B : Nat) (v : Value) (l : List Rn) (w : World) (h : RunRow w B v l) (hB : B ≤ w.heap.size) (hn : l.length ≤ 1000000000) :
    Calls Try.prog 92 #[v] w fun e w' => ∃ v', e = .returned v' ∧ RunRow w' B v' (dd l) ∧ Below B w w' := by
  rcases h.2 with ⟨rfl, h2⟩ | ⟨g, c, cs, rfl, hg, hk, hc, hm, hsz, ht⟩
  · have hl : l = [] := by
      cases l with
      | nil => rfl
      | cons a t => simp at h2
    subst hl
    refine (compactNil_any w).mono ?_
    rintro e w' ⟨rfl, rfl⟩
    exact ⟨_, rfl, RunRow.nil _ _, Below.refl _ _⟩
  · refine (compact_any g c l cs w hk (runC_of ht) (by omega) hc hn).mono ?_
    rintro e w' ⟨rfl, cs', hk', hC', hs', hb⟩
    have e1 := dd_len l
    refine ⟨_, rfl, ⟨by rw [flatR_len], .inr ⟨g, c, cs', rfl, hg, hk', by omega, hm, by omega, ?_⟩⟩, hb.to rfl hg hB⟩
    exact runC_take hC' (by omega)
end Go.Proofs.Ytdimlpcbbkokiaa

/- Walk: the runs that lines of staves meet (stave.Runs). -/
namespace Go.Proofs.Ytdimlpcbbkokiaa
open Go.RowKit Go.Shelf
set_option linter.unusedVariables false
attribute [local go_sem] Oper.semAt_some

/-- staves that came in -/
def StavesIn (w : World) (B : Nat) (A : Option Addr) (k : Nat) (K : Nat → Nat) (m : Nat → Nat → Nat) (ln : Nat → Nat → Nat → Int) : Prop :=
  ∀ i, i < k → ∃ b off AL cL, A = some ⟨b, off, none⟩ ∧ b < B ∧ w.cell? ⟨b, off + i, none⟩ = some (.slice AL (K i) cL) ∧ Lines w B AL (K i) (m i) (ln i)
theorem Lines.more {w : World} {B B' : Nat} {A : Option Addr} {K : Nat} {m : Nat → Nat} {ln : Nat → Nat → Int} (h : Lines w B A K m ln) (hB : B ≤ B') : Lines w B' A K m ln := by
  obtain ⟨vs, h1, h2⟩ := h
  exact ⟨vs, Arr.more h1 hB, fun i hi => by obtain ⟨A', c', e, ha⟩ := h2 i hi; exact ⟨A', c', e, ArrI.more ha hB⟩⟩
theorem Lines.belowB {w w' : World} {B : Nat} {A : Option Addr} {K : Nat} {m : Nat → Nat} {ln : Nat → Nat → Int} (h : Lines w B A K m ln) (hb : Below B w w') : Lines w' B A K m ln := by
  obtain ⟨vs, h1, h2⟩ := h
  exact ⟨vs, Arr.below h1 hb, fun i hi => by obtain ⟨A', c', e, ha⟩ := h2 i hi; exact ⟨A', c', e, ArrI.below ha hb⟩⟩
/-- a number in a cell -/
def cellN (w : World) (a : Addr) : Nat := match w.cell? a with | some v => (intOf v).toNat | none => 0
theorem cellN_of {w : World} {a : Addr} {n : Nat} (h : w.cell? a = some (.int .i64 n)) : cellN w a = n := by unfold cellN; rw [h]; rfl
theorem RunRow.base {w : World} {B B' : Nat} {v : Value} {l : List Rn} (h : RunRow w B v l) (hB : B' ≤ B) : RunRow w B' v l := ⟨h.1, h.2.imp id fun ⟨g, c, cur, a, b, r⟩ => ⟨g, c, cur, a, Nat.le_trans hB b, r⟩⟩
theorem rnAt_len (p : Int → Int) (W : Int) (H : Nat) (most : Int) (x y : Nat) : (rnAt p W H most x y).length ≤ 1 := by unfold rnAt; split <;> simp

set_option maxRecDepth 100000 in
set_option maxHeartbeats 4000000 in
theorem runs_gen (W most : Int) (H N : Nat) (A AS : Option Addr) (n c kS cS kF : Nat) (p : Int → Int) (K : Nat → Nat) (m : Nat → Nat → Nat) (ln : Nat → Nat → Nat → Int) (w : World)
    (hW : W = N) (hN : N ≤ 640) (hH : H ≤ 640) (hA : ArrB w w.heap.size A n p) (hn : n = N * H) (hp : ∀ i : Int, 0 ≤ i → i < n → p i = 0 ∨ p i = 1) (hk : kS ≤ 1000)
    (hS : StavesIn w w.heap.size AS kS K m ln) (hm : ∀ i j, i < kS → j < K i → m i j ≤ maxLen) (hkF : kF ≤ kS) (hfit : ∀ i, i < kF → stFits W H (K i) (m i) (ln i) = true) (hend : kF < kS → stFits W H (K kF) (m kF) (ln kF) = false) :
    Calls Try.prog 48 #[.agg #[.int .i64 W, .int .i64 H, .slice A n c], .slice AS kS cS, .int .i64 most] w fun e w' => (kF = kS ∧ ∃ v l, e = .returned (.tuple #[v, .int .i64 0]) ∧ RunRow w' w.heap.size v (dd l) ∧ l.Perm (colI p W H most ln N kS) ∧ l.Pairwise leR ∧ Below w.heap.size w w') ∨
      (kF < kS ∧ e = .returned (.tuple #[.slice none 0 0, .int .i64 10]) ∧ Below w.heap.size w w') := by
  have hn640 : n ≤ 409600 := by rw [hn]; exact Nat.mul_le_mul hN hH
  have CK := Lib.hid fun w' hA' => check_any W H A n c p w' hA' (by unfold maxLen; omega)
  have hchk : chk W H n p = 0 := chk_mk (by omega) (by omega) (by omega) (by omega) (by rw [hn, hW]; push_cast; rfl) fun i a b => by have := hp i a b; omega
  rw [hchk] at CK
  clear hchk
  have FT := Lib.hid fun i (hi : i < kS) AL cL w' hL => fits_st W H A AL n c (K i) cL (m i) (ln i) w' (by omega) (by omega) hL (fun j hj => hm i j hi hj)
  have HF := Lib.hid hfit
  have HM := Lib.hid hm
  have HP := Lib.hid hp
  have HNN := Lib.hid hn
  have HS := Lib.hid hS
  have HA := Lib.hid hA
  have HEND := Lib.hid hend
  have HW := Lib.hid hW
  have hw0 : 0 ≤ W := by omega
  have hw1 : W ≤ 640 := by omega
  obtain ⟨r0, hr0, hrz0, hrz1, hrz2⟩ := info_parts infoRun
  clear hS hm hfit hp hA hn hW hend
  go_enter Try.func48, Try.ntmps48
  go_wp2_with fail
  have k1 := Blk.new w 24 #[.int .i64 W, .int .i64 H, .slice A n c]
  have b1 : Below w.heap.size w (w.alloc (.cells #[.int .i64 W, .int .i64 H, .slice A n c] 24)) := (Below.refl _ _).alloc (Nat.le_refl _) _
  generalize w.alloc (.cells #[.int .i64 W, .int .i64 H, .slice A n c] 24) = w1 at *
  have ha1 := HA.out.to b1
  refine (CK.out w1 ha1).mono ?_
  rintro e w2 ⟨rfl, hb2⟩
  have k2 := k1.below' hb2
  have b2 := below_call b1 b1.size hb2
  obtain ⟨B, hB⟩ : ∃ B, w2.heap.size = B := ⟨_, rfl⟩
  have hgB : w.heap.size < B := by rw [← hB]; exact k2.lt
  clear k1 b1 ha1 hb2
  go_wp2_with fail
  go_loopw [24, 9] (fun s v9 wr => ∃ (i : Nat) (L : List Rn), i ≤ kF ∧ s = .int .i64 i ∧ RunRow wr B v9 L ∧ Below B w2 wr ∧ Hid (L = colI p W H most ln N i) ∧ L.length ≤ i * 3200) (fun s _ _ => kS - (intOf s).toNat)
  case atStart => exact ⟨0, [], by omega, rfl, RunRow.nil _ _, Below.refl _ _, Lib.hid rfl, by simp⟩
  case round =>
    obtain ⟨i, L, hi, rfl, hR, hb3, HL, hLl⟩ := hrel
    by_cases hlt : (i : Int) < kS
    · by_cases hlF : i < kF
      · obtain ⟨bS, oS, AL, cL, rfl, hbS, hcS, hLS⟩ := HS.out i (by omega)
        have b3 : Below w.heap.size w wr := b2.trans (hb3.mono (by omega))
        have hc3 := (b3.cell (p := ⟨bS, oS + i, none⟩) hbS).trans hcS
        have hL3 := (hLS.belowB b3).more b3.size
        have hK5 := (stFits_iff.1 (HF.out i (by omega))).1
        have FTi := Lib.hid fun cL w' hL => FT.out i (by omega) AL cL w' hL
        rw [HF.out i (by omega), hK5] at FTi
        rw [hK5] at hc3 hL3
        obtain ⟨ln1, hln1⟩ : ∃ l1, ln i = l1 := ⟨_, rfl⟩
        obtain ⟨m1, hm1⟩ : ∃ l1, m i = l1 := ⟨_, rfl⟩
        have FI := Lib.hid (stFits_iff.1 (HF.out i (by omega)))
        rw [hln1, hm1] at hL3 FTi FI
        have HLN1 := Lib.hid hln1; have HM1 := Lib.hid hm1
        have HLS := Lib.hid hL3
        rw [(stFits_iff.1 (HF.out i (by omega))).1, hln1, hm1] at hLS
        have HLL := Lib.hid hLS
        have k3 := k2.below' (hB ▸ hb3)
        obtain ⟨p1, p2, p3⟩ := k3.cells3
        clear hln1 hm1 hK5 hcS hLS hbS
        go_upto_region 8 with fail
        have k4 := k3.alloc (.cells #[.slice AL 5 cL] 54)
        have ks := Blk.new wr 54 #[.slice AL 5 cL]
        have bs : Below wr.heap.size wr (wr.alloc (.cells #[.slice AL 5 cL] 54)) := (Below.refl _ _).alloc (Nat.le_refl _) _
        obtain ⟨gs, hgs⟩ : ∃ g, wr.heap.size = g := ⟨_, rfl⟩
        generalize wr.alloc (.cells #[.slice AL 5 cL] 54) = w4 at *
        clear p1 p2 p3
        obtain ⟨p1, p2, p3⟩ := k4.cells3
        have s1 := ks.cells0
        rw [hgs] at s1
        go_wp2_with fail
        refine (FTi.out cL w4 (HLS.out.below bs)).mono ?_
        rintro e w5 ⟨rfl, hb5⟩
        have ks5 := ks.below' hb5
        have z5 := hb5.size
        have z3 := b3.size
        have hb5' : Below gs wr w5 := by rw [← hgs]; exact bs.trans (hb5.mono bs.size)
        have hB3 : B ≤ gs := by rw [← hgs, ← hB]; exact hb3.size |> fun h => hB ▸ h
        have b5 : Below B w2 w5 := hb3.trans (hb5'.mono hB3)
        have R5 := hR.below (hgs ▸ hb5')
        have r1 := ks5.cells0
        rw [hgs] at r1
        clear bs hb5 ks k4 k3 p1 p2 p3 s1 hb3 hR hL3 b3 hc3
        go_wp2_with fail
        clear r1 ks5 hb5'
        go_loopw [35, 9] (fun s v9 wr => ∃ (j : Nat) (L2 : List Rn), j ≤ 5 ∧ s = .int .i64 j ∧ RunRow wr B v9 L2 ∧ Below B w2 wr ∧ Hid (L2 = L ++ colJ p W H most ln1 N j) ∧ L2.length ≤ i * 3200 + j * 640) (fun s _ _ => 5 - (intOf s).toNat)
        case atStart => exact ⟨0, L, by omega, rfl, R5, b5, Lib.hid (by simp [colJ]), by omega⟩
        case round =>
          obtain ⟨j, L2, hj, rfl, hR2, hb6, HL2, hLl2⟩ := hrel
          clear R5 b5
          by_cases jlt : (j : Int) < 5
          · obtain ⟨bA, oA, A1, c1, rfl, hbA, hcA, haA⟩ := HLL.out.at_ (i := j) (by omega)
            have b6 : Below w.heap.size w wr := b2.trans (hb6.mono (by omega))
            have hc6 := (b6.cell (p := ⟨bA, oA + j, none⟩) hbA).trans hcA
            obtain ⟨⟨g1, g2, g3⟩, g4⟩ := isPathB_iff.1 (FI.out.2.1 j (by omega))
            have hmN : m1 j = N := by have := HW.out; omega
            rw [hmN] at hc6 haA g4
            obtain ⟨q, hq⟩ : ∃ q : Nat → Int, ln1 j = q := ⟨_, rfl⟩
            rw [hq] at haA g4
            have BD := Lib.hid fun (x : Nat) (hx : x < N) => (show 0 ≤ q x ∧ q x < H from by
              have h9 := stepB_iff.1 (g4 x (by omega) (by omega))
              simp only [Int.toNat_natCast] at h9
              exact ⟨h9.1, h9.2.1⟩)
            have HQ := Lib.hid hq
            have HAA := Lib.hid haA
            clear hq haA g4 g3 hmN hcA
            go_wp2_with fail
            go_loopw [41, 9] (fun s v9 wr => ∃ (x : Nat) (L3 : List Rn), x ≤ N ∧ s = .int .i64 x ∧ RunRow wr B v9 L3 ∧ Below B w2 wr ∧ Hid (L3 = L2 ++ colX p W H most q x) ∧ L3.length ≤ i * 3200 + j * 640 + x) (fun s _ _ => N - (intOf s).toNat)
            case atStart => exact ⟨0, L2, by omega, rfl, hR2, hb6, Lib.hid (by simp [colX]), by omega⟩
            case round =>
              obtain ⟨x, L3, hx, rfl, hR3, hb7, HL3, hLl3⟩ := hrel
              clear hR2 hb6 b6 hc6
              by_cases xlt : (x : Int) < N
              · obtain ⟨y, hy⟩ : ∃ y : Nat, q x = y := ⟨(q x).toNat, by have := BD.out x (by omega); omega⟩
                have hyH : y < H := by have := BD.out x (by omega); omega
                have b7 : Below w.heap.size w wr := b2.trans (hb7.mono (by omega))
                obtain ⟨bx, ox, rfl, hbx, hcx⟩ := ArrI.at_ HAA.out (i := (x : Int)) (by omega) (by omega)
                rw [Int.toNat_natCast, hy] at hcx
                have hcx7 := (b7.cell (p := ⟨bx, ox + x, none⟩) hbx).trans hcx
                have k7 := k2.below' (hB ▸ hb7)
                obtain ⟨p1, p2, p3⟩ := k7.cells3
                obtain ⟨e, he⟩ : ∃ e : Nat, (y : Int) * W + x = e := ⟨y * N + x, by rw [HW.out]; push_cast; rfl⟩
                have hen : e < n := by
                  have h8 := (idx_lt (x := x) (y := y) (W := W) (H := H) (by omega) (by have := HW.out; omega) (by omega) (by omega)).2.1
                  rw [he, HW.out] at h8
                  have h9 := HNN.out
                  have h10 : (n : Int) = (H : Int) * N := by rw [h9]; push_cast; exact Int.mul_comm _ _
                  omega
                have hPA := HA.out.to b7
                obtain ⟨bp, op, rfl, hbp, hcp⟩ := ArrB.at_ hPA (i := (e : Int)) (by omega) (by omega)
                rw [Int.toNat_natCast] at hcp
                have v1 : IntKind.i64.wrap ((y : Int) * W) = (y : Int) * W := IntWalk.i64_in _ (by have := Int.mul_nonneg (show (0 : Int) ≤ y by omega) hw0; omega)
                have v2 : IntKind.i64.wrap ((y : Int) * W + x) = (e : Int) := (IntWalk.i64_in _ (by omega)).trans he
                have HY := Lib.hid hy; have HE := Lib.hid he
                have HPV := Lib.hid (HP.out e (by omega) (by omega))
                have hen' : (e : Int) < n := by omega
                clear hy he hcx hbx
                by_cases hpe : p e = 0
                · rw [hpe] at hcp
                  have HPE := Lib.hid hpe
                  clear hpe
                  go_wp2_with fail
                  go_round
                  case rel => exact ⟨x + 1, L3, by omega, by go_num, hR3, hb7, Lib.hid (by
                    rw [HL3.out]
                    show L2 ++ colX p W H most q x = L2 ++ (colX p W H most q x ++ rnAt p W H most x (q x).toNat)
                    rw [HY.out, Int.toNat_natCast]
                    unfold rnAt
                    rw [HE.out, HPE.out, if_neg (by omega), List.append_nil]), by omega⟩
                  case measure => simp [intOf]; omega
                · have hp1 : p e = 1 := by have := HPV.out; omega
                  rw [hp1] at hcp
                  have HPE := Lib.hid hp1
                  clear hpe hp1
                  obtain ⟨gr, hgr⟩ : ∃ g, wr.heap.size = g := ⟨_, rfl⟩
                  have hgw : w.heap.size < gr := by rw [← hgr]; exact k7.lt
                  have hgB7 : B ≤ gr := by rw [← hgr, ← hB]; exact hb7.size |> fun h => hB ▸ h
                  go_upto_block 6 with fail
                  have kr := Blk.new wr 84 #[.int .i64 x, .int .i64 y, .int .i64 y]
                  have br : Below wr.heap.size wr (wr.alloc (.cells #[.int .i64 x, .int .i64 y, .int .i64 y] 84)) := (Below.refl _ _).alloc (Nat.le_refl _) _
                  have k8 := k7.below' br
                  have HB7 := Lib.hid hb7; have HR3 := Lib.hid hR3
                  have hA8 : ArrB _ wr.heap.size _ n p := ArrB.below hPA br
                  generalize wr.alloc (.cells #[.int .i64 x, .int .i64 y, .int .i64 y] 84) = w8 at *
                  have hsr := br.size
                  rw [hgr] at kr br hsr hA8
                  clear p1 p2 p3 hcx7 hcp k7 hR3 hb7 hPA
                  go_cut [61] from 61 to 82 (fun _ wx => Below gr w8 wx ∧ Blk wx gr 84 #[.int .i64 x, .int .i64 (topN p W x y : Nat), .int .i64 y])
                  case first =>
                    go_wp2_with fail
                    go_loopw [61] (fun _ wx => ∃ f : Nat, f ≤ y ∧ Hid (topN p W x f = topN p W x y) ∧ Below gr w8 wx ∧ Blk wx gr 84 #[.int .i64 x, .int .i64 f, .int .i64 y]) (fun _ wx => cellN wx ⟨gr, 1, none⟩)
                    case atStart => exact ⟨y, by omega, Lib.hid rfl, Below.refl _ _, kr⟩
                    case round =>
                      obtain ⟨f, hfy, HT, b9, kf⟩ := hrel
                      have k9 := k8.move (b9.block _ hgw)
                      obtain ⟨p1, p2, p3⟩ := k9.cells3
                      obtain ⟨c1, c2, c3⟩ := kf.cells3
                      have q2 := kf.frozen 1
                      have hA9 := ArrB.below hA8 b9
                      by_cases f0 : f = 0
                      · have HF0 : Hid (0 = topN p W x y) := by have := HT.out; rw [f0] at this; exact this
                        subst f0
                        have KF := Lib.hid kf
                        clear HT kf hA9
                        go_wp2_with fail
                        go_meet
                        exact ⟨b9, by rw [← HF0.out]; exact KF.out⟩
                      · obtain ⟨f', hf'⟩ : ∃ f', f = f' + 1 := ⟨f - 1, by omega⟩
                        have hf1 : (f : Int) > 0 := by omega
                        have u1 : IntKind.i64.wrap ((f : Int) - 1) = (f' : Int) := (IntWalk.i64_in _ (by omega)).trans (by omega)
                        have h8 := idx_lt (x := x) (y := f') (W := W) (H := H) (by omega) (by have := HW.out; omega) (by omega) (by omega)
                        obtain ⟨e2, he2⟩ : ∃ e2 : Nat, (f' : Int) * W + x = e2 := ⟨((f' : Int) * W + x).toNat, by omega⟩
                        have he2n : e2 < n := by
                          have h9 := HNN.out
                          have h10 : (n : Int) = (H : Int) * N := by rw [h9]; push_cast; exact Int.mul_comm _ _
                          rw [he2, HW.out] at h8
                          omega
                        have u2 : IntKind.i64.wrap ((f' : Int) * W) = (f' : Int) * W := IntWalk.i64_in _ (by omega)
                        have u3 : IntKind.i64.wrap ((f' : Int) * W + x) = (e2 : Int) := (IntWalk.i64_in _ (by omega)).trans he2
                        obtain ⟨bp', op', eA, hbp', hcp'⟩ := ArrB.at_ hA9 (i := (e2 : Int)) (by omega) (by omega)
                        cases eA
                        rw [Int.toNat_natCast] at hcp'
                        have he2n' : (e2 : Int) < n := by omega
                        have HPV2 := HP.out e2 (by omega) (by omega)
                        have HE2 := Lib.hid he2
                        have HF2 := Lib.hid hf'
                        have KF := Lib.hid kf
                        have B9 := Lib.hid b9
                        have HN0 := cellN_of c2
                        clear h8 he2 hf' hA9 f0 kf
                        rcases HPV2 with hv | hv
                        · rw [hv] at hcp'
                          have HV := Lib.hid hv
                          clear hv
                          go_wp2_with fail
                          go_meet
                          have ht : topN p W x y = f := by
                            rw [← HT.out, HF2.out]
                            show (if p ((f' : Int) * W + x) = 1 then _ else f' + 1) = _
                            rw [HE2.out, HV.out, if_neg (by omega)]
                          exact ⟨B9.out, by rw [ht]; exact KF.out⟩
                        · rw [hv] at hcp'
                          have HV := Lib.hid hv
                          clear hv
                          go_wp2_with fail
                          refine ⟨⟨f', by have := HF2.out; omega, Lib.hid ?_, B9.out.setCell (Nat.le_refl gr) _, KF.out.set_ 1 (.int .i64 f')⟩, ?_⟩
                          · rw [← HT.out, HF2.out]
                            show _ = (if p ((f' : Int) * W + x) = 1 then _ else f' + 1)
                            rw [HE2.out, HV.out, if_pos rfl]
                          · have c9 := (KF.out.set_ 1 (.int .i64 f')).cell 1
                            have h9 : cellN (wr.setCell ⟨gr, 1, none⟩ (.int .i64 f')) ⟨gr, 1, none⟩ = f' := cellN_of c9
                            rw [h9, HN0]
                            have := HF2.out; omega
                  case rest =>
                    obtain ⟨b9, kf⟩ := hcut
                    have ht := topN_le p W x y
                    obtain ⟨tp, htp⟩ : ∃ tp : Nat, topN p W x y = tp := ⟨_, rfl⟩
                    rw [htp] at kf ht
                    have HTP := Lib.hid htp
                    clear htp
                    have k9 := k8.move (b9.block _ hgw)
                    have hA9 := ArrB.below hA8 b9
                    go_upto_block 8 with fail
                    go_cut [83] from 83 to 107 (fun _ wx => Below gr w8 wx ∧ Blk wx gr 84 #[.int .i64 x, .int .i64 tp, .int .i64 (botN p W x (H - 1 - y) y : Nat)])
                    case first =>
                      go_wp2_with fail
                      go_loopw [83] (fun _ wx => ∃ t : Nat, y ≤ t ∧ t < H ∧ Hid (botN p W x (H - 1 - t) t = botN p W x (H - 1 - y) y) ∧ Below gr w8 wx ∧ Blk wx gr 84 #[.int .i64 x, .int .i64 tp, .int .i64 t]) (fun _ wx => H - cellN wx ⟨gr, 2, none⟩)
                      case atStart => exact ⟨y, by omega, hyH, Lib.hid rfl, b9, kf⟩
                      case round =>
                        obtain ⟨t, hyt, htH, HT, b10, kt⟩ := hrel
                        clear k9 hA9 b9 kf
                        have k10 := k8.move (b10.block _ hgw)
                        obtain ⟨p1, p2, p3⟩ := k10.cells3
                        obtain ⟨c1, c2, c3⟩ := kt.cells3
                        have q2 := kt.frozen 2
                        have hA10 := ArrB.below hA8 b10
                        have uH : IntKind.i64.wrap ((H : Int) - 1) = (H : Int) - 1 := IntWalk.i64_in _ (by omega)
                        by_cases f0 : (t : Int) < (H : Int) - 1
                        · have u1 : IntKind.i64.wrap ((t : Int) + 1) = ((t + 1 : Nat) : Int) := (IntWalk.i64_in _ (by omega)).trans (by omega)
                          have h8 := idx_lt (x := x) (y := ((t + 1 : Nat) : Int)) (W := W) (H := H) (by omega) (by have := HW.out; omega) (by omega) (by omega)
                          obtain ⟨e2, he2⟩ : ∃ e2 : Nat, ((t + 1 : Nat) : Int) * W + x = e2 := ⟨(((t + 1 : Nat) : Int) * W + x).toNat, by omega⟩
                          have he2n : e2 < n := by
                            have h9 := HNN.out
                            have h10 : (n : Int) = (H : Int) * N := by rw [h9]; push_cast; exact Int.mul_comm _ _
                            rw [he2, HW.out] at h8
                            omega
                          obtain ⟨t', ht'⟩ : ∃ t', t + 1 = t' := ⟨_, rfl⟩
                          rw [ht'] at u1 h8 he2
                          have u2 : IntKind.i64.wrap ((t' : Int) * W) = (t' : Int) * W := IntWalk.i64_in _ (by omega)
                          have u3 : IntKind.i64.wrap ((t' : Int) * W + x) = (e2 : Int) := (IntWalk.i64_in _ (by omega)).trans he2
                          obtain ⟨bp', op', eA, hbp', hcp'⟩ := ArrB.at_ hA10 (i := (e2 : Int)) (by omega) (by omega)
                          cases eA
                          rw [Int.toNat_natCast] at hcp'
                          have he2n' : (e2 : Int) < n := by omega
                          have HPV2 := HP.out e2 (by omega) (by omega)
                          have HE2 := Lib.hid he2
                          have HF2 := Lib.hid ht'
                          have KF := Lib.hid kt
                          have B9 := Lib.hid b10
                          have HN0 := cellN_of c3
                          have HB := Lib.hid (show botN p W x (H - 1 - t) t = if p ((t' : Int) * W + x) = 1 then botN p W x (H - 1 - t') t' else t from by
                            obtain ⟨k, hk⟩ : ∃ k, H - 1 - t = k + 1 := ⟨H - 1 - t - 1, by omega⟩
                            rw [hk, show H - 1 - t' = k by omega, ← ht']
                            push_cast
                            rfl)
                          clear h8 he2 ht' hA10 kt
                          rcases HPV2 with hv | hv
                          · rw [hv] at hcp'
                            have HV := Lib.hid hv
                            clear hv
                            go_wp2_with fail
                            go_meet
                            have ht : botN p W x (H - 1 - y) y = t := by
                              rw [← HT.out, HB.out, HE2.out, HV.out, if_neg (by omega)]
                            exact ⟨B9.out, by rw [ht]; exact KF.out⟩
                          · rw [hv] at hcp'
                            have HV := Lib.hid hv
                            clear hv
                            go_wp2_with fail
                            refine ⟨⟨t', by have := HF2.out; omega, by have := HF2.out; omega, Lib.hid ?_, B9.out.setCell (Nat.le_refl gr) _, KF.out.set_ 2 (.int .i64 t')⟩, ?_⟩
                            · rw [← HT.out, HB.out, HE2.out, HV.out, if_pos rfl]
                            · have c9 := (KF.out.set_ 2 (.int .i64 t')).cell 2
                              have h9 : cellN (wr.setCell ⟨gr, 2, none⟩ (.int .i64 t')) ⟨gr, 2, none⟩ = t' := cellN_of c9
                              rw [h9, HN0]
                              have := HF2.out; omega
                        · have htl : t = H - 1 := by omega
                          have HF0 : Hid (botN p W x (H - 1 - y) y = t) := Lib.hid (by
                            rw [← HT.out, show H - 1 - t = 0 by omega]; rfl)
                          have KF := Lib.hid kt
                          have f1 : ¬ (t : Int) < (H : Int) - 1 := f0
                          clear HT kt hA10 htl
                          go_wp2_with fail
                          go_meet
                          exact ⟨b10, by rw [HF0.out]; exact KF.out⟩
                    case rest =>
                      clear b9 k9 kf hA9
                      obtain ⟨b9, kf⟩ := hcut
                      have k9 := k8.move (b9.block _ hgw)
                      have hbd := botN_bd p W x (H - 1 - y) y
                      obtain ⟨bo, hbo⟩ : ∃ bo : Nat, botN p W x (H - 1 - y) y = bo := ⟨_, rfl⟩
                      rw [hbo] at kf hbd
                      have HBO := Lib.hid hbo
                      clear hbo
                      have hL3l : L3.length ≤ 1000000000 := by omega
                      have R9 := RunRow.below HR3.out (show Below _ _ _ from by rw [hgr]; exact br.trans b9)
                      have b11 := HB7.out.trans ((br.trans b9).mono hgB7)
                      have z11 := b11.size
                      have u1 : IntKind.i64.wrap ((bo : Int) - tp) = (bo : Int) - tp := IntWalk.i64_in _ (by omega)
                      obtain ⟨c1, c2, c3⟩ := kf.cells3
                      clear b9 k9
                      by_cases hms : (bo : Int) - tp < most
                      · go_wp2_with (at_builtin; refine wpList_append_own _ rfl (.tmp 115) (.tmp 117) 75 rfl B 84 r0 (.agg #[.int .i64 0, .int .i64 0, .int .i64 0]) 3 24 Try.underlying75 hr0 hrz0 hrz1 hrz2 rfl (by decide) _ _ _ rfl (R9.alloc _) ⟨wc.heap.size, 0, none⟩ 1 1 [.int .i64 x, .int .i64 tp, .int .i64 bo] rfl rfl ?c1 ?c2 ?c3 ?c4 ?c5 ?_)
                        case c1 =>
                          intro j u hj
                          match j, hj with
                          | 0, hj => cases hj; exact (Blk.new wc 84 #[.int .i64 x, .int .i64 tp, .int .i64 bo]).cell 0
                          | 1, hj => cases hj; exact (Blk.new wc 84 #[.int .i64 x, .int .i64 tp, .int .i64 bo]).cell 1
                          | 2, hj => cases hj; exact (Blk.new wc 84 #[.int .i64 x, .int .i64 tp, .int .i64 bo]).cell 2
                          | j + 3, hj => simp at hj
                        case c2 => simp [Value.oneCell']
                        case c3 => unfold maxLen; omega
                        case c4 => omega
                        case c5 => simp; omega
                        intro v' w12 own12 hg12 _
                        have b12 : Below B w2 w12 := (b11.alloc (by omega) _).grown hg12 (by simp; omega) (fun j hj => (own_ge R9 hj).1)
                        have R12 : RunRow w12 B v' (L3 ++ [((x : Int), (tp : Int), (bo : Int))]) := by
                          unfold RunRow
                          rw [flatR_snoc, List.length_append]
                          exact own12
                        have HMS := Lib.hid hms
                        clear own12 hg12 hms
                        go_wp2
                        go_round
                        case rel => exact ⟨x + 1, _, by omega, by go_num, R12, b12, Lib.hid (by
                          rw [HL3.out]
                          show L2 ++ colX p W H most q x ++ _ = L2 ++ (colX p W H most q x ++ rnAt p W H most x (q x).toNat)
                          rw [HY.out, Int.toNat_natCast]
                          unfold rnAt
                          rw [HE.out, HPE.out, HTP.out, HBO.out, if_pos ⟨rfl, HMS.out⟩, List.append_assoc]), by simp; omega⟩
                        case measure => simp [intOf]; omega
                      · have HMS := Lib.hid hms
                        go_wp2_with fail
                        go_round
                        case rel => exact ⟨x + 1, L3, by omega, by go_num, R9, b11, Lib.hid (by
                          rw [HL3.out]
                          show L2 ++ colX p W H most q x = L2 ++ (colX p W H most q x ++ rnAt p W H most x (q x).toNat)
                          rw [HY.out, Int.toNat_natCast]
                          unfold rnAt
                          rw [HE.out, HPE.out, HTP.out, HBO.out, if_neg (fun h => HMS.out h.2), List.append_nil]), by omega⟩
                        case measure => simp [intOf]; omega
              · have hxN : x = N := by omega
                have HXN := Lib.hid hxN
                clear hxN
                go_wp2
                go_round
                case rel => exact ⟨j + 1, L3, by omega, by go_num, hR3, hb7, Lib.hid (by rw [HL3.out, HL2.out, HXN.out, ← HQ.out, List.append_assoc]; rfl), by omega⟩
                case measure => simp [intOf]; omega
          · have hj5 : j = 5 := by omega
            have HJ5 := Lib.hid hj5
            clear hj5
            go_wp2
            go_round
            case rel => exact ⟨i + 1, L2, by omega, by go_num, hR2, hb6, Lib.hid (by rw [HL2.out, HL.out, HJ5.out, ← HLN1.out]; rfl), by omega⟩
            case measure => simp [intOf]; omega
      · have hiF : i = kF := by omega
        subst hiF
        obtain ⟨bS, oS, AL, cL, rfl, hbS, hcS, hLS⟩ := HS.out i (by omega)
        have b3 : Below w.heap.size w wr := b2.trans (hb3.mono (by omega))
        have hc3 := (b3.cell (p := ⟨bS, oS + i, none⟩) hbS).trans hcS
        have hL3 := (hLS.belowB b3).more b3.size
        have FTi := Lib.hid fun cL w' hL => FT.out i (by omega) AL cL w' hL
        rw [HEND.out (by omega)] at FTi
        have k3 := k2.below' (hB ▸ hb3)
        obtain ⟨p1, p2, p3⟩ := k3.cells3
        clear hcS hLS hbS
        go_upto_region 8 with fail
        have k4 := k3.alloc (.cells #[.slice AL (K i) cL] 54)
        have ks := Blk.new wr 54 #[.slice AL (K i) cL]
        have bs : Below wr.heap.size wr (wr.alloc (.cells #[.slice AL (K i) cL] 54)) := (Below.refl _ _).alloc (Nat.le_refl _) _
        have b4 := b3.trans (bs.mono b3.size)
        have hL4 := hL3.below bs
        generalize wr.alloc (.cells #[.slice AL (K i) cL] 54) = w4 at *
        clear p1 p2 p3
        obtain ⟨p1, p2, p3⟩ := k4.cells3
        have s1 := ks.cells0
        go_wp2_with fail
        refine (FTi.out cL w4 hL4).mono ?_
        rintro e w5 ⟨rfl, hb5⟩
        have b5 := below_call b4 b4.size hb5
        go_wp2
        refine bodyPost_ret (results_tmp2 rfl _ _ _) rfl ?_
        exact .inr ⟨by omega, rfl, b5⟩
    · have hik : i = kS := by omega
      have hkk : kF = kS := by omega
      rw [hik] at HL hLl
      have hL32 : L.length ≤ 1000000000 := by omega
      have zz := hb3.size
      have hSm : ∀ r ∈ L, Small r.1 ∧ Small r.2.1 := fun r hr => by
        rw [HL.out, mem_colI] at hr
        obtain ⟨i', j', x', a1, a2, a3, hr⟩ := hr
        obtain ⟨-, -, rfl⟩ := mem_rnAt.1 hr
        obtain ⟨⟨g1, g2, g3⟩, g4⟩ := isPathB_iff.1 ((stFits_iff.1 (HF.out i' (by omega))).2.1 j' (by omega))
        have hw9 := HW.out
        have h9 := stepB_iff.1 (g4 x' (by omega) (by omega))
        simp only [Int.toNat_natCast] at h9
        have t9 := topN_le p W x' (ln i' j' x').toNat
        unfold Small
        refine ⟨⟨?_, ?_⟩, ?_, ?_⟩ <;> simp only <;> omega
      have hBr : B ≤ wr.heap.size := by rw [← hB]; exact hb3.size |> fun h => hB ▸ h
      have b3 : Below w.heap.size w wr := b2.trans (hb3.mono (by omega))
      go_wp2_with fail
      refine (sortRow_any B _ L wr hR hBr hSm hL32).mono ?_
      rintro e w7 ⟨rfl, L7, hp7, hs7, hR7, hb7⟩
      have z7 := hb7.size
      have hl7 := hp7.length_eq
      go_wp2_with fail
      refine (compactRow_any B _ L7 w7 hR7 (Nat.le_trans hBr z7) (by omega)).mono ?_
      rintro e w8 ⟨v8, rfl, hR8, hb8⟩
      go_wp2
      refine bodyPost_ret (results_tmp2 rfl _ _ _) rfl ?_
      exact .inl ⟨hkk, _, L7, rfl, hR8.base (by omega), HL.out ▸ hp7, hs7, (b3.trans (hb7.mono (by omega))).trans (hb8.mono (by omega))⟩
theorem runs_okA (W most : Int) (H N : Nat) (A AS : Option Addr) (n c kS cS : Nat) (p : Int → Int) (K : Nat → Nat) (m : Nat → Nat → Nat) (ln : Nat → Nat → Nat → Int) (w : World)
    (hW : W = N) (hN : N ≤ 640) (hH : H ≤ 640) (hA : ArrB w w.heap.size A n p) (hn : n = N * H) (hp : ∀ i : Int, 0 ≤ i → i < n → p i = 0 ∨ p i = 1) (hk : kS ≤ 1000)
    (hS : StavesIn w w.heap.size AS kS K m ln) (hm : ∀ i j, i < kS → j < K i → m i j ≤ maxLen) (hfit : ∀ i, i < kS → stFits W H (K i) (m i) (ln i) = true) :
    Calls Try.prog 48 #[.agg #[.int .i64 W, .int .i64 H, .slice A n c], .slice AS kS cS, .int .i64 most] w fun e w' => ∃ v l, e = .returned (.tuple #[v, .int .i64 0]) ∧ RunRow w' w.heap.size v (dd l) ∧ l.Perm (colI p W H most ln N kS) ∧ l.Pairwise leR ∧ Below w.heap.size w w' :=
  (runs_gen W most H N A AS n c kS cS kS p K m ln w hW hN hH hA hn hp hk hS hm (Nat.le_refl _) hfit (fun h => by omega)).mono fun e w' h => by
    rcases h with ⟨-, h⟩ | ⟨h, -⟩
    · exact h
    · omega
theorem runs_unfit (W most : Int) (H N : Nat) (A AS : Option Addr) (n c kS cS kF : Nat) (p : Int → Int) (K : Nat → Nat) (m : Nat → Nat → Nat) (ln : Nat → Nat → Nat → Int) (w : World)
    (hW : W = N) (hN : N ≤ 640) (hH : H ≤ 640) (hA : ArrB w w.heap.size A n p) (hn : n = N * H) (hp : ∀ i : Int, 0 ≤ i → i < n → p i = 0 ∨ p i = 1) (hk : kS ≤ 1000)
    (hS : StavesIn w w.heap.size AS kS K m ln) (hm : ∀ i j, i < kS → j < K i → m i j ≤ maxLen) (hkF : kF < kS) (hfit : ∀ i, i < kF → stFits W H (K i) (m i) (ln i) = true) (hend : stFits W H (K kF) (m kF) (ln kF) = false) :
    Calls Try.prog 48 #[.agg #[.int .i64 W, .int .i64 H, .slice A n c], .slice AS kS cS, .int .i64 most] w fun e w' => e = .returned (.tuple #[.slice none 0 0, .int .i64 10]) ∧ Below w.heap.size w w' :=
  (runs_gen W most H N A AS n c kS cS kF p K m ln w hW hN hH hA hn hp hk hS hm (Nat.le_of_lt hkF) hfit (fun _ => hend)).mono fun e w' h => by
    rcases h with ⟨h, -⟩ | ⟨-, h⟩
    · omega
    · exact h
theorem runs_ok (W most : Int) (H N : Nat) (A AS : Option Addr) (n c kS cS : Nat) (p : Int → Int) (K : Nat → Nat) (m : Nat → Nat → Nat) (ln : Nat → Nat → Nat → Int) (w : World)
    (hW : W = N) (hN : N ≤ 640) (hH : H ≤ 640) (hA : ArrB w w.heap.size A n p) (hn : n = N * H) (hp : ∀ i : Int, 0 ≤ i → i < n → p i = 0 ∨ p i = 1) (hk : kS ≤ 1000)
    (hS : StavesIn w w.heap.size AS kS K m ln) (hm : ∀ i j, i < kS → j < K i → m i j ≤ maxLen) (hfit : ∀ i, i < kS → stFits W H (K i) (m i) (ln i) = true) :
    Calls Try.prog 48 #[.agg #[.int .i64 W, .int .i64 H, .slice A n c], .slice AS kS cS, .int .i64 most] w fun e w' => ∃ v l, e = .returned (.tuple #[v, .int .i64 0]) ∧ RunRow w' w.heap.size v (dd l) ∧ l.Perm (colI p W H most ln N kS) ∧ l.Pairwise leR ∧ Below w.heap.size w w' :=
  runs_okA W most H N A AS n c kS cS p K m ln w hW hN hH hA hn hp hk hS hm hfit
set_option maxHeartbeats 1000000 in
theorem runs_bad (W H most z : Int) (A AS : Option Addr) (n c kS cS : Nat) (p : Int → Int) (w : World) (hA : ArrB w w.heap.size A n p) (hn : n ≤ maxLen) (hE : chk W H n p = z) (hz : z ≠ 0) :
    Calls Try.prog 48 #[.agg #[.int .i64 W, .int .i64 H, .slice A n c], .slice AS kS cS, .int .i64 most] w fun e w' => e = .returned (.tuple #[.slice none 0 0, .int .i64 z]) ∧ Below w.heap.size w w' := by
  have CK := Lib.hid fun w' hA' => check_any W H A n c p w' hA' hn
  rw [hE] at CK
  have hb : (z != 0) = true := by simp [hz]
  have HZ := Lib.hid hz; clear hz hE
  go_enter Try.func48, Try.ntmps48
  go_wp2_with fail
  refine (CK.out _ (hA.to (by (repeat (first | exact Below.refl _ _ | assumption | refine Below.drew ?_ | refine below_drewN ?_ _ | refine Below.alloc ?_ (by first | omega | (simp; done) | (simp; omega)) _ | refine Below.setCell ?_ (by first | omega | (simp; done) | (simp; omega)) _ | refine below_setRow ?_ (by first | omega | (simp; done) | (simp; omega)) _ ))))).mono ?_
  rintro e w1 ⟨rfl, hb1⟩
  have b1 : Below w.heap.size w w1 := below_call (by (repeat (first | exact Below.refl _ _ | assumption | refine Below.drew ?_ | refine below_drewN ?_ _ | refine Below.alloc ?_ (by first | omega | (simp; done) | (simp; omega)) _ | refine Below.setCell ?_ (by first | omega | (simp; done) | (simp; omega)) _ | refine below_setRow ?_ (by first | omega | (simp; done) | (simp; omega)) _ ))) (by simp; try omega) hb1
  go_wp2
  refine bodyPost_ret (results_tmp2 rfl _ _ _) rfl ?_
  exact ⟨rfl, b1⟩
end Go.Proofs.Ytdimlpcbbkokiaa

/- Plain: an image that is made, or none, with an error. No program in sight. -/
namespace Go.Proofs.Ytdimlpcbbkokiaa
open Go.RowKit
set_option linter.unusedVariables false
/-- an image over memory made by the call, and an error -/
def OutT (w w' : World) (E W H : Int) (N : Nat) (q : Int → Int) (v : Value) : Prop := ∃ A c, v = .tuple #[.agg #[.int .i64 W, .int .i64 H, .slice A N c], .int .i64 E] ∧ (∀ a, A = some a → w.heap.size ≤ a.block) ∧ ArrB w' w'.heap.size A N q
/-- the sides of an image that is made, or of none -/
def RSize (E W h W2 H2 : Int) (N : Nat) : Prop := (E = 0 → W2 = W ∧ H2 = h ∧ (N : Int) = W * h) ∧ (E ≠ 0 → W2 = 0 ∧ H2 = 0 ∧ N = 0)
theorem rsize_ex (E W h : Int) (hp : E = 0 → 0 ≤ W * h) : ∃ W2 H2 N, RSize E W h W2 H2 N := by
  by_cases hE : E = 0
  · exact ⟨W, h, (W * h).toNat, fun _ => ⟨rfl, rfl, Int.toNat_of_nonneg (hp hE)⟩, fun h => absurd hE h⟩
  · exact ⟨0, 0, 0, fun h => absurd h hE, fun _ => ⟨rfl, rfl, rfl⟩⟩
theorem rsize_le {E W h W2 H2 : Int} {N : Nat} (hs : RSize E W h W2 H2 N) (hb : E = 0 → 0 ≤ W ∧ W ≤ 640 ∧ 0 ≤ h ∧ h ≤ 640) : N ≤ 409600 := by
  by_cases hE : E = 0
  · obtain ⟨-, -, h1⟩ := hs.1 hE
    obtain ⟨a, b, c, d⟩ := hb hE
    have := (area_bd a b c d).2
    omega
  · obtain ⟨-, -, h1⟩ := hs.2 hE
    omega
theorem outT_bad {w w' : World} {E W h W2 H2 : Int} {N : Nat} {q : Int → Int} (hs : RSize E W h W2 H2 N) (hE : E ≠ 0) : OutT w w' E W2 H2 N q (.tuple #[noImg, .int .i64 E]) := by
  obtain ⟨rfl, rfl, rfl⟩ := hs.2 hE
  exact ⟨none, 0, rfl, (fun _ h => by cases h), ArrB.nil⟩
theorem OutN.outT {w w' : World} {W H : Int} {N : Nat} {q : Int → Int} {v : Value} (h : OutN w w' W H N q v) : OutT w w' 0 W H N q (.tuple #[v, .int .i64 0]) := by
  obtain ⟨g, rfl, hg, hk⟩ := h
  exact ⟨_, _, rfl, (fun a e => by cases e; exact hg), hk.arrB hk.lt⟩
theorem OutT.conv {w w' : World} {E W H : Int} {N : Nat} {q r : Int → Int} {v : Value} (h : OutT w w' E W H N q v) (he : ∀ i : Int, 0 ≤ i → i < N → q i = r i) : OutT w w' E W H N r v := by
  obtain ⟨A, c, rfl, hg, ha⟩ := h
  exact ⟨A, c, rfl, hg, ha.congr he⟩
end Go.Proofs.Ytdimlpcbbkokiaa

/- Walk: an image without the line runs of staves (stave.Remove), when the image is fine and all staves fit. -/
namespace Go.Proofs.Ytdimlpcbbkokiaa
open Go.RowKit Go.Shelf
set_option linter.unusedVariables false
attribute [local go_sem] Oper.semAt_some

theorem StavesIn.to {w w' : World} {A : Option Addr} {k : Nat} {K : Nat → Nat} {m : Nat → Nat → Nat} {ln : Nat → Nat → Nat → Int} (h : StavesIn w w.heap.size A k K m ln) (hb : Below w.heap.size w w') : StavesIn w' w'.heap.size A k K m ln := fun i hi => by
  obtain ⟨b, off, AL, cL, rfl, h1, h2, h3⟩ := h i hi
  exact ⟨b, off, AL, cL, rfl, Nat.lt_of_lt_of_le h1 hb.size, (hb.cell (p := ⟨b, off + i, none⟩) h1).trans h2, (h3.belowB hb).more hb.size⟩
theorem RunRow.cells {w : World} {B : Nat} {v : Value} {l : List Rn} (h : RunRow w B v l) : ∃ A c, v = .slice A l.length c ∧ (∀ a, A = some a → B ≤ a.block) ∧ RunArr w A l := by
  by_cases hl : l = []
  · obtain ⟨A, c, e, -⟩ := h.val
    subst hl
    rcases h.2 with ⟨rfl, -⟩ | ⟨g, c2, cur, rfl, hb, -⟩
    · exact ⟨none, 0, rfl, (fun a e => by cases e), fun h => absurd rfl h⟩
    · exact ⟨_, _, rfl, (fun a e => by cases e; exact hb), fun h => absurd rfl h⟩
  · obtain ⟨g, c, cs, rfl, hc, hg, hk, hsz, hm, ht⟩ := h.blk hl
    refine ⟨_, _, rfl, (fun a e => by cases e; exact hg), fun _ => ⟨g, rfl, hk.lt, fun i r hi => ?_⟩⟩
    have hil : i < l.length := (List.getElem?_eq_some_iff.1 hi).1
    obtain ⟨c1, c2, c3⟩ := (runC_of ht).cells hk hil
    have hg2 : l.toArray[i]! = r := by
      have := List.getElem?_eq_some_iff.1 hi
      simp [this.1, this.2]
    rw [hg2] at c1 c2 c3
    exact ⟨c1, c2, c3⟩
theorem strike_congr {l l' : List Rn} {W : Int} {p : Int → Int} (h : ∀ r, r ∈ l ↔ r ∈ l') (i : Int) : strike l W p i = strike l' W p i := by
  unfold strike
  have e : l.any (fun r => hitB r W i) = l'.any (fun r => hitB r W i) := by
    apply Bool.eq_iff_iff.2
    rw [List.any_eq_true, List.any_eq_true]
    exact ⟨fun ⟨r, a, b⟩ => ⟨r, (h r).1 a, b⟩, fun ⟨r, a, b⟩ => ⟨r, (h r).2 a, b⟩⟩
  rw [e]

theorem but_setRow {w : World} {g : Nat} (cs : Array Value) : But w.heap.size g w (w.setRow g cs) :=
  ⟨rfl, rfl, rfl, by simp [World.setRow], fun k _ hk => setRow_other w g k cs hk⟩
/-- all bytes of a slice copied over a block of so many -/
theorem wpList_copy_all {P : Program} {w : World} {ops : Array Oper} {rest : List Oper} {o : Oper} {a : Act} {Q : Exit → Act → World → Prop} (hgd : o.guard = none) (d s : Operand) (dT sT : TypeId)
    (ho : o.op = .call { callee := .builtin .copy, args := #[d, s], argTypes := #[dT, sT] }) (elem : TypeId) (hu : P.underlying dT = some (.slice elem)) (hsz : (P.info? elem).map (·.size) = some 1)
    (g n dCap sCap B : Nat) (A : Option Addr) (hd : a.eval d = .slice (some ⟨g, 0, none⟩) n dCap) (hs : a.eval s = .slice A n sCap)
    (p q : Int → Int) (t : TypeId) (hg : Blk w g t (u8s n q)) (hA : ArrB w B A n p)
    (h : ∀ w', Hid (Blk w' g t (u8s n p)) → Hid (But w.heap.size g w w') → wpList P ops Q rest (a.put o.dst (goInt n)) w') : wpList P ops Q (o :: rest) a w := by
  have e1 : (u8s n p).toList.length = n := by rw [Array.length_toList, u8s_size]
  have e2 : (u8s n q).toList.length = n := by rw [Array.length_toList, u8s_size]
  by_cases h0 : n = 0
  · subst h0
    refine wpList_copy_nothing hgd d s dT sT ho elem hu hsz _ _ _ _ _ _ hd hs rfl ?_
    exact h w (Lib.hid (hg.u8conv fun j a b => by omega)) (Lib.hid (But.refl _ (Nat.le_refl _)))
  · obtain ⟨b, off, rfl, hb, hc⟩ := hA.fn (by omega)
    have X := wpList_copy_own (P := P) (w := w) (ops := ops) (rest := rest) (o := o) (a := a) (Q := Q) hgd d s dT sT ho elem hu hsz g 0 n dCap ⟨b, off, none⟩ n sCap hd hs (u8s n q) t hg (u8s n p).toList (by rw [e1]; exact (Nat.min_self n).symm) (fun j v hj => ?_) (by rw [e1, u8s_size]; omega) ?_ ?_
    · exact X
    · rw [Array.getElem?_toList] at hj
      have hjn : j < n := by
        have := (Array.getElem?_eq_some_iff.1 hj).1
        rw [u8s_size] at this; exact this
      have h2 := u8s_at (n := n) (q := p) (i := (j : Int)) (by omega) (by omega)
      rw [Int.toNat_natCast] at h2
      rw [h2] at hj
      cases hj
      have h5 := hc j (by omega) (by omega)
      rw [Int.toNat_natCast] at h5
      rw [show (⟨b, off, none⟩ : Addr).add j = ⟨b, off + j, none⟩ from by unfold Addr.add; split <;> simp_all]
      exact h5
    · have h3 := u8s_one n p
      rw [Array.all_eq_true_iff_forall_mem] at h3
      exact fun v hv => h3 v (by simpa using hv)
    · have e3 : ((u8s n q).toList.take 0 ++ ((u8s n p).toList ++ (u8s n q).toList.drop (0 + (u8s n p).toList.length))).toArray = u8s n p := by
        rw [List.take_zero, List.nil_append, List.drop_eq_nil_of_le (by rw [e1, e2]; omega), List.append_nil]
      rw [e3, e1]
      exact h _ (Lib.hid (hg.setRow _)) (Lib.hid (but_setRow _))

set_option maxRecDepth 100000 in
set_option maxHeartbeats 4000000 in
theorem remove_ok (W most : Int) (H N : Nat) (A AS : Option Addr) (n c kS cS : Nat) (p : Int → Int) (K : Nat → Nat) (m : Nat → Nat → Nat) (ln : Nat → Nat → Nat → Int) (w : World)
    (hW : W = N) (hN : N ≤ 640) (hH : H ≤ 640) (hA : ArrB w w.heap.size A n p) (hn : n = N * H) (hp : ∀ i : Int, 0 ≤ i → i < n → p i = 0 ∨ p i = 1) (hk : kS ≤ 1000)
    (hS : StavesIn w w.heap.size AS kS K m ln) (hm : ∀ i j, i < kS → j < K i → m i j ≤ maxLen) (hfit : ∀ i, i < kS → stFits W H (K i) (m i) (ln i) = true) :
    Calls Try.prog 42 #[.agg #[.int .i64 W, .int .i64 H, .slice A n c], .slice AS kS cS, .int .i64 most] w (New w fun v w' => OutT w w' 0 W H n (strike (colI p W H most ln N kS) W p) v) := by
  have hn640 : n ≤ 409600 := by rw [hn]; exact Nat.mul_le_mul hN hH
  have RU := Lib.hid fun w' hA' hS' => runs_ok W most H N A AS n c kS cS p K m ln w' hW hN hH hA' hn hp hk hS' hm hfit
  have hmk := makeB (n : Int) (by omega) (by omega)
  simp only [Int.toNat_natCast] at hmk
  -- the members of the list
  have MB := Lib.hid (fun (r : Rn) (hr : r ∈ colI p W H most ln N kS) => (show 0 ≤ r.1 ∧ r.1 < W ∧ 0 ≤ r.2.1 ∧ r.2.1 ≤ r.2.2 ∧ r.2.2 < H from by
    rw [mem_colI] at hr
    obtain ⟨i', j', x', a1, a2, a3, hr⟩ := hr
    obtain ⟨-, -, rfl⟩ := mem_rnAt.1 hr
    obtain ⟨⟨g1, g2, g3⟩, g4⟩ := isPathB_iff.1 ((stFits_iff.1 (hfit i' a1)).2.1 j' (by omega))
    have h9 := stepB_iff.1 (g4 x' (by omega) (by omega))
    simp only [Int.toNat_natCast] at h9
    obtain ⟨y, hy⟩ : ∃ y : Nat, ln i' j' x' = y := ⟨(ln i' j' x').toNat, by omega⟩
    simp only [hy, Int.toNat_natCast] at h9 ⊢
    have t9 := topN_le p W x' y
    have t8 := botN_bd p W x' (H - 1 - y) y
    refine ⟨?_, ?_, ?_, ?_, ?_⟩ <;> omega))
  obtain ⟨S0, hS0⟩ : ∃ S0, colI p W H most ln N kS = S0 := ⟨_, rfl⟩
  rw [hS0] at RU MB ⊢
  clear hS0
  have HW := Lib.hid hW; have HNN := Lib.hid hn; have HA := Lib.hid hA; have HS := Lib.hid hS
  have hw0 : 0 ≤ W := by omega
  have hw1 : W ≤ 640 := by omega
  clear hS hm hfit hp hA hn hW
  go_enter Try.func42, Try.ntmps42
  go_wp2_with fail
  have k1 : Blk ((w.alloc (.cells #[.int .i64 W, .int .i64 H, .slice A n c] 24)).alloc (.cells #[.int .i64 0, .int .i64 0, .slice none 0 0] 24)) w.heap.size 24 #[.int .i64 W, .int .i64 H, .slice A n c] := (Blk.new _ _ _).alloc _
  have k2 : Blk ((w.alloc (.cells #[.int .i64 W, .int .i64 H, .slice A n c] 24)).alloc (.cells #[.int .i64 0, .int .i64 0, .slice none 0 0] 24)) (w.heap.size + 1) 24 #[.int .i64 0, .int .i64 0, .slice none 0 0] := Blk.new' (by simp) _ _
  have b1 : Below w.heap.size w ((w.alloc (.cells #[.int .i64 W, .int .i64 H, .slice A n c] 24)).alloc (.cells #[.int .i64 0, .int .i64 0, .slice none 0 0] 24)) := by (repeat (first | exact Below.refl _ _ | assumption | refine Below.drew ?_ | refine below_drewN ?_ _ | refine Below.alloc ?_ (by first | omega | (simp; done) | (simp; omega)) _ | refine Below.setCell ?_ (by first | omega | (simp; done) | (simp; omega)) _ | refine below_setRow ?_ (by first | omega | (simp; done) | (simp; omega)) _ ))
  generalize (w.alloc (.cells #[.int .i64 W, .int .i64 H, .slice A n c] 24)).alloc (.cells #[.int .i64 0, .int .i64 0, .slice none 0 0] 24) = w1 at *
  refine (RU.out w1 (HA.out.to b1) (HS.out.to b1)).mono ?_
  rintro e w2 ⟨v, l0, rfl, hR, hpm, -, hb2⟩
  obtain ⟨L, hL⟩ : ∃ L, dd l0 = L := ⟨_, rfl⟩
  rw [hL] at hR
  have HML := Lib.hid (fun (r : Rn) => (show r ∈ L ↔ r ∈ S0 from by rw [← hL, mem_dd, hpm.mem_iff]))
  have hLl : L.length ≤ maxLen := by
    by_cases hl : L = []
    · rw [hl]; exact Nat.zero_le _
    · obtain ⟨_, _, _, -, h1, -, -, -, h2, -⟩ := hR.blk hl; omega
  obtain ⟨AL, cL, rfl, -, hRA⟩ := hR.cells
  have b2 := below_call b1 b1.size hb2
  replace k1 := k1.below' hb2
  replace k2 := k2.below' hb2
  clear hb2 b1 RU hpm hL hR
  have Z1 := k1.lt; have Z2 := k2.lt
  obtain ⟨p1, p2, p3⟩ := k1.cells3
  go_upto_region 4 with fail
  go_cut [10] (fun f wx => ∃ B g, f = .pointer (some ⟨B, 0, none⟩) ∧ Below w2.heap.size w2 wx ∧ w2.heap.size ≤ g ∧ g ≠ B ∧ w2.heap.size ≤ B ∧ Blk wx B 24 #[.int .i64 W, .int .i64 H, .slice (some ⟨g, 0, none⟩) n n] ∧ Blk wx g 5 (u8s n (fun _ => 0)))
  case first =>
    go_region_held3 (fun w' => w'.cell? ⟨w.heap.size, 0, none⟩ = some (.int .i64 W) ∧ w'.cell? ⟨w.heap.size, 1, none⟩ = some (.int .i64 H) ∧ w'.cell? ⟨w.heap.size, 2, none⟩ = some (.slice A n c))
      (simp [go_sem, *]) (fail)
    all_goals
      go_wp2_with fail
      go_meet
    · exact ⟨w2.heap.size + 1, w2.heap.size, rfl, by (repeat (first | exact Below.refl _ _ | assumption | refine Below.drew ?_ | refine below_drewN ?_ _ | refine Below.alloc ?_ (by first | omega | (simp; done) | (simp; omega)) _ | refine Below.setCell ?_ (by first | omega | (simp; done) | (simp; omega)) _ | refine below_setRow ?_ (by first | omega | (simp; done) | (simp; omega)) _ )), by omega, by omega, by omega, (Blk.new' (by simp) _ _).drew, ((Blk.new _ _ _).alloc _).drew⟩
    · exact ⟨w2.heap.size, w2.heap.size + 1, rfl, by (repeat (first | exact Below.refl _ _ | assumption | refine Below.drew ?_ | refine below_drewN ?_ _ | refine Below.alloc ?_ (by first | omega | (simp; done) | (simp; omega)) _ | refine Below.setCell ?_ (by first | omega | (simp; done) | (simp; omega)) _ | refine below_setRow ?_ (by first | omega | (simp; done) | (simp; omega)) _ )), by omega, by omega, by omega, ((Blk.new _ _ _).alloc _).drew, (Blk.new' (by simp) _ _).drew⟩
  case rest =>
    obtain ⟨B, g, rfl, hb3, hg, hgB, hBB, kB, kg⟩ := hcut
    replace k1 := k1.below' hb3
    replace k2 := k2.below' hb3
    have b3 := below_call b2 b2.size hb3
    have hA3 := HA.out.to b3
    have z3 := hb3.size
    have zB := kB.lt
    have zg := kg.lt
    have HRA := Lib.hid hRA; have HB3 := Lib.hid hb3; have HMB := MB
    clear p1 p2 p3 hb3 b2 hmk hRA
    obtain ⟨p1, p2, p3⟩ := k1.cells3
    obtain ⟨q1, q2, q3⟩ := kB.cells3
    clear MB
    unfold maxLen at hLl
    go_wp2_with (with_reducible show wpList _ _ _ _ _ _; refine wpList_copy_all (o := ⟨some 38, _, _, _, _, _⟩) rfl (.tmp 35) (.tmp 37) 22 22 rfl 5 Try.underlying22 (by kernel_rfl) g n n c wc.heap.size A rfl rfl p _ 5 kg hA3 ?_)
    intro w4 KG4 BU4
    obtain ⟨B3, hB3⟩ : ∃ B3, wc.heap.size = B3 := ⟨_, rfl⟩
    rw [hB3] at BU4 z3 zB zg
    have HB33 := Lib.hid hB3
    clear p1 p2 p3 q1 q2 q3 hA3 hB3
    have kk := k1.lt
    rw [HB33.out] at kk
    have hgi : g ≠ w.heap.size := by omega
    go_wp2_with fail
    go_loopw [41] (fun s wr => ∃ i : Nat, i ≤ L.length ∧ s = .int .i64 i ∧ But B3 g wc wr ∧ Blk wr g 5 (u8s n (strike (L.take i) W p))) (fun s _ => L.length - (intOf s).toNat)
    case atStart => exact ⟨0, by omega, rfl, BU4.out, KG4.out.u8conv fun j _ _ => by rw [List.take_zero]; exact strike_nil.symm⟩
    case round =>
      obtain ⟨i, hi, rfl, bu, kp⟩ := hrel
      have m1 := k1.but bu (by omega) (Ne.symm hgi)
      have mB := kB.but bu (by omega) (Ne.symm hgB)
      have rA := HRA.out.to (HB3.out.trans (bu.to HB33.out hg z3))
      by_cases il : (i : Int) < L.length
      · have ilN : i < L.length := by omega
        obtain ⟨gR, rfl, hgR, rc⟩ := rA (by intro h; rw [h] at ilN; simp at ilN)
        obtain ⟨r, hr⟩ : ∃ r, L[i]? = some r := ⟨L[i], List.getElem?_eq_getElem ilN⟩
        have htk : L.take (i + 1) = L.take i ++ [r] := by rw [List.take_add_one, hr]; rfl
        obtain ⟨c1, c2, c3⟩ := rc i r hr
        obtain ⟨b1', b2', b3', b4', b5'⟩ := HMB.out r ((HML.out r).1 (List.mem_of_getElem? hr))
        obtain ⟨rx, rf, rt⟩ := r
        simp only at c1 c2 c3 b1' b2' b3' b4' b5'
        obtain ⟨x, rfl⟩ := Int.eq_ofNat_of_zero_le b1'
        obtain ⟨f, rfl⟩ := Int.eq_ofNat_of_zero_le b3'
        obtain ⟨t, rfl⟩ := Int.eq_ofNat_of_zero_le (Int.le_trans b3' b4')
        have HTK := Lib.hid htk
        obtain ⟨q, hq⟩ : ∃ q, strike (L.take i) W p = q := ⟨_, rfl⟩
        rw [hq] at kp
        have HQ := Lib.hid hq
        clear htk hr rc hq
        obtain ⟨gb, hgb⟩ : ∃ g, wr.heap.size = g := ⟨_, rfl⟩
        go_upto_region 9 with fail
        have bw := bu.then ((Below.refl _ wr).alloc bu.size (.cells #[.int .i64 (x : Int), .int .i64 (f : Int), .int .i64 (t : Int)] 84))
        have BX := Blk.new wr 84 #[.int .i64 (x : Int), .int .i64 (f : Int), .int .i64 (t : Int)]
        have n1 := m1.alloc (.cells #[.int .i64 (x : Int), .int .i64 (f : Int), .int .i64 (t : Int)] 84)
        have nB := mB.alloc (.cells #[.int .i64 (x : Int), .int .i64 (f : Int), .int .i64 (t : Int)] 84)
        have np := kp.alloc (.cells #[.int .i64 (x : Int), .int .i64 (f : Int), .int .i64 (t : Int)] 84)
        have zw := bu.size
        have zw5 : (wr.alloc (.cells #[.int .i64 (x : Int), .int .i64 (f : Int), .int .i64 (t : Int)] 84)).heap.size = gb + 1 := by simp [hgb]
        generalize wr.alloc (.cells #[.int .i64 (x : Int), .int .i64 (f : Int), .int .i64 (t : Int)] 84) = w5 at *
        rw [hgb] at BX zw
        have HGB := Lib.hid hgb
        clear bu kp m1 mB c1 c2 c3 rA hgR hgb
        obtain ⟨c1, c2, c3⟩ := BX.cells3
        go_wp2_with fail
        clear c1 c2 c3
        go_loopw [13] (fun s wr => ∃ y : Nat, f ≤ y ∧ y ≤ t + 1 ∧ s = .int .i64 y ∧ But (gb + 1) g w5 wr ∧ Blk wr g 5 (u8s n (strikeY ((x : Int), (f : Int), (t : Int)) y W q))) (fun s _ => t + 1 - (intOf s).toNat)
        case atStart => exact ⟨f, by omega, by omega, rfl, But.refl _ (by omega), np.u8conv fun j _ _ => strikeY_start.symm⟩
        case round =>
          obtain ⟨y, hfy, hyt, rfl, bu, kp⟩ := hrel
          have m1 := n1.but bu (by omega) (Ne.symm hgi)
          have mB := nB.but bu (by omega) (Ne.symm hgB)
          have mX := BX.but bu (by omega) (by omega)
          clear np
          obtain ⟨p1, p2, p3⟩ := m1.cells3
          obtain ⟨q1, q2, q3⟩ := mB.cells3
          obtain ⟨c1, c2, c3⟩ := mX.cells3
          by_cases yl : (y : Int) ≤ t
          · obtain ⟨e, he⟩ : ∃ e : Nat, (y : Int) * W + x = e := ⟨y * N + x, by rw [HW.out]; push_cast; rfl⟩
            have hen : (e : Int) < n := by
              have h8 := (idx_lt (x := x) (y := y) (W := W) (H := H) (by omega) b2' (by omega) (by omega)).2.1
              rw [he, HW.out] at h8
              have h9 := HNN.out
              have h10 : (n : Int) = (H : Int) * N := by rw [h9]; push_cast; exact Int.mul_comm _ _
              omega
            have v1 : IntKind.i64.wrap ((y : Int) * W) = (y : Int) * W := IntWalk.i64_in _ (by have := Int.mul_nonneg (show (0 : Int) ≤ y by omega) hw0; omega)
            have v2 : IntKind.i64.wrap ((y : Int) * W + x) = (e : Int) := (IntWalk.i64_in _ (by omega)).trans he
            have cg := kp.u8at (i := (e : Int)) (by omega) hen
            have fg := kp.frozen e
            rw [Int.toNat_natCast] at cg
            have KS := Lib.hid (kp.u8set (e : Int) (by omega) 0)
            have HE := Lib.hid he
            have HSS := Lib.hid fun i => strikeY_set (r := ((x : Int), (f : Int), (t : Int))) (q := q) (i := i) (y := (y : Int)) (W := W) (by show (0 : Int) ≤ x; omega) (show (x : Int) < W from b2') (show (f : Int) ≤ y by omega)
            generalize hsv : strikeY ((x : Int), (f : Int), (t : Int)) y W q e = sv at *
            clear he hsv
            go_wp2_with fail
            go_round
            case rel => exact ⟨y + 1, by omega, by omega, by go_num, bu.set _ _, by
              have h := KS.out
              rw [Int.toNat_natCast] at h
              refine h.u8conv fun i _ _ => ?_
              have h2 := HSS.out i
              rw [← HE.out, h2]
              push_cast
              rfl⟩
            case measure => simp [intOf]; omega
          · have hyt1 : y = t + 1 := by omega
            have kp2 : Blk wr g 5 (u8s n (strike (L.take (i + 1)) W p)) := kp.u8conv fun j _ _ => by
              rw [HTK.out, strike_snoc, HQ.out, hyt1]
              push_cast
              rfl
            have bz : But B3 g wc wr := bw.trans bu (by omega)
            clear kp hyt1
            go_wp2_with fail
            go_round
            case rel => exact ⟨i + 1, by omega, by go_num, bz, kp2⟩
            case measure => simp [intOf]; omega
      · have hiL : i = L.length := by omega
        have kp2 : Blk wr g 5 (u8s n (strike S0 W p)) := kp.u8conv fun j _ _ => by
          rw [hiL, List.take_length]
          exact strike_congr HML.out j
        have m2 := k2.but bu (by have := k2.lt; have := HB33.out; omega) (by omega)
        obtain ⟨p1, p2, p3⟩ := m1.cells3
        obtain ⟨q1, q2, q3⟩ := mB.cells3
        obtain ⟨f1, f2, f3⟩ := m2.frozen3
        obtain ⟨y1, y2, y3⟩ := m2.cells3
        have k5 := ((m2.set_ 0 (.int .i64 W)).set_ 1 (.int .i64 H)).set_ 2 (.slice (some ⟨g, 0, none⟩) n n)
        obtain ⟨s1, s2, s3⟩ := Blk.cells3 (a := .int .i64 W) (b := .int .i64 H) (c := .slice (some ⟨g, 0, none⟩) n n) k5
        have bE : Below w.heap.size w wr := b3.trans (bu.to HB33.out (by omega) (by omega))
        clear kp hiL rA
        go_wp2_with fail
        refine bodyPost_ret (v := .tuple #[.agg #[.int .i64 W, .int .i64 H, .slice (some ⟨g, 0, none⟩) n n], .int .i64 0]) (by simp [results, Try.results42, go_sem, s1, s2, s3]) rfl ?_
        refine ⟨_, rfl, ⟨_, _, rfl, (fun a e => by cases e; show w.heap.size ≤ g; omega), ?_⟩, by (repeat (first | exact Below.refl _ _ | assumption | refine Below.drew ?_ | refine below_drewN ?_ _ | refine Below.alloc ?_ (by first | omega | (simp; done) | (simp; omega)) _ | refine Below.setCell ?_ (by first | omega | (simp; done) | (simp; omega)) _ | refine below_setRow ?_ (by first | omega | (simp; done) | (simp; omega)) _ ))⟩
        have g1 : g ≠ w.heap.size + 1 := by omega
        have kF := Blk.far (Blk.far (Blk.far kp2 (p := ⟨w.heap.size + 1, 0, none⟩) g1 (.int .i64 W)) (p := ⟨w.heap.size + 1, 1, none⟩) g1 (.int .i64 H)) (p := ⟨w.heap.size + 1, 2, none⟩) g1 (.slice (some ⟨g, 0, none⟩) n n)
        exact kF.arrB kF.lt
end Go.Proofs.Ytdimlpcbbkokiaa
