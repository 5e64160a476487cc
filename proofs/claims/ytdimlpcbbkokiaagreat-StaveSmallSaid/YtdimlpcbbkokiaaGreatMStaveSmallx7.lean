/- Texts of mine in build order: T34, T48, S22, S13, S14, T49, T50, T51. Conditions: each theorem's own. -/
import Derived.Test.YtdimlpcbbkokiaaGreatMStaveSmallx6
import Derived.Lib.SlicesCompact
import Derived.Lib.SliceRun
import Derived.Laws.StructEq
import Derived.Shelf.Slices.CompactI
import Derived.Shelf.SlSortCmp.NoneTotal
/- Walk: groups of lines (StaveGroups). -/
namespace Go.Proofs.YtdimlpcbbkokiaaGreat
open Go.RowKit Go.Shelf
set_option linter.unusedVariables false
attribute [local go_sem] Oper.semAt_some

/-- the blocks from B up to E are as they were -/
def KeepIn (B E : Nat) (w w' : World) : Prop := ∀ k, B ≤ k → k < E → w'.heap[k]? = w.heap[k]?
section
variable {B E : Nat} {w w' w'' : World}
theorem KeepIn.refl (B E : Nat) (w : World) : KeepIn B E w w := fun _ _ _ => rfl
theorem KeepIn.drew (h : KeepIn B E w w') : KeepIn B E w w'.drew := h
theorem KeepIn.set {p : Addr} {u : Value} (hg : p.block < B ∨ E ≤ p.block) (h : KeepIn B E w w') : KeepIn B E w (w'.setCell p u) := fun k h1 h2 => (heap_setCell_other w' p k u (by omega)).trans (h k h1 h2)
theorem KeepIn.alloc {o : Obj} (hE : E ≤ w'.heap.size) (h : KeepIn B E w w') : KeepIn B E w (w'.alloc o) := fun k h1 h2 => (Below.heap_alloc w' o k (by omega)).trans (h k h1 h2)
theorem KeepIn.call (hb : Below w'.heap.size w' w'') (hE : E ≤ w'.heap.size) (h : KeepIn B E w w') : KeepIn B E w w'' := fun k h1 h2 => (hb.block k (by omega)).trans (h k h1 h2)
theorem KeepIn.found {m : Nat → Nat} {ln : Nat → Nat → Int} {k : Nat} {vo : Value} {v : Nat → Value} (h : FoundM B w m ln k vo v) (hk : KeepIn B w.heap.size w w') : FoundM B w' m ln k vo v :=
  ⟨own_move h.row fun j hj => hk j (own_ge h.row hj).1 (own_ge h.row hj).2, fun i hi => own_move (h.lines i hi) fun j hj => hk j (own_ge (h.lines i hi) hj).1 (own_ge (h.lines i hi) hj).2⟩
theorem KeepIn.arr {A : Option Addr} {n : Nat} {q : Int → Int} (h : ArrB w w.heap.size A n q) (hA : ∀ a, A = some a → B ≤ a.block) (hk : KeepIn B w.heap.size w w') (hs : w.heap.size ≤ w'.heap.size) : ArrB w' w'.heap.size A n q := fun hn => by
  obtain ⟨b, off, rfl, hb, hc⟩ := h hn
  refine ⟨b, off, rfl, Nat.lt_of_lt_of_le hb hs, fun i i0 i1 => (World.cell?_of_block (hk b (hA _ rfl) hb)).trans (hc i i0 i1)⟩
end
theorem Blk.fill1 {w : World} {g t : Nat} {x a : Value} (h : Blk w g t #[x]) : Blk (w.setCell ⟨g, 0, none⟩ a) g t #[a] := h.set_ 0 a
theorem LinesOf {B : Nat} {w : World} {m : Nat → Nat} {ln : Nat → Nat → Int} {k c : Nat} {A : Option Addr} {v : Nat → Value} (h : FoundM B w m ln k (.slice A k c) v) : Lines w w.heap.size A k m ln := by
  obtain ⟨A', c', e, -, -, hL⟩ := h.toLines
  cases e
  exact hL
theorem Blk.far1' {w : World} {g t k o : Nat} {a : Value} {cs : Array Value} (hk : k ≠ g) (h : Blk w k t cs) : Blk (w.setCell ⟨g, o, none⟩ a) k t cs := h.far (p := ⟨g, o, none⟩) hk a
/-- only blocks of numbers may have changed -/
def IntOnly (w5 wr : World) : Prop := w5.heap.size ≤ wr.heap.size ∧ ∀ k, k < w5.heap.size → (∃ cs cs', Blk w5 k 3 cs ∧ Blk wr k 3 cs' ∧ cs'.size = cs.size) ∨ wr.heap[k]? = w5.heap[k]?
section
variable {w5 wr : World}
theorem IntOnly.refl (w : World) : IntOnly w w := ⟨Nat.le_refl _, fun _ _ => .inr rfl⟩
theorem IntOnly.alloc (h : IntOnly w5 wr) (o : Obj) : IntOnly w5 (wr.alloc o) := by
  refine ⟨by have := h.1; simp; omega, fun k hk => ?_⟩
  have hk2 : k < wr.heap.size := Nat.lt_of_lt_of_le hk h.1
  rw [Below.heap_alloc wr o k hk2]
  rcases h.2 k hk with ⟨cs, cs', h1, h2, h3⟩ | h1
  · exact .inl ⟨cs, cs', h1, h2.alloc _, h3⟩
  · exact .inr h1
theorem IntOnly.set (h : IntOnly w5 wr) {g : Nat} {cs : Array Value} (hb : Blk wr g 3 cs) (o : Nat) (u : Value) : IntOnly w5 (wr.setCell ⟨g, o, none⟩ u) := by
  refine ⟨by have := h.1; simpa using this, fun k hk => ?_⟩
  by_cases e : k = g
  · subst e
    rcases h.2 k hk with ⟨c1, c2, h1, h2, h3⟩ | h1
    · exact .inl ⟨c1, c2.setIfInBounds o u, h1, h2.set_ o u, by simp [h3]⟩
    · exact .inl ⟨cs, cs.setIfInBounds o u, hb.move h1.symm, hb.set_ o u, by simp⟩
  · rcases h.2 k hk with ⟨c1, c2, h1, h2, h3⟩ | h1
    · exact .inl ⟨c1, c2, h1, h2.far (p := ⟨g, o, none⟩) e u, h3⟩
    · exact .inr ((heap_setCell_other wr ⟨g, o, none⟩ k u e).trans h1)
theorem IntOnly.cell (h : IntOnly w5 wr) {b t : Nat} {cs : Array Value} (hb : Blk w5 b t cs) (ht : t ≠ 3) : Blk wr b t cs := by
  rcases h.2 b hb.lt with ⟨c1, c2, h1, -, -⟩ | h1
  · have h2 : w5.heap[b]? = _ := hb
    have h3 : w5.heap[b]? = _ := h1
    rw [h2] at h3
    exact absurd (congrArg (fun o : Option Obj => match o with | some (.cells _ t _) => t | _ => 0) h3) ht
  · exact hb.move h1
theorem IntOnly.int (h : IntOnly w5 wr) {b : Nat} {cs : Array Value} (hb : Blk w5 b 3 cs) : ∃ cs', Blk wr b 3 cs' ∧ cs'.size = cs.size := by
  rcases h.2 b hb.lt with ⟨c1, c2, h1, h2, h3⟩ | h1
  · have e : w5.heap[b]? = _ := hb
    have e2 : w5.heap[b]? = _ := h1
    rw [e] at e2
    have : cs = c1 := by cases e2; rfl
    subst this
    exact ⟨c2, h2, h3⟩
  · exact ⟨cs, hb.move h1, rfl⟩
end
/-- an owned row, as a block -/
theorem own_blk {w : World} {B n : Nat} {e : TypeId} {v : Value} {xs : List Value} (h : w.ownsRow B e 1 v n xs) (hn : 0 < n) : ∃ g c cs, v = .slice (some ⟨g, 0, none⟩) n c ∧ B ≤ g ∧ Blk w g e cs ∧ ∀ t, t < n → cs[t]? = xs[t]? := by
  rcases h.2 with ⟨-, h2⟩ | ⟨g, cap, cur, hv, hb, hh, hc, _, hs, ht⟩
  · omega
  · refine ⟨g, cap, cur, hv, hb, hh, fun t ht2 => ?_⟩
    rw [← ht, List.getElem?_take, if_pos (by omega)]
    simp
/-- what is written to in a row of staves -/
theorem StOut.places {B : Nat} {w : World} {m : Nat → Nat} {ln : Nat → Nat → Int} {st : List Nat} {vo : Value} {vs : Nat → Value} (h : StOut B w m ln st vo vs) (hp : ∀ t, t ∈ st → ∀ j, j < 5 → 0 < m (t + j)) {t : Nat} (ht : t < st.length) :
    ∃ b c cs b5 c5 cs5, vo = .slice (some ⟨b, 0, none⟩) st.length c ∧ Blk w b 40 cs ∧ cs[t]? = some (.slice (some ⟨b5, 0, none⟩) 5 c5) ∧ Blk w b5 37 cs5 ∧
      ∀ j, j < 5 → ∃ g n cg cj, cs5[j]? = some (.slice (some ⟨g, 0, none⟩) n cg) ∧ 0 < n ∧ B ≤ g ∧ Blk w g 3 cj ∧ 0 < cj.size := by
  obtain ⟨b, c, cs, rfl, -, hb, hcs⟩ := own_blk h.row (by omega)
  obtain ⟨v, hv⟩ := h.each t ht
  obtain ⟨b5, c5, cs5, e5, -, hb5, hcs5⟩ := own_blk hv.row (by omega)
  refine ⟨b, c, cs, b5, c5, cs5, rfl, hb, ?_, hb5, fun j hj => ?_⟩
  · rw [hcs t ht, List.getElem?_map, List.getElem?_range ht, ← e5]; rfl
  · have hm : 0 < m (st.getD t 0 + j) := by
      rw [List.getD_eq_getElem?_getD, List.getElem?_eq_getElem ht]
      exact hp _ (List.getElem_mem ht) j hj
    obtain ⟨g, cg, cj, eg, hg, hbg, hcj⟩ := own_blk (hv.lines j hj) hm
    refine ⟨g, _, cg, cj, ?_, hm, hg, hbg, ?_⟩
    · rw [hcs5 j hj, List.getElem?_map, List.getElem?_range hj, ← eg]; rfl
    · have := hcj 0 hm
      rw [List.getElem?_map, List.getElem?_range hm] at this
      exact (Array.getElem?_eq_some_iff.1 this).1
theorem eB_pos {m : Nat → Nat} {ln : Nat → Nat → Int} {i : Nat} (h : eB m ln i = true) (j : Nat) (hj : j < 5) : 0 < m (i + j) := by
  unfold eB evenB at h
  rw [Bool.and_eq_true] at h
  have := of_decide_eq_true (List.all_eq_true.1 h.1 j (List.mem_range.2 hj))
  exact this.1

set_option maxRecDepth 100000 in
set_option maxHeartbeats 4000000 in
theorem staveGroups_any (A AI AS : Option Addr) (K c N cI KS cS : Nat) (W H : Int) (m mS : Nat → Nat) (ln lnS : Nat → Nat → Int) (p : Int → Int) (w : World) (hL : LinesIn w A K c m ln) (hA : ArrB w w.heap.size AI N p) (hN : N ≤ maxLen) (hc : AI = none → cI = 0) (hB : IsB p) (hS : LinesIn w AS KS cS mS lnS) :
    Calls Tryz.prog 11 #[.slice A K c, .agg #[.int .i64 W, .int .i64 H, .slice AI N cI], .agg #[.slice AS KS cS]] w fun e w' => e = .returned (.bool true) ∧ Below w.heap.size w w' := by
  have AW := Lib.hid fun w' => awake3_any w'
  have FW := Lib.hid fun w' => few_any W H AI N cI w'
  obtain ⟨vs, h1, h2⟩ := hL.lines
  have kc := hL.le
  have k44 : c ≤ 9223372036854775807 := hL.outer
  have kf44 := hL.few
  have ks44 : cS ≤ 9223372036854775807 := hS.outer
  have ksf44 := hS.few
  have ksc := hS.le
  have one : ∀ t, t < K → ∃ B m' d, vs t = .slice B m' d := fun t ht => by obtain ⟨A', c', e, -, -⟩ := h2 t ht; exact ⟨_, _, _, e⟩
  obtain ⟨e1, he1⟩ : ∃ e1, decide (0 ≤ idxF (fun t => decide ((60 : Int) < m t.toNat)) K) = e1 := ⟨_, rfl⟩
  obtain ⟨e2, he2⟩ : ∃ e2, decide (0 ≤ idxF (fun t => decide (0 ≤ idxF (fun j => far40 (ln t.toNat j.toNat)) (m t.toNat))) K) = e2 := ⟨_, rfl⟩
  have C1 := Lib.hid fun w' (hb : Below w.heap.size w w') => containsL 29 #[] (fun t => decide ((60 : Int) < m t.toNat)) vs w' enterLong A K c ((Arr.below h1 hb).more hb.size) (by unfold maxLen; omega) one
    (fun t ht => by
      obtain ⟨A', c', e, -, -⟩ := h2 t ht
      show Calls _ _ #[_] _ _
      rw [e]
      exact long_any A' (m t) c' w' (by have := hL.lens t ht; unfold maxLen; omega))
  have C2 := Lib.hid fun w' (hb : Below w.heap.size w w') => containsL 31 #[] (fun t => decide (0 ≤ idxF (fun j => far40 (ln t.toNat j.toNat)) (m t.toNat))) vs w' enterHuge A K c ((Arr.below h1 hb).more hb.size) (by unfold maxLen; omega) one
    (fun t ht => by
      obtain ⟨A', c', e, -, ha⟩ := h2 t ht
      show Calls _ _ #[_] _ _
      rw [e]
      exact huge_any A' (m t) c' (fun j => ln t j.toNat) w' (ha.to hb) (by have := hL.lens t ht; unfold maxLen; omega))
  rw [he1] at C1
  rw [he2] at C2
  have HE1 := Lib.hid he1; have HE2 := Lib.hid he2
  clear he1 he2 one h1 h2
  have b1 : Below w.heap.size w ((w.alloc (.cells #[.int .i64 W, .int .i64 H, .slice AI N cI] 24)).alloc (.cells #[.slice AS KS cS] 40)) := by (repeat (first | exact Below.refl _ _ | assumption | refine Below.drew ?_ | refine below_drewN ?_ _ | refine Below.alloc ?_ (by first | omega | (simp; done) | (simp; omega)) _ | refine Below.setCell ?_ (by first | omega | (simp; done) | (simp; omega)) _ | refine below_setRow ?_ (by first | omega | (simp; done) | (simp; omega)) _ ))
  have k1 : Blk ((w.alloc (.cells #[.int .i64 W, .int .i64 H, .slice AI N cI] 24)).alloc (.cells #[.slice AS KS cS] 40)) w.heap.size 24 #[.int .i64 W, .int .i64 H, .slice AI N cI] := (Blk.new _ _ _).alloc _
  have k2 : Blk ((w.alloc (.cells #[.int .i64 W, .int .i64 H, .slice AI N cI] 24)).alloc (.cells #[.slice AS KS cS] 40)) (w.heap.size + 1) 40 #[.slice AS KS cS] := Blk.new' (by simp) _ _
  have p4 := k2.cells0
  obtain ⟨p1, p2, p3⟩ := k1.cells3
  by_cases hK : (40 : Int) < K
  · clear C1 C2 FW
    go_enter Tryz.func11, Tryz.ntmps11
    go_wp2_with fail
    generalize (w.alloc (.cells #[.int .i64 W, .int .i64 H, .slice AI N cI] 24)).alloc (.cells #[.slice AS KS cS] 40) = w1 at *
    refine (AW.out _).mono ?_
    rintro e w9 ⟨rfl, hb9⟩
    have b9 := below_call b1 b1.size hb9
    go_wp2
    go_ret
    exact ⟨rfl, b9⟩
  · cases e1 with
    | true =>
      clear C2 FW
      go_enter Tryz.func11, Tryz.ntmps11
      go_wp2_with fail
      generalize (w.alloc (.cells #[.int .i64 W, .int .i64 H, .slice AI N cI] 24)).alloc (.cells #[.slice AS KS cS] 40) = w1 at *
      refine (C1.out _ b1).mono ?_
      rintro e w2 ⟨rfl, rfl⟩
      go_wp2_with fail
      refine (AW.out _).mono ?_
      rintro e w9 ⟨rfl, hb9⟩
      have b9 := below_call b1 b1.size hb9
      go_wp2
      go_ret
      exact ⟨rfl, b9⟩
    | false =>
      by_cases hf : (N : Int) ≤ 6000
      · rw [decide_eq_true hf] at FW
        by_cases h9 : (9 : Int) < KS
        · clear C2
          go_enter Tryz.func11, Tryz.ntmps11
          go_wp2_with fail
          generalize (w.alloc (.cells #[.int .i64 W, .int .i64 H, .slice AI N cI] 24)).alloc (.cells #[.slice AS KS cS] 40) = w1 at *
          refine (C1.out _ b1).mono ?_
          rintro e w2 ⟨rfl, rfl⟩
          go_wp2_with fail
          refine (FW.out _).mono ?_
          rintro e w3 ⟨rfl, hb3⟩
          have b3 := below_call b1 b1.size hb3
          have k3 := k1.below' hb3
          have k4 := k2.below' hb3
          clear p1 p2 p3 p4
          obtain ⟨p1, p2, p3⟩ := k3.cells3
          have p4 := k4.cells0
          go_wp2_with fail
          refine (AW.out _).mono ?_
          rintro e w9 ⟨rfl, hb9⟩
          have b9 := below_call b3 b3.size hb9
          go_wp2
          go_ret
          exact ⟨rfl, b9⟩
        · cases e2 with
          | true =>
            go_enter Tryz.func11, Tryz.ntmps11
            go_wp2_with fail
            generalize (w.alloc (.cells #[.int .i64 W, .int .i64 H, .slice AI N cI] 24)).alloc (.cells #[.slice AS KS cS] 40) = w1 at *
            refine (C1.out _ b1).mono ?_
            rintro e w2 ⟨rfl, rfl⟩
            go_wp2_with fail
            refine (FW.out _).mono ?_
            rintro e w3 ⟨rfl, hb3⟩
            have b3 := below_call b1 b1.size hb3
            have k3 := k1.below' hb3
            have k4 := k2.below' hb3
            clear p1 p2 p3 p4
            obtain ⟨p1, p2, p3⟩ := k3.cells3
            have p4 := k4.cells0
            go_wp2_with fail
            refine (C2.out _ b3).mono ?_
            rintro e w4 ⟨rfl, rfl⟩
            go_wp2_with fail
            refine (AW.out _).mono ?_
            rintro e w9 ⟨rfl, hb9⟩
            have b9 := below_call b3 b3.size hb9
            go_wp2
            go_ret
            exact ⟨rfl, b9⟩
          | false =>
            have M60 : ∀ i, i < K → m i ≤ 60 := fun i hi => by
              have h0 := of_decide_eq_false HE1.out
              rcases Nat.lt_or_ge 60 (m i) with h | h
              · exact absurd (idxF_iff.2 ⟨(i : Int), by omega, by omega, by rw [Int.toNat_natCast]; exact decide_eq_true (by omega)⟩) h0
              · exact h
            have LB : ∀ i j, i < K → j < m i → -1099511627776 ≤ ln i j ∧ ln i j ≤ 1099511627776 := fun i j hi hj => by
              have h0 := of_decide_eq_false HE2.out
              by_cases hh : -1099511627776 ≤ ln i j ∧ ln i j ≤ 1099511627776
              · exact hh
              · exfalso
                refine h0 (idxF_iff.2 ⟨(i : Int), by omega, by omega, decide_eq_true (idxF_iff.2 ⟨(j : Int), by omega, by rw [Int.toNat_natCast]; omega, ?_⟩)⟩)
                rw [Int.toNat_natCast, Int.toNat_natCast]
                unfold far40
                by_cases g : ln i j < -1099511627776
                · simp [g]
                · have g2 : 1099511627776 < ln i j := by omega
                  simp [g2]
            go_enter Tryz.func11, Tryz.ntmps11
            go_wp2_with fail
            generalize (w.alloc (.cells #[.int .i64 W, .int .i64 H, .slice AI N cI] 24)).alloc (.cells #[.slice AS KS cS] 40) = w1 at *
            refine (C1.out _ b1).mono ?_
            rintro e w2 ⟨rfl, rfl⟩
            go_wp2_with fail
            refine (FW.out _).mono ?_
            rintro e w3 ⟨rfl, hb3⟩
            have b3 := below_call b1 b1.size hb3
            have k3 := k1.below' hb3
            have k4 := k2.below' hb3
            clear p1 p2 p3 p4
            obtain ⟨p1, p2, p3⟩ := k3.cells3
            have p4 := k4.cells0
            go_wp2_with fail
            refine (C2.out _ b3).mono ?_
            rintro e w4 ⟨rfl, rfl⟩
            go_wp2_with fail
            have CLs := Lib.hid fun w' hL' => copyLists_any A K c m ln w' hL' (by omega) (fun i hi => by have := M60 i hi; omega)
            have SV := Lib.hid fun A' c' w' hL' hc' => staves_any A' K c' m ln w' hL' hc' (by omega) (fun i hi => by have := M60 i hi; omega) LB
            have RS := Lib.hid fun w' hL' => rstaves_ind K m ln (by omega) (fun i hi => by have := M60 i hi; omega) LB K 0 A c w' (by omega) kc k44 hL'
            have STM : ∀ t, t ∈ stS (eB m ln) K 0 → ∀ j, j < 5 → m (t + j) ≤ maxLen := fun t ht j hj => by
              have := stS_at ht
              have := M60 (t + j) (by omega)
              unfold maxLen; omega
            have STP : ∀ t, t ∈ stS (eB m ln) K 0 → ∀ j, j < 5 → 0 < m (t + j) := fun t ht j hj => eB_pos (stS_at ht).2.2 j hj
            have STL := stS_len (e := eB m ln) (n := K) (i := 0)
            have L0 := hL.lines
            refine (CLs.out _ (L0.below b3)).mono ?_
            rintro e w5 ⟨_, rfl, ⟨vs5, hF5⟩, hb5⟩
            obtain ⟨A1, c1, rfl, hc1, -, hL5⟩ := hF5.toLines
            have b5 := below_call b3 b3.size hb5
            have k5 := k3.below' hb5
            have k6 := k4.below' hb5
            clear b3 k3 k4 hF5 hb5 p1 p2 p3 p4
            go_wp2_with fail
            refine (SV.out _ _ _ hL5 hc1).mono ?_
            rintro e w6 ⟨_, rfl, ⟨vs6, hS6⟩, hb6⟩
            obtain ⟨A2, c2, rfl, -, -⟩ := own_arr hS6.row
            have b6 := below_call b5 b5.size hb6
            have bo6 := Below.refl w5.heap.size w5 |>.trans hb6
            go_wp2_with fail
            refine (RS.out _ ((show LinesZ w w.heap.size A K (fun j => m (0 + j)) (fun j => ln (0 + j)) by simpa using L0).below b6)).mono ?_
            rintro e w7 ⟨_, rfl, ⟨vs7, hS7⟩, hb7⟩
            obtain ⟨A3, c3, rfl, -, -⟩ := own_arr hS7.row
            have b7 := below_call b6 b6.size hb7
            have bo7 := below_call bo6 bo6.size hb7
            have hS67 := hS6.below hb7
            clear hS6 hb6 hb7 b6 bo6
            go_wp2_with fail
            refine (sameStaves_true _ _ m ln (stS (eB m ln) K 0) A2 A3 c2 c3 vs6 vs7 _ hS67 hS7 (by omega) STM).mono ?_
            rintro e w8 ⟨rfl, hb8⟩
            have b8 := below_call b7 b7.size hb8
            have bo8 := below_call bo7 bo7.size hb8
            have hS8 := hS67.below hb8
            have PLC := Lib.hid fun t ht => hS8.places STP (t := t) ht
            obtain ⟨S, hS'⟩ : ∃ S, (stS (eB m ln) K 0).length = S := ⟨_, rfl⟩
            rw [hS'] at PLC STL ⊢
            clear hS67 hS7 hS8 hb8 b7 bo7 STM STP hS' SV RS CLs
            have zo := bo8.size
            have z5 := b5.size
            go_wp2_with fail
            go_loopw [49] (fun s wr => ∃ t : Nat, t ≤ S ∧ s = .int .i64 t ∧ IntOnly w8 wr ∧ Below w5.heap.size w5 wr) (fun s _ => S - (intOf s).toNat)
            case atStart => exact ⟨0, by omega, rfl, IntOnly.refl _, bo8⟩
            case round =>
              obtain ⟨t, ht, rfl, hI, bo⟩ := hrel
              by_cases tl : (t : Int) < S
              · obtain ⟨b, cb, cs, b5', c5', cs5, eA, hbb, hcb, hb5', hpl⟩ := PLC.out t (by omega)
                cases eA
                have q1 : wr.cell? ⟨b, t, none⟩ = some (.slice (some ⟨b5', 0, none⟩) 5 c5') := by rw [(hI.cell hbb (by decide)).cell]; exact hcb
                have HI := Lib.hid (hI.alloc (.cells #[.slice (some ⟨b5', 0, none⟩) 5 c5'] 40))
                have BO := Lib.hid (bo.alloc bo.size (.cells #[.slice (some ⟨b5', 0, none⟩) 5 c5'] 40))
                have q2 : (wr.alloc (.cells #[.slice (some ⟨b5', 0, none⟩) 5 c5'] 40)).cell? ⟨wr.heap.size, 0, none⟩ = some (.slice (some ⟨b5', 0, none⟩) 5 c5') := (Blk.new wr 40 #[.slice (some ⟨b5', 0, none⟩) 5 c5']).cells0
                clear hI bo
                go_wp2_with fail
                generalize wr.alloc (.cells #[.slice (some ⟨b5', 0, none⟩) 5 c5'] 40) = w10 at *
                go_loopw [56] (fun s wr => ∃ j : Nat, j ≤ 5 ∧ s = .int .i64 j ∧ IntOnly w8 wr ∧ Below w5.heap.size w5 wr) (fun s _ => 5 - (intOf s).toNat)
                case atStart => exact ⟨0, by omega, rfl, HI.out, BO.out⟩
                case round =>
                  obtain ⟨j, hj, rfl, hI2, bo2⟩ := hrel
                  by_cases jl : (j : Int) < 5
                  · obtain ⟨g, nn, cg, cj, hcj, hnn, hgB, hbg, hsz⟩ := hpl j (by omega)
                    have q3 : wr.cell? ⟨b5', j, none⟩ = some (.slice (some ⟨g, 0, none⟩) nn cg) := by rw [(hI2.cell hb5' (by decide)).cell]; exact hcj
                    obtain ⟨cs', hbg', hsz'⟩ := hI2.int hbg
                    have q4 : ∃ v, wr.cell? ⟨g, 0, none⟩ = some v := ⟨cs'[0]'(by omega), by rw [hbg'.cell]; exact Array.getElem?_eq_getElem (by omega)⟩
                    obtain ⟨v4, q4⟩ := q4
                    have q5 := hbg'.frozen 0
                    have HI3 := Lib.hid (hI2.set hbg' 0 (.int .i64 (-7)))
                    have BO3 := Lib.hid (bo2.setCell (p := ⟨g, 0, none⟩) hgB (.int .i64 (-7)))
                    have nn1 : (0 : Int) < (nn : Int) := by omega
                    clear hI2 bo2
                    go_wp2_with fail
                    go_roundw
                    case rel => exact ⟨j + 1, by omega, by go_num, HI3.out, BO3.out⟩
                    case measure => simp [intOf]; omega
                  · obtain rfl : j = 5 := by omega
                    go_wp2_with fail
                    go_roundw
                    case rel => exact ⟨t + 1, by omega, by go_num, hI2, bo2⟩
                    case measure => simp [intOf]; omega
              · have b9 := below_call b5 b5.size bo
                have hL9 := hL5.below bo
                have k9 := k5.below' bo
                have k10 := k6.below' bo
                obtain ⟨p1, p2, p3⟩ := k9.cells3
                have p4 := k10.cells0
                clear hI bo PLC
                go_wp2_with fail
                have CIN := Lib.hid fun w' hA' => copyInk_any W H AI N cI p w' hA' hc (by omega)
                have CST := Lib.hid fun w' hL' => copyStave_any AS KS cS mS lnS w' hL' (by omega) (fun i hi => hS.lens i hi)
                have ha9 := hA.to b9
                have hS9 := hS.lines.below b9
                have z9 := b9.size
                go_cut [13, 14] (fun f1 f2 wx => ∃ B1 B2 A' c' A2' c2', f1 = .pointer (some ⟨B1, 0, none⟩) ∧ f2 = .pointer (some ⟨B2, 0, none⟩) ∧ Below wr.heap.size wr wx ∧
                  Blk wx B1 24 #[.int .i64 W, .int .i64 H, .slice A' N c'] ∧ Blk wx B2 40 #[.slice A2' KS c2'] ∧ ArrB wx wx.heap.size A' N p ∧ Lines wx wx.heap.size A2' KS mS lnS)
                case first =>
                  have y1 := k9.lt
                  have y2 := k10.lt
                  go_region_held3 (fun w' => w'.cell? ⟨w.heap.size, 0, none⟩ = some (.int .i64 W) ∧ w'.cell? ⟨w.heap.size, 1, none⟩ = some (.int .i64 H) ∧ w'.cell? ⟨w.heap.size, 2, none⟩ = some (.slice AI N cI) ∧ w'.cell? ⟨w.heap.size + 1, 0, none⟩ = some (.slice AS KS cS))
                    (simp [go_sem, *])
                    (first
                      | (go_at_call 36
                         refine Calls.mono (CIN.out _ ?_) ?_
                         focus (exact ha9.to (by (repeat (first | with_reducible exact Below.refl _ _ | with_reducible assumption | with_reducible refine Below.drew ?_ | (with_reducible refine below_alloc' ?_ ?_; focus (first | omega | (simp; done) | (simp; omega))) | (with_reducible refine below_fill3' ?_ ?_; focus omega) | (with_reducible refine below_setCell' ?_ ?_; focus (first | omega | (simp; done) | (simp; omega))) | (with_reducible apply below_call'; (focus (with_reducible assumption)); (focus (first | omega | (simp; done) | (simp; omega))))))))
                         rintro e v1 ⟨_, rfl, ⟨_, rfl, A', c', rfl, hcc1, hnil1, hge1, ha1⟩, hb1⟩
                         have bv1 := Lib.hid (show Below wr.heap.size wr v1 by (repeat (first | with_reducible exact Below.refl _ _ | with_reducible assumption | with_reducible refine Below.drew ?_ | (with_reducible refine below_alloc' ?_ ?_; focus (first | omega | (simp; done) | (simp; omega))) | (with_reducible refine below_fill3' ?_ ?_; focus omega) | (with_reducible refine below_setCell' ?_ ?_; focus (first | omega | (simp; done) | (simp; omega))) | (with_reducible apply below_call'; (focus (with_reducible assumption)); (focus (first | omega | (simp; done) | (simp; omega)))))))
                         have kk1 := k9.below' bv1.out
                         have ll1 := k10.below' bv1.out
                         obtain ⟨x11, x12, x13⟩ := kk1.cells3
                         have x14 := ll1.cells0
                         have s1 := hb1.size
                         try simp at s1
                         have y11 := kk1.lt
                         have y12 := ll1.lt
                         first | (have g11 : Blk v1 (wr.heap.size) 24 #[.int .i64 0, .int .i64 0, .slice none 0 0] := by ((repeat (first | with_reducible assumption | with_reducible exact Blk.new _ _ _ | with_reducible exact Blk.new' (World.size_alloc _ _) _ _ | (with_reducible refine Blk.new' ?_ _ _; focus (simp; done)) | with_reducible apply Blk.fill3 | with_reducible apply Blk.fill1 | (with_reducible refine Blk.far3' ?_ ?_; focus omega) | (with_reducible refine Blk.far1' ?_ ?_; focus omega) | with_reducible refine Blk.alloc ?_ _ | with_reducible refine Blk.drew ?_ | (with_reducible apply Blk.below2; focus (with_reducible assumption)))); done)
                                  obtain ⟨h1, h2, h3⟩ := g11.cells3; obtain ⟨f1, f2, f3⟩ := g11.frozen3; have lt11 := g11.lt) | skip
                         first | (have g12 : Blk v1 (wr.heap.size) 40 #[.slice none 0 0] := by ((repeat (first | with_reducible assumption | with_reducible exact Blk.new _ _ _ | with_reducible exact Blk.new' (World.size_alloc _ _) _ _ | (with_reducible refine Blk.new' ?_ _ _; focus (simp; done)) | with_reducible apply Blk.fill3 | with_reducible apply Blk.fill1 | (with_reducible refine Blk.far3' ?_ ?_; focus omega) | (with_reducible refine Blk.far1' ?_ ?_; focus omega) | with_reducible refine Blk.alloc ?_ _ | with_reducible refine Blk.drew ?_ | (with_reducible apply Blk.below2; focus (with_reducible assumption)))); done)
                                  have h12 := g12.cells0; have f12 := g12.frozen 0; have lt12 := g12.lt) | skip
                         first | (have g13 : Blk v1 (wr.heap.size + 1) 24 #[.int .i64 0, .int .i64 0, .slice none 0 0] := by ((repeat (first | with_reducible assumption | with_reducible exact Blk.new _ _ _ | with_reducible exact Blk.new' (World.size_alloc _ _) _ _ | (with_reducible refine Blk.new' ?_ _ _; focus (simp; done)) | with_reducible apply Blk.fill3 | with_reducible apply Blk.fill1 | (with_reducible refine Blk.far3' ?_ ?_; focus omega) | (with_reducible refine Blk.far1' ?_ ?_; focus omega) | with_reducible refine Blk.alloc ?_ _ | with_reducible refine Blk.drew ?_ | (with_reducible apply Blk.below2; focus (with_reducible assumption)))); done)
                                  obtain ⟨h1, h2, h3⟩ := g13.cells3; obtain ⟨f1, f2, f3⟩ := g13.frozen3; have lt13 := g13.lt) | skip
                         first | (have g14 : Blk v1 (wr.heap.size + 1) 40 #[.slice none 0 0] := by ((repeat (first | with_reducible assumption | with_reducible exact Blk.new _ _ _ | with_reducible exact Blk.new' (World.size_alloc _ _) _ _ | (with_reducible refine Blk.new' ?_ _ _; focus (simp; done)) | with_reducible apply Blk.fill3 | with_reducible apply Blk.fill1 | (with_reducible refine Blk.far3' ?_ ?_; focus omega) | (with_reducible refine Blk.far1' ?_ ?_; focus omega) | with_reducible refine Blk.alloc ?_ _ | with_reducible refine Blk.drew ?_ | (with_reducible apply Blk.below2; focus (with_reducible assumption)))); done)
                                  have h14 := g14.cells0; have f14 := g14.frozen 0; have lt14 := g14.lt) | skip)
                      | (go_at_call 37
                         refine Calls.mono (CST.out _ ?_) ?_
                         focus (exact hS9.below (by (repeat (first | with_reducible exact Below.refl _ _ | with_reducible assumption | with_reducible refine Below.drew ?_ | (with_reducible refine below_alloc' ?_ ?_; focus (first | omega | (simp; done) | (simp; omega))) | (with_reducible refine below_fill3' ?_ ?_; focus omega) | (with_reducible refine below_setCell' ?_ ?_; focus (first | omega | (simp; done) | (simp; omega))) | (with_reducible apply below_call'; (focus (with_reducible assumption)); (focus (first | omega | (simp; done) | (simp; omega))))))))
                         rintro e v2 ⟨_, rfl, ⟨_, vs2, rfl, hF2⟩, hb2⟩
                         obtain ⟨A2', c2', rfl, -, -, hL2⟩ := hF2.toLines
                         have bv2 := Lib.hid (show Below wr.heap.size wr v2 by (repeat (first | with_reducible exact Below.refl _ _ | with_reducible assumption | with_reducible refine Below.drew ?_ | (with_reducible refine below_alloc' ?_ ?_; focus (first | omega | (simp; done) | (simp; omega))) | (with_reducible refine below_fill3' ?_ ?_; focus omega) | (with_reducible refine below_setCell' ?_ ?_; focus (first | omega | (simp; done) | (simp; omega))) | (with_reducible apply below_call'; (focus (with_reducible assumption)); (focus (first | omega | (simp; done) | (simp; omega)))))))
                         have kk2 := k9.below' bv2.out
                         have ll2 := k10.below' bv2.out
                         obtain ⟨x21, x22, x23⟩ := kk2.cells3
                         have x24 := ll2.cells0
                         have s2 := hb2.size
                         try simp at s2
                         have y21 := kk2.lt
                         have y22 := ll2.lt
                         first | (have g21 : Blk v2 (wr.heap.size) 24 #[.int .i64 0, .int .i64 0, .slice none 0 0] := by ((repeat (first | with_reducible assumption | with_reducible exact Blk.new _ _ _ | with_reducible exact Blk.new' (World.size_alloc _ _) _ _ | (with_reducible refine Blk.new' ?_ _ _; focus (simp; done)) | with_reducible apply Blk.fill3 | with_reducible apply Blk.fill1 | (with_reducible refine Blk.far3' ?_ ?_; focus omega) | (with_reducible refine Blk.far1' ?_ ?_; focus omega) | with_reducible refine Blk.alloc ?_ _ | with_reducible refine Blk.drew ?_ | (with_reducible apply Blk.below2; focus (with_reducible assumption)))); done)
                                  obtain ⟨h1, h2, h3⟩ := g21.cells3; obtain ⟨f1, f2, f3⟩ := g21.frozen3; have lt21 := g21.lt) | skip
                         first | (have g22 : Blk v2 (wr.heap.size) 40 #[.slice none 0 0] := by ((repeat (first | with_reducible assumption | with_reducible exact Blk.new _ _ _ | with_reducible exact Blk.new' (World.size_alloc _ _) _ _ | (with_reducible refine Blk.new' ?_ _ _; focus (simp; done)) | with_reducible apply Blk.fill3 | with_reducible apply Blk.fill1 | (with_reducible refine Blk.far3' ?_ ?_; focus omega) | (with_reducible refine Blk.far1' ?_ ?_; focus omega) | with_reducible refine Blk.alloc ?_ _ | with_reducible refine Blk.drew ?_ | (with_reducible apply Blk.below2; focus (with_reducible assumption)))); done)
                                  have h22 := g22.cells0; have f22 := g22.frozen 0; have lt22 := g22.lt) | skip
                         first | (have g23 : Blk v2 (wr.heap.size + 1) 24 #[.int .i64 0, .int .i64 0, .slice none 0 0] := by ((repeat (first | with_reducible assumption | with_reducible exact Blk.new _ _ _ | with_reducible exact Blk.new' (World.size_alloc _ _) _ _ | (with_reducible refine Blk.new' ?_ _ _; focus (simp; done)) | with_reducible apply Blk.fill3 | with_reducible apply Blk.fill1 | (with_reducible refine Blk.far3' ?_ ?_; focus omega) | (with_reducible refine Blk.far1' ?_ ?_; focus omega) | with_reducible refine Blk.alloc ?_ _ | with_reducible refine Blk.drew ?_ | (with_reducible apply Blk.below2; focus (with_reducible assumption)))); done)
                                  obtain ⟨h1, h2, h3⟩ := g23.cells3; obtain ⟨f1, f2, f3⟩ := g23.frozen3; have lt23 := g23.lt) | skip
                         first | (have g24 : Blk v2 (wr.heap.size + 1) 40 #[.slice none 0 0] := by ((repeat (first | with_reducible assumption | with_reducible exact Blk.new _ _ _ | with_reducible exact Blk.new' (World.size_alloc _ _) _ _ | (with_reducible refine Blk.new' ?_ _ _; focus (simp; done)) | with_reducible apply Blk.fill3 | with_reducible apply Blk.fill1 | (with_reducible refine Blk.far3' ?_ ?_; focus omega) | (with_reducible refine Blk.far1' ?_ ?_; focus omega) | with_reducible refine Blk.alloc ?_ _ | with_reducible refine Blk.drew ?_ | (with_reducible apply Blk.below2; focus (with_reducible assumption)))); done)
                                  have h24 := g24.cells0; have f24 := g24.frozen 0; have lt24 := g24.lt) | skip
                         first | (have g25 : Blk v2 (v1.heap.size) 24 #[.int .i64 0, .int .i64 0, .slice none 0 0] := by ((repeat (first | with_reducible assumption | with_reducible exact Blk.new _ _ _ | with_reducible exact Blk.new' (World.size_alloc _ _) _ _ | (with_reducible refine Blk.new' ?_ _ _; focus (simp; done)) | with_reducible apply Blk.fill3 | with_reducible apply Blk.fill1 | (with_reducible refine Blk.far3' ?_ ?_; focus omega) | (with_reducible refine Blk.far1' ?_ ?_; focus omega) | with_reducible refine Blk.alloc ?_ _ | with_reducible refine Blk.drew ?_ | (with_reducible apply Blk.below2; focus (with_reducible assumption)))); done)
                                  obtain ⟨h1, h2, h3⟩ := g25.cells3; obtain ⟨f1, f2, f3⟩ := g25.frozen3; have lt25 := g25.lt) | skip
                         first | (have g26 : Blk v2 (v1.heap.size) 40 #[.slice none 0 0] := by ((repeat (first | with_reducible assumption | with_reducible exact Blk.new _ _ _ | with_reducible exact Blk.new' (World.size_alloc _ _) _ _ | (with_reducible refine Blk.new' ?_ _ _; focus (simp; done)) | with_reducible apply Blk.fill3 | with_reducible apply Blk.fill1 | (with_reducible refine Blk.far3' ?_ ?_; focus omega) | (with_reducible refine Blk.far1' ?_ ?_; focus omega) | with_reducible refine Blk.alloc ?_ _ | with_reducible refine Blk.drew ?_ | (with_reducible apply Blk.below2; focus (with_reducible assumption)))); done)
                                  have h26 := g26.cells0; have f26 := g26.frozen 0; have lt26 := g26.lt) | skip
                         first | (have g27 : Blk v2 (v1.heap.size + 1) 24 #[.int .i64 0, .int .i64 0, .slice none 0 0] := by ((repeat (first | with_reducible assumption | with_reducible exact Blk.new _ _ _ | with_reducible exact Blk.new' (World.size_alloc _ _) _ _ | (with_reducible refine Blk.new' ?_ _ _; focus (simp; done)) | with_reducible apply Blk.fill3 | with_reducible apply Blk.fill1 | (with_reducible refine Blk.far3' ?_ ?_; focus omega) | (with_reducible refine Blk.far1' ?_ ?_; focus omega) | with_reducible refine Blk.alloc ?_ _ | with_reducible refine Blk.drew ?_ | (with_reducible apply Blk.below2; focus (with_reducible assumption)))); done)
                                  obtain ⟨h1, h2, h3⟩ := g27.cells3; obtain ⟨f1, f2, f3⟩ := g27.frozen3; have lt27 := g27.lt) | skip
                         first | (have g28 : Blk v2 (v1.heap.size + 1) 40 #[.slice none 0 0] := by ((repeat (first | with_reducible assumption | with_reducible exact Blk.new _ _ _ | with_reducible exact Blk.new' (World.size_alloc _ _) _ _ | (with_reducible refine Blk.new' ?_ _ _; focus (simp; done)) | with_reducible apply Blk.fill3 | with_reducible apply Blk.fill1 | (with_reducible refine Blk.far3' ?_ ?_; focus omega) | (with_reducible refine Blk.far1' ?_ ?_; focus omega) | with_reducible refine Blk.alloc ?_ _ | with_reducible refine Blk.drew ?_ | (with_reducible apply Blk.below2; focus (with_reducible assumption)))); done)
                                  have h28 := g28.cells0; have f28 := g28.frozen 0; have lt28 := g28.lt) | skip))
                  all_goals
                    go_wp2_with fail
                    go_meet
                    refine ⟨_, _, A', c', A2', c2', rfl, rfl, ?_, ?_, ?_, ?_, ?_⟩
                    focus (repeat (first | with_reducible exact Below.refl _ _ | with_reducible assumption | with_reducible refine Below.drew ?_ | (with_reducible refine below_alloc' ?_ ?_; focus (first | omega | (simp; done) | (simp; omega))) | (with_reducible refine below_fill3' ?_ ?_; focus omega) | (with_reducible refine below_setCell' ?_ ?_; focus (first | omega | (simp; done) | (simp; omega))) | (with_reducible apply below_call'; (focus (with_reducible assumption)); (focus (first | omega | (simp; done) | (simp; omega))))))
                    focus (repeat (first | with_reducible assumption | with_reducible exact Blk.new _ _ _ | with_reducible exact Blk.new' (World.size_alloc _ _) _ _ | (with_reducible refine Blk.new' ?_ _ _; focus (simp; done)) | with_reducible apply Blk.fill3 | with_reducible apply Blk.fill1 | (with_reducible refine Blk.far3' ?_ ?_; focus omega) | (with_reducible refine Blk.far1' ?_ ?_; focus omega) | with_reducible refine Blk.alloc ?_ _ | with_reducible refine Blk.drew ?_ | (with_reducible apply Blk.below2; focus (with_reducible assumption))))
                    focus (repeat (first | with_reducible assumption | with_reducible exact Blk.new _ _ _ | with_reducible exact Blk.new' (World.size_alloc _ _) _ _ | (with_reducible refine Blk.new' ?_ _ _; focus (simp; done)) | with_reducible apply Blk.fill3 | with_reducible apply Blk.fill1 | (with_reducible refine Blk.far3' ?_ ?_; focus omega) | (with_reducible refine Blk.far1' ?_ ?_; focus omega) | with_reducible refine Blk.alloc ?_ _ | with_reducible refine Blk.drew ?_ | (with_reducible apply Blk.below2; focus (with_reducible assumption))))
                    focus (refine KeepIn.arr ha1 hge1 (by (repeat (first | with_reducible exact KeepIn.refl _ _ _ | with_reducible refine KeepIn.drew ?_ | (with_reducible refine KeepIn.set ?_ ?_; focus (first | omega | (simp; done) | (simp; omega))) | (with_reducible refine KeepIn.alloc ?_ ?_; focus (first | omega | (simp; done) | (simp; omega))) | (with_reducible apply KeepIn.call; (focus (with_reducible assumption)); (focus (first | omega | (simp; done) | (simp; omega))))))) (by first | omega | (simp; done) | (simp; omega)))
                    focus (exact LinesOf (KeepIn.found hF2 (by (repeat (first | with_reducible exact KeepIn.refl _ _ _ | with_reducible refine KeepIn.drew ?_ | (with_reducible refine KeepIn.set ?_ ?_; focus (first | omega | (simp; done) | (simp; omega))) | (with_reducible refine KeepIn.alloc ?_ ?_; focus (first | omega | (simp; done) | (simp; omega))) | (with_reducible apply KeepIn.call; (focus (with_reducible assumption)); (focus (first | omega | (simp; done) | (simp; omega)))))))))
                case rest =>
                  obtain ⟨B1, B2, A', c', A2', c2', rfl, rfl, hbx, kB1, kB2, haX, hLX⟩ := hcut
                  have b11 := below_call b9 b9.size hbx
                  have k11 := k9.below' hbx
                  have k12 := k10.below' hbx
                  have hL11 := hL9.below hbx
                  have E : ∃ E, stChk W H N p KS mS lnS = E := ⟨_, rfl⟩
                  obtain ⟨E, hE⟩ := E
                  generalize wc = wx at *
                  have hLA := hL.lines.lines.below b11
                  have hSA := hS.lines.lines.below b11
                  have hAA := hA.to b11
                  have mm : ∀ i, i < K → m i ≤ maxLen := fun i hi => by have := M60 i hi; unfold maxLen; omega
                  have hmS : ∀ i, i < KS → mS i ≤ maxLen := fun i hi => by have := hS.lens i hi; unfold maxLen; omega
                  have SLc : Hid (∀ w', Below wx.heap.size wx w' → Calls Tryz.prog 7 #[.slice A1 K c1, .slice A K c] w' fun e w'' => e = .returned (.bool true) ∧ Below w'.heap.size w' w'') := by
                    show ∀ _, _
                    intro w' hb'
                    have := sameLists_any A1 A K K c1 c m m ln ln w' (hL11.below hb') (hLA.below hb') (by unfold maxLen; omega) (by unfold maxLen; omega) mm mm
                    rw [sameL_self] at this
                    refine this.mono ?_
                    rintro e w'' ⟨rfl, nq, rfl⟩
                    exact ⟨rfl, drewN_below nq⟩
                  have CKa := Lib.hid fun w' (hb' : Below wx.heap.size wx w') => check_st W H A' A2' N c' KS c2' p mS lnS E w' (haX.to hb') hN (hLX.below hb') hmS hE
                  have CKb := Lib.hid fun w' (hb' : Below wx.heap.size wx w') => rcheck_st W H AI AS N cI KS cS p mS lnS E w' (hAA.to hb') hN hB (hSA.below hb') hmS hE
                  have SIc := Lib.hid fun w' (hb' : Below wx.heap.size wx w') => sameInk_true W H A' AI N c' cI p p w' (haX.to hb') (hAA.to hb') hN (fun _ _ _ => rfl)
                  have SSc : Hid (∀ w', Below wx.heap.size wx w' → Calls Tryz.prog 41 #[.agg #[.slice A2' KS c2'], .agg #[.slice AS KS cS]] w' fun e w'' => e = .returned (.bool true) ∧ Below w'.heap.size w' w'') := by
                    show ∀ _, _
                    intro w' hb'
                    have := sameStave_any A2' AS KS KS c2' cS mS mS lnS lnS w' (hLX.below hb') (hSA.below hb') (by unfold maxLen; omega) (by unfold maxLen; omega) hmS hmS
                    rw [sameL_self] at this
                    exact this
                  have AWc := Lib.hid fun w' (hb' : Below wx.heap.size wx w') => AW.out w'
                  obtain ⟨p1, p2, p3⟩ := k11.cells3
                  have p4 := k12.cells0
                  obtain ⟨o1, o2, o3⟩ := kB1.cells3
                  have o4 := kB2.cells0
                  clear k9 k10 hbx hL9 haX hLX hL11 hLA hSA hAA hE
                  go_wp2_with fail
                  go_region_held3 (fun w' => w'.cell? ⟨w.heap.size, 0, none⟩ = some (.int .i64 W) ∧ w'.cell? ⟨w.heap.size, 1, none⟩ = some (.int .i64 H) ∧ w'.cell? ⟨w.heap.size, 2, none⟩ = some (.slice AI N cI) ∧ w'.cell? ⟨w.heap.size + 1, 0, none⟩ = some (.slice AS KS cS) ∧ w'.cell? ⟨B1, 0, none⟩ = some (.int .i64 W) ∧ w'.cell? ⟨B1, 1, none⟩ = some (.int .i64 H) ∧ w'.cell? ⟨B1, 2, none⟩ = some (.slice A' N c') ∧ w'.cell? ⟨B2, 0, none⟩ = some (.slice A2' KS c2'))
                    (simp [go_sem, *])
                    (first
                      | (go_at_call 7
                         refine Calls.mono (SLc.out _ ?_) ?_
                         focus ((repeat (first | with_reducible exact Below.refl _ _ | with_reducible refine Below.drew ?_ | (with_reducible apply below_call'; (focus (with_reducible assumption)); (focus (first | omega | (simp; done) | (simp; omega)))))))
                         rintro e v1 ⟨rfl, hb1⟩
                         have z1 := hb1.size
                         try simp at z1
                         have bv1 := Lib.hid (show Below wx.heap.size wx v1 by (repeat (first | with_reducible exact Below.refl _ _ | with_reducible refine Below.drew ?_ | (with_reducible apply below_call'; (focus (with_reducible assumption)); (focus (first | omega | (simp; done) | (simp; omega)))))))
                         obtain ⟨r11, r12, r13⟩ := (k11.below' bv1.out).cells3
                         have r14 := (k12.below' bv1.out).cells0
                         obtain ⟨s11, s12, s13⟩ := (kB1.below' bv1.out).cells3
                         have s14 := (kB2.below' bv1.out).cells0)
                      | (go_at_call 38
                         refine Calls.mono (CKa.out _ ?_) ?_
                         focus ((repeat (first | with_reducible exact Below.refl _ _ | with_reducible refine Below.drew ?_ | (with_reducible apply below_call'; (focus (with_reducible assumption)); (focus (first | omega | (simp; done) | (simp; omega)))))))
                         rintro e v2 ⟨rfl, hb2⟩
                         have z2 := hb2.size
                         try simp at z2
                         have bv2 := Lib.hid (show Below wx.heap.size wx v2 by (repeat (first | with_reducible exact Below.refl _ _ | with_reducible refine Below.drew ?_ | (with_reducible apply below_call'; (focus (with_reducible assumption)); (focus (first | omega | (simp; done) | (simp; omega)))))))
                         obtain ⟨r21, r22, r23⟩ := (k11.below' bv2.out).cells3
                         have r24 := (k12.below' bv2.out).cells0
                         obtain ⟨s21, s22, s23⟩ := (kB1.below' bv2.out).cells3
                         have s24 := (kB2.below' bv2.out).cells0)
                      | (go_at_call 39
                         refine Calls.mono (CKb.out _ ?_) ?_
                         focus ((repeat (first | with_reducible exact Below.refl _ _ | with_reducible refine Below.drew ?_ | (with_reducible apply below_call'; (focus (with_reducible assumption)); (focus (first | omega | (simp; done) | (simp; omega)))))))
                         rintro e v3 ⟨rfl, hb3⟩
                         have z3 := hb3.size
                         try simp at z3
                         have bv3 := Lib.hid (show Below wx.heap.size wx v3 by (repeat (first | with_reducible exact Below.refl _ _ | with_reducible refine Below.drew ?_ | (with_reducible apply below_call'; (focus (with_reducible assumption)); (focus (first | omega | (simp; done) | (simp; omega)))))))
                         obtain ⟨r31, r32, r33⟩ := (k11.below' bv3.out).cells3
                         have r34 := (k12.below' bv3.out).cells0
                         obtain ⟨s31, s32, s33⟩ := (kB1.below' bv3.out).cells3
                         have s34 := (kB2.below' bv3.out).cells0)
                      | (go_at_call 40
                         refine Calls.mono (SIc.out _ ?_) ?_
                         focus ((repeat (first | with_reducible exact Below.refl _ _ | with_reducible refine Below.drew ?_ | (with_reducible apply below_call'; (focus (with_reducible assumption)); (focus (first | omega | (simp; done) | (simp; omega)))))))
                         rintro e v4 ⟨rfl, hb4⟩
                         have z4 := hb4.size
                         try simp at z4
                         have bv4 := Lib.hid (show Below wx.heap.size wx v4 by (repeat (first | with_reducible exact Below.refl _ _ | with_reducible refine Below.drew ?_ | (with_reducible apply below_call'; (focus (with_reducible assumption)); (focus (first | omega | (simp; done) | (simp; omega)))))))
                         obtain ⟨r41, r42, r43⟩ := (k11.below' bv4.out).cells3
                         have r44 := (k12.below' bv4.out).cells0
                         obtain ⟨s41, s42, s43⟩ := (kB1.below' bv4.out).cells3
                         have s44 := (kB2.below' bv4.out).cells0)
                      | (go_at_call 41
                         refine Calls.mono (SSc.out _ ?_) ?_
                         focus ((repeat (first | with_reducible exact Below.refl _ _ | with_reducible refine Below.drew ?_ | (with_reducible apply below_call'; (focus (with_reducible assumption)); (focus (first | omega | (simp; done) | (simp; omega)))))))
                         rintro e v5 ⟨rfl, hb5⟩
                         have z5 := hb5.size
                         try simp at z5
                         have bv5 := Lib.hid (show Below wx.heap.size wx v5 by (repeat (first | with_reducible exact Below.refl _ _ | with_reducible refine Below.drew ?_ | (with_reducible apply below_call'; (focus (with_reducible assumption)); (focus (first | omega | (simp; done) | (simp; omega)))))))
                         obtain ⟨r51, r52, r53⟩ := (k11.below' bv5.out).cells3
                         have r54 := (k12.below' bv5.out).cells0
                         obtain ⟨s51, s52, s53⟩ := (kB1.below' bv5.out).cells3
                         have s54 := (kB2.below' bv5.out).cells0)
                      | (go_at_call 15
                         refine Calls.mono (AWc.out _ ?_) ?_
                         focus ((repeat (first | with_reducible exact Below.refl _ _ | with_reducible refine Below.drew ?_ | (with_reducible apply below_call'; (focus (with_reducible assumption)); (focus (first | omega | (simp; done) | (simp; omega)))))))
                         rintro e v6 ⟨rfl, hb6⟩
                         have z6 := hb6.size
                         try simp at z6
                         have bv6 := Lib.hid (show Below wx.heap.size wx v6 by (repeat (first | with_reducible exact Below.refl _ _ | with_reducible refine Below.drew ?_ | (with_reducible apply below_call'; (focus (with_reducible assumption)); (focus (first | omega | (simp; done) | (simp; omega)))))))
                         obtain ⟨r61, r62, r63⟩ := (k11.below' bv6.out).cells3
                         have r64 := (k12.below' bv6.out).cells0
                         obtain ⟨s61, s62, s63⟩ := (kB1.below' bv6.out).cells3
                         have s64 := (kB2.below' bv6.out).cells0))
                  all_goals
                    go_wp2
                    go_ret
                    exact ⟨rfl, below_call b11 b11.size bv6.out⟩
      · rw [decide_eq_false hf] at FW
        clear C2
        go_enter Tryz.func11, Tryz.ntmps11
        go_wp2_with fail
        generalize (w.alloc (.cells #[.int .i64 W, .int .i64 H, .slice AI N cI] 24)).alloc (.cells #[.slice AS KS cS] 40) = w1 at *
        refine (C1.out _ b1).mono ?_
        rintro e w2 ⟨rfl, rfl⟩
        go_wp2_with fail
        refine (FW.out _).mono ?_
        rintro e w3 ⟨rfl, hb3⟩
        have b3 := below_call b1 b1.size hb3
        have k3 := k1.below' hb3
        have k4 := k2.below' hb3
        clear p1 p2 p3 p4
        obtain ⟨p1, p2, p3⟩ := k3.cells3
        have p4 := k4.cells0
        go_wp2_with fail
        refine (AW.out _).mono ?_
        rintro e w9 ⟨rfl, hb9⟩
        have b9 := below_call b3 b3.size hb9
        go_wp2
        go_ret
        exact ⟨rfl, b9⟩
end Go.Proofs.YtdimlpcbbkokiaaGreat

/- Rows of runs in memory. -/
namespace Go.Proofs.YtdimlpcbbkokiaaGreat
open Go.RowKit Go.Shelf Go.Lib Go.Sort
set_option linter.unusedVariables false

theorem infoRun : (Tryz.prog.info? 57).map (fun i => (i.zero, i.size, i.bytes)) = some (some (.agg #[.int .i64 0, .int .i64 0, .int .i64 0]), 3, 24) := by kernel_rfl
def flatR (l : List Rn) : List Value := l.flatMap encR
theorem flatR_len (l : List Rn) : (flatR l).length = l.length * 3 := by
  induction l with
  | nil => rfl
  | cons a l ih =>
    show (encR a ++ flatR l).length = (l.length + 1) * 3
    rw [List.length_append, ih, show (encR a).length = 3 from rfl]; omega
theorem flatR_snoc (l : List Rn) (r : Rn) : flatR (l ++ [r]) = flatR l ++ [.int .i64 r.1, .int .i64 r.2.1, .int .i64 r.2.2] := by simp [flatR, encR]
theorem flatR_at : ∀ (l : List Rn) (i : Nat) (r : Rn), l[i]? = some r → (flatR l)[i * 3]? = some (.int .i64 r.1) ∧ (flatR l)[i * 3 + 1]? = some (.int .i64 r.2.1) ∧ (flatR l)[i * 3 + 2]? = some (.int .i64 r.2.2)
  | [], i, r, h => by simp at h
  | a :: l, 0, r, h => by
    simp at h; subst h
    simp [flatR, encR]
  | a :: l, i + 1, r, h => by
    have ih := flatR_at l i r (by simpa using h)
    have e : ∀ t, (flatR (a :: l))[(i + 1) * 3 + t]? = (flatR l)[i * 3 + t]? := fun t => by
      show ((encR a) ++ flatR l)[(i + 1) * 3 + t]? = _
      rw [List.getElem?_append_right (by simp [encR]; omega)]
      congr 1
      simp [encR]; omega
    exact ⟨by have := e 0; simpa using this.trans ih.1, (e 1).trans ih.2.1, (e 2).trans ih.2.2⟩
/-- a row of runs that the call owns -/
def RunRow (w : World) (B : Nat) (v : Value) (l : List Rn) : Prop := w.ownsRow B 57 3 v l.length (flatR l)
/-- a slice that reads as these runs -/
def RunArr (w : World) (A : Option Addr) (l : List Rn) : Prop := l ≠ [] → ∃ g, A = some ⟨g, 0, none⟩ ∧ g < w.heap.size ∧ ∀ i r, l[i]? = some r → w.cell? ⟨g, i * 3, none⟩ = some (.int .i64 r.1) ∧ w.cell? ⟨g, i * 3 + 1, none⟩ = some (.int .i64 r.2.1) ∧ w.cell? ⟨g, i * 3 + 2, none⟩ = some (.int .i64 r.2.2)
section
variable {w w' : World} {B n size : Nat} {e : TypeId} {v : Value} {l : List Rn} {xs : List Value}
theorem RunRow.below (h : RunRow w B v l) (hb : Below w.heap.size w w') : RunRow w' B v l := own_belowS h hb
theorem RunRow.nil (w : World) (B : Nat) : RunRow w B (.slice none 0 0) [] := World.ownsRow_nil _ _ _ _
theorem RunRow.alloc (h : RunRow w B v l) (o : Obj) : RunRow (w.alloc o) B v l := h.below ((Below.refl _ _).alloc (Nat.le_refl _) _)
theorem RunRow.val (h : RunRow w B v l) : ∃ A c, v = .slice A l.length c ∧ l.length ≤ c := by
  rcases h.2 with ⟨rfl, h2⟩ | ⟨g, cap, cur, rfl, hb, hh, hc, _⟩
  · have h3 : l = [] := by
      have := h2
      cases l with
      | nil => rfl
      | cons a t => simp at h2
    subst h3
    exact ⟨none, 0, rfl, Nat.le_refl _⟩
  · exact ⟨_, _, rfl, hc⟩
theorem RunRow.blk (h : RunRow w B v l) (hl : l ≠ []) : ∃ g c cs, v = .slice (some ⟨g, 0, none⟩) l.length c ∧ l.length ≤ c ∧ B ≤ g ∧ Blk w g 57 cs ∧ cs.size = c * 3 ∧ c ≤ maxLen ∧ cs.toList.take (l.length * 3) = flatR l := by
  rcases h.2 with ⟨-, h2⟩ | ⟨g, cap, cur, rfl, hb, hh, hc, hm, hs, ht⟩
  · exfalso
    cases l with
    | nil => exact hl rfl
    | cons a t => simp at h2
  · exact ⟨g, cap, cur, rfl, hc, hb, hh, hs, hm, ht⟩
theorem RunArr.below (h : RunArr w (some ⟨0, 0, none⟩) l) : True := trivial
theorem RunArr.to {A : Option Addr} (h : RunArr w A l) (hb : Below w.heap.size w w') : RunArr w' A l := fun hl => by
  obtain ⟨g, rfl, hg, hc⟩ := h hl
  refine ⟨g, rfl, Nat.lt_of_lt_of_le hg hb.size, fun i r hi => ?_⟩
  obtain ⟨h1, h2, h3⟩ := hc i r hi
  exact ⟨(hb.cell (p := ⟨g, i * 3, none⟩) hg).trans h1, (hb.cell (p := ⟨g, i * 3 + 1, none⟩) hg).trans h2, (hb.cell (p := ⟨g, i * 3 + 2, none⟩) hg).trans h3⟩
end
end Go.Proofs.YtdimlpcbbkokiaaGreat

/- Plain: the runs of the lines of a grid, one line after the other. No program in sight. -/
namespace Go.Proofs.YtdimlpcbbkokiaaGreat
open Go.RowKit
set_option linter.unusedVariables false
/-- where the run ends that holds place i: k places lie behind it -/
def enB (a : Nat → Bool) : Nat → Nat → Nat
  | 0, i => i
  | k + 1, i => if a (i + 1) = true then enB a k (i + 1) else i
/-- a run begins here -/
def stB (a : Nat → Bool) (i : Nat) : Bool := a i && !(decide (0 < i) && a (i - 1))
def rnA (a : Nat → Bool) (len line i : Nat) : List Rn := if stB a i = true then [((line : Int), (i : Int), (enB a (len - 1 - i) i : Int))] else []
def rL (a : Nat → Bool) (len line : Nat) : Nat → List Rn
  | 0 => []
  | n + 1 => rL a len line n ++ rnA a len line n
def rLs (a : Nat → Nat → Bool) (len : Nat) : Nat → List Rn
  | 0 => []
  | m + 1 => rLs a len m ++ rL (a m) len m len
theorem rnA_len (a : Nat → Bool) (len line i : Nat) : (rnA a len line i).length ≤ 1 := by unfold rnA; split <;> simp
theorem rL_len (a : Nat → Bool) (len line : Nat) : ∀ n, (rL a len line n).length ≤ n
  | 0 => by simp [rL]
  | n + 1 => by
    have := rL_len a len line n
    have := rnA_len a len line n
    rw [rL, List.length_append]; omega
theorem rLs_len (a : Nat → Nat → Bool) (len : Nat) : ∀ m, (rLs a len m).length ≤ m * len
  | 0 => by simp [rLs]
  | m + 1 => by
    have := rLs_len a len m
    have := rL_len (a m) len m len
    rw [rLs, List.length_append, Nat.succ_mul]; omega
theorem mem_rnA {a : Nat → Bool} {len line i : Nat} {r : Rn} : r ∈ rnA a len line i ↔ stB a i = true ∧ r = ((line : Int), (i : Int), (enB a (len - 1 - i) i : Int)) := by
  unfold rnA
  split
  · rename_i h; simp [h]
  · rename_i h; simp [h]
theorem mem_rL {a : Nat → Bool} {len line : Nat} {r : Rn} : ∀ {n : Nat}, r ∈ rL a len line n ↔ ∃ i, i < n ∧ r ∈ rnA a len line i
  | 0 => by simp [rL]
  | n + 1 => by
    rw [rL, List.mem_append, mem_rL]
    constructor
    · rintro (⟨i, h1, h2⟩ | h)
      · exact ⟨i, by omega, h2⟩
      · exact ⟨n, by omega, h⟩
    · rintro ⟨i, h1, h2⟩
      by_cases e : i = n
      · subst e; exact .inr h2
      · exact .inl ⟨i, by omega, h2⟩
theorem mem_rLs {a : Nat → Nat → Bool} {len : Nat} {r : Rn} : ∀ {m : Nat}, r ∈ rLs a len m ↔ ∃ x y, x < m ∧ y < len ∧ r ∈ rnA (a x) len x y
  | 0 => by simp [rLs]
  | m + 1 => by
    rw [rLs, List.mem_append, mem_rLs, mem_rL]
    constructor
    · rintro (⟨x, y, h1, h2, h3⟩ | ⟨y, h2, h3⟩)
      · exact ⟨x, y, by omega, h2, h3⟩
      · exact ⟨m, y, by omega, h2, h3⟩
    · rintro ⟨x, y, h1, h2, h3⟩
      by_cases e : x = m
      · subst e; exact .inr ⟨y, h2, h3⟩
      · exact .inl ⟨x, y, by omega, h2, h3⟩
theorem rL_sorted (a : Nat → Bool) (len line : Nat) : ∀ n, (rL a len line n).Pairwise ltR
  | 0 => List.Pairwise.nil
  | n + 1 => by
    rw [rL, List.pairwise_append]
    refine ⟨rL_sorted a len line n, ?_, fun r hr s hs => ?_⟩
    · unfold rnA; split
      · exact List.pairwise_singleton _ _
      · exact List.Pairwise.nil
    · obtain ⟨i, hi, hr⟩ := mem_rL.1 hr
      obtain ⟨-, rfl⟩ := mem_rnA.1 hr
      obtain ⟨-, rfl⟩ := mem_rnA.1 hs
      exact .inr ⟨rfl, by show (i : Int) < n; omega⟩
theorem rLs_sorted (a : Nat → Nat → Bool) (len : Nat) : ∀ m, (rLs a len m).Pairwise ltR
  | 0 => List.Pairwise.nil
  | m + 1 => by
    rw [rLs, List.pairwise_append]
    refine ⟨rLs_sorted a len m, rL_sorted _ _ _ _, fun r hr s hs => ?_⟩
    obtain ⟨x, y, hx, -, hr⟩ := mem_rLs.1 hr
    obtain ⟨-, rfl⟩ := mem_rnA.1 hr
    obtain ⟨i, -, hs⟩ := mem_rL.1 hs
    obtain ⟨-, rfl⟩ := mem_rnA.1 hs
    exact .inl (by show (x : Int) < m; omega)
theorem enB_bd (a : Nat → Bool) : ∀ k i, i ≤ enB a k i ∧ enB a k i ≤ i + k
  | 0, i => by simp [enB]
  | k + 1, i => by
    unfold enB; split
    · have := enB_bd a k (i + 1); omega
    · omega
theorem enB_congr {a b : Nat → Bool} : ∀ {k i : Nat}, (∀ j, i < j → j ≤ i + k → a j = b j) → enB a k i = enB b k i
  | 0, i, _ => rfl
  | k + 1, i, h => by
    unfold enB
    rw [h (i + 1) (by omega) (by omega), enB_congr (k := k) (i := i + 1) fun j h1 h2 => h j (by omega) (by omega)]
theorem stB_congr {a b : Nat → Bool} {i : Nat} (h : ∀ j, j ≤ i → a j = b j) : stB a i = stB b i := by
  unfold stB
  rw [h i (Nat.le_refl _), h (i - 1) (by omega)]
theorem rL_congr {a b : Nat → Bool} {len line : Nat} (h : ∀ j, j < len → a j = b j) : ∀ {n : Nat}, n ≤ len → rL a len line n = rL b len line n
  | 0, _ => rfl
  | n + 1, hn => by
    rw [rL, rL, rL_congr h (by omega)]
    congr 1
    unfold rnA
    rw [stB_congr fun j hj => h j (by omega), enB_congr fun j h1 h2 => h j (by omega)]
theorem rLs_congr {a b : Nat → Nat → Bool} {len : Nat} : ∀ {m : Nat}, (∀ x j, x < m → j < len → a x j = b x j) → rLs a len m = rLs b len m
  | 0, _ => rfl
  | m + 1, h => by
    rw [rLs, rLs, rLs_congr fun x j hx hj => h x j (by omega) hj, rL_congr (fun j hj => h m j (by omega) hj) (Nat.le_refl _)]
end Go.Proofs.YtdimlpcbbkokiaaGreat

/- Plain: how lines bend (Wavy): where a bend stands, how far the lines have risen. No program in sight. -/
namespace Go.Proofs.YtdimlpcbbkokiaaGreat
open Go.RowKit
set_option linter.unusedVariables false
/-- where bend k stands, counted from 1 -/
def bxF (p : Int → Int) : Nat → Int
  | 0 => 0
  | k + 1 => bxF p k + (8 + p k % 16)
/-- how far bend k rises -/
def bdF (p : Int → Int) (k : Nat) : Int := p k / 16 % 3 - 1
/-- how far the lines have risen behind k bends -/
def byF (p : Int → Int) : Nat → Int
  | 0 => 0
  | k + 1 => byF p k + bdF p k
/-- how far the lines have risen in column i, of k bends -/
def rsF (p : Int → Int) : Nat → Int → Int
  | 0, _ => 0
  | k + 1, i => rsF p k i + if bxF p (k + 1) ≤ i then bdF p k else 0
section
variable {p : Int → Int}
theorem bdF_bd (k : Nat) : -1 ≤ bdF p k ∧ bdF p k ≤ 1 := by unfold bdF; omega
theorem bxF_step (k : Nat) : bxF p k + 8 ≤ bxF p (k + 1) ∧ bxF p (k + 1) ≤ bxF p k + 23 := by
  have e : bxF p (k + 1) = bxF p k + (8 + p k % 16) := rfl
  omega
theorem bxF_lo : ∀ k : Nat, 8 * (k : Int) ≤ bxF p k
  | 0 => by simp [bxF]
  | k + 1 => by have := bxF_lo k; have := (bxF_step (p := p) k).1; omega
theorem bxF_mono {k m : Nat} (h : k ≤ m) : bxF p k ≤ bxF p m := by
  induction m with
  | zero => obtain rfl : k = 0 := by omega
            exact Int.le_refl _
  | succ m ih =>
    by_cases e : k = m + 1
    · subst e; exact Int.le_refl _
    · have := ih (by omega); have := (bxF_step (p := p) m).1; omega
theorem byF_bd : ∀ k : Nat, -(k : Int) ≤ byF p k ∧ byF p k ≤ k
  | 0 => by simp [byF]
  | k + 1 => by have := byF_bd k; have := bdF_bd (p := p) k; unfold byF; omega
theorem rsF_bd : ∀ (k : Nat) (i : Int), -(k : Int) ≤ rsF p k i ∧ rsF p k i ≤ k
  | 0, i => by simp [rsF]
  | k + 1, i => by
    have := rsF_bd k i
    have := bdF_bd (p := p) k
    unfold rsF
    split <;> omega
/-- behind all bends -/
theorem rsF_far : ∀ {k : Nat} {i : Int}, bxF p k ≤ i → rsF p k i = byF p k
  | 0, i, _ => rfl
  | k + 1, i, h => by
    have := (bxF_step (p := p) k).1
    unfold rsF byF
    rw [rsF_far (show bxF p k ≤ i by omega), if_pos h]
/-- further bends turn nothing ahead of them -/
theorem rsF_stop {k : Nat} {i : Int} (h : i < bxF p (k + 1)) : ∀ {m : Nat}, k ≤ m → rsF p m i = rsF p k i := by
  intro m
  induction m with
  | zero => intro hk; obtain rfl : k = 0 := by omega
            rfl
  | succ m ih =>
    intro hk
    by_cases e : k = m + 1
    · subst e; rfl
    · have h1 := bxF_mono (p := p) (k := k + 1) (m := m + 1) (by omega)
      have e1 : rsF p (m + 1) i = rsF p m i + if bxF p (m + 1) ≤ i then bdF p m else 0 := rfl
      rw [e1, ih (by omega), if_neg (by omega)]; omega
/-- one bend more, drawn from its column on -/
theorem rsF_draw {k : Nat} {x : Int} (hx : bxF p (k + 1) ≤ x) : rsF p (k + 1) x = byF p (k + 1) := rsF_far hx
theorem rsF_ahead {k : Nat} {i : Int} (h : i < bxF p (k + 1)) : rsF p (k + 1) i = rsF p k i := rsF_stop h (by omega)
/-- neighbouring columns: the lines are paths -/
theorem rsF_near : ∀ (k : Nat) (i : Int), (-1 ≤ rsF p k (i + 1) - rsF p k i ∧ rsF p k (i + 1) - rsF p k i ≤ 1) ∧ (bxF p k < i + 1 → rsF p k (i + 1) = rsF p k i)
  | 0, i => by simp [rsF]
  | k + 1, i => by
    obtain ⟨h1, h2⟩ := rsF_near k i
    have h3 := bdF_bd (p := p) k
    have h4 := (bxF_step (p := p) k).1
    have e1 : rsF p (k + 1) (i + 1) = rsF p k (i + 1) + if bxF p (k + 1) ≤ i + 1 then bdF p k else 0 := rfl
    have e2 : rsF p (k + 1) i = rsF p k i + if bxF p (k + 1) ≤ i then bdF p k else 0 := rfl
    rw [e1, e2]
    by_cases c1 : bxF p (k + 1) ≤ i
    · have := h2 (by omega)
      rw [if_pos c1, if_pos (by omega)]
      omega
    · by_cases c2 : bxF p (k + 1) ≤ i + 1
      · have := h2 (by omega)
        rw [if_neg c1, if_pos c2]
        omega
      · rw [if_neg c1, if_neg c2]
        omega
end
/-- the least and the greatest of the first n + 1 -/
theorem minAq_le {q : Int → Int} {minA : (Int → Int) → Nat → Int} (h0 : ∀ q, minA q 0 = q 0) (hs : ∀ q i, minA q (i + 1) = if q ((i : Int) + 1) < minA q i then q ((i : Int) + 1) else minA q i) : ∀ n : Nat, (∀ j : Int, 0 ≤ j → j ≤ n → minA q n ≤ q j) ∧ ∃ j : Int, 0 ≤ j ∧ j ≤ n ∧ minA q n = q j
  | 0 => by
    rw [h0]
    exact ⟨fun j a b => by obtain rfl : j = 0 := by omega
                           exact Int.le_refl _, 0, by omega, by omega, rfl⟩
  | n + 1 => by
    obtain ⟨h1, j0, a0, b0, e0⟩ := minAq_le (q := q) h0 hs n
    rw [hs]
    by_cases c : q ((n : Int) + 1) < minA q n
    · rw [if_pos c]
      refine ⟨fun j a b => ?_, (n : Int) + 1, by omega, by omega, rfl⟩
      by_cases e : j = (n : Int) + 1
      · rw [e]; exact Int.le_refl _
      · have := h1 j a (by omega); omega
    · rw [if_neg c]
      refine ⟨fun j a b => ?_, j0, a0, by omega, e0⟩
      by_cases e : j = (n : Int) + 1
      · rw [e]; exact Int.not_lt.1 c
      · exact h1 j a (by omega)
theorem maxAq_ge {q : Int → Int} {maxA : (Int → Int) → Nat → Int} (h0 : ∀ q, maxA q 0 = q 0) (hs : ∀ q i, maxA q (i + 1) = if maxA q i < q ((i : Int) + 1) then q ((i : Int) + 1) else maxA q i) : ∀ n : Nat, (∀ j : Int, 0 ≤ j → j ≤ n → q j ≤ maxA q n) ∧ ∃ j : Int, 0 ≤ j ∧ j ≤ n ∧ maxA q n = q j
  | 0 => by
    rw [h0]
    exact ⟨fun j a b => by obtain rfl : j = 0 := by omega
                           exact Int.le_refl _, 0, by omega, by omega, rfl⟩
  | n + 1 => by
    obtain ⟨h1, j0, a0, b0, e0⟩ := maxAq_ge (q := q) h0 hs n
    rw [hs]
    by_cases c : maxA q n < q ((n : Int) + 1)
    · rw [if_pos c]
      refine ⟨fun j a b => ?_, (n : Int) + 1, by omega, by omega, rfl⟩
      by_cases e : j = (n : Int) + 1
      · rw [e]; exact Int.le_refl _
      · have := h1 j a (by omega); omega
    · rw [if_neg c]
      refine ⟨fun j a b => ?_, j0, a0, by omega, e0⟩
      by_cases e : j = (n : Int) + 1
      · rw [e]; exact Int.not_lt.1 c
      · exact h1 j a (by omega)
end Go.Proofs.YtdimlpcbbkokiaaGreat

/- Plain: the lines and pixels of images with staves that bend (Wavy). No program in sight. -/
namespace Go.Proofs.YtdimlpcbbkokiaaGreat
open Go.RowKit
set_option linter.unusedVariables false
/-- line t: line t % 5 of stave t / 5 -/
def wvL (low : Int) (R : Int → Int) (t : Nat) (j : Nat) : Int := 5 - low + ((t / 5 : Nat) : Int) * 36 + 6 * ((t % 5 : Nat) : Int) + R j
theorem wvL_at (low : Int) (R : Int → Int) (i k j : Nat) (hk : k < 5) : wvL low R (5 * i + k) j = 5 - low + (i : Int) * 36 + 6 * (k : Int) + R j := by
  unfold wvL
  rw [show (5 * i + k) / 5 = i by omega, show (5 * i + k) % 5 = k by omega]
/-- the pixels: the lines before t, and line t before column x -/
def wvQ (W : Int) (L : Nat → Nat → Int) (t : Nat) (x : Int) : Int → Int := fun i =>
  if (List.range t).any (fun s => decide (L s (i % W).toNat = i / W)) = true ∨ (L t (i % W).toNat = i / W ∧ i % W < x) then 1 else 0
section
variable {W : Int} {L : Nat → Nat → Int} {t : Nat} {x i : Int}
theorem wvQ_start (hW : 0 < W) : wvQ W L 0 0 i = 0 := by
  have := Int.emod_nonneg i (show W ≠ 0 by omega)
  unfold wvQ; rw [if_neg]
  rintro (h | h)
  · simp at h
  · omega
theorem wvQ_line (hW : 0 < W) : wvQ W L t W i = wvQ W L (t + 1) 0 i := by
  have h1 := Int.emod_lt_of_pos i hW
  have h2 := Int.emod_nonneg i (show W ≠ 0 by omega)
  unfold wvQ
  have e : (List.range (t + 1)).any (fun s => decide (L s (i % W).toNat = i / W)) = ((List.range t).any (fun s => decide (L s (i % W).toNat = i / W)) || decide (L t (i % W).toNat = i / W)) := by
    rw [List.range_succ, List.any_append]; simp
  rw [e]
  by_cases c : (List.range t).any (fun s => decide (L s (i % W).toNat = i / W)) = true
  · rw [if_pos (.inl c), if_pos (.inl (by rw [c]; rfl))]
  · by_cases d : L t (i % W).toNat = i / W
    · rw [if_pos (.inr ⟨d, h1⟩), if_pos (.inl (by rw [decide_eq_true d]; simp))]
    · rw [if_neg (by rintro (h | h); exact c h; exact d h.1), if_neg]
      rintro (h | h)
      · rw [Bool.or_eq_true] at h
        rcases h with h | h
        · exact c h
        · exact d (of_decide_eq_true h)
      · omega
theorem wvQ_set (x0 : 0 ≤ x) (x1 : x < W) : upd (wvQ W L t x) (L t x.toNat * W + x) 1 i = wvQ W L t (x + 1) i := by
  have a := idx_mod (y := L t x.toNat) x0 x1
  have b := idx_div (y := L t x.toNat) x0 x1
  unfold upd
  by_cases e : i = L t x.toNat * W + x
  · rw [if_pos e]
    unfold wvQ
    rw [e, a, b, if_pos (.inr ⟨rfl, by omega⟩)]
  · rw [if_neg e]
    have hne : ¬ (L t (i % W).toNat = i / W ∧ i % W = x) := by
      rintro ⟨h1, h2⟩
      rw [h2] at h1
      have := Int.emod_add_mul_ediv i W
      rw [h2, ← h1, Int.mul_comm] at this
      omega
    unfold wvQ
    by_cases c : (List.range t).any (fun s => decide (L s (i % W).toNat = i / W)) = true
    · rw [if_pos (.inl c), if_pos (.inl c)]
    · by_cases d : L t (i % W).toNat = i / W ∧ i % W < x
      · rw [if_pos (.inr d), if_pos (.inr ⟨d.1, by omega⟩)]
      · rw [if_neg (by rintro (h | h); exact c h; exact d h), if_neg]
        rintro (h | ⟨h1, h2⟩)
        · exact c h
        · by_cases h3 : i % W = x
          · exact hne ⟨h1, h3⟩
          · exact d ⟨h1, by omega⟩
theorem wvQ_is01 : Is01 (wvQ W L t x) := fun i => by unfold wvQ; split <;> simp
end
theorem But.trans {B B' k : Nat} {w w' w'' : World} (h : But B k w w') (h' : But B' k w' w'') (hB : B ≤ B') : But B k w w'' :=
  ⟨h'.os.trans h.os, h'.tape.trans h.tape, h'.output.trans h.output, Nat.le_trans hB h'.size, fun j hj hk => (h'.block j (by omega) hk).trans (h.block j hj hk)⟩
theorem But.below {B B' k : Nat} {w w' w'' : World} (h : But B k w w') (h' : Below B' w' w'') (hB : B ≤ B') : But B k w w'' := h.then (h'.mono hB)
theorem FoundM.but {B B' k g : Nat} {w w' : World} {m : Nat → Nat} {ln : Nat → Nat → Int} {vo : Value} {v : Nat → Value} (h : FoundM B w m ln k vo v) (hb : But B' g w w') (hB : w.heap.size = B') (hg : g < B) : FoundM B w' m ln k vo v :=
  ⟨own_but h.row hb hB hg, fun i hi => own_but (h.lines i hi) hb hB hg⟩
theorem own_but' {w w' : World} {base n B k : Nat} {e : TypeId} {v : Value} {xs : List Value} (h : w.ownsRow base e 1 v n xs) (hb : But B k w w') (hB : w.heap.size ≤ B) (hk : k < base) : w'.ownsRow base e 1 v n xs :=
  own_move h fun j hj => hb.block j (Nat.lt_of_lt_of_le (own_ge h hj).2 hB) (by have := (own_ge h hj).1; omega)
theorem StOut.but {B B' g : Nat} {w w' : World} {m : Nat → Nat} {ln : Nat → Nat → Int} {st : List Nat} {vo : Value} {vs : Nat → Value} (h : StOut B w m ln st vo vs) (hb : But B' g w w') (hB : w.heap.size = B') (hg : g < B) : StOut B w' m ln st vo vs :=
  ⟨own_but h.row hb hB hg, fun t ht => by obtain ⟨v, hv⟩ := h.each t ht; exact ⟨v, hv.but hb hB hg⟩⟩
theorem own_lo {w : World} {base n g t : Nat} {e : TypeId} {v : Value} {xs : List Value} {cs : Array Value} (h : w.ownsRow base e 1 v n xs) (hb : Blk w g t cs) (hg : g < base) (o : Nat) (u : Value) : (w.setCell ⟨g, o, none⟩ u).ownsRow base e 1 v n xs :=
  own_move h fun k hk => heap_setCell_other w ⟨g, o, none⟩ k u fun e => by
    have := (own_ge h hk).1
    have e : k = g := e
    omega
theorem StOut.far {B g t : Nat} {w : World} {m : Nat → Nat} {ln : Nat → Nat → Int} {st : List Nat} {vo : Value} {vs : Nat → Value} {cs : Array Value} (h : StOut B w m ln st vo vs) (hb : Blk w g t cs) (hg : g < B) (o : Nat) (u : Value) : StOut B (w.setCell ⟨g, o, none⟩ u) m ln st vo vs :=
  ⟨own_lo h.row hb hg o u, fun t ht => by obtain ⟨v, hv⟩ := h.each t ht; exact ⟨v, own_lo hv.row hb hg o u, fun i hi => own_lo (hv.lines i hi) hb hg o u⟩⟩
end Go.Proofs.YtdimlpcbbkokiaaGreat

/- Walk: slices.Compact at runs. -/
namespace Go.Proofs.YtdimlpcbbkokiaaGreat
open Go.RowKit Go.Shelf Go.Lib Go.Sort
set_option linter.unusedVariables false
attribute [local go_sem] Oper.semAt_some

theorem compact_dd (l : List Rn) : ∀ m, m ≤ l.length → compactUpTo l.toArray m = dd (l.take m)
  | 0, _ => by simp [compactUpTo, dd]
  | m + 1, h => by
    rw [compactUpTo_succ, compact_dd l m (by omega), List.take_succ_eq_append_getElem (by omega)]
    have hg : ∀ j (hj : j < l.length), l.toArray[j]! = l[j] := fun j hj => by simp [hj]
    rw [hg m (by omega)]
    cases m with
    | zero => simp [dd, keeps]
    | succ m =>
      rw [List.take_succ_eq_append_getElem (i := m) (by omega), dd_snoc]
      unfold keeps
      rw [hg (m + 1) (by omega), show m + 1 - 1 = m from rfl, hg m (by omega)]
      by_cases c : l[m] = l[m + 1]
      · rw [if_pos c, if_neg (by simp [c])]; simp
      · rw [if_neg c, if_pos (by simp; exact fun e => c e.symm)]
/-- the cells of a row of runs -/
def RunC (cs : Array Value) (n : Nat) (f : Nat → Rn) : Prop := ∀ i, i < n → cs[i * 3]? = some (.int .i64 (f i).1) ∧ cs[i * 3 + 1]? = some (.int .i64 (f i).2.1) ∧ cs[i * 3 + 2]? = some (.int .i64 (f i).2.2)
theorem RunC.set {cs : Array Value} {n : Nat} {f : Nat → Rn} (h : RunC cs n f) (k : Nat) (hk : k < n) (r : Rn) :
    RunC (((cs.setIfInBounds (k * 3) (.int .i64 r.1)).setIfInBounds (k * 3 + 1) (.int .i64 r.2.1)).setIfInBounds (k * 3 + 2) (.int .i64 r.2.2)) n (fun i => if i = k then r else f i) := fun i hi => by
  have h2 : k * 3 + 2 < cs.size := (Array.getElem?_eq_some_iff.1 (h k hk).2.2).1
  simp only [Array.getElem?_setIfInBounds, Array.size_setIfInBounds]
  by_cases e : i = k
  · subst e
    simp only [if_true]
    refine ⟨?_, ?_, ?_⟩
    · rw [if_neg (by omega), if_neg (by omega), if_pos (by omega)]
    · rw [if_neg (by omega), if_pos (by omega)]
    · rw [if_pos (by omega)]
  · simp only [if_neg e]
    obtain ⟨a, b, c⟩ := h i hi
    refine ⟨?_, ?_, ?_⟩
    · rw [if_neg (by omega), if_neg (by omega), if_neg (by omega)]; exact a
    · rw [if_neg (by omega), if_neg (by omega), if_neg (by omega)]; exact b
    · rw [if_neg (by omega), if_neg (by omega), if_neg (by omega)]; exact c
theorem eqRun (a b : Rn) (w : World) : (binOp .eql 57 (.agg #[.int .i64 a.1, .int .i64 a.2.1, .int .i64 a.2.2]) (.agg #[.int .i64 b.1, .int .i64 b.2.1, .int .i64 b.2.2])).run Tryz.prog w = .ok (.bool (decide (a = b))) w := by
  obtain ⟨a1, a2, a3⟩ := a
  obtain ⟨b1, b2, b3⟩ := b
  have e : decide ((a1, a2, a3) = (b1, b2, b3)) = (decide (a1 = b1) && (decide (a2 = b2) && decide (a3 = b3))) := by
    simp [Prod.ext_iff, Bool.decide_and]
  rw [e]
  clear e
  by_cases h1 : a1 = b1 <;> by_cases h2 : a2 = b2 <;> by_cases h3 : a3 = b3 <;> go_simp
theorem setCells_blk (g : Nat) {t : TypeId} : ∀ (vs : List Value) (o : Nat) (w : World) (cs : Array Value), Blk w g t cs →
    (∃ cs', Blk (w.setCells g o vs) g t cs' ∧ cs'.size = cs.size ∧ ∀ i, i < o → cs'[i]? = cs[i]?) ∧ But w.heap.size g w (w.setCells g o vs)
  | [], o, w, cs, h => ⟨⟨cs, h, rfl, fun _ _ => rfl⟩, But.refl _ (Nat.le_refl _)⟩
  | v :: r, o, w, cs, h => by
    obtain ⟨⟨cs', h1, h2, h3⟩, h4⟩ := setCells_blk g r (o + 1) (w.setCell ⟨g, o, none⟩ v) _ (h.set_ o v)
    refine ⟨⟨cs', h1, by rw [h2]; simp, fun i hi => ?_⟩, ?_⟩
    · rw [h3 i (by omega), Array.getElem?_setIfInBounds, if_neg (by omega)]
    · have h5 := (But.refl (w := w) g (Nat.le_refl _)).set o v
      have h6 : But w.heap.size g (w.setCell ⟨g, o, none⟩ v) ((w.setCell ⟨g, o, none⟩ v).setCells g (o + 1) r) := by
        have := h4; rwa [World.size_setCell] at this
      exact h5.trans h6 (Nat.le_refl _)
theorem run_clear_runs (w : World) (ty : TypeId) (g o n c : Nat) (cs : Array Value) (hn : 0 < n) (hk : Blk w g 57 cs) (ho : o + n * 3 ≤ cs.size) :
    (Builtin.clear_ #[53] ty #[.slice (some ⟨g, o, none⟩) n c]).run Tryz.prog w = .ok (.tuple #[]) (w.setCells g o (Builtin.zeroCells #[.int .i64 0, .int .i64 0, .int .i64 0] n).toList) := by
  have hzv : ∀ w, (zeroValue 57).run Tryz.prog w = .ok (.agg #[.int .i64 0, .int .i64 0, .int .i64 0]) w := fun _ => by kernel_rfl
  have hlen : (Builtin.zeroCells #[.int .i64 0, .int .i64 0, .int .i64 0] n).toList.length = n * 3 := by simp [Builtin.zeroCells]
  have h1 : ∀ v ∈ (Builtin.zeroCells #[.int .i64 0, .int .i64 0, .int .i64 0] n).toList, v.oneCell' = true := by
    intro v hv
    simp [Builtin.zeroCells] at hv
    obtain ⟨i, hi, rfl⟩ := hv
    have : i % 3 = 0 ∨ i % 3 = 1 ∨ i % 3 = 2 := by omega
    rcases this with e | e | e <;> rw [e] <;> rfl
  have hst := run_storeCells_cells (P := Tryz.prog) g o (Builtin.zeroCells #[.int .i64 0, .int .i64 0, .int .i64 0] n).toList 0 w
    (by intro j hj; rw [hlen] at hj; rw [hk.cell]; simp; omega) (by intro j _; exact hk.frozen _) h1
  simp only [Nat.add_zero] at hst
  obtain ⟨m, rfl⟩ : ∃ m, n = m + 1 := ⟨n - 1, by omega⟩
  simp [Builtin.clear_, run_underlying Tryz.underlying53, hzv, hst, Value.cells]
theorem neRun (a b : Rn) (w : World) : (binOp .neq 57 (.agg #[.int .i64 a.1, .int .i64 a.2.1, .int .i64 a.2.2]) (.agg #[.int .i64 b.1, .int .i64 b.2.1, .int .i64 b.2.2])).run Tryz.prog w = .ok (.bool (!decide (a = b))) w := by
  obtain ⟨a1, a2, a3⟩ := a
  obtain ⟨b1, b2, b3⟩ := b
  have e : decide ((a1, a2, a3) = (b1, b2, b3)) = (decide (a1 = b1) && (decide (a2 = b2) && decide (a3 = b3))) := by
    simp [Prod.ext_iff, Bool.decide_and]
  rw [e]
  clear e
  by_cases h1 : a1 = b1 <;> by_cases h2 : a2 = b2 <;> by_cases h3 : a3 = b3 <;> go_simp
theorem dd_short {l : List Rn} (h : l.length < 2) : dd l = l := by
  match l, h with
  | [], _ => rfl
  | [a], _ => rfl
theorem RunC.cells {w : World} {g n : Nat} {cs : Array Value} {f : Nat → Rn} (h : RunC cs n f) (hk : Blk w g 57 cs) {i : Nat} (hi : i < n) :
    w.cell? ⟨g, i * 3, none⟩ = some (.int .i64 (f i).1) ∧ w.cell? ⟨g, i * 3 + 1, none⟩ = some (.int .i64 (f i).2.1) ∧ w.cell? ⟨g, i * 3 + 2, none⟩ = some (.int .i64 (f i).2.2) :=
  ⟨by rw [hk.cell]; exact (h i hi).1, by rw [hk.cell]; exact (h i hi).2.1, by rw [hk.cell]; exact (h i hi).2.2⟩

set_option maxRecDepth 100000 in
set_option maxHeartbeats 4000000 in
theorem compact_any (g c : Nat) (l : List Rn) (cs : Array Value) (w : World) (hk : Blk w g 57 cs) (hC : RunC cs l.length (fun i => l.toArray[i]!)) (hsz : l.length * 3 ≤ cs.size) (hc : l.length ≤ c) (hn : l.length ≤ 1000000000) :
    Calls Tryz.prog 92 #[.slice (some ⟨g, 0, none⟩) l.length c] w fun e w' => e = .returned (.slice (some ⟨g, 0, none⟩) (dd l).length c) ∧
      ∃ cs', Blk w' g 57 cs' ∧ RunC cs' (dd l).length (fun i => (dd l).toArray[i]!) ∧ cs'.size = cs.size ∧ But w.heap.size g w w' := by
  have DD := Lib.hid (compact_dd l)
  have FULL := Lib.hid (fun (h : ∀ j, j < l.length → keeps l.toArray j = true) => (show dd l = l by
    have := compact_dd l l.length (Nat.le_refl _)
    rw [List.take_length] at this
    rw [← this, show l.length = l.toArray.size by simp, compactUpTo_all _ _ (by simpa using h), range_map_get]))
  have hdn : l.toArray.size = l.length := by simp
  by_cases h2 : (l.length : Int) < 2
  · have e := dd_short (l := l) (by omega)
    rw [e]
    have HC := Lib.hid hC
    clear hC hdn e
    generalize l.length = n at *
    go_enter Tryz.func92, Tryz.ntmps92
    go_wp2
    go_ret
    exact ⟨rfl, cs, hk, HC.out, rfl, But.refl _ (Nat.le_refl _)⟩
  · obtain ⟨d, hd⟩ : ∃ d, l.toArray = d := ⟨_, rfl⟩
    obtain ⟨n, hnn⟩ : ∃ n, l.length = n := ⟨_, rfl⟩
    rw [hd] at hC FULL DD hdn
    rw [hnn] at hC FULL hdn hsz hc hn h2 ⊢
    have HC := Lib.hid hC
    have HDN := Lib.hid hdn
    have HLN := Lib.hid hnn
    have HD := Lib.hid hd
    have h2' : (2 : Int) ≤ n := by omega
    clear hC hdn hnn hd
    go_enter Tryz.func92, Tryz.ntmps92
    go_wp2_with fail
    go_loopw [3] (fun s wr => ∃ k : Nat, 1 ≤ k ∧ k ≤ n ∧ s = .int .i64 k ∧ (Below w.heap.size w wr ∧ Blk wr g 57 cs) ∧ ∀ j, j < k → keeps d j = true) (fun s _ => n - (intOf s).toNat)
    case atStart => exact ⟨1, by omega, by omega, rfl, ⟨Below.refl _ _, hk⟩, keeps_lt_one d⟩
    case round =>
      obtain ⟨k, k1, kn, rfl, ⟨hbw, hkq⟩, hall⟩ := hrel
      have HALL := Lib.hid hall
      clear hall
      by_cases kl : (k : Int) < n
      · obtain ⟨j, hj⟩ : ∃ j, k - 1 = j := ⟨_, rfl⟩
        obtain ⟨x1, x2, x3⟩ := HC.out.cells hkq (i := k) (by omega)
        obtain ⟨y1, y2, y3⟩ := HC.out.cells hkq (i := j) (by omega)
        obtain ⟨X, hX⟩ : ∃ X, d[k]! = X := ⟨_, rfl⟩
        obtain ⟨Y, hY⟩ : ∃ Y, d[j]! = Y := ⟨_, rfl⟩
        have hw1 : IntKind.i64.wrap ((k : Int) - 1) = j := (IntWalk.i64_in _ (by omega)).trans (by omega)
        have hw2 : IntKind.i64.wrap ((k : Int) + -1) = j := (IntWalk.i64_in _ (by omega)).trans (by omega)
        have hw3 : IntKind.i64.wrap ((k : Int) + 1) = (k : Int) + 1 := IntWalk.i64_in _ (by omega)
        have hj0 : (0 : Int) ≤ j := by omega
        have hjn : (j : Int) < n := by omega
        rw [hX] at x1 x2 x3
        rw [hY] at y1 y2 y3
        have EQ := fun W => eqRun X Y W
        have HXY : Hid (d[k]! = X ∧ d[j]! = Y) := ⟨hX, hY⟩
        have HKJ := Lib.hid hj
        clear hX hY hj
        by_cases hxy : X = Y
        · rw [decide_eq_true hxy] at EQ
          have KF : Hid (keeps d k = false) := by
            show _ = _
            unfold keeps; rw [HKJ.out, HXY.out.1, HXY.out.2]; simp [hxy]; omega
          have HX2 := Lib.hid hxy
          clear hxy
          go_wp2_with fail
          go_quiet (fail)
          go_wp2_with fail
          clear x1 x2 x3 y1 y2 y3 EQ
          go_loopw [3, 5] (fun s s5 w9 => ∃ (kk k2 : Nat) (dk : Array Rn) (cs' : Array Value), s = .int .i64 kk ∧ s5 = .int .i64 k2 ∧ 1 ≤ k2 ∧ k + k2 ≤ n ∧ (But w.heap.size g w w9 ∧ Blk w9 g 57 cs' ∧ cs'.size = cs.size) ∧ Hid (RunC cs' n (fun i => dk[i]!)) ∧ Hid (CompInv d (k + k2) kk dk)) (fun _ s5 _ => n - k - (intOf s5).toNat)
          case atStart => exact ⟨k, 1, d, cs, rfl, rfl, Nat.le_refl _, by omega, ⟨(But.refl g (Nat.le_refl _)).then (below_drewN hbw _), hkq.drewN _, rfl⟩, HC, Lib.hid (CompInv.start HALL.out KF.out)⟩
          case round =>
            obtain ⟨kk, k2, dk, cs', rfl, rfl, h1, hle, ⟨hbt, hk9, hsz9⟩, HC9, HI⟩ := hrel
            have hkk := HI.out.lt
            have hds := HI.out.size
            rw [HDN.out] at hds
            by_cases hlt2 : ((k2 : Int) < (n : Int) - k)
            · have hl2 : k + k2 < n := by omega
              obtain ⟨e, he⟩ : ∃ e, k2 - 1 = e := ⟨_, rfl⟩
              obtain ⟨x1, x2, x3⟩ := HC9.out.cells hk9 (i := k + k2) (by omega)
              obtain ⟨y1, y2, y3⟩ := HC9.out.cells hk9 (i := k + e) (by omega)
              obtain ⟨z1, z2, z3⟩ := HC9.out.cells hk9 (i := kk) (by omega)
              obtain ⟨f1, f2, f3⟩ : wr.frozen? ⟨g, kk * 3, none⟩ = false ∧ wr.frozen? ⟨g, kk * 3 + 1, none⟩ = false ∧ wr.frozen? ⟨g, kk * 3 + 2, none⟩ = false := ⟨hk9.frozen _, hk9.frozen _, hk9.frozen _⟩
              rw [HI.out.high (k + k2) (by omega), Nat.add_mul] at x1 x2 x3
              rw [HI.out.high (k + e) (by omega), Nat.add_mul] at y1 y2 y3
              obtain ⟨U, hU⟩ : ∃ U, d[k + k2]! = U := ⟨_, rfl⟩
              obtain ⟨V, hV⟩ : ∃ V, d[k + e]! = V := ⟨_, rfl⟩
              obtain ⟨Z, hZ⟩ : ∃ Z, dk[kk]! = Z := ⟨_, rfl⟩
              have hw1 : IntKind.i64.wrap ((k2 : Int) - 1) = e := (IntWalk.i64_in _ (by omega)).trans (by omega)
              have hw2 : IntKind.i64.wrap ((k2 : Int) + -1) = e := (IntWalk.i64_in _ (by omega)).trans (by omega)
              have hw3 : IntKind.i64.wrap ((k2 : Int) + 1) = (k2 : Int) + 1 := IntWalk.i64_in _ (by omega)
              have hw4 : IntKind.i64.wrap ((kk : Int) + 1) = (kk : Int) + 1 := IntWalk.i64_in _ (by omega)
              have hj0 : (0 : Int) ≤ e := by omega
              have hjn : (e : Int) < (n : Int) - k := by omega
              have hkn : (kk : Int) < n := by omega
              rw [hU] at x1 x2 x3
              rw [hV] at y1 y2 y3
              rw [hZ] at z1 z2 z3
              have NE := fun W => neRun U V W
              have HUV : Hid (d[k + k2]! = U ∧ d[k + e]! = V) := ⟨hU, hV⟩
              have HE := Lib.hid he
              clear hU hV hZ he
              have hke : k + k2 - 1 = k + e := by have := HE.out; omega
              have HKE := Lib.hid hke
              clear hke
              by_cases huv : U = V
              · rw [decide_eq_true huv] at NE
                have KG : Hid (keeps d (k + k2) = false) := by
                  show _ = _
                  unfold keeps; rw [HKE.out, HUV.out.1, HUV.out.2]; simp [huv]; omega
                clear huv
                go_wp2_with fail
                go_quiet (fail)
                go_wp2
                go_round
                case rel => exact ⟨kk, k2 + 1, dk, cs', rfl, by go_num, by omega, by omega, ⟨hbt.then (below_drewN (Below.refl _ _) _), hk9.drewN _, hsz9⟩, HC9, Lib.hid (HI.out.skip KG.out)⟩
                case measure => simp [intOf]; omega
              · rw [decide_eq_false huv] at NE
                have KG : Hid (keeps d (k + k2) = true) := by
                  show _ = _
                  unfold keeps; rw [HKE.out, HUV.out.1, HUV.out.2]; simp [huv]
                clear huv
                go_wp2_with fail
                go_quiet (fail)
                go_wp2_with (fail)
                refine ⟨⟨kk + 1, k2 + 1, dk.setIfInBounds kk U, _, by go_num, by go_num, by omega, by omega, ⟨(((hbt.then (below_drewN (Below.refl _ _) _)).set _ _).set _ _).set _ _, (((hk9.drewN _).set_ _ _).set_ _ _).set_ _ _, by simpa using hsz9⟩, ?_, ?_⟩, by simp [intOf]; omega⟩
                · refine Lib.hid ?_
                  have := HC9.out.set kk (by omega) U
                  exact fun i hi => by
                    have h9 := this i hi
                    have e9 : (dk.setIfInBounds kk U)[i]! = if i = kk then U else dk[i]! := by
                      by_cases c : i = kk
                      · subst c; rw [if_pos rfl, getElem!_set_same dk _ _ (by omega)]
                      · rw [if_neg c, getElem!_set_other dk kk i _ c]
                    simp only [e9]; exact h9
                · have h9 := HI.out.keep (by rw [HDN.out]; omega) KG.out
                  rw [HUV.out.1] at h9
                  exact Lib.hid h9
            · have hend : k + k2 = n := by omega
              have hcl : ∀ ty, (Builtin.clear_ #[53] ty #[.slice (some ⟨g, kk * 3, none⟩) (n - kk) (c - kk)]).run Tryz.prog wr = .ok (.tuple #[]) (wr.setCells g (kk * 3) (Builtin.zeroCells #[.int .i64 0, .int .i64 0, .int .i64 0] (n - kk)).toList) := fun ty => run_clear_runs wr ty g (kk * 3) (n - kk) (c - kk) cs' (by omega) hk9 (by omega)
              have HB := Lib.hid hbt
              have HK9 := Lib.hid hk9
              have HS9 := Lib.hid hsz9
              have HEND := Lib.hid hend
              clear hbt hk9 hsz9 hend
              have hkk2 : (kk : Int) ≤ n := by omega
              have hkc : (kk : Int) ≤ c := by omega
              go_wp2
              go_ret
              obtain ⟨⟨c2, q1, q2, q3⟩, q4⟩ := setCells_blk g (Builtin.zeroCells #[.int .i64 0, .int .i64 0, .int .i64 0] (n - kk)).toList (kk * 3) _ _ HK9.out
              have hI := HI.out
              rw [HEND.out] at hI
              have hl := hI.len
              have hd1 := DD.out n (by rw [HLN.out]; exact Nat.le_refl _)
              rw [List.take_of_length_le (by rw [HLN.out]; exact Nat.le_refl _)] at hd1
              rw [hd1] at hl
              rw [hl]
              refine ⟨rfl, c2, q1, fun i hi => ?_, q2.trans HS9.out, HB.out.trans q4 HB.out.size⟩
              have hlo := hI.low i hi
              rw [hd1] at hlo
              have e9 : (dd l)[i]?.getD default = dk[i]! := by rw [hlo]; rfl
              obtain ⟨r1, r2, r3⟩ := HC9.out i (by omega)
              simp only [e9]
              exact ⟨(q3 _ (by omega)).trans r1, (q3 _ (by omega)).trans r2, (q3 _ (by omega)).trans r3⟩
        · rw [decide_eq_false hxy] at EQ
          have KT : Hid (keeps d k = true) := by
            show _ = _
            unfold keeps; rw [HKJ.out, HXY.out.1, HXY.out.2]; simp [hxy]
          clear hxy
          go_wp2_with fail
          go_quiet (fail)
          go_wp2
          go_round
          case rel => exact ⟨k + 1, by omega, by omega, by go_num, ⟨below_drewN hbw _, hkq.drewN _⟩, fun j hj => if e : j = k then e ▸ KT.out else HALL.out j (by omega)⟩
          case measure => simp [intOf]; omega
      · have hkn : k = n := by omega
        have FF := FULL.out (by have := HALL.out; rwa [hkn] at this)
        have HW := Lib.hid hbw
        have FF2 := Lib.hid FF
        clear FF hbw
        go_wp2
        go_ret
        rw [FF2.out]
        exact ⟨by rw [HLN.out]; rfl, cs, hkq, fun i hi => by have h9 := HC.out i (by rw [← HLN.out]; exact hi); rw [← HD.out] at h9; simpa using h9, rfl, (But.refl g (Nat.le_refl _)).then HW.out⟩
end Go.Proofs.YtdimlpcbbkokiaaGreat

/- The library's sort at runs: the contract laid at this program, and what it says of a row of runs. -/
namespace Go.Proofs.YtdimlpcbbkokiaaGreat
open Go.RowKit Go.Shelf Go.Lib Go.Sort
set_option linter.unusedVariables false
attribute [local go_sem] Oper.semAt_some

def Tryz.sortRuns_ren : Go.Shelf.Ren := ⟨fun | 6 => 89 | 15 => 64 | 14 => 112 | 28 => 105 | 29 => 106 | 20 => 119 | 21 => 120 | 22 => 121 | 23 => 122 | 24 => 123 | 25 => 124 | 26 => 125 | 27 => 126 | 46 => 128 | 47 => 115 | 48 => 116 | 49 => 129 | 50 => 130 | 57 => 131 | n => n, fun | 22 => 53 | 24 => 57 | 25 => 117 | 3 => 3 | 39 => 97 | 0 => 0 | 53 => 131 | 55 => 133 | 4 => 4 | 46 => 124 | 45 => 123 | 50 => 128 | 5 => 5 | 9 => 9 | 66 => 138 | 70 => 142 | 76 => 149 | 77 => 31 | n => n, fun | n => n⟩
theorem Tryz.sortRuns : Go.Proofs.SlLaysF0.n6 Tryz.prog Tryz.sortRuns_ren := {
  mixed := by kernel_rfl
  f6 := ⟨Tryz.f89.name, by decide, Tryz.func89.trans (congrArg some (by kernel_rfl))⟩
  f14 := ⟨Tryz.f112.name, by decide, Tryz.func112.trans (congrArg some (by kernel_rfl))⟩
  f15 := Tryz.func64.trans (congrArg some (by kernel_rfl))
  f20 := ⟨Tryz.f119.name, by decide, Tryz.func119.trans (congrArg some (by kernel_rfl))⟩
  f21 := ⟨Tryz.f120.name, by decide, Tryz.func120.trans (congrArg some (by kernel_rfl))⟩
  f22 := ⟨Tryz.f121.name, by decide, Tryz.func121.trans (congrArg some (by kernel_rfl))⟩
  f23 := ⟨Tryz.f122.name, by decide, Tryz.func122.trans (congrArg some (by kernel_rfl))⟩
  f24 := ⟨Tryz.f123.name, by decide, Tryz.func123.trans (congrArg some (by kernel_rfl))⟩
  f25 := ⟨Tryz.f124.name, by decide, Tryz.func124.trans (congrArg some (by kernel_rfl))⟩
  f26 := ⟨Tryz.f125.name, by decide, Tryz.func125.trans (congrArg some (by kernel_rfl))⟩
  f27 := ⟨Tryz.f126.name, by decide, Tryz.func126.trans (congrArg some (by kernel_rfl))⟩
  f28 := Tryz.func105.trans (congrArg some (by kernel_rfl))
  f29 := Tryz.func106.trans (congrArg some (by kernel_rfl))
  f46 := ⟨Tryz.f128.name, by decide, Tryz.func128.trans (congrArg some (by kernel_rfl))⟩
  f47 := Tryz.func115.trans (congrArg some (by kernel_rfl))
  f48 := Tryz.func116.trans (congrArg some (by kernel_rfl))
  f49 := ⟨Tryz.f129.name, by decide, Tryz.func129.trans (congrArg some (by kernel_rfl))⟩
  f50 := ⟨Tryz.f130.name, by decide, Tryz.func130.trans (congrArg some (by kernel_rfl))⟩
  f57 := ⟨Tryz.f131.name, by decide, Tryz.func131.trans (congrArg some (by kernel_rfl))⟩
  t0 := Tryz.underlying0
  a0 := Tryz.isAgg0
  z0 := Tryz.sizeOf0
  v0 := Tryz.zeroValue0
  t3 := Tryz.underlying3
  a3 := Tryz.isAgg3
  z3 := Tryz.sizeOf3
  v3 := Tryz.zeroValue3
  t4 := Tryz.underlying4
  a4 := Tryz.isAgg4
  z4 := Tryz.sizeOf4
  v4 := Tryz.zeroValue4
  t5 := Tryz.underlying5
  a5 := Tryz.isAgg5
  z5 := Tryz.sizeOf5
  v5 := Tryz.zeroValue5
  t9 := Tryz.underlying9
  a9 := Tryz.isAgg9
  z9 := Tryz.sizeOf9
  v9 := Tryz.zeroValue9
  t22 := Tryz.underlying53
  a22 := Tryz.isAgg53
  z22 := Tryz.sizeOf53
  v22 := Tryz.zeroValue53
  t25 := Tryz.underlying117
  a25 := Tryz.isAgg117
  z25 := Tryz.sizeOf117
  v25 := Tryz.zeroValue117
  t39 := Tryz.underlying97
  a39 := Tryz.isAgg97
  z39 := Tryz.sizeOf97
  v39 := Tryz.zeroValue97
  t45 := Tryz.underlying123
  a45 := Tryz.isAgg123
  z45 := Tryz.sizeOf123
  v45 := Tryz.zeroValue123
  t46 := Tryz.underlying124
  a46 := Tryz.isAgg124
  z46 := Tryz.sizeOf124
  v46 := Tryz.zeroValue124
  t50 := Tryz.underlying128
  a50 := Tryz.isAgg128
  z50 := Tryz.sizeOf128
  v50 := Tryz.zeroValue128
  t53 := Tryz.underlying131
  a53 := Tryz.isAgg131
  z53 := Tryz.sizeOf131
  v53 := Tryz.zeroValue131
  t55 := Tryz.underlying133
  a55 := Tryz.isAgg133
  z55 := Tryz.sizeOf133
  v55 := Tryz.zeroValue133
  t66 := Tryz.underlying138
  a66 := Tryz.isAgg138
  z66 := Tryz.sizeOf138
  v66 := Tryz.zeroValue138
  t70 := Tryz.underlying142
  a70 := Tryz.isAgg142
  z70 := Tryz.sizeOf142
  v70 := Tryz.zeroValue142
  t76 := Tryz.underlying149
  a76 := Tryz.isAgg149
  z76 := Tryz.sizeOf149
  v76 := Tryz.zeroValue149
  t77 := Tryz.underlying31
  a77 := Tryz.isAgg31
  z77 := Tryz.sizeOf31
  v77 := Tryz.zeroValue31 }

abbrev SRn := { r : Rn // Small r.1 ∧ Small r.2.1 }
instance : Inhabited SRn := ⟨⟨(0, 0, 0), by unfold Small; simp, by unfold Small; simp⟩⟩
def encS (r : SRn) : List Value := encR r.1
theorem rn_lift : ∀ l : List Rn, (∀ r ∈ l, Small r.1 ∧ Small r.2.1) → ∃ s : List SRn, s.map Subtype.val = l
  | [], _ => ⟨[], rfl⟩
  | a :: l, h => by
    obtain ⟨s, hs⟩ := rn_lift l fun r hr => h r (List.mem_cons_of_mem _ hr)
    exact ⟨⟨a, h a (List.mem_cons_self ..)⟩ :: s, by rw [List.map_cons, hs]⟩
theorem swo_runs : SWO (ltOf fun (x y : SRn) => cmpR x.1 y.1) := by
  refine ⟨fun x => ?_, fun x y z a b => ?_, fun x y z a b => ?_⟩ <;>
    simp only [ltOf, decide_eq_true_eq, decide_eq_false_iff_not] at * <;> simp only [cmpR, orE] at * <;> (repeat' split at *) <;> omega
theorem flat_at {d : Array SRn} {i t : Nat} (hi : i < d.size) (ht : t < 3) : (flatK encS 3 d)[i * 3 + t]! = (encS d[i]!)[t]! := by
  rw [get_flatK _ _ _ _ (by omega), show (i * 3 + t) / 3 = i by omega, show (i * 3 + t) % 3 = t by omega]
set_option maxHeartbeats 1000000 in
/-- the runs are put in order -/
theorem sortRuns_any (g c : Nat) (l : List Rn) (cs : Array Value) (w : World) (hk : Blk w g 57 cs) (hC : RunC cs l.length (fun i => l.toArray[i]!)) (hsz : l.length * 3 ≤ cs.size) (hs : ∀ r ∈ l, Small r.1 ∧ Small r.2.1) (hn : l.length ≤ 1000000000) :
    Calls Tryz.prog 89 #[.slice (some ⟨g, 0, none⟩) l.length c, .func (.func 90) #[] #[]] w fun e w' => e = .returned (.tuple #[]) ∧
      ∃ l' : List Rn, l'.Perm l ∧ l'.Pairwise leR ∧ ∃ cs', Blk w' g 57 cs' ∧ RunC cs' l'.length (fun i => l'.toArray[i]!) ∧ cs'.size = cs.size ∧ But w.heap.size g w w' := by
  obtain ⟨s, hs⟩ := rn_lift l hs
  have hlen : s.toArray.size = l.length := by rw [← hs]; simp
  have hget : ∀ i, i < l.length → s.toArray[i]!.1 = l.toArray[i]! := fun i hi => by
    have h1 : i < s.length := by rw [← List.size_toArray, hlen]; exact hi
    simp [← hs, h1]
  have hlt := (Array.getElem?_eq_some_iff.1 hk).1
  have hH : HoldsK encS 3 w g 0 s.toArray := fun j hj => by
    rw [size_flatK, hlen] at hj
    refine ⟨?_, by rw [Nat.zero_add]; exact hk.frozen _⟩
    obtain ⟨i, t, ht, rfl⟩ : ∃ i t, t < 3 ∧ j = i * 3 + t := ⟨j / 3, j % 3, by omega, by omega⟩
    rw [flat_at (by omega) ht, Nat.zero_add, hk.cell]
    obtain ⟨r1, r2, r3⟩ := hC i (by omega)
    simp only [← hget i (by omega)] at r1 r2 r3
    show _ = some ((encR s.toArray[i]!.1)[t]!)
    match t, ht with
    | 0, _ => exact r1
    | 1, _ => exact r2
    | 2, _ => exact r3
  have eg : ∀ args w, (callFunc 90 args).run Tryz.prog w = .ok (.enter 90 args) w := enters_of Tryz.func90 (by kernel_rfl) rfl
  have hcmp : CmpLays Tryz.prog 90 #[] encS 3 (fun x y => cmpR x.1 y.1) g 0 s.toArray.size w := fun m os dk _ x y => cmpRuns_any x.1 y.1 _ x.2 y.2
  have hcon := AnyQ.slices_SortFunc Tryz.sortRuns 3 (fun _ => by kernel_rfl) (fun _ => by kernel_rfl) encS (fun _ => rfl) (fun x v hv => by
    have : v ∈ encR x.1 := hv
    simp [encR] at this
    rcases this with h | h | h <;> rw [h] <;> rfl) (fun x y => cmpR x.1 y.1) swo_runs 90 #[] g 0 c s.toArray w eg hcmp hH hlt (by rw [hlen]; omega)
  rw [hlen] at hcon
  refine hcon.mono ?_
  rintro e w' ⟨rfl, d', n, os, hp, hs2, rfl⟩
  obtain ⟨p1, -, p3⟩ := hp
  have p1 : d'.size = l.length := by rw [p1, hlen]
  have p3 : d'.toList.Perm s := by
    have e1 : d'.extract 0 l.length = d' := by rw [← p1]; exact Array.extract_size
    have e2 : s.toArray.extract 0 l.length = s.toArray := by rw [← hlen]; exact Array.extract_size
    rw [e1, e2] at p3
    exact p3
  have hl' : (d'.toList.map Subtype.val).length = l.length := by simp [p1]
  refine ⟨rfl, d'.toList.map Subtype.val, hs ▸ p3.map _, ?_, putCells id 0 (flatK encS 3 d') cs, heap_sortWorld_row id w g 0 n (flatK encS 3 d') os hk, ?_, by simp [putCells], ⟨rfl, rfl, rfl, size_sortWorld id w g 0 n (flatK encS 3 d') os, fun j hj hn => heap_sortWorld id w g 0 n (flatK encS 3 d') os hj hn⟩⟩
  · rw [List.pairwise_map, List.pairwise_iff_getElem]
    intro i j hi hj hij
    rw [Array.length_toList, p1] at hi hj
    have := hs2 i j (Nat.zero_le _) hij hj
    rw [getElem!_pos d' i (by omega), getElem!_pos d' j (by omega)] at this
    simp only [ltOf, decide_eq_false_iff_not] at this
    simp only [cmpR, orE] at this
    simp only [Array.getElem_toList, leR]
    split at this <;> omega
  · rw [hl']
    intro i hi
    have hx : ∀ t, t < 3 → (putCells id 0 (flatK encS 3 d') cs)[i * 3 + t]? = some ((encS d'[i]!)[t]!) := fun t ht => by
      unfold putCells
      rw [Array.getElem?_mapIdx, Array.getElem?_eq_getElem (by omega), Option.map_some, if_pos (by rw [size_flatK]; omega), Nat.sub_zero, flat_at (by omega) ht]; rfl
    have e9 : (d'.toList.map Subtype.val).toArray[i]! = d'[i]!.1 := by
      have : i < d'.size := by omega
      simp [this]
    simp only [e9]
    exact ⟨hx 0 (by omega), hx 1 (by omega), hx 2 (by omega)⟩
end Go.Proofs.YtdimlpcbbkokiaaGreat

/- Runs put in order and without doubles: on rows that the call owns. -/
namespace Go.Proofs.YtdimlpcbbkokiaaGreat
open Go.RowKit Go.Shelf Go.Lib Go.Sort
set_option linter.unusedVariables false
attribute [local go_sem] Oper.semAt_some

theorem runC_of {cs : Array Value} {l : List Rn} (h : cs.toList.take (l.length * 3) = flatR l) : RunC cs l.length (fun i => l.toArray[i]!) := fun i hi => by
  have hg : l[i]? = some (l.toArray[i]!) := by simp [hi]
  obtain ⟨r1, r2, r3⟩ := flatR_at l i _ hg
  rw [← h] at r1 r2 r3
  rw [List.getElem?_take, if_pos (by omega), Array.getElem?_toList] at r1 r2 r3
  exact ⟨r1, r2, r3⟩
theorem runC_take {cs : Array Value} {l : List Rn} (h : RunC cs l.length (fun i => l.toArray[i]!)) (hs : l.length * 3 ≤ cs.size) : cs.toList.take (l.length * 3) = flatR l := by
  apply List.ext_getElem?
  intro j
  rw [List.getElem?_take]
  by_cases hj : j < l.length * 3
  · rw [if_pos hj]
    obtain ⟨i, t, ht, rfl⟩ : ∃ i t, t < 3 ∧ j = i * 3 + t := ⟨j / 3, j % 3, by omega, by omega⟩
    have hi : i < l.length := by omega
    have hg : l[i]? = some (l.toArray[i]!) := by simp [hi]
    obtain ⟨r1, r2, r3⟩ := flatR_at l i _ hg
    obtain ⟨s1, s2, s3⟩ := h i hi
    rw [Array.getElem?_toList]
    match t, ht with
    | 0, _ => exact s1.trans r1.symm
    | 1, _ => exact s2.trans r2.symm
    | 2, _ => exact s3.trans r3.symm
  · rw [if_neg hj, List.getElem?_eq_none (by rw [flatR_len]; omega)]
theorem sortRow_any (B : Nat) (v : Value) (l : List Rn) (w : World) (h : RunRow w B v l) (hB : B ≤ w.heap.size) (hs : ∀ r ∈ l, Small r.1 ∧ Small r.2.1) (hn : l.length ≤ 1000000000) :
    Calls Tryz.prog 89 #[v, .func (.func 90) #[] #[]] w fun e w' => e = .returned (.tuple #[]) ∧
      ∃ l' : List Rn, l'.Perm l ∧ l'.Pairwise leR ∧ RunRow w' B v l' ∧ Below B w w' := by
  by_cases hl : l = []
  · subst hl
    obtain ⟨A, c, rfl, -⟩ := h.val
    refine (AnyF.slices_SortFunc_none (P := Tryz.prog) (ρ := Tryz.sortRuns_ren) Tryz.sortRuns A c (.func (.func 90) #[] #[]) w).mono ?_
    rintro e w' ⟨rfl, rfl⟩
    exact ⟨rfl, [], List.Perm.refl _, List.Pairwise.nil, h, Below.refl _ _⟩
  · obtain ⟨g, c, cs, rfl, hc, hg, hk, hsz, hm, ht⟩ := h.blk hl
    refine (sortRuns_any g c l cs w hk (runC_of ht) (by omega) hs hn).mono ?_
    rintro e w' ⟨rfl, l', hp, hq, cs', hk', hC', hs', hb⟩
    have e1 := hp.length_eq
    refine ⟨rfl, l', hp, hq, ⟨by rw [flatR_len], .inr ⟨g, c, cs', by rw [e1], hg, hk', by omega, hm, by omega, ?_⟩⟩, hb.to rfl hg hB⟩
    exact runC_take hC' (by omega)
set_option maxHeartbeats 1000000 in
theorem compactNil_any (w : World) : Calls Tryz.prog 92 #[.slice none 0 0] w fun e w' => e = .returned (.slice none 0 0) ∧ w = w' := by
  go_enter Tryz.func92, Tryz.ntmps92
  go_wp2
  go_ret
  exact ⟨rfl, rfl⟩
theorem compactRow_any (B : Nat) (v : Value) (l : List Rn) (w : World) (h : RunRow w B v l) (hB : B ≤ w.heap.size) (hn : l.length ≤ 1000000000) :
    Calls Tryz.prog 92 #[v] w fun e w' => ∃ v', e = .returned v' ∧ RunRow w' B v' (dd l) ∧ Below B w w' := by
  rcases h.2 with ⟨rfl, h2⟩ | ⟨g, c, cs, rfl, hg, hk, hc, hm, hsz, ht⟩
  · have hl : l = [] := by
      cases l with
      | nil => rfl
      | cons a t => simp at h2
    subst hl
    refine (compactNil_any w).mono ?_
    rintro e w' ⟨rfl, rfl⟩
    exact ⟨_, rfl, RunRow.nil _ _, Below.refl _ _⟩
  · refine (compact_any g c l cs w hk (runC_of ht) (by omega) hc hn).mono ?_
    rintro e w' ⟨rfl, cs', hk', hC', hs', hb⟩
    have e1 := dd_len l
    refine ⟨_, rfl, ⟨by rw [flatR_len], .inr ⟨g, c, cs', rfl, hg, hk', by omega, hm, by omega, ?_⟩⟩, hb.to rfl hg hB⟩
    exact runC_take hC' (by omega)
end Go.Proofs.YtdimlpcbbkokiaaGreat
