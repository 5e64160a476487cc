/- Texts of mine in build order: T34, T46. Conditions: each theorem's own. -/
import Derived.Test.YtdimlpcbbkokiaaMStaveBackx7
/- Walk: groups of lines (StaveGroups). -/
namespace Go.Proofs.Ytdimlpcbbkokiaa
open Go.RowKit Go.Shelf
set_option linter.unusedVariables false
attribute [local go_sem] Oper.semAt_some

/-- the blocks from B up to E are as they were -/
def KeepIn (B E : Nat) (w w' : World) : Prop := ∀ k, B ≤ k → k < E → w'.heap[k]? = w.heap[k]?
section
variable {B E : Nat} {w w' w'' : World}
theorem KeepIn.refl (B E : Nat) (w : World) : KeepIn B E w w := fun _ _ _ => rfl
theorem KeepIn.drew (h : KeepIn B E w w') : KeepIn B E w w'.drew := h
theorem KeepIn.set {p : Addr} {u : Value} (hg : p.block < B ∨ E ≤ p.block) (h : KeepIn B E w w') : KeepIn B E w (w'.setCell p u) := fun k h1 h2 => (heap_setCell_other w' p k u (by omega)).trans (h k h1 h2)
theorem KeepIn.alloc {o : Obj} (hE : E ≤ w'.heap.size) (h : KeepIn B E w w') : KeepIn B E w (w'.alloc o) := fun k h1 h2 => (Below.heap_alloc w' o k (by omega)).trans (h k h1 h2)
theorem KeepIn.call (hb : Below w'.heap.size w' w'') (hE : E ≤ w'.heap.size) (h : KeepIn B E w w') : KeepIn B E w w'' := fun k h1 h2 => (hb.block k (by omega)).trans (h k h1 h2)
theorem KeepIn.found {m : Nat → Nat} {ln : Nat → Nat → Int} {k : Nat} {vo : Value} {v : Nat → Value} (h : FoundM B w m ln k vo v) (hk : KeepIn B w.heap.size w w') : FoundM B w' m ln k vo v :=
  ⟨own_move h.row fun j hj => hk j (own_ge h.row hj).1 (own_ge h.row hj).2, fun i hi => own_move (h.lines i hi) fun j hj => hk j (own_ge (h.lines i hi) hj).1 (own_ge (h.lines i hi) hj).2⟩
theorem KeepIn.arr {A : Option Addr} {n : Nat} {q : Int → Int} (h : ArrB w w.heap.size A n q) (hA : ∀ a, A = some a → B ≤ a.block) (hk : KeepIn B w.heap.size w w') (hs : w.heap.size ≤ w'.heap.size) : ArrB w' w'.heap.size A n q := fun hn => by
  obtain ⟨b, off, rfl, hb, hc⟩ := h hn
  refine ⟨b, off, rfl, Nat.lt_of_lt_of_le hb hs, fun i i0 i1 => (World.cell?_of_block (hk b (hA _ rfl) hb)).trans (hc i i0 i1)⟩
end
theorem Blk.fill1 {w : World} {g t : Nat} {x a : Value} (h : Blk w g t #[x]) : Blk (w.setCell ⟨g, 0, none⟩ a) g t #[a] := h.set_ 0 a
theorem LinesOf {B : Nat} {w : World} {m : Nat → Nat} {ln : Nat → Nat → Int} {k c : Nat} {A : Option Addr} {v : Nat → Value} (h : FoundM B w m ln k (.slice A k c) v) : Lines w w.heap.size A k m ln := by
  obtain ⟨A', c', e, -, -, hL⟩ := h.toLines
  cases e
  exact hL
theorem Blk.far1' {w : World} {g t k o : Nat} {a : Value} {cs : Array Value} (hk : k ≠ g) (h : Blk w k t cs) : Blk (w.setCell ⟨g, o, none⟩ a) k t cs := h.far (p := ⟨g, o, none⟩) hk a
/-- only blocks of numbers may have changed -/
def IntOnly (w5 wr : World) : Prop := w5.heap.size ≤ wr.heap.size ∧ ∀ k, k < w5.heap.size → (∃ cs cs', Blk w5 k 3 cs ∧ Blk wr k 3 cs' ∧ cs'.size = cs.size) ∨ wr.heap[k]? = w5.heap[k]?
section
variable {w5 wr : World}
theorem IntOnly.refl (w : World) : IntOnly w w := ⟨Nat.le_refl _, fun _ _ => .inr rfl⟩
theorem IntOnly.alloc (h : IntOnly w5 wr) (o : Obj) : IntOnly w5 (wr.alloc o) := by
  refine ⟨by have := h.1; simp; omega, fun k hk => ?_⟩
  have hk2 : k < wr.heap.size := Nat.lt_of_lt_of_le hk h.1
  rw [Below.heap_alloc wr o k hk2]
  rcases h.2 k hk with ⟨cs, cs', h1, h2, h3⟩ | h1
  · exact .inl ⟨cs, cs', h1, h2.alloc _, h3⟩
  · exact .inr h1
theorem IntOnly.set (h : IntOnly w5 wr) {g : Nat} {cs : Array Value} (hb : Blk wr g 3 cs) (o : Nat) (u : Value) : IntOnly w5 (wr.setCell ⟨g, o, none⟩ u) := by
  refine ⟨by have := h.1; simpa using this, fun k hk => ?_⟩
  by_cases e : k = g
  · subst e
    rcases h.2 k hk with ⟨c1, c2, h1, h2, h3⟩ | h1
    · exact .inl ⟨c1, c2.setIfInBounds o u, h1, h2.set_ o u, by simp [h3]⟩
    · exact .inl ⟨cs, cs.setIfInBounds o u, hb.move h1.symm, hb.set_ o u, by simp⟩
  · rcases h.2 k hk with ⟨c1, c2, h1, h2, h3⟩ | h1
    · exact .inl ⟨c1, c2, h1, h2.far (p := ⟨g, o, none⟩) e u, h3⟩
    · exact .inr ((heap_setCell_other wr ⟨g, o, none⟩ k u e).trans h1)
theorem IntOnly.cell (h : IntOnly w5 wr) {b t : Nat} {cs : Array Value} (hb : Blk w5 b t cs) (ht : t ≠ 3) : Blk wr b t cs := by
  rcases h.2 b hb.lt with ⟨c1, c2, h1, -, -⟩ | h1
  · have h2 : w5.heap[b]? = _ := hb
    have h3 : w5.heap[b]? = _ := h1
    rw [h2] at h3
    exact absurd (congrArg (fun o : Option Obj => match o with | some (.cells _ t _) => t | _ => 0) h3) ht
  · exact hb.move h1
theorem IntOnly.int (h : IntOnly w5 wr) {b : Nat} {cs : Array Value} (hb : Blk w5 b 3 cs) : ∃ cs', Blk wr b 3 cs' ∧ cs'.size = cs.size := by
  rcases h.2 b hb.lt with ⟨c1, c2, h1, h2, h3⟩ | h1
  · have e : w5.heap[b]? = _ := hb
    have e2 : w5.heap[b]? = _ := h1
    rw [e] at e2
    have : cs = c1 := by cases e2; rfl
    subst this
    exact ⟨c2, h2, h3⟩
  · exact ⟨cs, hb.move h1, rfl⟩
end
/-- an owned row, as a block -/
theorem own_blk {w : World} {B n : Nat} {e : TypeId} {v : Value} {xs : List Value} (h : w.ownsRow B e 1 v n xs) (hn : 0 < n) : ∃ g c cs, v = .slice (some ⟨g, 0, none⟩) n c ∧ B ≤ g ∧ Blk w g e cs ∧ ∀ t, t < n → cs[t]? = xs[t]? := by
  rcases h.2 with ⟨-, h2⟩ | ⟨g, cap, cur, hv, hb, hh, hc, _, hs, ht⟩
  · omega
  · refine ⟨g, cap, cur, hv, hb, hh, fun t ht2 => ?_⟩
    rw [← ht, List.getElem?_take, if_pos (by omega)]
    simp
/-- what is written to in a row of staves -/
theorem StOut.places {B : Nat} {w : World} {m : Nat → Nat} {ln : Nat → Nat → Int} {st : List Nat} {vo : Value} {vs : Nat → Value} (h : StOut B w m ln st vo vs) (hp : ∀ t, t ∈ st → ∀ j, j < 5 → 0 < m (t + j)) {t : Nat} (ht : t < st.length) :
    ∃ b c cs b5 c5 cs5, vo = .slice (some ⟨b, 0, none⟩) st.length c ∧ Blk w b 54 cs ∧ cs[t]? = some (.slice (some ⟨b5, 0, none⟩) 5 c5) ∧ Blk w b5 25 cs5 ∧
      ∀ j, j < 5 → ∃ g n cg cj, cs5[j]? = some (.slice (some ⟨g, 0, none⟩) n cg) ∧ 0 < n ∧ B ≤ g ∧ Blk w g 3 cj ∧ 0 < cj.size := by
  obtain ⟨b, c, cs, rfl, -, hb, hcs⟩ := own_blk h.row (by omega)
  obtain ⟨v, hv⟩ := h.each t ht
  obtain ⟨b5, c5, cs5, e5, -, hb5, hcs5⟩ := own_blk hv.row (by omega)
  refine ⟨b, c, cs, b5, c5, cs5, rfl, hb, ?_, hb5, fun j hj => ?_⟩
  · rw [hcs t ht, List.getElem?_map, List.getElem?_range ht, ← e5]; rfl
  · have hm : 0 < m (st.getD t 0 + j) := by
      rw [List.getD_eq_getElem?_getD, List.getElem?_eq_getElem ht]
      exact hp _ (List.getElem_mem ht) j hj
    obtain ⟨g, cg, cj, eg, hg, hbg, hcj⟩ := own_blk (hv.lines j hj) hm
    refine ⟨g, _, cg, cj, ?_, hm, hg, hbg, ?_⟩
    · rw [hcs5 j hj, List.getElem?_map, List.getElem?_range hj, ← eg]; rfl
    · have := hcj 0 hm
      rw [List.getElem?_map, List.getElem?_range hm] at this
      exact (Array.getElem?_eq_some_iff.1 this).1
theorem eB_pos {m : Nat → Nat} {ln : Nat → Nat → Int} {i : Nat} (h : eB m ln i = true) (j : Nat) (hj : j < 5) : 0 < m (i + j) := by
  unfold eB evenB at h
  rw [Bool.and_eq_true] at h
  have := of_decide_eq_true (List.all_eq_true.1 h.1 j (List.mem_range.2 hj))
  exact this.1

set_option maxRecDepth 100000 in
set_option maxHeartbeats 4000000 in
theorem staveGroups_any (A AI AS : Option Addr) (K c N cI KS cS : Nat) (W H : Int) (m mS : Nat → Nat) (ln lnS : Nat → Nat → Int) (p : Int → Int) (w : World) (hL : LinesIn w A K c m ln) (hA : ArrB w w.heap.size AI N p) (hN : N ≤ maxLen) (hc : AI = none → cI = 0) (hB : IsB p) (hS : LinesIn w AS KS cS mS lnS) :
    Calls Try.prog 6 #[.slice A K c, .agg #[.int .i64 W, .int .i64 H, .slice AI N cI], .agg #[.slice AS KS cS]] w fun e w' => e = .returned (.bool true) ∧ Below w.heap.size w w' := by
  have AW := Lib.hid fun w' => awake3_any w'
  have FW := Lib.hid fun w' => few_any W H AI N cI w'
  obtain ⟨vs, h1, h2⟩ := hL.lines
  have kc := hL.le
  have k44 : c ≤ 17592186044416 := by have := hL.outer; omega
  have ks44 : cS ≤ 17592186044416 := by have := hS.outer; omega
  have ksc := hS.le
  have one : ∀ t, t < K → ∃ B m' d, vs t = .slice B m' d := fun t ht => by obtain ⟨A', c', e, -, -⟩ := h2 t ht; exact ⟨_, _, _, e⟩
  obtain ⟨e1, he1⟩ : ∃ e1, decide (0 ≤ idxF (fun t => decide ((60 : Int) < m t.toNat)) K) = e1 := ⟨_, rfl⟩
  obtain ⟨e2, he2⟩ : ∃ e2, decide (0 ≤ idxF (fun t => decide (0 ≤ idxF (fun j => far40 (ln t.toNat j.toNat)) (m t.toNat))) K) = e2 := ⟨_, rfl⟩
  have C1 := Lib.hid fun w' (hb : Below w.heap.size w w') => containsL 31 #[] (fun t => decide ((60 : Int) < m t.toNat)) vs w' enterLong A K c ((Arr.below h1 hb).more hb.size) (by unfold maxLen; omega) one
    (fun t ht => by
      obtain ⟨A', c', e, -, -⟩ := h2 t ht
      show Calls _ _ #[_] _ _
      rw [e]
      exact long_any A' (m t) c' w' (by have := hL.lens t ht; unfold maxLen; omega))
  have C2 := Lib.hid fun w' (hb : Below w.heap.size w w') => containsL 32 #[] (fun t => decide (0 ≤ idxF (fun j => far40 (ln t.toNat j.toNat)) (m t.toNat))) vs w' enterHuge A K c ((Arr.below h1 hb).more hb.size) (by unfold maxLen; omega) one
    (fun t ht => by
      obtain ⟨A', c', e, -, ha⟩ := h2 t ht
      show Calls _ _ #[_] _ _
      rw [e]
      exact huge_any A' (m t) c' (fun j => ln t j.toNat) w' (ha.to hb) (by have := hL.lens t ht; unfold maxLen; omega))
  rw [he1] at C1
  rw [he2] at C2
  have HE1 := Lib.hid he1; have HE2 := Lib.hid he2
  clear he1 he2 one h1 h2
  have b1 : Below w.heap.size w ((w.alloc (.cells #[.int .i64 W, .int .i64 H, .slice AI N cI] 24)).alloc (.cells #[.slice AS KS cS] 54)) := by (repeat (first | exact Below.refl _ _ | assumption | refine Below.drew ?_ | refine below_drewN ?_ _ | refine Below.alloc ?_ (by first | omega | (simp; done) | (simp; omega)) _ | refine Below.setCell ?_ (by first | omega | (simp; done) | (simp; omega)) _ | refine below_setRow ?_ (by first | omega | (simp; done) | (simp; omega)) _ ))
  have k1 : Blk ((w.alloc (.cells #[.int .i64 W, .int .i64 H, .slice AI N cI] 24)).alloc (.cells #[.slice AS KS cS] 54)) w.heap.size 24 #[.int .i64 W, .int .i64 H, .slice AI N cI] := (Blk.new _ _ _).alloc _
  have k2 : Blk ((w.alloc (.cells #[.int .i64 W, .int .i64 H, .slice AI N cI] 24)).alloc (.cells #[.slice AS KS cS] 54)) (w.heap.size + 1) 54 #[.slice AS KS cS] := Blk.new' (by simp) _ _
  have p4 := k2.cells0
  obtain ⟨p1, p2, p3⟩ := k1.cells3
  by_cases hK : (40 : Int) < K
  · clear C1 C2 FW
    go_enter Try.func6, Try.ntmps6
    go_wp2_with fail
    generalize (w.alloc (.cells #[.int .i64 W, .int .i64 H, .slice AI N cI] 24)).alloc (.cells #[.slice AS KS cS] 54) = w1 at *
    refine (AW.out _).mono ?_
    rintro e w9 ⟨rfl, hb9⟩
    have b9 := below_call b1 b1.size hb9
    go_wp2
    go_ret
    exact ⟨rfl, b9⟩
  · cases e1 with
    | true =>
      clear C2 FW
      go_enter Try.func6, Try.ntmps6
      go_wp2_with fail
      generalize (w.alloc (.cells #[.int .i64 W, .int .i64 H, .slice AI N cI] 24)).alloc (.cells #[.slice AS KS cS] 54) = w1 at *
      refine (C1.out _ b1).mono ?_
      rintro e w2 ⟨rfl, rfl⟩
      go_wp2_with fail
      refine (AW.out _).mono ?_
      rintro e w9 ⟨rfl, hb9⟩
      have b9 := below_call b1 b1.size hb9
      go_wp2
      go_ret
      exact ⟨rfl, b9⟩
    | false =>
      by_cases hf : (N : Int) ≤ 6000
      · rw [decide_eq_true hf] at FW
        by_cases h9 : (9 : Int) < KS
        · clear C2
          go_enter Try.func6, Try.ntmps6
          go_wp2_with fail
          generalize (w.alloc (.cells #[.int .i64 W, .int .i64 H, .slice AI N cI] 24)).alloc (.cells #[.slice AS KS cS] 54) = w1 at *
          refine (C1.out _ b1).mono ?_
          rintro e w2 ⟨rfl, rfl⟩
          go_wp2_with fail
          refine (FW.out _).mono ?_
          rintro e w3 ⟨rfl, hb3⟩
          have b3 := below_call b1 b1.size hb3
          have k3 := k1.below' hb3
          have k4 := k2.below' hb3
          clear p1 p2 p3 p4
          obtain ⟨p1, p2, p3⟩ := k3.cells3
          have p4 := k4.cells0
          go_wp2_with fail
          refine (AW.out _).mono ?_
          rintro e w9 ⟨rfl, hb9⟩
          have b9 := below_call b3 b3.size hb9
          go_wp2
          go_ret
          exact ⟨rfl, b9⟩
        · cases e2 with
          | true =>
            go_enter Try.func6, Try.ntmps6
            go_wp2_with fail
            generalize (w.alloc (.cells #[.int .i64 W, .int .i64 H, .slice AI N cI] 24)).alloc (.cells #[.slice AS KS cS] 54) = w1 at *
            refine (C1.out _ b1).mono ?_
            rintro e w2 ⟨rfl, rfl⟩
            go_wp2_with fail
            refine (FW.out _).mono ?_
            rintro e w3 ⟨rfl, hb3⟩
            have b3 := below_call b1 b1.size hb3
            have k3 := k1.below' hb3
            have k4 := k2.below' hb3
            clear p1 p2 p3 p4
            obtain ⟨p1, p2, p3⟩ := k3.cells3
            have p4 := k4.cells0
            go_wp2_with fail
            refine (C2.out _ b3).mono ?_
            rintro e w4 ⟨rfl, rfl⟩
            go_wp2_with fail
            refine (AW.out _).mono ?_
            rintro e w9 ⟨rfl, hb9⟩
            have b9 := below_call b3 b3.size hb9
            go_wp2
            go_ret
            exact ⟨rfl, b9⟩
          | false =>
            have M60 : ∀ i, i < K → m i ≤ 60 := fun i hi => by
              have h0 := of_decide_eq_false HE1.out
              rcases Nat.lt_or_ge 60 (m i) with h | h
              · exact absurd (idxF_iff.2 ⟨(i : Int), by omega, by omega, by rw [Int.toNat_natCast]; exact decide_eq_true (by omega)⟩) h0
              · exact h
            have LB : ∀ i j, i < K → j < m i → -1099511627776 ≤ ln i j ∧ ln i j ≤ 1099511627776 := fun i j hi hj => by
              have h0 := of_decide_eq_false HE2.out
              by_cases hh : -1099511627776 ≤ ln i j ∧ ln i j ≤ 1099511627776
              · exact hh
              · exfalso
                refine h0 (idxF_iff.2 ⟨(i : Int), by omega, by omega, decide_eq_true (idxF_iff.2 ⟨(j : Int), by omega, by rw [Int.toNat_natCast]; omega, ?_⟩)⟩)
                rw [Int.toNat_natCast, Int.toNat_natCast]
                unfold far40
                by_cases g : ln i j < -1099511627776
                · simp [g]
                · have g2 : 1099511627776 < ln i j := by omega
                  simp [g2]
            go_enter Try.func6, Try.ntmps6
            go_wp2_with fail
            generalize (w.alloc (.cells #[.int .i64 W, .int .i64 H, .slice AI N cI] 24)).alloc (.cells #[.slice AS KS cS] 54) = w1 at *
            refine (C1.out _ b1).mono ?_
            rintro e w2 ⟨rfl, rfl⟩
            go_wp2_with fail
            refine (FW.out _).mono ?_
            rintro e w3 ⟨rfl, hb3⟩
            have b3 := below_call b1 b1.size hb3
            have k3 := k1.below' hb3
            have k4 := k2.below' hb3
            clear p1 p2 p3 p4
            obtain ⟨p1, p2, p3⟩ := k3.cells3
            have p4 := k4.cells0
            go_wp2_with fail
            refine (C2.out _ b3).mono ?_
            rintro e w4 ⟨rfl, rfl⟩
            go_wp2_with fail
            have CLs := Lib.hid fun w' hL' => copyLists_any A K c m ln w' hL' (by omega) (fun i hi => by have := M60 i hi; omega)
            have SV := Lib.hid fun A' c' w' hL' hc' => staves_any A' K c' m ln w' hL' hc' (by omega) (fun i hi => by have := M60 i hi; omega) LB
            have RS := Lib.hid fun w' hL' => rstaves_ind K m ln (by omega) (fun i hi => by have := M60 i hi; omega) LB K 0 A c w' (by omega) kc k44 hL'
            have STM : ∀ t, t ∈ stS (eB m ln) K 0 → ∀ j, j < 5 → m (t + j) ≤ maxLen := fun t ht j hj => by
              have := stS_at ht
              have := M60 (t + j) (by omega)
              unfold maxLen; omega
            have STP : ∀ t, t ∈ stS (eB m ln) K 0 → ∀ j, j < 5 → 0 < m (t + j) := fun t ht j hj => eB_pos (stS_at ht).2.2 j hj
            have STL := stS_len (e := eB m ln) (n := K) (i := 0)
            have L0 := hL.lines
            refine (CLs.out _ (L0.below b3)).mono ?_
            rintro e w5 ⟨_, rfl, ⟨vs5, hF5⟩, hb5⟩
            obtain ⟨A1, c1, rfl, hc1, -, hL5⟩ := hF5.toLines
            have b5 := below_call b3 b3.size hb5
            have k5 := k3.below' hb5
            have k6 := k4.below' hb5
            clear b3 k3 k4 hF5 hb5 p1 p2 p3 p4
            go_wp2_with fail
            refine (SV.out _ _ _ hL5 hc1).mono ?_
            rintro e w6 ⟨_, rfl, ⟨vs6, hS6⟩, hb6⟩
            obtain ⟨A2, c2, rfl, -, -⟩ := own_arr hS6.row
            have b6 := below_call b5 b5.size hb6
            have bo6 := Below.refl w5.heap.size w5 |>.trans hb6
            go_wp2_with fail
            refine (RS.out _ ((show LinesZ w w.heap.size A K (fun j => m (0 + j)) (fun j => ln (0 + j)) by simpa using L0).below b6)).mono ?_
            rintro e w7 ⟨_, rfl, ⟨vs7, hS7⟩, hb7⟩
            obtain ⟨A3, c3, rfl, -, -⟩ := own_arr hS7.row
            have b7 := below_call b6 b6.size hb7
            have bo7 := below_call bo6 bo6.size hb7
            have hS67 := hS6.below hb7
            clear hS6 hb6 hb7 b6 bo6
            go_wp2_with fail
            refine (sameStaves_true _ _ m ln (stS (eB m ln) K 0) A2 A3 c2 c3 vs6 vs7 _ hS67 hS7 (by omega) STM).mono ?_
            rintro e w8 ⟨rfl, hb8⟩
            have b8 := below_call b7 b7.size hb8
            have bo8 := below_call bo7 bo7.size hb8
            have hS8 := hS67.below hb8
            have PLC := Lib.hid fun t ht => hS8.places STP (t := t) ht
            obtain ⟨S, hS'⟩ : ∃ S, (stS (eB m ln) K 0).length = S := ⟨_, rfl⟩
            rw [hS'] at PLC STL ⊢
            clear hS67 hS7 hS8 hb8 b7 bo7 STM STP hS' SV RS CLs
            have zo := bo8.size
            have z5 := b5.size
            go_wp2_with fail
            go_loopw [49] (fun s wr => ∃ t : Nat, t ≤ S ∧ s = .int .i64 t ∧ IntOnly w8 wr ∧ Below w5.heap.size w5 wr) (fun s _ => S - (intOf s).toNat)
            case atStart => exact ⟨0, by omega, rfl, IntOnly.refl _, bo8⟩
            case round =>
              obtain ⟨t, ht, rfl, hI, bo⟩ := hrel
              by_cases tl : (t : Int) < S
              · obtain ⟨b, cb, cs, b5', c5', cs5, eA, hbb, hcb, hb5', hpl⟩ := PLC.out t (by omega)
                cases eA
                have q1 : wr.cell? ⟨b, t, none⟩ = some (.slice (some ⟨b5', 0, none⟩) 5 c5') := by rw [(hI.cell hbb (by decide)).cell]; exact hcb
                have HI := Lib.hid (hI.alloc (.cells #[.slice (some ⟨b5', 0, none⟩) 5 c5'] 54))
                have BO := Lib.hid (bo.alloc bo.size (.cells #[.slice (some ⟨b5', 0, none⟩) 5 c5'] 54))
                have q2 : (wr.alloc (.cells #[.slice (some ⟨b5', 0, none⟩) 5 c5'] 54)).cell? ⟨wr.heap.size, 0, none⟩ = some (.slice (some ⟨b5', 0, none⟩) 5 c5') := (Blk.new wr 54 #[.slice (some ⟨b5', 0, none⟩) 5 c5']).cells0
                clear hI bo
                go_wp2_with fail
                generalize wr.alloc (.cells #[.slice (some ⟨b5', 0, none⟩) 5 c5'] 54) = w10 at *
                go_loopw [56] (fun s wr => ∃ j : Nat, j ≤ 5 ∧ s = .int .i64 j ∧ IntOnly w8 wr ∧ Below w5.heap.size w5 wr) (fun s _ => 5 - (intOf s).toNat)
                case atStart => exact ⟨0, by omega, rfl, HI.out, BO.out⟩
                case round =>
                  obtain ⟨j, hj, rfl, hI2, bo2⟩ := hrel
                  by_cases jl : (j : Int) < 5
                  · obtain ⟨g, nn, cg, cj, hcj, hnn, hgB, hbg, hsz⟩ := hpl j (by omega)
                    have q3 : wr.cell? ⟨b5', j, none⟩ = some (.slice (some ⟨g, 0, none⟩) nn cg) := by rw [(hI2.cell hb5' (by decide)).cell]; exact hcj
                    obtain ⟨cs', hbg', hsz'⟩ := hI2.int hbg
                    have q4 : ∃ v, wr.cell? ⟨g, 0, none⟩ = some v := ⟨cs'[0]'(by omega), by rw [hbg'.cell]; exact Array.getElem?_eq_getElem (by omega)⟩
                    obtain ⟨v4, q4⟩ := q4
                    have q5 := hbg'.frozen 0
                    have HI3 := Lib.hid (hI2.set hbg' 0 (.int .i64 (-7)))
                    have BO3 := Lib.hid (bo2.setCell (p := ⟨g, 0, none⟩) hgB (.int .i64 (-7)))
                    have nn1 : (0 : Int) < (nn : Int) := by omega
                    clear hI2 bo2
                    go_wp2_with fail
                    go_roundw
                    case rel => exact ⟨j + 1, by omega, by go_num, HI3.out, BO3.out⟩
                    case measure => simp [intOf]; omega
                  · obtain rfl : j = 5 := by omega
                    go_wp2_with fail
                    go_roundw
                    case rel => exact ⟨t + 1, by omega, by go_num, hI2, bo2⟩
                    case measure => simp [intOf]; omega
              · have b9 := below_call b5 b5.size bo
                have hL9 := hL5.below bo
                have k9 := k5.below' bo
                have k10 := k6.below' bo
                obtain ⟨p1, p2, p3⟩ := k9.cells3
                have p4 := k10.cells0
                clear hI bo PLC
                go_wp2_with fail
                have CIN := Lib.hid fun w' hA' => copyInk_any W H AI N cI p w' hA' hc (by omega)
                have CST := Lib.hid fun w' hL' => copyStave_any AS KS cS mS lnS w' hL' (by omega) (fun i hi => hS.lens i hi)
                have ha9 := hA.to b9
                have hS9 := hS.lines.below b9
                have z9 := b9.size
                go_cut [13, 14] (fun f1 f2 wx => ∃ B1 B2 A' c' A2' c2', f1 = .pointer (some ⟨B1, 0, none⟩) ∧ f2 = .pointer (some ⟨B2, 0, none⟩) ∧ Below wr.heap.size wr wx ∧
                  Blk wx B1 24 #[.int .i64 W, .int .i64 H, .slice A' N c'] ∧ Blk wx B2 54 #[.slice A2' KS c2'] ∧ ArrB wx wx.heap.size A' N p ∧ Lines wx wx.heap.size A2' KS mS lnS)
                case first =>
                  have y1 := k9.lt
                  have y2 := k10.lt
                  go_region_held3 (fun w' => w'.cell? ⟨w.heap.size, 0, none⟩ = some (.int .i64 W) ∧ w'.cell? ⟨w.heap.size, 1, none⟩ = some (.int .i64 H) ∧ w'.cell? ⟨w.heap.size, 2, none⟩ = some (.slice AI N cI) ∧ w'.cell? ⟨w.heap.size + 1, 0, none⟩ = some (.slice AS KS cS))
                    (simp [go_sem, *])
                    (first
                      | (go_at_call 14
                         refine Calls.mono (CIN.out _ ?_) ?_
                         focus (exact ha9.to (by (repeat (first | with_reducible exact Below.refl _ _ | with_reducible assumption | with_reducible refine Below.drew ?_ | (with_reducible refine below_alloc' ?_ ?_; focus (first | omega | (simp; done) | (simp; omega))) | (with_reducible refine below_fill3' ?_ ?_; focus omega) | (with_reducible refine below_setCell' ?_ ?_; focus (first | omega | (simp; done) | (simp; omega))) | (with_reducible apply below_call'; (focus (with_reducible assumption)); (focus (first | omega | (simp; done) | (simp; omega))))))))
                         rintro e v1 ⟨_, rfl, ⟨_, rfl, A', c', rfl, hcc1, hnil1, hge1, ha1⟩, hb1⟩
                         have bv1 := Lib.hid (show Below wr.heap.size wr v1 by (repeat (first | with_reducible exact Below.refl _ _ | with_reducible assumption | with_reducible refine Below.drew ?_ | (with_reducible refine below_alloc' ?_ ?_; focus (first | omega | (simp; done) | (simp; omega))) | (with_reducible refine below_fill3' ?_ ?_; focus omega) | (with_reducible refine below_setCell' ?_ ?_; focus (first | omega | (simp; done) | (simp; omega))) | (with_reducible apply below_call'; (focus (with_reducible assumption)); (focus (first | omega | (simp; done) | (simp; omega)))))))
                         have kk1 := k9.below' bv1.out
                         have ll1 := k10.below' bv1.out
                         obtain ⟨x11, x12, x13⟩ := kk1.cells3
                         have x14 := ll1.cells0
                         have s1 := hb1.size
                         try simp at s1
                         have y11 := kk1.lt
                         have y12 := ll1.lt
                         first | (have g11 : Blk v1 (wr.heap.size) 24 #[.int .i64 0, .int .i64 0, .slice none 0 0] := by ((repeat (first | with_reducible assumption | with_reducible exact Blk.new _ _ _ | with_reducible exact Blk.new' (World.size_alloc _ _) _ _ | (with_reducible refine Blk.new' ?_ _ _; focus (simp; done)) | with_reducible apply Blk.fill3 | with_reducible apply Blk.fill1 | (with_reducible refine Blk.far3' ?_ ?_; focus omega) | (with_reducible refine Blk.far1' ?_ ?_; focus omega) | with_reducible refine Blk.alloc ?_ _ | with_reducible refine Blk.drew ?_ | (with_reducible apply Blk.below2; focus (with_reducible assumption)))); done)
                                  obtain ⟨h1, h2, h3⟩ := g11.cells3; obtain ⟨f1, f2, f3⟩ := g11.frozen3; have lt11 := g11.lt) | skip
                         first | (have g12 : Blk v1 (wr.heap.size) 54 #[.slice none 0 0] := by ((repeat (first | with_reducible assumption | with_reducible exact Blk.new _ _ _ | with_reducible exact Blk.new' (World.size_alloc _ _) _ _ | (with_reducible refine Blk.new' ?_ _ _; focus (simp; done)) | with_reducible apply Blk.fill3 | with_reducible apply Blk.fill1 | (with_reducible refine Blk.far3' ?_ ?_; focus omega) | (with_reducible refine Blk.far1' ?_ ?_; focus omega) | with_reducible refine Blk.alloc ?_ _ | with_reducible refine Blk.drew ?_ | (with_reducible apply Blk.below2; focus (with_reducible assumption)))); done)
                                  have h12 := g12.cells0; have f12 := g12.frozen 0; have lt12 := g12.lt) | skip
                         first | (have g13 : Blk v1 (wr.heap.size + 1) 24 #[.int .i64 0, .int .i64 0, .slice none 0 0] := by ((repeat (first | with_reducible assumption | with_reducible exact Blk.new _ _ _ | with_reducible exact Blk.new' (World.size_alloc _ _) _ _ | (with_reducible refine Blk.new' ?_ _ _; focus (simp; done)) | with_reducible apply Blk.fill3 | with_reducible apply Blk.fill1 | (with_reducible refine Blk.far3' ?_ ?_; focus omega) | (with_reducible refine Blk.far1' ?_ ?_; focus omega) | with_reducible refine Blk.alloc ?_ _ | with_reducible refine Blk.drew ?_ | (with_reducible apply Blk.below2; focus (with_reducible assumption)))); done)
                                  obtain ⟨h1, h2, h3⟩ := g13.cells3; obtain ⟨f1, f2, f3⟩ := g13.frozen3; have lt13 := g13.lt) | skip
                         first | (have g14 : Blk v1 (wr.heap.size + 1) 54 #[.slice none 0 0] := by ((repeat (first | with_reducible assumption | with_reducible exact Blk.new _ _ _ | with_reducible exact Blk.new' (World.size_alloc _ _) _ _ | (with_reducible refine Blk.new' ?_ _ _; focus (simp; done)) | with_reducible apply Blk.fill3 | with_reducible apply Blk.fill1 | (with_reducible refine Blk.far3' ?_ ?_; focus omega) | (with_reducible refine Blk.far1' ?_ ?_; focus omega) | with_reducible refine Blk.alloc ?_ _ | with_reducible refine Blk.drew ?_ | (with_reducible apply Blk.below2; focus (with_reducible assumption)))); done)
                                  have h14 := g14.cells0; have f14 := g14.frozen 0; have lt14 := g14.lt) | skip)
                      | (go_at_call 37
                         refine Calls.mono (CST.out _ ?_) ?_
                         focus (exact hS9.below (by (repeat (first | with_reducible exact Below.refl _ _ | with_reducible assumption | with_reducible refine Below.drew ?_ | (with_reducible refine below_alloc' ?_ ?_; focus (first | omega | (simp; done) | (simp; omega))) | (with_reducible refine below_fill3' ?_ ?_; focus omega) | (with_reducible refine below_setCell' ?_ ?_; focus (first | omega | (simp; done) | (simp; omega))) | (with_reducible apply below_call'; (focus (with_reducible assumption)); (focus (first | omega | (simp; done) | (simp; omega))))))))
                         rintro e v2 ⟨_, rfl, ⟨_, vs2, rfl, hF2⟩, hb2⟩
                         obtain ⟨A2', c2', rfl, -, -, hL2⟩ := hF2.toLines
                         have bv2 := Lib.hid (show Below wr.heap.size wr v2 by (repeat (first | with_reducible exact Below.refl _ _ | with_reducible assumption | with_reducible refine Below.drew ?_ | (with_reducible refine below_alloc' ?_ ?_; focus (first | omega | (simp; done) | (simp; omega))) | (with_reducible refine below_fill3' ?_ ?_; focus omega) | (with_reducible refine below_setCell' ?_ ?_; focus (first | omega | (simp; done) | (simp; omega))) | (with_reducible apply below_call'; (focus (with_reducible assumption)); (focus (first | omega | (simp; done) | (simp; omega)))))))
                         have kk2 := k9.below' bv2.out
                         have ll2 := k10.below' bv2.out
                         obtain ⟨x21, x22, x23⟩ := kk2.cells3
                         have x24 := ll2.cells0
                         have s2 := hb2.size
                         try simp at s2
                         have y21 := kk2.lt
                         have y22 := ll2.lt
                         first | (have g21 : Blk v2 (wr.heap.size) 24 #[.int .i64 0, .int .i64 0, .slice none 0 0] := by ((repeat (first | with_reducible assumption | with_reducible exact Blk.new _ _ _ | with_reducible exact Blk.new' (World.size_alloc _ _) _ _ | (with_reducible refine Blk.new' ?_ _ _; focus (simp; done)) | with_reducible apply Blk.fill3 | with_reducible apply Blk.fill1 | (with_reducible refine Blk.far3' ?_ ?_; focus omega) | (with_reducible refine Blk.far1' ?_ ?_; focus omega) | with_reducible refine Blk.alloc ?_ _ | with_reducible refine Blk.drew ?_ | (with_reducible apply Blk.below2; focus (with_reducible assumption)))); done)
                                  obtain ⟨h1, h2, h3⟩ := g21.cells3; obtain ⟨f1, f2, f3⟩ := g21.frozen3; have lt21 := g21.lt) | skip
                         first | (have g22 : Blk v2 (wr.heap.size) 54 #[.slice none 0 0] := by ((repeat (first | with_reducible assumption | with_reducible exact Blk.new _ _ _ | with_reducible exact Blk.new' (World.size_alloc _ _) _ _ | (with_reducible refine Blk.new' ?_ _ _; focus (simp; done)) | with_reducible apply Blk.fill3 | with_reducible apply Blk.fill1 | (with_reducible refine Blk.far3' ?_ ?_; focus omega) | (with_reducible refine Blk.far1' ?_ ?_; focus omega) | with_reducible refine Blk.alloc ?_ _ | with_reducible refine Blk.drew ?_ | (with_reducible apply Blk.below2; focus (with_reducible assumption)))); done)
                                  have h22 := g22.cells0; have f22 := g22.frozen 0; have lt22 := g22.lt) | skip
                         first | (have g23 : Blk v2 (wr.heap.size + 1) 24 #[.int .i64 0, .int .i64 0, .slice none 0 0] := by ((repeat (first | with_reducible assumption | with_reducible exact Blk.new _ _ _ | with_reducible exact Blk.new' (World.size_alloc _ _) _ _ | (with_reducible refine Blk.new' ?_ _ _; focus (simp; done)) | with_reducible apply Blk.fill3 | with_reducible apply Blk.fill1 | (with_reducible refine Blk.far3' ?_ ?_; focus omega) | (with_reducible refine Blk.far1' ?_ ?_; focus omega) | with_reducible refine Blk.alloc ?_ _ | with_reducible refine Blk.drew ?_ | (with_reducible apply Blk.below2; focus (with_reducible assumption)))); done)
                                  obtain ⟨h1, h2, h3⟩ := g23.cells3; obtain ⟨f1, f2, f3⟩ := g23.frozen3; have lt23 := g23.lt) | skip
                         first | (have g24 : Blk v2 (wr.heap.size + 1) 54 #[.slice none 0 0] := by ((repeat (first | with_reducible assumption | with_reducible exact Blk.new _ _ _ | with_reducible exact Blk.new' (World.size_alloc _ _) _ _ | (with_reducible refine Blk.new' ?_ _ _; focus (simp; done)) | with_reducible apply Blk.fill3 | with_reducible apply Blk.fill1 | (with_reducible refine Blk.far3' ?_ ?_; focus omega) | (with_reducible refine Blk.far1' ?_ ?_; focus omega) | with_reducible refine Blk.alloc ?_ _ | with_reducible refine Blk.drew ?_ | (with_reducible apply Blk.below2; focus (with_reducible assumption)))); done)
                                  have h24 := g24.cells0; have f24 := g24.frozen 0; have lt24 := g24.lt) | skip
                         first | (have g25 : Blk v2 (v1.heap.size) 24 #[.int .i64 0, .int .i64 0, .slice none 0 0] := by ((repeat (first | with_reducible assumption | with_reducible exact Blk.new _ _ _ | with_reducible exact Blk.new' (World.size_alloc _ _) _ _ | (with_reducible refine Blk.new' ?_ _ _; focus (simp; done)) | with_reducible apply Blk.fill3 | with_reducible apply Blk.fill1 | (with_reducible refine Blk.far3' ?_ ?_; focus omega) | (with_reducible refine Blk.far1' ?_ ?_; focus omega) | with_reducible refine Blk.alloc ?_ _ | with_reducible refine Blk.drew ?_ | (with_reducible apply Blk.below2; focus (with_reducible assumption)))); done)
                                  obtain ⟨h1, h2, h3⟩ := g25.cells3; obtain ⟨f1, f2, f3⟩ := g25.frozen3; have lt25 := g25.lt) | skip
                         first | (have g26 : Blk v2 (v1.heap.size) 54 #[.slice none 0 0] := by ((repeat (first | with_reducible assumption | with_reducible exact Blk.new _ _ _ | with_reducible exact Blk.new' (World.size_alloc _ _) _ _ | (with_reducible refine Blk.new' ?_ _ _; focus (simp; done)) | with_reducible apply Blk.fill3 | with_reducible apply Blk.fill1 | (with_reducible refine Blk.far3' ?_ ?_; focus omega) | (with_reducible refine Blk.far1' ?_ ?_; focus omega) | with_reducible refine Blk.alloc ?_ _ | with_reducible refine Blk.drew ?_ | (with_reducible apply Blk.below2; focus (with_reducible assumption)))); done)
                                  have h26 := g26.cells0; have f26 := g26.frozen 0; have lt26 := g26.lt) | skip
                         first | (have g27 : Blk v2 (v1.heap.size + 1) 24 #[.int .i64 0, .int .i64 0, .slice none 0 0] := by ((repeat (first | with_reducible assumption | with_reducible exact Blk.new _ _ _ | with_reducible exact Blk.new' (World.size_alloc _ _) _ _ | (with_reducible refine Blk.new' ?_ _ _; focus (simp; done)) | with_reducible apply Blk.fill3 | with_reducible apply Blk.fill1 | (with_reducible refine Blk.far3' ?_ ?_; focus omega) | (with_reducible refine Blk.far1' ?_ ?_; focus omega) | with_reducible refine Blk.alloc ?_ _ | with_reducible refine Blk.drew ?_ | (with_reducible apply Blk.below2; focus (with_reducible assumption)))); done)
                                  obtain ⟨h1, h2, h3⟩ := g27.cells3; obtain ⟨f1, f2, f3⟩ := g27.frozen3; have lt27 := g27.lt) | skip
                         first | (have g28 : Blk v2 (v1.heap.size + 1) 54 #[.slice none 0 0] := by ((repeat (first | with_reducible assumption | with_reducible exact Blk.new _ _ _ | with_reducible exact Blk.new' (World.size_alloc _ _) _ _ | (with_reducible refine Blk.new' ?_ _ _; focus (simp; done)) | with_reducible apply Blk.fill3 | with_reducible apply Blk.fill1 | (with_reducible refine Blk.far3' ?_ ?_; focus omega) | (with_reducible refine Blk.far1' ?_ ?_; focus omega) | with_reducible refine Blk.alloc ?_ _ | with_reducible refine Blk.drew ?_ | (with_reducible apply Blk.below2; focus (with_reducible assumption)))); done)
                                  have h28 := g28.cells0; have f28 := g28.frozen 0; have lt28 := g28.lt) | skip))
                  all_goals
                    go_wp2_with fail
                    go_meet
                    refine ⟨_, _, A', c', A2', c2', rfl, rfl, ?_, ?_, ?_, ?_, ?_⟩
                    focus (repeat (first | with_reducible exact Below.refl _ _ | with_reducible assumption | with_reducible refine Below.drew ?_ | (with_reducible refine below_alloc' ?_ ?_; focus (first | omega | (simp; done) | (simp; omega))) | (with_reducible refine below_fill3' ?_ ?_; focus omega) | (with_reducible refine below_setCell' ?_ ?_; focus (first | omega | (simp; done) | (simp; omega))) | (with_reducible apply below_call'; (focus (with_reducible assumption)); (focus (first | omega | (simp; done) | (simp; omega))))))
                    focus (repeat (first | with_reducible assumption | with_reducible exact Blk.new _ _ _ | with_reducible exact Blk.new' (World.size_alloc _ _) _ _ | (with_reducible refine Blk.new' ?_ _ _; focus (simp; done)) | with_reducible apply Blk.fill3 | with_reducible apply Blk.fill1 | (with_reducible refine Blk.far3' ?_ ?_; focus omega) | (with_reducible refine Blk.far1' ?_ ?_; focus omega) | with_reducible refine Blk.alloc ?_ _ | with_reducible refine Blk.drew ?_ | (with_reducible apply Blk.below2; focus (with_reducible assumption))))
                    focus (repeat (first | with_reducible assumption | with_reducible exact Blk.new _ _ _ | with_reducible exact Blk.new' (World.size_alloc _ _) _ _ | (with_reducible refine Blk.new' ?_ _ _; focus (simp; done)) | with_reducible apply Blk.fill3 | with_reducible apply Blk.fill1 | (with_reducible refine Blk.far3' ?_ ?_; focus omega) | (with_reducible refine Blk.far1' ?_ ?_; focus omega) | with_reducible refine Blk.alloc ?_ _ | with_reducible refine Blk.drew ?_ | (with_reducible apply Blk.below2; focus (with_reducible assumption))))
                    focus (refine KeepIn.arr ha1 hge1 (by (repeat (first | with_reducible exact KeepIn.refl _ _ _ | with_reducible refine KeepIn.drew ?_ | (with_reducible refine KeepIn.set ?_ ?_; focus (first | omega | (simp; done) | (simp; omega))) | (with_reducible refine KeepIn.alloc ?_ ?_; focus (first | omega | (simp; done) | (simp; omega))) | (with_reducible apply KeepIn.call; (focus (with_reducible assumption)); (focus (first | omega | (simp; done) | (simp; omega))))))) (by first | omega | (simp; done) | (simp; omega)))
                    focus (exact LinesOf (KeepIn.found hF2 (by (repeat (first | with_reducible exact KeepIn.refl _ _ _ | with_reducible refine KeepIn.drew ?_ | (with_reducible refine KeepIn.set ?_ ?_; focus (first | omega | (simp; done) | (simp; omega))) | (with_reducible refine KeepIn.alloc ?_ ?_; focus (first | omega | (simp; done) | (simp; omega))) | (with_reducible apply KeepIn.call; (focus (with_reducible assumption)); (focus (first | omega | (simp; done) | (simp; omega)))))))))
                case rest =>
                  obtain ⟨B1, B2, A', c', A2', c2', rfl, rfl, hbx, kB1, kB2, haX, hLX⟩ := hcut
                  have b11 := below_call b9 b9.size hbx
                  have k11 := k9.below' hbx
                  have k12 := k10.below' hbx
                  have hL11 := hL9.below hbx
                  have E : ∃ E, stChk W H N p KS mS lnS = E := ⟨_, rfl⟩
                  obtain ⟨E, hE⟩ := E
                  generalize wc = wx at *
                  have hLA := hL.lines.lines.below b11
                  have hSA := hS.lines.lines.below b11
                  have hAA := hA.to b11
                  have mm : ∀ i, i < K → m i ≤ maxLen := fun i hi => by have := M60 i hi; unfold maxLen; omega
                  have hmS : ∀ i, i < KS → mS i ≤ maxLen := fun i hi => by have := hS.lens i hi; unfold maxLen; omega
                  have SLc : Hid (∀ w', Below wx.heap.size wx w' → Calls Try.prog 22 #[.slice A1 K c1, .slice A K c] w' fun e w'' => e = .returned (.bool true) ∧ Below w'.heap.size w' w'') := by
                    show ∀ _, _
                    intro w' hb'
                    have := sameLists_any A1 A K K c1 c m m ln ln w' (hL11.below hb') (hLA.below hb') (by unfold maxLen; omega) (by unfold maxLen; omega) mm mm
                    rw [sameL_self] at this
                    refine this.mono ?_
                    rintro e w'' ⟨rfl, nq, rfl⟩
                    exact ⟨rfl, drewN_below nq⟩
                  have CKa := Lib.hid fun w' (hb' : Below wx.heap.size wx w') => check_st W H A' A2' N c' KS c2' p mS lnS E w' (haX.to hb') hN (hLX.below hb') hmS hE
                  have CKb := Lib.hid fun w' (hb' : Below wx.heap.size wx w') => rcheck_st W H AI AS N cI KS cS p mS lnS E w' (hAA.to hb') hN hB (hSA.below hb') hmS hE
                  have SIc := Lib.hid fun w' (hb' : Below wx.heap.size wx w') => sameInk_true W H A' AI N c' cI p p w' (haX.to hb') (hAA.to hb') hN (fun _ _ _ => rfl)
                  have SSc : Hid (∀ w', Below wx.heap.size wx w' → Calls Try.prog 40 #[.agg #[.slice A2' KS c2'], .agg #[.slice AS KS cS]] w' fun e w'' => e = .returned (.bool true) ∧ Below w'.heap.size w' w'') := by
                    show ∀ _, _
                    intro w' hb'
                    have := sameStave_any A2' AS KS KS c2' cS mS mS lnS lnS w' (hLX.below hb') (hSA.below hb') (by unfold maxLen; omega) (by unfold maxLen; omega) hmS hmS
                    rw [sameL_self] at this
                    exact this
                  have AWc := Lib.hid fun w' (hb' : Below wx.heap.size wx w') => AW.out w'
                  obtain ⟨p1, p2, p3⟩ := k11.cells3
                  have p4 := k12.cells0
                  obtain ⟨o1, o2, o3⟩ := kB1.cells3
                  have o4 := kB2.cells0
                  clear k9 k10 hbx hL9 haX hLX hL11 hLA hSA hAA hE
                  go_wp2_with fail
                  go_region_held3 (fun w' => w'.cell? ⟨w.heap.size, 0, none⟩ = some (.int .i64 W) ∧ w'.cell? ⟨w.heap.size, 1, none⟩ = some (.int .i64 H) ∧ w'.cell? ⟨w.heap.size, 2, none⟩ = some (.slice AI N cI) ∧ w'.cell? ⟨w.heap.size + 1, 0, none⟩ = some (.slice AS KS cS) ∧ w'.cell? ⟨B1, 0, none⟩ = some (.int .i64 W) ∧ w'.cell? ⟨B1, 1, none⟩ = some (.int .i64 H) ∧ w'.cell? ⟨B1, 2, none⟩ = some (.slice A' N c') ∧ w'.cell? ⟨B2, 0, none⟩ = some (.slice A2' KS c2'))
                    (simp [go_sem, *])
                    (first
                      | (go_at_call 22
                         refine Calls.mono (SLc.out _ ?_) ?_
                         focus ((repeat (first | with_reducible exact Below.refl _ _ | with_reducible refine Below.drew ?_ | (with_reducible apply below_call'; (focus (with_reducible assumption)); (focus (first | omega | (simp; done) | (simp; omega)))))))
                         rintro e v1 ⟨rfl, hb1⟩
                         have z1 := hb1.size
                         try simp at z1
                         have bv1 := Lib.hid (show Below wx.heap.size wx v1 by (repeat (first | with_reducible exact Below.refl _ _ | with_reducible refine Below.drew ?_ | (with_reducible apply below_call'; (focus (with_reducible assumption)); (focus (first | omega | (simp; done) | (simp; omega)))))))
                         obtain ⟨r11, r12, r13⟩ := (k11.below' bv1.out).cells3
                         have r14 := (k12.below' bv1.out).cells0
                         obtain ⟨s11, s12, s13⟩ := (kB1.below' bv1.out).cells3
                         have s14 := (kB2.below' bv1.out).cells0)
                      | (go_at_call 38
                         refine Calls.mono (CKa.out _ ?_) ?_
                         focus ((repeat (first | with_reducible exact Below.refl _ _ | with_reducible refine Below.drew ?_ | (with_reducible apply below_call'; (focus (with_reducible assumption)); (focus (first | omega | (simp; done) | (simp; omega)))))))
                         rintro e v2 ⟨rfl, hb2⟩
                         have z2 := hb2.size
                         try simp at z2
                         have bv2 := Lib.hid (show Below wx.heap.size wx v2 by (repeat (first | with_reducible exact Below.refl _ _ | with_reducible refine Below.drew ?_ | (with_reducible apply below_call'; (focus (with_reducible assumption)); (focus (first | omega | (simp; done) | (simp; omega)))))))
                         obtain ⟨r21, r22, r23⟩ := (k11.below' bv2.out).cells3
                         have r24 := (k12.below' bv2.out).cells0
                         obtain ⟨s21, s22, s23⟩ := (kB1.below' bv2.out).cells3
                         have s24 := (kB2.below' bv2.out).cells0)
                      | (go_at_call 39
                         refine Calls.mono (CKb.out _ ?_) ?_
                         focus ((repeat (first | with_reducible exact Below.refl _ _ | with_reducible refine Below.drew ?_ | (with_reducible apply below_call'; (focus (with_reducible assumption)); (focus (first | omega | (simp; done) | (simp; omega)))))))
                         rintro e v3 ⟨rfl, hb3⟩
                         have z3 := hb3.size
                         try simp at z3
                         have bv3 := Lib.hid (show Below wx.heap.size wx v3 by (repeat (first | with_reducible exact Below.refl _ _ | with_reducible refine Below.drew ?_ | (with_reducible apply below_call'; (focus (with_reducible assumption)); (focus (first | omega | (simp; done) | (simp; omega)))))))
                         obtain ⟨r31, r32, r33⟩ := (k11.below' bv3.out).cells3
                         have r34 := (k12.below' bv3.out).cells0
                         obtain ⟨s31, s32, s33⟩ := (kB1.below' bv3.out).cells3
                         have s34 := (kB2.below' bv3.out).cells0)
                      | (go_at_call 21
                         refine Calls.mono (SIc.out _ ?_) ?_
                         focus ((repeat (first | with_reducible exact Below.refl _ _ | with_reducible refine Below.drew ?_ | (with_reducible apply below_call'; (focus (with_reducible assumption)); (focus (first | omega | (simp; done) | (simp; omega)))))))
                         rintro e v4 ⟨rfl, hb4⟩
                         have z4 := hb4.size
                         try simp at z4
                         have bv4 := Lib.hid (show Below wx.heap.size wx v4 by (repeat (first | with_reducible exact Below.refl _ _ | with_reducible refine Below.drew ?_ | (with_reducible apply below_call'; (focus (with_reducible assumption)); (focus (first | omega | (simp; done) | (simp; omega)))))))
                         obtain ⟨r41, r42, r43⟩ := (k11.below' bv4.out).cells3
                         have r44 := (k12.below' bv4.out).cells0
                         obtain ⟨s41, s42, s43⟩ := (kB1.below' bv4.out).cells3
                         have s44 := (kB2.below' bv4.out).cells0)
                      | (go_at_call 40
                         refine Calls.mono (SSc.out _ ?_) ?_
                         focus ((repeat (first | with_reducible exact Below.refl _ _ | with_reducible refine Below.drew ?_ | (with_reducible apply below_call'; (focus (with_reducible assumption)); (focus (first | omega | (simp; done) | (simp; omega)))))))
                         rintro e v5 ⟨rfl, hb5⟩
                         have z5 := hb5.size
                         try simp at z5
                         have bv5 := Lib.hid (show Below wx.heap.size wx v5 by (repeat (first | with_reducible exact Below.refl _ _ | with_reducible refine Below.drew ?_ | (with_reducible apply below_call'; (focus (with_reducible assumption)); (focus (first | omega | (simp; done) | (simp; omega)))))))
                         obtain ⟨r51, r52, r53⟩ := (k11.below' bv5.out).cells3
                         have r54 := (k12.below' bv5.out).cells0
                         obtain ⟨s51, s52, s53⟩ := (kB1.below' bv5.out).cells3
                         have s54 := (kB2.below' bv5.out).cells0)
                      | (go_at_call 13
                         refine Calls.mono (AWc.out _ ?_) ?_
                         focus ((repeat (first | with_reducible exact Below.refl _ _ | with_reducible refine Below.drew ?_ | (with_reducible apply below_call'; (focus (with_reducible assumption)); (focus (first | omega | (simp; done) | (simp; omega)))))))
                         rintro e v6 ⟨rfl, hb6⟩
                         have z6 := hb6.size
                         try simp at z6
                         have bv6 := Lib.hid (show Below wx.heap.size wx v6 by (repeat (first | with_reducible exact Below.refl _ _ | with_reducible refine Below.drew ?_ | (with_reducible apply below_call'; (focus (with_reducible assumption)); (focus (first | omega | (simp; done) | (simp; omega)))))))
                         obtain ⟨r61, r62, r63⟩ := (k11.below' bv6.out).cells3
                         have r64 := (k12.below' bv6.out).cells0
                         obtain ⟨s61, s62, s63⟩ := (kB1.below' bv6.out).cells3
                         have s64 := (kB2.below' bv6.out).cells0))
                  all_goals
                    go_wp2
                    go_ret
                    exact ⟨rfl, below_call b11 b11.size bv6.out⟩
      · rw [decide_eq_false hf] at FW
        clear C2
        go_enter Try.func6, Try.ntmps6
        go_wp2_with fail
        generalize (w.alloc (.cells #[.int .i64 W, .int .i64 H, .slice AI N cI] 24)).alloc (.cells #[.slice AS KS cS] 54) = w1 at *
        refine (C1.out _ b1).mono ?_
        rintro e w2 ⟨rfl, rfl⟩
        go_wp2_with fail
        refine (FW.out _).mono ?_
        rintro e w3 ⟨rfl, hb3⟩
        have b3 := below_call b1 b1.size hb3
        have k3 := k1.below' hb3
        have k4 := k2.below' hb3
        clear p1 p2 p3 p4
        obtain ⟨p1, p2, p3⟩ := k3.cells3
        have p4 := k4.cells0
        go_wp2_with fail
        refine (AW.out _).mono ?_
        rintro e w9 ⟨rfl, hb9⟩
        have b9 := below_call b3 b3.size hb9
        go_wp2
        go_ret
        exact ⟨rfl, b9⟩
end Go.Proofs.Ytdimlpcbbkokiaa

/- Walk: StaveBack. Written by gen/t46.py. -/
namespace Go.Proofs.Ytdimlpcbbkokiaa
open Go.RowKit Go.Shelf
set_option linter.unusedVariables false
attribute [local go_sem] Oper.semAt_some
theorem xor01 {a b : Int} (ha : a = 0 ∨ a = 1) (hb : b = 0 ∨ b = 1) : ∃ v, bits BinOp.xor IntKind.u8 a b = v ∧ (v = 0 ∨ v = 1) := by
  rcases ha with rfl | rfl <;> rcases hb with rfl | rfl
  · exact ⟨0, rfl, .inl rfl⟩
  · exact ⟨1, rfl, .inr rfl⟩
  · exact ⟨1, rfl, .inr rfl⟩
  · exact ⟨0, rfl, .inl rfl⟩
theorem upd01 {q : Int → Int} (h : Is01 q) {i v : Int} (hv : v = 0 ∨ v = 1) : Is01 (upd q i v) := fun j => by
  unfold upd; split
  · exact hv
  · exact h j
theorem stChk_mk {W H : Int} {n : Nat} {p : Int → Int} {K : Nat} {m : Nat → Nat} {ln : Nat → Nat → Int} (h1 : chk W H n p = 0) (h2 : StP W H K m ln) : stChk W H n p K m ln = 0 := by
  unfold stChk
  rw [if_neg (show ¬ chk W H n p ≠ 0 from fun h => h h1), if_pos (stFits_iff.2 h2)]
theorem recE_mk {W H : Int} {n : Nat} {p : Int → Int} {K : Nat} {m : Nat → Nat} {ln : Nat → Nat → Int} {up down : Int} (h1 : stChk W H n p K m ln = 0) (h2 : 0 ≤ up) (h3 : 0 ≤ down) (h4 : up + down + 1 ≤ 640) : recE W H n p K m ln up down = 0 := by
  unfold recE
  rw [if_neg (show ¬ stChk W H n p K m ln ≠ 0 from fun h => h h1), if_neg (by omega), if_neg (by omega)]
theorem resE_mk {W H h : Int} {n sn : Nat} {p sp : Int → Int} {K : Nat} {m : Nat → Nat} {ln : Nat → Nat → Int} {up : Int} (h1 : chk W H n p = 0) (h2 : chk W h sn sp = 0) (h3 : StP W H K m ln) (h4 : 0 ≤ up) (h5 : up < h) : resE W H n p W h sn sp K m ln up = 0 := by
  unfold resE
  rw [if_neg (show ¬ orE _ _ ≠ 0 from fun h => h (orE_zero.2 ⟨h1, h2⟩)), if_neg (by rw [stFits_iff.2 h3]; simp), if_neg (by omega), if_neg (by simp)]
theorem bit01 {r : Int} (h0 : 0 ≤ r) : (r % 2 = 0 ∨ r % 2 = 1) := by omega
theorem wavy_fits {W H low high : Int} {k nn t : Nat} {R : Int → Int} (hk : W = (k : Int) + 1) (hH : H = 5 + (high - low) + (nn : Int) * 24 + ((nn : Int) - 1) * 12 + 6) (ht : t < nn) (hW : 40 ≤ W)
    (hR : ∀ x : Int, 0 ≤ x → x < W → low ≤ R x ∧ R x ≤ high) (hN : ∀ i : Int, -1 ≤ R (i + 1) - R i ∧ R (i + 1) - R i ≤ 1) : StP W H 5 (fun _ => k + 1) (fun j => wvL low R (5 * t + j)) := by
  refine ⟨rfl, fun i hi => ?_, fun i hi x hx => ?_⟩
  · have h0 := hR 0 (by omega) (by omega)
    show isPathB W H (k + 1) (fun j => wvL low R (5 * t + i) j.toNat) = true
    rw [isPathB_iff]
    refine ⟨⟨by omega, by omega, by omega⟩, fun x x0 x1 => ?_⟩
    rw [stepB_iff]
    have hx := hR x x0 (by omega)
    rw [wvL_at low R t i _ hi, Int.toNat_of_nonneg x0]
    refine ⟨by omega, by omega, ?_⟩
    by_cases c : x ≤ 0
    · exact .inl c
    · right
      rw [wvL_at low R t i _ hi, Int.toNat_of_nonneg (by omega : 0 ≤ x - 1)]
      have := hN (x - 1)
      rw [show x - 1 + 1 = x by omega] at this
      omega
  · show wvL low R (5 * t + i) x < wvL low R (5 * t + (i + 1)) x
    rw [wvL_at low R t i _ (by omega), wvL_at low R t (i + 1) _ hi]
    omega

set_option maxRecDepth 100000 in
set_option maxHeartbeats 8000000 in
theorem staveBack_any (wd sv up dn : Int) (A AB : Option Addr) (n c nb cb : Nat) (p pb : Int → Int) (w : World) (hA : ArrB w w.heap.size A n p) (hn : n ≤ maxLen) (hnc : n ≤ c) (hB : IsB p) (hAB : ArrB w w.heap.size AB nb pb) (hnb : nb ≤ maxLen) (hBB : IsB pb)
    (hwd : 0 ≤ wd ∧ wd ≤ 255) (hsv : 0 ≤ sv ∧ sv ≤ 255) (hup : 0 ≤ up ∧ up ≤ 255) (hdn : 0 ≤ dn ∧ dn ≤ 255) :
    Calls Try.prog 9 #[.int .u8 wd, .int .u8 sv, .slice A n c, .slice AB nb cb, .int .u8 up, .int .u8 dn] w fun e w' => e = .returned (.bool true) ∧ Below w.heap.size w w' := by
  have AW := Lib.hid fun w' => awake3_any w'
  obtain ⟨W, hW⟩ : ∃ W, 40 + wd % 120 = W := ⟨_, rfl⟩
  obtain ⟨k, hk⟩ : ∃ k : Nat, W = (k : Int) + 1 := ⟨(W - 1).toNat, by omega⟩
  obtain ⟨M, hM⟩ : ∃ M : Nat, (M : Int) = min (n : Int) 14 := ⟨min n 14, by omega⟩
  obtain ⟨low, hlow⟩ : ∃ l, minA (rsF p M) k = l := ⟨_, rfl⟩
  obtain ⟨high, hhigh⟩ : ∃ l, maxA (rsF p M) k = l := ⟨_, rfl⟩
  obtain ⟨n1, hn1⟩ : ∃ n1 : Nat, 1 + sv % 3 = ((n1 + 1 : Nat) : Int) := ⟨(sv % 3).toNat, by omega⟩
  obtain ⟨H, hH⟩ : ∃ H, H = 5 + (high - low) + ((n1 + 1 : Nat) : Int) * 24 + (((n1 + 1 : Nat) : Int) - 1) * 12 + 6 := ⟨_, rfl⟩
  have hW0 : 40 ≤ W ∧ W ≤ 159 := by omega
  have hn3 : n1 ≤ 2 := by omega
  have hM14 : M ≤ 14 := by omega
  have hR0 : ∀ x : Int, 0 ≤ x → x < W → low ≤ rsF p M x ∧ rsF p M x ≤ high := by
    intro x x0 x1
    have h2 := (minAq_le (q := rsF p M) (minA := minA) (fun _ => rfl) (fun _ _ => rfl) k).1 x x0 (by omega)
    have h3 := (maxAq_ge (q := rsF p M) (maxA := maxA) (fun _ => rfl) (fun _ _ => rfl) k).1 x x0 (by omega)
    rw [hlow] at h2
    rw [hhigh] at h3
    exact ⟨h2, h3⟩
  have hlo : -14 ≤ low ∧ low ≤ 14 := by
    obtain ⟨-, j, -, -, e⟩ := minAq_le (q := rsF p M) (minA := minA) (fun _ => rfl) (fun _ _ => rfl) k
    have := rsF_bd (p := p) M j
    rw [← hlow, e]; omega
  have hhi : low ≤ high ∧ high ≤ 14 := by
    obtain ⟨-, j, -, -, e⟩ := maxAq_ge (q := rsF p M) (maxA := maxA) (fun _ => rfl) (fun _ _ => rfl) k
    have h1 := rsF_bd (p := p) M j
    have h2 := hR0 0 (by omega) (by omega)
    rw [hhigh] at e
    omega
  have hH0 : 1 ≤ H ∧ H ≤ 640 := by omega
  have nbd := area_bd (W := W) (H := H) (by omega) (by omega) (by omega) hH0.2
  obtain ⟨N, hN⟩ : ∃ N : Nat, (N : Int) = W * H := ⟨(W * H).toNat, Int.toNat_of_nonneg nbd.1⟩
  obtain ⟨U, hU⟩ : ∃ U, up % 60 = U := ⟨_, rfl⟩
  obtain ⟨D, hD⟩ : ∃ D, dn % 60 = D := ⟨_, rfl⟩
  have hUb : 0 ≤ U ∧ U ≤ 59 := by omega
  have hDb : 0 ≤ D ∧ D ≤ 59 := by omega
  obtain ⟨h, hh⟩ : ∃ h, h = U + D + 1 := ⟨_, rfl⟩
  have nbd2 := area_bd (W := W) (H := h) (by omega) (by omega) (by omega) (by omega)
  obtain ⟨N2, hN2⟩ : ∃ N2 : Nat, (N2 : Int) = W * h := ⟨(W * h).toNat, Int.toNat_of_nonneg nbd2.1⟩
  have WV := Lib.hid fun w' hA' => wavy_any wd sv W low high H A n c k M (n1 + 1) N p w' hA' hn hnc hB hwd hsv hW hk hM hlow hhigh hn1 hH hN
  have FITS := Lib.hid (wavy_fits (t := n1) (R := rsF p M) hk hH (by omega) hW0.1 hR0 (fun i => (rsF_near (p := p) M i).1))
  obtain ⟨L, hL⟩ : ∃ L, L = wvL low (rsF p M) := ⟨_, rfl⟩
  rw [← hL] at WV FITS
  have HK := Lib.hid hk; have HU := Lib.hid hU; have HD := Lib.hid hD; have HN := Lib.hid hN; have HN2 := Lib.hid hN2; have HHH := Lib.hid hh
  have hWn : W.toNat = k + 1 := by omega
  have HWN := Lib.hid hWn
  have NB : (N : Int) ≤ 409600 := by omega
  clear hW hM hlow hhigh hn1 hH hR0 hL hU hD hh hk hWn hB hN hN2 nbd nbd2
  obtain ⟨hup1, hup2⟩ := hup
  obtain ⟨hdn1, hdn2⟩ := hdn
  go_enter Try.func9, Try.ntmps9
  go_wp2_with fail
  refine (WV.out _ hA).mono ?_
  rintro e w1 ⟨_, rfl, ⟨gp, Bs, vo, vs, rfl, hgp, hgB, kp, hS⟩, hb1⟩
  rw [HWN.out] at hS
  obtain ⟨Ao, co, eo, -, -⟩ := own_arr hS.row
  rw [List.length_map, List.length_range] at eo
  subst eo
  have zz1 := hb1.size
  have kx := Blk.new w1 24 #[.int .i64 W, .int .i64 H, .slice (some ⟨gp, 0, none⟩) N N]
  have kp2 := kp.alloc (.cells #[.int .i64 W, .int .i64 H, .slice (some ⟨gp, 0, none⟩) N N] 24)
  have S2 := hS.below ((Below.refl _ _).alloc (Nat.le_refl _) (.cells #[.int .i64 W, .int .i64 H, .slice (some ⟨gp, 0, none⟩) N N] 24))
  have b2 : Below w.heap.size w (w1.alloc (.cells #[.int .i64 W, .int .i64 H, .slice (some ⟨gp, 0, none⟩) N N] 24)) := hb1.alloc zz1 _
  have hgx : gp ≠ w1.heap.size := by have := kp.lt; omega
  clear hS kp hb1 WV hA
  go_wp2_with fail
  generalize w1.alloc (.cells #[.int .i64 W, .int .i64 H, .slice (some ⟨gp, 0, none⟩) N N] 24) = w2 at *
  generalize w1.heap.size = bx at *
  obtain ⟨q0, hq0⟩ : ∃ q0, wvQ W L (5 * (n1 + 1)) 0 = q0 := ⟨_, rfl⟩
  have hq01 : Is01 q0 := by rw [← hq0]; exact wvQ_is01
  rw [hq0] at kp2
  clear hq0
  have hxB := kx.lt
  generalize hB2 : w2.heap.size = B2 at *
  go_loopw [42] (fun s wr => ∃ i : Nat, i ≤ N ∧ s = .int .i64 i ∧ But B2 gp w2 wr ∧ ∃ q, Is01 q ∧ Blk wr gp 5 (u8s N q)) (fun s _ => N - (intOf s).toNat)
  case atStart => exact ⟨0, by omega, rfl, But.refl _ (by omega), q0, hq01, kp2⟩
  case round =>
    obtain ⟨i, hi, rfl, bu, q, hq, ap⟩ := hrel
    clear kp2 hq01
    have ax := kx.but bu hxB (fun e => hgx e.symm)
    obtain ⟨x1, x2, x3⟩ := ax.cells3
    by_cases il : (i : Int) < N
    · have i0 : (0 : Int) ≤ i := by omega
      have t1 : (i : Int).tmod 1201 = (i : Int) % 1201 := Int.tmod_eq_emod_of_nonneg i0
      have e0 : 0 ≤ (i : Int) % 1201 ∧ (i : Int) % 1201 ≤ 1200 := by omega
      obtain ⟨K, hK⟩ : ∃ K, (i : Int) % 1201 = K := ⟨_, rfl⟩
      rw [hK] at t1 e0
      have HK1 := Lib.hid hK
      obtain ⟨e1, e2⟩ := e0
      have t3 : IntKind.i64.wrap (K.tdiv 8) = K / 8 := by rw [Int.tdiv_eq_ediv_of_nonneg e1]; exact IntWalk.i64_in _ (by omega)
      have d0 : 0 ≤ K / 8 := by omega
      by_cases hb : K / 8 < nb
      · have d1 : 0 ≤ K % 8 := by omega
        have d2 : K % 8 < 8 := by omega
        have d3 : K % 8 ≤ 8 := by omega
        have t4 : K.tmod 8 = K % 8 := Int.tmod_eq_emod_of_nonneg e1
        obtain ⟨bA, off, rfl, hbA, hcell⟩ := ArrB.at_ (ArrB.below hAB (b2.trans (bu.to hB2 (show w.heap.size ≤ gp by omega) (by have := b2.size; omega)))) d0 hb
        obtain ⟨hr2, hr3⟩ := hBB (K / 8)
        generalize pb (K / 8) = r at *
        have hv : 0 ≤ r / 2 ^ (K % 8).toNat ∧ r / 2 ^ (K % 8).toNat ≤ 255 := by
          have h1 : (0 : Int) < 2 ^ (K % 8).toNat := Int.pow_pos (by omega)
          exact ⟨Int.ediv_nonneg hr2 (by omega), Int.le_trans (Int.ediv_le_self _ hr2) hr3⟩
        obtain ⟨hv1, hv2⟩ := hv
        have bv := and_one_u8 _ hv1 hv2
        obtain ⟨v, hxv, hv01⟩ := xor01 (hq (i : Int)) (bit01 hv1)
        have ho := ap.u8at i0 il
        have hf := ap.frozen i
        have UQ := Lib.hid (ap.u8set i i0 v)
        rw [Int.toNat_natCast] at ho
        have HV := Lib.hid hv01
        clear hv01
        go_wp2_with fail
        go_still_tail 16, (by kernel_rfl)
        change wpList _ _ _ _ _ wr.drew
        clear t1 t3 t4 bv hxv hK
        go_wp2
        go_roundw
        case rel => exact ⟨i + 1, by omega, by go_num, (bu.then (Below.refl B2 wr).drew).set _ _, _, upd01 hq HV.out, by simpa using UQ.out.drew⟩
        case measure => simp [intOf]; omega
      · go_wp2_with fail
        go_roundw
        case rel => exact ⟨i + 1, by omega, by go_num, bu, q, hq, ap⟩
        case measure => simp [intOf]; omega
    · obtain rfl : N = i := by omega
      have S5 := S2.but bu hB2 hgB
      have b3 : Below w.heap.size w wr := b2.trans (bu.to hB2 (show w.heap.size ≤ gp by omega) (by have := b2.size; omega))
      obtain ⟨gv, cv, csv, ev, -, hbv, hcv⟩ := own_blk (show wr.ownsRow Bs 54 1 (.slice Ao (n1 + 1) co) (n1 + 1) ((List.range (n1 + 1)).map vs) from by have := S5.row; rwa [List.length_map, List.length_range] at this) (by omega)
      obtain ⟨lv, hFv⟩ := S5.each n1 (by simp)
      obtain ⟨A5, c5, e5, -, -, LC⟩ := hFv.toLines
      have hst : (((List.range (n1 + 1)).map (5 * ·)).getD n1 0) = 5 * n1 := by simp [List.getD_eq_getElem?_getD]
      rw [hst] at LC
      have hc5 := hcv n1 (by omega)
      rw [List.getElem?_map, List.getElem?_range (by omega), Option.map_some, e5] at hc5
      injection ev with ev1 ev2 ev3
      subst ev1 ev3
      have p9 : wr.cell? ⟨gv, n1, none⟩ = some (.slice A5 5 c5) := by rw [hbv.cell]; exact hc5
      have hq2 : Is01 q := hq
      have HST := FITS.out
      clear hcv hFv e5 hc5 S5 S2 hst FITS hbv ev2
      have k9 := (Blk.new wr 54 #[.slice A5 5 c5])
      have bn : Below wr.heap.size wr (wr.alloc (.cells #[.slice A5 5 c5] 54)) := (Below.refl _ _).alloc (Nat.le_refl _) _
      replace LC := LC.below bn
      have K0 : Kp (wr.alloc (.cells #[.slice A5 5 c5] 54)) [(wr.heap.size, 54, #[.slice A5 5 c5]), (bx, 24, #[.int .i64 W, .int .i64 H, .slice (some ⟨gp, 0, none⟩) N N])] [(some ⟨gp, 0, none⟩, N, q)] :=
        (((Kp.nil _).addA ((ap.alloc _).arrB (ap.alloc _).lt)).addB (ax.alloc _)).addB k9
      have b5 := b3.alloc b3.size (.cells #[.slice A5 5 c5] 54)
      clear ap ax k9 bn b3 x1 x2 x3 bu
      go_upto_region 10 with fail
      generalize wr.alloc (.cells #[.slice A5 5 c5] 54) = w6 at *
      generalize wr.heap.size = sx at *
      go_cut [18, 19] (fun a b wx => a = .int .i64 U ∧ b = .int .i64 D ∧ wx = w6)
      case first =>
        go_wp2_with fail
        go_meet
        exact ⟨by rw [← HU.out], by rw [← HD.out], rfl⟩
      case rest =>
      obtain ⟨rfl, rfl, hwc⟩ := hcut
      obtain rfl : w6 = wc := hwc.symm
      clear hwc p9 kx hxB
      obtain ⟨LL, hLL⟩ : ∃ LL : Nat → Nat → Int, LL = fun j => L (5 * n1 + j) := ⟨_, rfl⟩
      rw [← hLL] at LC HST
      clear hLL
      have hNm : N ≤ maxLen := by unfold maxLen; omega
      have hhb : 1 ≤ h ∧ h ≤ 640 := by have := HHH.out; omega
      have nbh := (area_bd (W := W) (H := h) (by omega) (by omega) (by omega) hhb.2).2
      have hN2b : (N2 : Int) ≤ 409600 := by have := HN2.out; omega
      have hN2m : N2 ≤ maxLen := by unfold maxLen; omega
      have hmm : ∀ j, j < 5 → (fun _ => k + 1) j ≤ maxLen := fun j _ => by show k + 1 ≤ maxLen; have := HK.out; unfold maxLen; omega
      have ckg : ∀ f : Int → Int, Is01 f → chk W H N f = 0 := fun f hf => chk_01 (by omega) (by omega) (by omega) hH0.2 HN.out fun i _ _ => is01_le hf i
      have cks : ∀ f : Int → Int, Is01 f → chk W h N2 f = 0 := fun f hf => chk_01 (by omega) (by omega) (by omega) hhb.2 HN2.out fun i _ _ => is01_le hf i
      have hrec : ∀ f : Int → Int, Is01 f → recE W H N f 5 (fun _ => k + 1) LL U D = 0 := fun f hf => recE_mk (stChk_mk (ckg f hf) HST) hUb.1 hDb.1 (by have := HHH.out; omega)
      have hres : ∀ f g : Int → Int, Is01 f → Is01 g → resE W H N f W h N2 g 5 (fun _ => k + 1) LL U = 0 := fun f g hf hg => resE_mk (ckg f hf) (cks g hg) HST hUb.1 (by have := HHH.out; omega)
      have sz1 : RSize 0 W H W H N := ⟨fun _ => ⟨rfl, rfl, HN.out⟩, fun h => absurd rfl h⟩
      have sz2 : RSize 0 W (U + D + 1) W h N2 := ⟨fun _ => ⟨rfl, HHH.out, by rw [← HHH.out]; exact HN2.out⟩, fun h => absurd rfl h⟩
      have sz3 : RSize 0 W h W h N2 := ⟨fun _ => ⟨rfl, rfl, HN2.out⟩, fun h => absurd rfl h⟩
      obtain ⟨Q1, hQ1⟩ : ∃ Q, Q = recQ W H q (LL 4) U := ⟨_, rfl⟩
      obtain ⟨Q2, hQ2⟩ : ∃ Q, Q = resQ W H h q Q1 (LL 4) U := ⟨_, rfl⟩
      obtain ⟨Q3, hQ3⟩ : ∃ Q : Int → Int, Q = fun i => 1 - Q1 i := ⟨_, rfl⟩
      obtain ⟨Q4, hQ4⟩ : ∃ Q, Q = resQ W H h q Q3 (LL 4) U := ⟨_, rfl⟩
      obtain ⟨Q5, hQ5⟩ : ∃ Q, Q = recQ W H Q4 (LL 4) U := ⟨_, rfl⟩
      have h1 : Is01 Q1 := by rw [hQ1]; exact recQ_01 hq2
      have h3 : Is01 Q3 := by rw [hQ3]; exact not_01 h1
      have h4 : Is01 Q4 := by rw [hQ4]; exact resQ_01 hq2 h3
      have BH : Hid (∀ i : Int, 0 ≤ i → i < N → Q2 i = q i) := by
        show ∀ _, _
        intro i i0 i1
        rw [hQ2, hQ1]; exact back_home (by omega) i0 (by have := HN.out; omega)
      have BK : Hid (∀ x y : Int, 0 ≤ x → x < W → 0 ≤ y → y < h → Q5 (y * W + x) = if 0 ≤ LL 4 x.toNat - U + y ∧ LL 4 x.toNat - U + y < H then 1 - q ((LL 4 x.toNat - U + y) * W + x) else 0) := by
        show ∀ _, _
        intro x y x0 x1 y0 y1
        rw [hQ5, hQ4, hQ3, hQ1]; exact back_strip x0 x1 y0 y1
      have D1 := Lib.hid fun w' h' hl => rectify_all W H (some ⟨gp, 0, none⟩) A5 N N 5 c5 q (fun _ => k + 1) LL U D 0 W h N2 w' h' hNm (is01_B hq2) hl hmm (hrec q hq2) sz2
      have D2 := Lib.hid fun As cs w' h' hs hl => restore_all W H W h (some ⟨gp, 0, none⟩) As A5 N N N2 cs 5 c5 q Q1 (fun _ => k + 1) LL U 0 W H N w' h' (by omega) hs hN2m hl hmm (hres q Q1 hq2 h1) sz1
      have D3 := Lib.hid fun As cs w' h' => not_all W h As N2 cs Q1 0 W h N2 w' h' hN2m (is01_B h1) (cks Q1 h1) sz3
      have D4 := Lib.hid fun As cs w' h' hs hl => restore_all W H W h (some ⟨gp, 0, none⟩) As A5 N N N2 cs 5 c5 q Q3 (fun _ => k + 1) LL U 0 W H N w' h' (by omega) hs hN2m hl hmm (hres q Q3 hq2 h3) sz1
      have D5 := Lib.hid fun As cs w' h' hl => rectify_all W H As A5 N cs 5 c5 Q4 (fun _ => k + 1) LL U D 0 W h N2 w' h' hNm (is01_B h4) hl hmm (hrec Q4 h4) sz2
      rw [← hQ1] at D1
      rw [← hQ2] at D2
      rw [← hQ3] at D3
      rw [← hQ4] at D4
      rw [← hQ5] at D5
      have hne : (h != U + D + 1) = false := by have := HHH.out; simp [this]
      have hUV := hUb.1; have hUV2 := hUb.2; have hDV := hDb.1; have hDV2 := hDb.2
      have PT := Lib.hid ((isPathB_iff.1 (HST.2.1 4 (by omega))).2)
      clear hQ1 hQ2 hQ3 hQ4 hQ5 hrec hres ckg cks sz1 sz2 sz3 hmm HST
      obtain ⟨p1, p2, p3⟩ := (K0.b 1 rfl).cells3
      have u1 := (K0.b 0 rfl).cells0
      go_wp2_with fail
      refine (D1.out _ (K0.a 0 rfl) LC).mono ?_
      rintro e v6 ⟨_, rfl, ⟨Astrip, cstrip, rfl, hgstrip, astrip⟩, hb6⟩
      have K6a := (K0.below hb6).addA astrip
      have b6a := below_call b5 b5.size hb6
      have z6 := b6a.size
      have b6 : Below w.heap.size w (v6.alloc (.cells #[.int .i64 W, .int .i64 h, .slice Astrip N2 cstrip] 24)) := by (repeat (first | exact Below.refl _ _ | assumption | refine Below.drew ?_ | refine below_drewN ?_ _ | refine Below.alloc ?_ (by first | omega | (simp; done) | (simp; omega)) _ | refine Below.setCell ?_ (by first | omega | (simp; done) | (simp; omega)) _ | refine below_setRow ?_ (by first | omega | (simp; done) | (simp; omega)) _ ))
      have K6 := K6a.new 24 #[.int .i64 W, .int .i64 h, .slice Astrip N2 cstrip]
      replace LC := (LC.below hb6).below ((Below.refl _ _).alloc (Nat.le_refl _) (.cells #[.int .i64 W, .int .i64 h, .slice Astrip N2 cstrip] 24))
      clear K0 b5 K6a b6a hb6 astrip hgstrip p1 p2 p3 u1 z6 D1
      obtain ⟨p1, p2, p3⟩ := (K6.b 2 rfl).cells3
      obtain ⟨r1, r2, r3⟩ := (K6.b 0 rfl).cells3
      have u1 := (K6.b 1 rfl).cells0
      go_wp2_with fail
      generalize v6.alloc (.cells #[.int .i64 W, .int .i64 h, .slice Astrip N2 cstrip] 24) = w6 at *
      refine (D2.out _ _ _ (K6.a 1 rfl) (K6.a 0 rfl) LC).mono ?_
      rintro e v7 ⟨_, rfl, ⟨Ahome, chome, rfl, hghome, ahome⟩, hb7⟩
      have K7a := (K6.below hb7).addA ahome
      have b7a := below_call b6 b6.size hb7
      have z7 := b7a.size
      have b7 : Below w.heap.size w (v7.alloc (.cells #[.int .i64 W, .int .i64 H, .slice Ahome N chome] 24)) := by (repeat (first | exact Below.refl _ _ | assumption | refine Below.drew ?_ | refine below_drewN ?_ _ | refine Below.alloc ?_ (by first | omega | (simp; done) | (simp; omega)) _ | refine Below.setCell ?_ (by first | omega | (simp; done) | (simp; omega)) _ | refine below_setRow ?_ (by first | omega | (simp; done) | (simp; omega)) _ ))
      have K7 := K7a.new 24 #[.int .i64 W, .int .i64 H, .slice Ahome N chome]
      replace LC := (LC.below hb7).below ((Below.refl _ _).alloc (Nat.le_refl _) (.cells #[.int .i64 W, .int .i64 H, .slice Ahome N chome] 24))
      clear K6 b6 K7a b7a hb7 ahome hghome p1 p2 p3 r1 r2 r3 u1 z7 D2
      obtain ⟨p1, p2, p3⟩ := (K7.b 1 rfl).cells3
      obtain ⟨r1, r2, r3⟩ := (K7.b 3 rfl).cells3
      obtain ⟨s1, s2, s3⟩ := (K7.b 0 rfl).cells3
      go_wp2_with fail
      generalize v7.alloc (.cells #[.int .i64 W, .int .i64 H, .slice Ahome N chome] 24) = w7 at *
      refine (sameInk_true W H Ahome (some ⟨gp, 0, none⟩) N chome N _ q _ (K7.a 0 rfl) (K7.a 2 rfl) hNm BH.out).mono ?_
      rintro e v8 ⟨rfl, hb8⟩
      replace LC := LC.below hb8
      have K8 := K7.below hb8
      have b8 := below_call b7 b7.size hb8
      clear K7 b7 hb8 p1 p2 p3 r1 r2 r3 s1 s2 s3 
      obtain ⟨p1, p2, p3⟩ := (K8.b 1 rfl).cells3
      go_wp2_with fail
      refine (D3.out _ _ _ (K8.a 1 rfl)).mono ?_
      rintro e v9 ⟨_, rfl, ⟨Anot, cnot, rfl, hgnot, anot⟩, hb9⟩
      have K9a := (K8.below hb9).addA anot
      have b9a := below_call b8 b8.size hb9
      have z9 := b9a.size
      have b9 : Below w.heap.size w (v9.alloc (.cells #[.int .i64 W, .int .i64 h, .slice Anot N2 cnot] 24)) := by (repeat (first | exact Below.refl _ _ | assumption | refine Below.drew ?_ | refine below_drewN ?_ _ | refine Below.alloc ?_ (by first | omega | (simp; done) | (simp; omega)) _ | refine Below.setCell ?_ (by first | omega | (simp; done) | (simp; omega)) _ | refine below_setRow ?_ (by first | omega | (simp; done) | (simp; omega)) _ ))
      have K9 := K9a.new 24 #[.int .i64 W, .int .i64 h, .slice Anot N2 cnot]
      replace LC := (LC.below hb9).below ((Below.refl _ _).alloc (Nat.le_refl _) (.cells #[.int .i64 W, .int .i64 h, .slice Anot N2 cnot] 24))
      clear K8 b8 K9a b9a hb9 anot hgnot p1 p2 p3 z9 D3
      obtain ⟨p1, p2, p3⟩ := (K9.b 4 rfl).cells3
      obtain ⟨r1, r2, r3⟩ := (K9.b 0 rfl).cells3
      have u1 := (K9.b 3 rfl).cells0
      go_wp2_with fail
      generalize v9.alloc (.cells #[.int .i64 W, .int .i64 h, .slice Anot N2 cnot] 24) = w9 at *
      refine (D4.out _ _ _ (K9.a 3 rfl) (K9.a 0 rfl) LC).mono ?_
      rintro e v10 ⟨_, rfl, ⟨Aother, cother, rfl, hgother, aother⟩, hb10⟩
      have K10a := (K9.below hb10).addA aother
      have b10a := below_call b9 b9.size hb10
      have z10 := b10a.size
      have b10 : Below w.heap.size w (v10.alloc (.cells #[.int .i64 W, .int .i64 H, .slice Aother N cother] 24)) := by (repeat (first | exact Below.refl _ _ | assumption | refine Below.drew ?_ | refine below_drewN ?_ _ | refine Below.alloc ?_ (by first | omega | (simp; done) | (simp; omega)) _ | refine Below.setCell ?_ (by first | omega | (simp; done) | (simp; omega)) _ | refine below_setRow ?_ (by first | omega | (simp; done) | (simp; omega)) _ ))
      have K10 := K10a.new 24 #[.int .i64 W, .int .i64 H, .slice Aother N cother]
      replace LC := (LC.below hb10).below ((Below.refl _ _).alloc (Nat.le_refl _) (.cells #[.int .i64 W, .int .i64 H, .slice Aother N cother] 24))
      clear K9 b9 K10a b10a hb10 aother hgother p1 p2 p3 r1 r2 r3 u1 z10 D4
      obtain ⟨p1, p2, p3⟩ := (K10.b 0 rfl).cells3
      have u1 := (K10.b 4 rfl).cells0
      go_wp2_with fail
      generalize v10.alloc (.cells #[.int .i64 W, .int .i64 H, .slice Aother N cother] 24) = w10 at *
      refine (D5.out _ _ _ (K10.a 0 rfl) LC).mono ?_
      rintro e v11 ⟨_, rfl, ⟨Aback, cback, rfl, hgback, aback⟩, hb11⟩
      have K11a := (K10.below hb11).addA aback
      have b11a := below_call b10 b10.size hb11
      have z11 := b11a.size
      have b11 : Below w.heap.size w (v11.alloc (.cells #[.int .i64 W, .int .i64 h, .slice Aback N2 cback] 24)) := by (repeat (first | exact Below.refl _ _ | assumption | refine Below.drew ?_ | refine below_drewN ?_ _ | refine Below.alloc ?_ (by first | omega | (simp; done) | (simp; omega)) _ | refine Below.setCell ?_ (by first | omega | (simp; done) | (simp; omega)) _ | refine below_setRow ?_ (by first | omega | (simp; done) | (simp; omega)) _ ))
      have K11 := K11a.new 24 #[.int .i64 W, .int .i64 h, .slice Aback N2 cback]
      replace LC := (LC.below hb11).below ((Below.refl _ _).alloc (Nat.le_refl _) (.cells #[.int .i64 W, .int .i64 h, .slice Aback N2 cback] 24))
      clear K10 b10 K11a b11a hb11 aback hgback p1 p2 p3 u1 z11 D5
      obtain ⟨p1, p2, p3⟩ := (K11.b 4 rfl).cells3
      obtain ⟨r1, r2, r3⟩ := (K11.b 6 rfl).cells3
      obtain ⟨s1, s2, s3⟩ := (K11.b 0 rfl).cells3
      have u1 := (K11.b 5 rfl).cells0
      go_wp2_with fail
      generalize v11.alloc (.cells #[.int .i64 W, .int .i64 h, .slice Aback N2 cback] 24) = w11 at *
      have AKb := Lib.hid (K11.a 0 rfl)
      have AKg := Lib.hid (K11.a 5 rfl)
      obtain ⟨bA, oA, A4, c4, rfl, hbA, hcA, haA⟩ := LC.at_ (i := 4) (by omega)
      obtain ⟨b5', o5, rfl, hb5', hcl⟩ := ArrI.fn haA (by show 0 < k + 1; omega)
      have HCL := Lib.hid hcl
      clear hcl LC K11
      go_loop [158] (fun s => ∃ y : Nat, (y : Int) ≤ h ∧ s = .int .i64 y) (fun s => (h - intOf s).toNat)
      case atStart => exact ⟨0, by omega, rfl⟩
      case round =>
        obtain ⟨y, hy, rfl⟩ := hrel
        by_cases yl : (y : Int) < h
        · go_wp2_with fail
          go_loop [163] (fun s => ∃ x : Nat, (x : Int) ≤ W ∧ s = .int .i64 x) (fun s => (W - intOf s).toNat)
          case atStart => exact ⟨0, by omega, rfl⟩
          case round =>
            obtain ⟨x, hx, rfl⟩ := hrel
            by_cases xl : (x : Int) < W
            · have xk : (x : Int) < ((k + 1 : Nat) : Int) := by have := HK.out; omega
              have xk2 : (x : Int) < (k : Int) + 1 := by have := HK.out; omega
              have lx := HCL.out x (by omega) xk
              rw [Int.toNat_natCast] at lx
              obtain ⟨pb1, pb2, -⟩ := stepB_iff.1 (PT.out x (by omega) xk)
              rw [Int.toNat_natCast] at pb1 pb2
              have BX := BK.out x y (by omega) xl (by omega) yl
              rw [Int.toNat_natCast] at BX
              generalize LL 4 x = l at *
              obtain ⟨j1, j2, j3⟩ := idx_lt (x := (x : Int)) (y := (y : Int)) (W := W) (H := h) (by omega) xl (by omega) yl
              rw [Int.mul_comm h W] at j2
              have j4 : (y : Int) * W + x < (N2 : Int) := by have := HN2.out; omega
              obtain ⟨bb, ob, rfl, hbb, hcb⟩ := ArrB.at_ AKb.out j1 j4
              by_cases hin : 0 ≤ l - U + (y : Int) ∧ l - U + (y : Int) < H
              · rw [if_pos hin] at BX
                obtain ⟨hi1, hi2⟩ := hin
                have d1 : decide (0 ≤ l - U + (y : Int)) = true := decide_eq_true hi1
                have d2 : decide (l - U + (y : Int) < H) = true := decide_eq_true hi2
                obtain ⟨i1, i2, i3⟩ := idx_lt (x := (x : Int)) (y := l - U + (y : Int)) (W := W) (H := H) (by omega) xl hi1 hi2
                rw [Int.mul_comm H W] at i2
                have i4 : (l - U + (y : Int)) * W + x < (N : Int) := by have := HN.out; omega
                obtain ⟨bg, og, eg, hbg, hcg⟩ := ArrB.at_ AKg.out i1 i4
                injection eg with eg
                injection eg with eg1 eg2
                subst eg1 eg2
                rw [Nat.zero_add] at hcg
                rw [BX] at hcb
                have hv := hq2 ((l - U + (y : Int)) * W + x)
                generalize q ((l - U + (y : Int)) * W + x) = v at *
                have hw : IntKind.u8.wrap (1 - v) = 1 - v := by rcases hv with rfl | rfl <;> rfl
                have HV := Lib.hid hv
                clear hv BX
                go_wp2_with fail
                go_round
                case rel => exact ⟨x + 1, by omega, by go_num⟩
                case measure => simp [intOf]; omega
              · rw [if_neg hin] at BX
                rw [BX] at hcb
                clear BX
                by_cases h0 : 0 ≤ l - U + (y : Int)
                · have hh2 : ¬ l - U + (y : Int) < H := fun h3 => hin ⟨h0, h3⟩
                  have d1 : decide (0 ≤ l - U + (y : Int)) = true := decide_eq_true h0
                  have d2 : decide (l - U + (y : Int) < H) = false := decide_eq_false hh2
                  clear hin
                  go_wp2_with fail
                  go_round
                  case rel => exact ⟨x + 1, by omega, by go_num⟩
                  case measure => simp [intOf]; omega
                · have d1 : decide (0 ≤ l - U + (y : Int)) = false := decide_eq_false h0
                  clear hin
                  go_wp2_with fail
                  go_round
                  case rel => exact ⟨x + 1, by omega, by go_num⟩
                  case measure => simp [intOf]; omega
            · go_wp2_with fail
              go_round
              case rel => exact ⟨y + 1, by omega, by go_num⟩
              case measure => simp [intOf]; omega
        · go_wp2_with fail
          refine (AW.out _).mono ?_
          rintro e w20 ⟨rfl, hb20⟩
          have b20 := below_call b11 b11.size hb20
          go_wp2
          go_ret
          exact ⟨rfl, b20⟩
end Go.Proofs.Ytdimlpcbbkokiaa
