/- Walk: groups of lines (StaveGroups). -/
import Derived.Test.YtdimlpcbbkokiaaT33
import Derived.Test.YtdimlpcbbkokiaaT28
import Derived.Test.YtdimlpcbbkokiaaOpen2
namespace Go.Proofs.Ytdimlpcbbkokiaa
open Go.RowKit Go.Shelf
set_option linter.unusedVariables false
attribute [local go_sem] Oper.semAt_some

/-- the blocks from B up to E are as they were -/
def KeepIn (B E : Nat) (w w' : World) : Prop := ∀ k, B ≤ k → k < E → w'.heap[k]? = w.heap[k]?
section
variable {B E : Nat} {w w' w'' : World}
theorem KeepIn.refl (B E : Nat) (w : World) : KeepIn B E w w := fun _ _ _ => rfl
theorem KeepIn.drew (h : KeepIn B E w w') : KeepIn B E w w'.drew := h
theorem KeepIn.set {p : Addr} {u : Value} (hg : p.block < B ∨ E ≤ p.block) (h : KeepIn B E w w') : KeepIn B E w (w'.setCell p u) := fun k h1 h2 => (heap_setCell_other w' p k u (by omega)).trans (h k h1 h2)
theorem KeepIn.alloc {o : Obj} (hE : E ≤ w'.heap.size) (h : KeepIn B E w w') : KeepIn B E w (w'.alloc o) := fun k h1 h2 => (Below.heap_alloc w' o k (by omega)).trans (h k h1 h2)
theorem KeepIn.call (hb : Below w'.heap.size w' w'') (hE : E ≤ w'.heap.size) (h : KeepIn B E w w') : KeepIn B E w w'' := fun k h1 h2 => (hb.block k (by omega)).trans (h k h1 h2)
theorem KeepIn.found {m : Nat → Nat} {ln : Nat → Nat → Int} {k : Nat} {vo : Value} {v : Nat → Value} (h : FoundM B w m ln k vo v) (hk : KeepIn B w.heap.size w w') : FoundM B w' m ln k vo v :=
  ⟨own_move h.row fun j hj => hk j (own_ge h.row hj).1 (own_ge h.row hj).2, fun i hi => own_move (h.lines i hi) fun j hj => hk j (own_ge (h.lines i hi) hj).1 (own_ge (h.lines i hi) hj).2⟩
theorem KeepIn.arr {A : Option Addr} {n : Nat} {q : Int → Int} (h : ArrB w w.heap.size A n q) (hA : ∀ a, A = some a → B ≤ a.block) (hk : KeepIn B w.heap.size w w') (hs : w.heap.size ≤ w'.heap.size) : ArrB w' w'.heap.size A n q := fun hn => by
  obtain ⟨b, off, rfl, hb, hc⟩ := h hn
  refine ⟨b, off, rfl, Nat.lt_of_lt_of_le hb hs, fun i i0 i1 => (World.cell?_of_block (hk b (hA _ rfl) hb)).trans (hc i i0 i1)⟩
end
theorem Blk.fill1 {w : World} {g t : Nat} {x a : Value} (h : Blk w g t #[x]) : Blk (w.setCell ⟨g, 0, none⟩ a) g t #[a] := h.set_ 0 a
theorem LinesOf {B : Nat} {w : World} {m : Nat → Nat} {ln : Nat → Nat → Int} {k c : Nat} {A : Option Addr} {v : Nat → Value} (h : FoundM B w m ln k (.slice A k c) v) : Lines w w.heap.size A k m ln := by
  obtain ⟨A', c', e, -, -, hL⟩ := h.toLines
  cases e
  exact hL
theorem Blk.far1' {w : World} {g t k o : Nat} {a : Value} {cs : Array Value} (hk : k ≠ g) (h : Blk w k t cs) : Blk (w.setCell ⟨g, o, none⟩ a) k t cs := h.far (p := ⟨g, o, none⟩) hk a
/-- only blocks of numbers may have changed -/
def IntOnly (w5 wr : World) : Prop := w5.heap.size ≤ wr.heap.size ∧ ∀ k, k < w5.heap.size → (∃ cs cs', Blk w5 k 3 cs ∧ Blk wr k 3 cs' ∧ cs'.size = cs.size) ∨ wr.heap[k]? = w5.heap[k]?
section
variable {w5 wr : World}
theorem IntOnly.refl (w : World) : IntOnly w w := ⟨Nat.le_refl _, fun _ _ => .inr rfl⟩
theorem IntOnly.alloc (h : IntOnly w5 wr) (o : Obj) : IntOnly w5 (wr.alloc o) := by
  refine ⟨by have := h.1; simp; omega, fun k hk => ?_⟩
  have hk2 : k < wr.heap.size := Nat.lt_of_lt_of_le hk h.1
  rw [Below.heap_alloc wr o k hk2]
  rcases h.2 k hk with ⟨cs, cs', h1, h2, h3⟩ | h1
  · exact .inl ⟨cs, cs', h1, h2.alloc _, h3⟩
  · exact .inr h1
theorem IntOnly.set (h : IntOnly w5 wr) {g : Nat} {cs : Array Value} (hb : Blk wr g 3 cs) (o : Nat) (u : Value) : IntOnly w5 (wr.setCell ⟨g, o, none⟩ u) := by
  refine ⟨by have := h.1; simpa using this, fun k hk => ?_⟩
  by_cases e : k = g
  · subst e
    rcases h.2 k hk with ⟨c1, c2, h1, h2, h3⟩ | h1
    · exact .inl ⟨c1, c2.setIfInBounds o u, h1, h2.set_ o u, by simp [h3]⟩
    · exact .inl ⟨cs, cs.setIfInBounds o u, hb.move h1.symm, hb.set_ o u, by simp⟩
  · rcases h.2 k hk with ⟨c1, c2, h1, h2, h3⟩ | h1
    · exact .inl ⟨c1, c2, h1, h2.far (p := ⟨g, o, none⟩) e u, h3⟩
    · exact .inr ((heap_setCell_other wr ⟨g, o, none⟩ k u e).trans h1)
theorem IntOnly.cell (h : IntOnly w5 wr) {b t : Nat} {cs : Array Value} (hb : Blk w5 b t cs) (ht : t ≠ 3) : Blk wr b t cs := by
  rcases h.2 b hb.lt with ⟨c1, c2, h1, -, -⟩ | h1
  · have h2 : w5.heap[b]? = _ := hb
    have h3 : w5.heap[b]? = _ := h1
    rw [h2] at h3
    exact absurd (congrArg (fun o : Option Obj => match o with | some (.cells _ t _) => t | _ => 0) h3) ht
  · exact hb.move h1
theorem IntOnly.int (h : IntOnly w5 wr) {b : Nat} {cs : Array Value} (hb : Blk w5 b 3 cs) : ∃ cs', Blk wr b 3 cs' ∧ cs'.size = cs.size := by
  rcases h.2 b hb.lt with ⟨c1, c2, h1, h2, h3⟩ | h1
  · have e : w5.heap[b]? = _ := hb
    have e2 : w5.heap[b]? = _ := h1
    rw [e] at e2
    have : cs = c1 := by cases e2; rfl
    subst this
    exact ⟨c2, h2, h3⟩
  · exact ⟨cs, hb.move h1, rfl⟩
end
/-- an owned row, as a block -/
theorem own_blk {w : World} {B n : Nat} {e : TypeId} {v : Value} {xs : List Value} (h : w.ownsRow B e 1 v n xs) (hn : 0 < n) : ∃ g c cs, v = .slice (some ⟨g, 0, none⟩) n c ∧ B ≤ g ∧ Blk w g e cs ∧ ∀ t, t < n → cs[t]? = xs[t]? := by
  rcases h.2 with ⟨-, h2⟩ | ⟨g, cap, cur, hv, hb, hh, hc, _, hs, ht⟩
  · omega
  · refine ⟨g, cap, cur, hv, hb, hh, fun t ht2 => ?_⟩
    rw [← ht, List.getElem?_take, if_pos (by omega)]
    simp
/-- what is written to in a row of staves -/
theorem StOut.places {B : Nat} {w : World} {m : Nat → Nat} {ln : Nat → Nat → Int} {st : List Nat} {vo : Value} {vs : Nat → Value} (h : StOut B w m ln st vo vs) (hp : ∀ t, t ∈ st → ∀ j, j < 5 → 0 < m (t + j)) {t : Nat} (ht : t < st.length) :
    ∃ b c cs b5 c5 cs5, vo = .slice (some ⟨b, 0, none⟩) st.length c ∧ Blk w b 54 cs ∧ cs[t]? = some (.slice (some ⟨b5, 0, none⟩) 5 c5) ∧ Blk w b5 25 cs5 ∧
      ∀ j, j < 5 → ∃ g n cg cj, cs5[j]? = some (.slice (some ⟨g, 0, none⟩) n cg) ∧ 0 < n ∧ B ≤ g ∧ Blk w g 3 cj ∧ 0 < cj.size := by
  obtain ⟨b, c, cs, rfl, -, hb, hcs⟩ := own_blk h.row (by omega)
  obtain ⟨v, hv⟩ := h.each t ht
  obtain ⟨b5, c5, cs5, e5, -, hb5, hcs5⟩ := own_blk hv.row (by omega)
  refine ⟨b, c, cs, b5, c5, cs5, rfl, hb, ?_, hb5, fun j hj => ?_⟩
  · rw [hcs t ht, List.getElem?_map, List.getElem?_range ht, ← e5]; rfl
  · have hm : 0 < m (st.getD t 0 + j) := by
      rw [List.getD_eq_getElem?_getD, List.getElem?_eq_getElem ht]
      exact hp _ (List.getElem_mem ht) j hj
    obtain ⟨g, cg, cj, eg, hg, hbg, hcj⟩ := own_blk (hv.lines j hj) hm
    refine ⟨g, _, cg, cj, ?_, hm, hg, hbg, ?_⟩
    · rw [hcs5 j hj, List.getElem?_map, List.getElem?_range hj, ← eg]; rfl
    · have := hcj 0 hm
      rw [List.getElem?_map, List.getElem?_range hm] at this
      exact (Array.getElem?_eq_some_iff.1 this).1
theorem eB_pos {m : Nat → Nat} {ln : Nat → Nat → Int} {i : Nat} (h : eB m ln i = true) (j : Nat) (hj : j < 5) : 0 < m (i + j) := by
  unfold eB evenB at h
  rw [Bool.and_eq_true] at h
  have := of_decide_eq_true (List.all_eq_true.1 h.1 j (List.mem_range.2 hj))
  exact this.1

set_option maxRecDepth 100000 in
set_option maxHeartbeats 4000000 in
theorem staveGroups_any (A AI AS : Option Addr) (K c N cI KS cS : Nat) (W H : Int) (m mS : Nat → Nat) (ln lnS : Nat → Nat → Int) (p : Int → Int) (w : World) (hL : LinesIn w A K c m ln) (hA : ArrB w w.heap.size AI N p) (hN : N ≤ maxLen) (hc : AI = none → cI = 0) (hB : IsB p) (hS : LinesIn w AS KS cS mS lnS) :
    Calls Try.prog 6 #[.slice A K c, .agg #[.int .i64 W, .int .i64 H, .slice AI N cI], .agg #[.slice AS KS cS]] w fun e w' => e = .returned (.bool true) ∧ Below w.heap.size w w' := by
  have AW := Lib.hid fun w' => awake3_any w'
  have FW := Lib.hid fun w' => few_any W H AI N cI w'
  obtain ⟨vs, h1, h2⟩ := hL.lines
  have kc := hL.le
  have k44 := hL.outer
  have ks44 := hS.outer
  have ksc := hS.le
  have one : ∀ t, t < K → ∃ B m' d, vs t = .slice B m' d := fun t ht => by obtain ⟨A', c', e, -, -⟩ := h2 t ht; exact ⟨_, _, _, e⟩
  obtain ⟨e1, he1⟩ : ∃ e1, decide (0 ≤ idxF (fun t => decide ((60 : Int) < m t.toNat)) K) = e1 := ⟨_, rfl⟩
  obtain ⟨e2, he2⟩ : ∃ e2, decide (0 ≤ idxF (fun t => decide (0 ≤ idxF (fun j => far40 (ln t.toNat j.toNat)) (m t.toNat))) K) = e2 := ⟨_, rfl⟩
  have C1 := Lib.hid fun w' (hb : Below w.heap.size w w') => containsL 31 #[] (fun t => decide ((60 : Int) < m t.toNat)) vs w' enterLong A K c ((Arr.below h1 hb).more hb.size) (by unfold maxLen; omega) one
    (fun t ht => by
      obtain ⟨A', c', e, -, -⟩ := h2 t ht
      show Calls _ _ #[_] _ _
      rw [e]
      exact long_any A' (m t) c' w' (by have := hL.lens t ht; unfold maxLen; omega))
  have C2 := Lib.hid fun w' (hb : Below w.heap.size w w') => containsL 32 #[] (fun t => decide (0 ≤ idxF (fun j => far40 (ln t.toNat j.toNat)) (m t.toNat))) vs w' enterHuge A K c ((Arr.below h1 hb).more hb.size) (by unfold maxLen; omega) one
    (fun t ht => by
      obtain ⟨A', c', e, -, ha⟩ := h2 t ht
      show Calls _ _ #[_] _ _
      rw [e]
      exact huge_any A' (m t) c' (fun j => ln t j.toNat) w' (ha.to hb) (by have := hL.lens t ht; unfold maxLen; omega))
  rw [he1] at C1
  rw [he2] at C2
  have HE1 := Lib.hid he1; have HE2 := Lib.hid he2
  clear he1 he2 one h1 h2
  have b1 : Below w.heap.size w ((w.alloc (.cells #[.int .i64 W, .int .i64 H, .slice AI N cI] 24)).alloc (.cells #[.slice AS KS cS] 54)) := by (repeat (first | exact Below.refl _ _ | assumption | refine Below.drew ?_ | refine below_drewN ?_ _ | refine Below.alloc ?_ (by first | omega | (simp; done) | (simp; omega)) _ | refine Below.setCell ?_ (by first | omega | (simp; done) | (simp; omega)) _ | refine below_setRow ?_ (by first | omega | (simp; done) | (simp; omega)) _ ))
  have k1 : Blk ((w.alloc (.cells #[.int .i64 W, .int .i64 H, .slice AI N cI] 24)).alloc (.cells #[.slice AS KS cS] 54)) w.heap.size 24 #[.int .i64 W, .int .i64 H, .slice AI N cI] := (Blk.new _ _ _).alloc _
  have k2 : Blk ((w.alloc (.cells #[.int .i64 W, .int .i64 H, .slice AI N cI] 24)).alloc (.cells #[.slice AS KS cS] 54)) (w.heap.size + 1) 54 #[.slice AS KS cS] := Blk.new' (by simp) _ _
  have p4 := k2.cells0
  obtain ⟨p1, p2, p3⟩ := k1.cells3
  by_cases hK : (40 : Int) < K
  · clear C1 C2 FW
    go_enter Try.func6, Try.ntmps6
    go_wp2_with fail
    generalize (w.alloc (.cells #[.int .i64 W, .int .i64 H, .slice AI N cI] 24)).alloc (.cells #[.slice AS KS cS] 54) = w1 at *
    refine (AW.out _).mono ?_
    rintro e w9 ⟨rfl, hb9⟩
    have b9 := below_call b1 b1.size hb9
    go_wp2
    go_ret
    exact ⟨rfl, b9⟩
  · cases e1 with
    | true =>
      clear C2 FW
      go_enter Try.func6, Try.ntmps6
      go_wp2_with fail
      generalize (w.alloc (.cells #[.int .i64 W, .int .i64 H, .slice AI N cI] 24)).alloc (.cells #[.slice AS KS cS] 54) = w1 at *
      refine (C1.out _ b1).mono ?_
      rintro e w2 ⟨rfl, rfl⟩
      go_wp2_with fail
      refine (AW.out _).mono ?_
      rintro e w9 ⟨rfl, hb9⟩
      have b9 := below_call b1 b1.size hb9
      go_wp2
      go_ret
      exact ⟨rfl, b9⟩
    | false =>
      by_cases hf : (N : Int) ≤ 6000
      · rw [decide_eq_true hf] at FW
        by_cases h9 : (9 : Int) < KS
        · clear C2
          go_enter Try.func6, Try.ntmps6
          go_wp2_with fail
          generalize (w.alloc (.cells #[.int .i64 W, .int .i64 H, .slice AI N cI] 24)).alloc (.cells #[.slice AS KS cS] 54) = w1 at *
          refine (C1.out _ b1).mono ?_
          rintro e w2 ⟨rfl, rfl⟩
          go_wp2_with fail
          refine (FW.out _).mono ?_
          rintro e w3 ⟨rfl, hb3⟩
          have b3 := below_call b1 b1.size hb3
          have k3 := k1.below' hb3
          have k4 := k2.below' hb3
          clear p1 p2 p3 p4
          obtain ⟨p1, p2, p3⟩ := k3.cells3
          have p4 := k4.cells0
          go_wp2_with fail
          refine (AW.out _).mono ?_
          rintro e w9 ⟨rfl, hb9⟩
          have b9 := below_call b3 b3.size hb9
          go_wp2
          go_ret
          exact ⟨rfl, b9⟩
        · cases e2 with
          | true =>
            go_enter Try.func6, Try.ntmps6
            go_wp2_with fail
            generalize (w.alloc (.cells #[.int .i64 W, .int .i64 H, .slice AI N cI] 24)).alloc (.cells #[.slice AS KS cS] 54) = w1 at *
            refine (C1.out _ b1).mono ?_
            rintro e w2 ⟨rfl, rfl⟩
            go_wp2_with fail
            refine (FW.out _).mono ?_
            rintro e w3 ⟨rfl, hb3⟩
            have b3 := below_call b1 b1.size hb3
            have k3 := k1.below' hb3
            have k4 := k2.below' hb3
            clear p1 p2 p3 p4
            obtain ⟨p1, p2, p3⟩ := k3.cells3
            have p4 := k4.cells0
            go_wp2_with fail
            refine (C2.out _ b3).mono ?_
            rintro e w4 ⟨rfl, rfl⟩
            go_wp2_with fail
            refine (AW.out _).mono ?_
            rintro e w9 ⟨rfl, hb9⟩
            have b9 := below_call b3 b3.size hb9
            go_wp2
            go_ret
            exact ⟨rfl, b9⟩
          | false =>
            have M60 : ∀ i, i < K → m i ≤ 60 := fun i hi => by
              have h0 := of_decide_eq_false HE1.out
              rcases Nat.lt_or_ge 60 (m i) with h | h
              · exact absurd (idxF_iff.2 ⟨(i : Int), by omega, by omega, by rw [Int.toNat_natCast]; exact decide_eq_true (by omega)⟩) h0
              · exact h
            have LB : ∀ i j, i < K → j < m i → -1099511627776 ≤ ln i j ∧ ln i j ≤ 1099511627776 := fun i j hi hj => by
              have h0 := of_decide_eq_false HE2.out
              by_cases hh : -1099511627776 ≤ ln i j ∧ ln i j ≤ 1099511627776
              · exact hh
              · exfalso
                refine h0 (idxF_iff.2 ⟨(i : Int), by omega, by omega, decide_eq_true (idxF_iff.2 ⟨(j : Int), by omega, by rw [Int.toNat_natCast]; omega, ?_⟩)⟩)
                rw [Int.toNat_natCast, Int.toNat_natCast]
                unfold far40
                by_cases g : ln i j < -1099511627776
                · simp [g]
                · have g2 : 1099511627776 < ln i j := by omega
                  simp [g2]
            go_enter Try.func6, Try.ntmps6
            go_wp2_with fail
            generalize (w.alloc (.cells #[.int .i64 W, .int .i64 H, .slice AI N cI] 24)).alloc (.cells #[.slice AS KS cS] 54) = w1 at *
            refine (C1.out _ b1).mono ?_
            rintro e w2 ⟨rfl, rfl⟩
            go_wp2_with fail
            refine (FW.out _).mono ?_
            rintro e w3 ⟨rfl, hb3⟩
            have b3 := below_call b1 b1.size hb3
            have k3 := k1.below' hb3
            have k4 := k2.below' hb3
            clear p1 p2 p3 p4
            obtain ⟨p1, p2, p3⟩ := k3.cells3
            have p4 := k4.cells0
            go_wp2_with fail
            refine (C2.out _ b3).mono ?_
            rintro e w4 ⟨rfl, rfl⟩
            go_wp2_with fail
            have CLs := Lib.hid fun w' hL' => copyLists_any A K c m ln w' hL' (by omega) (fun i hi => by have := M60 i hi; omega)
            have SV := Lib.hid fun A' c' w' hL' hc' => staves_any A' K c' m ln w' hL' hc' (by omega) (fun i hi => by have := M60 i hi; omega) LB
            have RS := Lib.hid fun w' hL' => rstaves_ind K m ln (by omega) (fun i hi => by have := M60 i hi; omega) LB K 0 A c w' (by omega) kc k44 hL'
            have STM : ∀ t, t ∈ stS (eB m ln) K 0 → ∀ j, j < 5 → m (t + j) ≤ maxLen := fun t ht j hj => by
              have := stS_at ht
              have := M60 (t + j) (by omega)
              unfold maxLen; omega
            have STP : ∀ t, t ∈ stS (eB m ln) K 0 → ∀ j, j < 5 → 0 < m (t + j) := fun t ht j hj => eB_pos (stS_at ht).2.2 j hj
            have STL := stS_len (e := eB m ln) (n := K) (i := 0)
            have L0 := hL.lines
            refine (CLs.out _ (L0.below b3)).mono ?_
            rintro e w5 ⟨_, rfl, ⟨vs5, hF5⟩, hb5⟩
            obtain ⟨A1, c1, rfl, hc1, -, hL5⟩ := hF5.toLines
            have b5 := below_call b3 b3.size hb5
            have k5 := k3.below' hb5
            have k6 := k4.below' hb5
            clear b3 k3 k4 hF5 hb5 p1 p2 p3 p4
            go_wp2_with fail
            refine (SV.out _ _ _ hL5 hc1).mono ?_
            rintro e w6 ⟨_, rfl, ⟨vs6, hS6⟩, hb6⟩
            obtain ⟨A2, c2, rfl, -, -⟩ := own_arr hS6.row
            have b6 := below_call b5 b5.size hb6
            have bo6 := Below.refl w5.heap.size w5 |>.trans hb6
            go_wp2_with fail
            refine (RS.out _ ((show LinesZ w w.heap.size A K (fun j => m (0 + j)) (fun j => ln (0 + j)) by simpa using L0).below b6)).mono ?_
            rintro e w7 ⟨_, rfl, ⟨vs7, hS7⟩, hb7⟩
            obtain ⟨A3, c3, rfl, -, -⟩ := own_arr hS7.row
            have b7 := below_call b6 b6.size hb7
            have bo7 := below_call bo6 bo6.size hb7
            have hS67 := hS6.below hb7
            clear hS6 hb6 hb7 b6 bo6
            go_wp2_with fail
            refine (sameStaves_true _ _ m ln (stS (eB m ln) K 0) A2 A3 c2 c3 vs6 vs7 _ hS67 hS7 (by omega) STM).mono ?_
            rintro e w8 ⟨rfl, hb8⟩
            have b8 := below_call b7 b7.size hb8
            have bo8 := below_call bo7 bo7.size hb8
            have hS8 := hS67.below hb8
            have PLC := Lib.hid fun t ht => hS8.places STP (t := t) ht
            obtain ⟨S, hS'⟩ : ∃ S, (stS (eB m ln) K 0).length = S := ⟨_, rfl⟩
            rw [hS'] at PLC STL ⊢
            clear hS67 hS7 hS8 hb8 b7 bo7 STM STP hS' SV RS CLs
            have zo := bo8.size
            have z5 := b5.size
            go_wp2_with fail
            go_loopw [49] (fun s wr => ∃ t : Nat, t ≤ S ∧ s = .int .i64 t ∧ IntOnly w8 wr ∧ Below w5.heap.size w5 wr) (fun s _ => S - (intOf s).toNat)
            case atStart => exact ⟨0, by omega, rfl, IntOnly.refl _, bo8⟩
            case round =>
              obtain ⟨t, ht, rfl, hI, bo⟩ := hrel
              by_cases tl : (t : Int) < S
              · obtain ⟨b, cb, cs, b5', c5', cs5, eA, hbb, hcb, hb5', hpl⟩ := PLC.out t (by omega)
                cases eA
                have q1 : wr.cell? ⟨b, t, none⟩ = some (.slice (some ⟨b5', 0, none⟩) 5 c5') := by rw [(hI.cell hbb (by decide)).cell]; exact hcb
                have HI := Lib.hid (hI.alloc (.cells #[.slice (some ⟨b5', 0, none⟩) 5 c5'] 54))
                have BO := Lib.hid (bo.alloc bo.size (.cells #[.slice (some ⟨b5', 0, none⟩) 5 c5'] 54))
                have q2 : (wr.alloc (.cells #[.slice (some ⟨b5', 0, none⟩) 5 c5'] 54)).cell? ⟨wr.heap.size, 0, none⟩ = some (.slice (some ⟨b5', 0, none⟩) 5 c5') := (Blk.new wr 54 #[.slice (some ⟨b5', 0, none⟩) 5 c5']).cells0
                clear hI bo
                go_wp2_with fail
                generalize wr.alloc (.cells #[.slice (some ⟨b5', 0, none⟩) 5 c5'] 54) = w10 at *
                go_loopw [56] (fun s wr => ∃ j : Nat, j ≤ 5 ∧ s = .int .i64 j ∧ IntOnly w8 wr ∧ Below w5.heap.size w5 wr) (fun s _ => 5 - (intOf s).toNat)
                case atStart => exact ⟨0, by omega, rfl, HI.out, BO.out⟩
                case round =>
                  obtain ⟨j, hj, rfl, hI2, bo2⟩ := hrel
                  by_cases jl : (j : Int) < 5
                  · obtain ⟨g, nn, cg, cj, hcj, hnn, hgB, hbg, hsz⟩ := hpl j (by omega)
                    have q3 : wr.cell? ⟨b5', j, none⟩ = some (.slice (some ⟨g, 0, none⟩) nn cg) := by rw [(hI2.cell hb5' (by decide)).cell]; exact hcj
                    obtain ⟨cs', hbg', hsz'⟩ := hI2.int hbg
                    have q4 : ∃ v, wr.cell? ⟨g, 0, none⟩ = some v := ⟨cs'[0]'(by omega), by rw [hbg'.cell]; exact Array.getElem?_eq_getElem (by omega)⟩
                    obtain ⟨v4, q4⟩ := q4
                    have q5 := hbg'.frozen 0
                    have HI3 := Lib.hid (hI2.set hbg' 0 (.int .i64 (-7)))
                    have BO3 := Lib.hid (bo2.setCell (p := ⟨g, 0, none⟩) hgB (.int .i64 (-7)))
                    have nn1 : (0 : Int) < (nn : Int) := by omega
                    clear hI2 bo2
                    go_wp2_with fail
                    go_roundw
                    case rel => exact ⟨j + 1, by omega, by go_num, HI3.out, BO3.out⟩
                    case measure => simp [intOf]; omega
                  · obtain rfl : j = 5 := by omega
                    go_wp2_with fail
                    go_roundw
                    case rel => exact ⟨t + 1, by omega, by go_num, hI2, bo2⟩
                    case measure => simp [intOf]; omega
              · have b9 := below_call b5 b5.size bo
                have hL9 := hL5.below bo
                have k9 := k5.below' bo
                have k10 := k6.below' bo
                obtain ⟨p1, p2, p3⟩ := k9.cells3
                have p4 := k10.cells0
                clear hI bo PLC
                go_wp2_with fail
                have CIN := Lib.hid fun w' hA' => copyInk_any W H AI N cI p w' hA' hc (by omega)
                have CST := Lib.hid fun w' hL' => copyStave_any AS KS cS mS lnS w' hL' (by omega) (fun i hi => hS.lens i hi)
                have ha9 := hA.to b9
                have hS9 := hS.lines.below b9
                have z9 := b9.size
                go_cut [13, 14] (fun f1 f2 wx => ∃ B1 B2 A' c' A2' c2', f1 = .pointer (some ⟨B1, 0, none⟩) ∧ f2 = .pointer (some ⟨B2, 0, none⟩) ∧ Below wr.heap.size wr wx ∧
                  Blk wx B1 24 #[.int .i64 W, .int .i64 H, .slice A' N c'] ∧ Blk wx B2 54 #[.slice A2' KS c2'] ∧ ArrB wx wx.heap.size A' N p ∧ Lines wx wx.heap.size A2' KS mS lnS)
                case first =>
                  have y1 := k9.lt
                  have y2 := k10.lt
                  go_region_held3 (fun w' => w'.cell? ⟨w.heap.size, 0, none⟩ = some (.int .i64 W) ∧ w'.cell? ⟨w.heap.size, 1, none⟩ = some (.int .i64 H) ∧ w'.cell? ⟨w.heap.size, 2, none⟩ = some (.slice AI N cI) ∧ w'.cell? ⟨w.heap.size + 1, 0, none⟩ = some (.slice AS KS cS))
                    (simp [go_sem, *])
                    (first
                      | (go_at_call 14
                         refine Calls.mono (CIN.out _ ?_) ?_
                         focus (exact ha9.to (by (repeat (first | with_reducible exact Below.refl _ _ | with_reducible assumption | with_reducible refine Below.drew ?_ | (with_reducible refine below_alloc' ?_ ?_; focus (first | omega | (simp; done) | (simp; omega))) | (with_reducible refine below_fill3' ?_ ?_; focus omega) | (with_reducible refine below_setCell' ?_ ?_; focus (first | omega | (simp; done) | (simp; omega))) | (with_reducible apply below_call'; (focus (with_reducible assumption)); (focus (first | omega | (simp; done) | (simp; omega))))))))
                         rintro e v1 ⟨_, rfl, ⟨_, rfl, A', c', rfl, hcc1, hnil1, hge1, ha1⟩, hb1⟩
                         have bv1 := Lib.hid (show Below wr.heap.size wr v1 by (repeat (first | with_reducible exact Below.refl _ _ | with_reducible assumption | with_reducible refine Below.drew ?_ | (with_reducible refine below_alloc' ?_ ?_; focus (first | omega | (simp; done) | (simp; omega))) | (with_reducible refine below_fill3' ?_ ?_; focus omega) | (with_reducible refine below_setCell' ?_ ?_; focus (first | omega | (simp; done) | (simp; omega))) | (with_reducible apply below_call'; (focus (with_reducible assumption)); (focus (first | omega | (simp; done) | (simp; omega)))))))
                         have kk1 := k9.below' bv1.out
                         have ll1 := k10.below' bv1.out
                         obtain ⟨x11, x12, x13⟩ := kk1.cells3
                         have x14 := ll1.cells0
                         have s1 := hb1.size
                         try simp at s1
                         have y11 := kk1.lt
                         have y12 := ll1.lt
                         first | (have g11 : Blk v1 (wr.heap.size) 24 #[.int .i64 0, .int .i64 0, .slice none 0 0] := by ((repeat (first | with_reducible assumption | with_reducible exact Blk.new _ _ _ | with_reducible exact Blk.new' (World.size_alloc _ _) _ _ | (with_reducible refine Blk.new' ?_ _ _; focus (simp; done)) | with_reducible apply Blk.fill3 | with_reducible apply Blk.fill1 | (with_reducible refine Blk.far3' ?_ ?_; focus omega) | (with_reducible refine Blk.far1' ?_ ?_; focus omega) | with_reducible refine Blk.alloc ?_ _ | with_reducible refine Blk.drew ?_ | (with_reducible apply Blk.below2; focus (with_reducible assumption)))); done)
                                  obtain ⟨h1, h2, h3⟩ := g11.cells3; obtain ⟨f1, f2, f3⟩ := g11.frozen3; have lt11 := g11.lt) | skip
                         first | (have g12 : Blk v1 (wr.heap.size) 54 #[.slice none 0 0] := by ((repeat (first | with_reducible assumption | with_reducible exact Blk.new _ _ _ | with_reducible exact Blk.new' (World.size_alloc _ _) _ _ | (with_reducible refine Blk.new' ?_ _ _; focus (simp; done)) | with_reducible apply Blk.fill3 | with_reducible apply Blk.fill1 | (with_reducible refine Blk.far3' ?_ ?_; focus omega) | (with_reducible refine Blk.far1' ?_ ?_; focus omega) | with_reducible refine Blk.alloc ?_ _ | with_reducible refine Blk.drew ?_ | (with_reducible apply Blk.below2; focus (with_reducible assumption)))); done)
                                  have h12 := g12.cells0; have f12 := g12.frozen 0; have lt12 := g12.lt) | skip
                         first | (have g13 : Blk v1 (wr.heap.size + 1) 24 #[.int .i64 0, .int .i64 0, .slice none 0 0] := by ((repeat (first | with_reducible assumption | with_reducible exact Blk.new _ _ _ | with_reducible exact Blk.new' (World.size_alloc _ _) _ _ | (with_reducible refine Blk.new' ?_ _ _; focus (simp; done)) | with_reducible apply Blk.fill3 | with_reducible apply Blk.fill1 | (with_reducible refine Blk.far3' ?_ ?_; focus omega) | (with_reducible refine Blk.far1' ?_ ?_; focus omega) | with_reducible refine Blk.alloc ?_ _ | with_reducible refine Blk.drew ?_ | (with_reducible apply Blk.below2; focus (with_reducible assumption)))); done)
                                  obtain ⟨h1, h2, h3⟩ := g13.cells3; obtain ⟨f1, f2, f3⟩ := g13.frozen3; have lt13 := g13.lt) | skip
                         first | (have g14 : Blk v1 (wr.heap.size + 1) 54 #[.slice none 0 0] := by ((repeat (first | with_reducible assumption | with_reducible exact Blk.new _ _ _ | with_reducible exact Blk.new' (World.size_alloc _ _) _ _ | (with_reducible refine Blk.new' ?_ _ _; focus (simp; done)) | with_reducible apply Blk.fill3 | with_reducible apply Blk.fill1 | (with_reducible refine Blk.far3' ?_ ?_; focus omega) | (with_reducible refine Blk.far1' ?_ ?_; focus omega) | with_reducible refine Blk.alloc ?_ _ | with_reducible refine Blk.drew ?_ | (with_reducible apply Blk.below2; focus (with_reducible assumption)))); done)
                                  have h14 := g14.cells0; have f14 := g14.frozen 0; have lt14 := g14.lt) | skip)
                      | (go_at_call 37
                         refine Calls.mono (CST.out _ ?_) ?_
                         focus (exact hS9.below (by (repeat (first | with_reducible exact Below.refl _ _ | with_reducible assumption | with_reducible refine Below.drew ?_ | (with_reducible refine below_alloc' ?_ ?_; focus (first | omega | (simp; done) | (simp; omega))) | (with_reducible refine below_fill3' ?_ ?_; focus omega) | (with_reducible refine below_setCell' ?_ ?_; focus (first | omega | (simp; done) | (simp; omega))) | (with_reducible apply below_call'; (focus (with_reducible assumption)); (focus (first | omega | (simp; done) | (simp; omega))))))))
                         rintro e v2 ⟨_, rfl, ⟨_, vs2, rfl, hF2⟩, hb2⟩
                         obtain ⟨A2', c2', rfl, -, -, hL2⟩ := hF2.toLines
                         have bv2 := Lib.hid (show Below wr.heap.size wr v2 by (repeat (first | with_reducible exact Below.refl _ _ | with_reducible assumption | with_reducible refine Below.drew ?_ | (with_reducible refine below_alloc' ?_ ?_; focus (first | omega | (simp; done) | (simp; omega))) | (with_reducible refine below_fill3' ?_ ?_; focus omega) | (with_reducible refine below_setCell' ?_ ?_; focus (first | omega | (simp; done) | (simp; omega))) | (with_reducible apply below_call'; (focus (with_reducible assumption)); (focus (first | omega | (simp; done) | (simp; omega)))))))
                         have kk2 := k9.below' bv2.out
                         have ll2 := k10.below' bv2.out
                         obtain ⟨x21, x22, x23⟩ := kk2.cells3
                         have x24 := ll2.cells0
                         have s2 := hb2.size
                         try simp at s2
                         have y21 := kk2.lt
                         have y22 := ll2.lt
                         first | (have g21 : Blk v2 (wr.heap.size) 24 #[.int .i64 0, .int .i64 0, .slice none 0 0] := by ((repeat (first | with_reducible assumption | with_reducible exact Blk.new _ _ _ | with_reducible exact Blk.new' (World.size_alloc _ _) _ _ | (with_reducible refine Blk.new' ?_ _ _; focus (simp; done)) | with_reducible apply Blk.fill3 | with_reducible apply Blk.fill1 | (with_reducible refine Blk.far3' ?_ ?_; focus omega) | (with_reducible refine Blk.far1' ?_ ?_; focus omega) | with_reducible refine Blk.alloc ?_ _ | with_reducible refine Blk.drew ?_ | (with_reducible apply Blk.below2; focus (with_reducible assumption)))); done)
                                  obtain ⟨h1, h2, h3⟩ := g21.cells3; obtain ⟨f1, f2, f3⟩ := g21.frozen3; have lt21 := g21.lt) | skip
                         first | (have g22 : Blk v2 (wr.heap.size) 54 #[.slice none 0 0] := by ((repeat (first | with_reducible assumption | with_reducible exact Blk.new _ _ _ | with_reducible exact Blk.new' (World.size_alloc _ _) _ _ | (with_reducible refine Blk.new' ?_ _ _; focus (simp; done)) | with_reducible apply Blk.fill3 | with_reducible apply Blk.fill1 | (with_reducible refine Blk.far3' ?_ ?_; focus omega) | (with_reducible refine Blk.far1' ?_ ?_; focus omega) | with_reducible refine Blk.alloc ?_ _ | with_reducible refine Blk.drew ?_ | (with_reducible apply Blk.below2; focus (with_reducible assumption)))); done)
                                  have h22 := g22.cells0; have f22 := g22.frozen 0; have lt22 := g22.lt) | skip
                         first | (have g23 : Blk v2 (wr.heap.size + 1) 24 #[.int .i64 0, .int .i64 0, .slice none 0 0] := by ((repeat (first | with_reducible assumption | with_reducible exact Blk.new _ _ _ | with_reducible exact Blk.new' (World.size_alloc _ _) _ _ | (with_reducible refine Blk.new' ?_ _ _; focus (simp; done)) | with_reducible apply Blk.fill3 | with_reducible apply Blk.fill1 | (with_reducible refine Blk.far3' ?_ ?_; focus omega) | (with_reducible refine Blk.far1' ?_ ?_; focus omega) | with_reducible refine Blk.alloc ?_ _ | with_reducible refine Blk.drew ?_ | (with_reducible apply Blk.below2; focus (with_reducible assumption)))); done)
                                  obtain ⟨h1, h2, h3⟩ := g23.cells3; obtain ⟨f1, f2, f3⟩ := g23.frozen3; have lt23 := g23.lt) | skip
                         first | (have g24 : Blk v2 (wr.heap.size + 1) 54 #[.slice none 0 0] := by ((repeat (first | with_reducible assumption | with_reducible exact Blk.new _ _ _ | with_reducible exact Blk.new' (World.size_alloc _ _) _ _ | (with_reducible refine Blk.new' ?_ _ _; focus (simp; done)) | with_reducible apply Blk.fill3 | with_reducible apply Blk.fill1 | (with_reducible refine Blk.far3' ?_ ?_; focus omega) | (with_reducible refine Blk.far1' ?_ ?_; focus omega) | with_reducible refine Blk.alloc ?_ _ | with_reducible refine Blk.drew ?_ | (with_reducible apply Blk.below2; focus (with_reducible assumption)))); done)
                                  have h24 := g24.cells0; have f24 := g24.frozen 0; have lt24 := g24.lt) | skip
                         first | (have g25 : Blk v2 (v1.heap.size) 24 #[.int .i64 0, .int .i64 0, .slice none 0 0] := by ((repeat (first | with_reducible assumption | with_reducible exact Blk.new _ _ _ | with_reducible exact Blk.new' (World.size_alloc _ _) _ _ | (with_reducible refine Blk.new' ?_ _ _; focus (simp; done)) | with_reducible apply Blk.fill3 | with_reducible apply Blk.fill1 | (with_reducible refine Blk.far3' ?_ ?_; focus omega) | (with_reducible refine Blk.far1' ?_ ?_; focus omega) | with_reducible refine Blk.alloc ?_ _ | with_reducible refine Blk.drew ?_ | (with_reducible apply Blk.below2; focus (with_reducible assumption)))); done)
                                  obtain ⟨h1, h2, h3⟩ := g25.cells3; obtain ⟨f1, f2, f3⟩ := g25.frozen3; have lt25 := g25.lt) | skip
                         first | (have g26 : Blk v2 (v1.heap.size) 54 #[.slice none 0 0] := by ((repeat (first | with_reducible assumption | with_reducible exact Blk.new _ _ _ | with_reducible exact Blk.new' (World.size_alloc _ _) _ _ | (with_reducible refine Blk.new' ?_ _ _; focus (simp; done)) | with_reducible apply Blk.fill3 | with_reducible apply Blk.fill1 | (with_reducible refine Blk.far3' ?_ ?_; focus omega) | (with_reducible refine Blk.far1' ?_ ?_; focus omega) | with_reducible refine Blk.alloc ?_ _ | with_reducible refine Blk.drew ?_ | (with_reducible apply Blk.below2; focus (with_reducible assumption)))); done)
                                  have h26 := g26.cells0; have f26 := g26.frozen 0; have lt26 := g26.lt) | skip
                         first | (have g27 : Blk v2 (v1.heap.size + 1) 24 #[.int .i64 0, .int .i64 0, .slice none 0 0] := by ((repeat (first | with_reducible assumption | with_reducible exact Blk.new _ _ _ | with_reducible exact Blk.new' (World.size_alloc _ _) _ _ | (with_reducible refine Blk.new' ?_ _ _; focus (simp; done)) | with_reducible apply Blk.fill3 | with_reducible apply Blk.fill1 | (with_reducible refine Blk.far3' ?_ ?_; focus omega) | (with_reducible refine Blk.far1' ?_ ?_; focus omega) | with_reducible refine Blk.alloc ?_ _ | with_reducible refine Blk.drew ?_ | (with_reducible apply Blk.below2; focus (with_reducible assumption)))); done)
                                  obtain ⟨h1, h2, h3⟩ := g27.cells3; obtain ⟨f1, f2, f3⟩ := g27.frozen3; have lt27 := g27.lt) | skip
                         first | (have g28 : Blk v2 (v1.heap.size + 1) 54 #[.slice none 0 0] := by ((repeat (first | with_reducible assumption | with_reducible exact Blk.new _ _ _ | with_reducible exact Blk.new' (World.size_alloc _ _) _ _ | (with_reducible refine Blk.new' ?_ _ _; focus (simp; done)) | with_reducible apply Blk.fill3 | with_reducible apply Blk.fill1 | (with_reducible refine Blk.far3' ?_ ?_; focus omega) | (with_reducible refine Blk.far1' ?_ ?_; focus omega) | with_reducible refine Blk.alloc ?_ _ | with_reducible refine Blk.drew ?_ | (with_reducible apply Blk.below2; focus (with_reducible assumption)))); done)
                                  have h28 := g28.cells0; have f28 := g28.frozen 0; have lt28 := g28.lt) | skip))
                  all_goals
                    go_wp2_with fail
                    go_meet
                    refine ⟨_, _, A', c', A2', c2', rfl, rfl, ?_, ?_, ?_, ?_, ?_⟩
                    focus (repeat (first | with_reducible exact Below.refl _ _ | with_reducible assumption | with_reducible refine Below.drew ?_ | (with_reducible refine below_alloc' ?_ ?_; focus (first | omega | (simp; done) | (simp; omega))) | (with_reducible refine below_fill3' ?_ ?_; focus omega) | (with_reducible refine below_setCell' ?_ ?_; focus (first | omega | (simp; done) | (simp; omega))) | (with_reducible apply below_call'; (focus (with_reducible assumption)); (focus (first | omega | (simp; done) | (simp; omega))))))
                    focus (repeat (first | with_reducible assumption | with_reducible exact Blk.new _ _ _ | with_reducible exact Blk.new' (World.size_alloc _ _) _ _ | (with_reducible refine Blk.new' ?_ _ _; focus (simp; done)) | with_reducible apply Blk.fill3 | with_reducible apply Blk.fill1 | (with_reducible refine Blk.far3' ?_ ?_; focus omega) | (with_reducible refine Blk.far1' ?_ ?_; focus omega) | with_reducible refine Blk.alloc ?_ _ | with_reducible refine Blk.drew ?_ | (with_reducible apply Blk.below2; focus (with_reducible assumption))))
                    focus (repeat (first | with_reducible assumption | with_reducible exact Blk.new _ _ _ | with_reducible exact Blk.new' (World.size_alloc _ _) _ _ | (with_reducible refine Blk.new' ?_ _ _; focus (simp; done)) | with_reducible apply Blk.fill3 | with_reducible apply Blk.fill1 | (with_reducible refine Blk.far3' ?_ ?_; focus omega) | (with_reducible refine Blk.far1' ?_ ?_; focus omega) | with_reducible refine Blk.alloc ?_ _ | with_reducible refine Blk.drew ?_ | (with_reducible apply Blk.below2; focus (with_reducible assumption))))
                    focus (refine KeepIn.arr ha1 hge1 (by (repeat (first | with_reducible exact KeepIn.refl _ _ _ | with_reducible refine KeepIn.drew ?_ | (with_reducible refine KeepIn.set ?_ ?_; focus (first | omega | (simp; done) | (simp; omega))) | (with_reducible refine KeepIn.alloc ?_ ?_; focus (first | omega | (simp; done) | (simp; omega))) | (with_reducible apply KeepIn.call; (focus (with_reducible assumption)); (focus (first | omega | (simp; done) | (simp; omega))))))) (by first | omega | (simp; done) | (simp; omega)))
                    focus (exact LinesOf (KeepIn.found hF2 (by (repeat (first | with_reducible exact KeepIn.refl _ _ _ | with_reducible refine KeepIn.drew ?_ | (with_reducible refine KeepIn.set ?_ ?_; focus (first | omega | (simp; done) | (simp; omega))) | (with_reducible refine KeepIn.alloc ?_ ?_; focus (first | omega | (simp; done) | (simp; omega))) | (with_reducible apply KeepIn.call; (focus (with_reducible assumption)); (focus (first | omega | (simp; done) | (simp; omega)))))))))
                case rest =>
                  obtain ⟨B1, B2, A', c', A2', c2', rfl, rfl, hbx, kB1, kB2, haX, hLX⟩ := hcut
                  have b11 := below_call b9 b9.size hbx
                  have k11 := k9.below' hbx
                  have k12 := k10.below' hbx
                  have hL11 := hL9.below hbx
                  have E : ∃ E, stChk W H N p KS mS lnS = E := ⟨_, rfl⟩
                  obtain ⟨E, hE⟩ := E
                  generalize wc = wx at *
                  have hLA := hL.lines.lines.below b11
                  have hSA := hS.lines.lines.below b11
                  have hAA := hA.to b11
                  have mm : ∀ i, i < K → m i ≤ maxLen := fun i hi => by have := M60 i hi; unfold maxLen; omega
                  have hmS : ∀ i, i < KS → mS i ≤ maxLen := fun i hi => by have := hS.lens i hi; unfold maxLen; omega
                  have SLc : Hid (∀ w', Below wx.heap.size wx w' → Calls Try.prog 22 #[.slice A1 K c1, .slice A K c] w' fun e w'' => e = .returned (.bool true) ∧ Below w'.heap.size w' w'') := by
                    show ∀ _, _
                    intro w' hb'
                    have := sameLists_any A1 A K K c1 c m m ln ln w' (hL11.below hb') (hLA.below hb') (by unfold maxLen; omega) (by unfold maxLen; omega) mm mm
                    rw [sameL_self] at this
                    refine this.mono ?_
                    rintro e w'' ⟨rfl, nq, rfl⟩
                    exact ⟨rfl, drewN_below nq⟩
                  have CKa := Lib.hid fun w' (hb' : Below wx.heap.size wx w') => check_st W H A' A2' N c' KS c2' p mS lnS E w' (haX.to hb') hN (hLX.below hb') hmS hE
                  have CKb := Lib.hid fun w' (hb' : Below wx.heap.size wx w') => rcheck_st W H AI AS N cI KS cS p mS lnS E w' (hAA.to hb') hN hB (hSA.below hb') hmS hE
                  have SIc := Lib.hid fun w' (hb' : Below wx.heap.size wx w') => sameInk_true W H A' AI N c' cI p p w' (haX.to hb') (hAA.to hb') hN (fun _ _ _ => rfl)
                  have SSc : Hid (∀ w', Below wx.heap.size wx w' → Calls Try.prog 40 #[.agg #[.slice A2' KS c2'], .agg #[.slice AS KS cS]] w' fun e w'' => e = .returned (.bool true) ∧ Below w'.heap.size w' w'') := by
                    show ∀ _, _
                    intro w' hb'
                    have := sameStave_any A2' AS KS KS c2' cS mS mS lnS lnS w' (hLX.below hb') (hSA.below hb') (by unfold maxLen; omega) (by unfold maxLen; omega) hmS hmS
                    rw [sameL_self] at this
                    exact this
                  have AWc := Lib.hid fun w' (hb' : Below wx.heap.size wx w') => AW.out w'
                  obtain ⟨p1, p2, p3⟩ := k11.cells3
                  have p4 := k12.cells0
                  obtain ⟨o1, o2, o3⟩ := kB1.cells3
                  have o4 := kB2.cells0
                  clear k9 k10 hbx hL9 haX hLX hL11 hLA hSA hAA hE
                  go_wp2_with fail
                  go_region_held3 (fun w' => w'.cell? ⟨w.heap.size, 0, none⟩ = some (.int .i64 W) ∧ w'.cell? ⟨w.heap.size, 1, none⟩ = some (.int .i64 H) ∧ w'.cell? ⟨w.heap.size, 2, none⟩ = some (.slice AI N cI) ∧ w'.cell? ⟨w.heap.size + 1, 0, none⟩ = some (.slice AS KS cS) ∧ w'.cell? ⟨B1, 0, none⟩ = some (.int .i64 W) ∧ w'.cell? ⟨B1, 1, none⟩ = some (.int .i64 H) ∧ w'.cell? ⟨B1, 2, none⟩ = some (.slice A' N c') ∧ w'.cell? ⟨B2, 0, none⟩ = some (.slice A2' KS c2'))
                    (simp [go_sem, *])
                    (first
                      | (go_at_call 22
                         refine Calls.mono (SLc.out _ ?_) ?_
                         focus ((repeat (first | with_reducible exact Below.refl _ _ | with_reducible refine Below.drew ?_ | (with_reducible apply below_call'; (focus (with_reducible assumption)); (focus (first | omega | (simp; done) | (simp; omega)))))))
                         rintro e v1 ⟨rfl, hb1⟩
                         have z1 := hb1.size
                         try simp at z1
                         have bv1 := Lib.hid (show Below wx.heap.size wx v1 by (repeat (first | with_reducible exact Below.refl _ _ | with_reducible refine Below.drew ?_ | (with_reducible apply below_call'; (focus (with_reducible assumption)); (focus (first | omega | (simp; done) | (simp; omega)))))))
                         obtain ⟨r11, r12, r13⟩ := (k11.below' bv1.out).cells3
                         have r14 := (k12.below' bv1.out).cells0
                         obtain ⟨s11, s12, s13⟩ := (kB1.below' bv1.out).cells3
                         have s14 := (kB2.below' bv1.out).cells0)
                      | (go_at_call 38
                         refine Calls.mono (CKa.out _ ?_) ?_
                         focus ((repeat (first | with_reducible exact Below.refl _ _ | with_reducible refine Below.drew ?_ | (with_reducible apply below_call'; (focus (with_reducible assumption)); (focus (first | omega | (simp; done) | (simp; omega)))))))
                         rintro e v2 ⟨rfl, hb2⟩
                         have z2 := hb2.size
                         try simp at z2
                         have bv2 := Lib.hid (show Below wx.heap.size wx v2 by (repeat (first | with_reducible exact Below.refl _ _ | with_reducible refine Below.drew ?_ | (with_reducible apply below_call'; (focus (with_reducible assumption)); (focus (first | omega | (simp; done) | (simp; omega)))))))
                         obtain ⟨r21, r22, r23⟩ := (k11.below' bv2.out).cells3
                         have r24 := (k12.below' bv2.out).cells0
                         obtain ⟨s21, s22, s23⟩ := (kB1.below' bv2.out).cells3
                         have s24 := (kB2.below' bv2.out).cells0)
                      | (go_at_call 39
                         refine Calls.mono (CKb.out _ ?_) ?_
                         focus ((repeat (first | with_reducible exact Below.refl _ _ | with_reducible refine Below.drew ?_ | (with_reducible apply below_call'; (focus (with_reducible assumption)); (focus (first | omega | (simp; done) | (simp; omega)))))))
                         rintro e v3 ⟨rfl, hb3⟩
                         have z3 := hb3.size
                         try simp at z3
                         have bv3 := Lib.hid (show Below wx.heap.size wx v3 by (repeat (first | with_reducible exact Below.refl _ _ | with_reducible refine Below.drew ?_ | (with_reducible apply below_call'; (focus (with_reducible assumption)); (focus (first | omega | (simp; done) | (simp; omega)))))))
                         obtain ⟨r31, r32, r33⟩ := (k11.below' bv3.out).cells3
                         have r34 := (k12.below' bv3.out).cells0
                         obtain ⟨s31, s32, s33⟩ := (kB1.below' bv3.out).cells3
                         have s34 := (kB2.below' bv3.out).cells0)
                      | (go_at_call 21
                         refine Calls.mono (SIc.out _ ?_) ?_
                         focus ((repeat (first | with_reducible exact Below.refl _ _ | with_reducible refine Below.drew ?_ | (with_reducible apply below_call'; (focus (with_reducible assumption)); (focus (first | omega | (simp; done) | (simp; omega)))))))
                         rintro e v4 ⟨rfl, hb4⟩
                         have z4 := hb4.size
                         try simp at z4
                         have bv4 := Lib.hid (show Below wx.heap.size wx v4 by (repeat (first | with_reducible exact Below.refl _ _ | with_reducible refine Below.drew ?_ | (with_reducible apply below_call'; (focus (with_reducible assumption)); (focus (first | omega | (simp; done) | (simp; omega)))))))
                         obtain ⟨r41, r42, r43⟩ := (k11.below' bv4.out).cells3
                         have r44 := (k12.below' bv4.out).cells0
                         obtain ⟨s41, s42, s43⟩ := (kB1.below' bv4.out).cells3
                         have s44 := (kB2.below' bv4.out).cells0)
                      | (go_at_call 40
                         refine Calls.mono (SSc.out _ ?_) ?_
                         focus ((repeat (first | with_reducible exact Below.refl _ _ | with_reducible refine Below.drew ?_ | (with_reducible apply below_call'; (focus (with_reducible assumption)); (focus (first | omega | (simp; done) | (simp; omega)))))))
                         rintro e v5 ⟨rfl, hb5⟩
                         have z5 := hb5.size
                         try simp at z5
                         have bv5 := Lib.hid (show Below wx.heap.size wx v5 by (repeat (first | with_reducible exact Below.refl _ _ | with_reducible refine Below.drew ?_ | (with_reducible apply below_call'; (focus (with_reducible assumption)); (focus (first | omega | (simp; done) | (simp; omega)))))))
                         obtain ⟨r51, r52, r53⟩ := (k11.below' bv5.out).cells3
                         have r54 := (k12.below' bv5.out).cells0
                         obtain ⟨s51, s52, s53⟩ := (kB1.below' bv5.out).cells3
                         have s54 := (kB2.below' bv5.out).cells0)
                      | (go_at_call 13
                         refine Calls.mono (AWc.out _ ?_) ?_
                         focus ((repeat (first | with_reducible exact Below.refl _ _ | with_reducible refine Below.drew ?_ | (with_reducible apply below_call'; (focus (with_reducible assumption)); (focus (first | omega | (simp; done) | (simp; omega)))))))
                         rintro e v6 ⟨rfl, hb6⟩
                         have z6 := hb6.size
                         try simp at z6
                         have bv6 := Lib.hid (show Below wx.heap.size wx v6 by (repeat (first | with_reducible exact Below.refl _ _ | with_reducible refine Below.drew ?_ | (with_reducible apply below_call'; (focus (with_reducible assumption)); (focus (first | omega | (simp; done) | (simp; omega)))))))
                         obtain ⟨r61, r62, r63⟩ := (k11.below' bv6.out).cells3
                         have r64 := (k12.below' bv6.out).cells0
                         obtain ⟨s61, s62, s63⟩ := (kB1.below' bv6.out).cells3
                         have s64 := (kB2.below' bv6.out).cells0))
                  all_goals
                    go_wp2
                    go_ret
                    exact ⟨rfl, below_call b11 b11.size bv6.out⟩
      · rw [decide_eq_false hf] at FW
        clear C2
        go_enter Try.func6, Try.ntmps6
        go_wp2_with fail
        generalize (w.alloc (.cells #[.int .i64 W, .int .i64 H, .slice AI N cI] 24)).alloc (.cells #[.slice AS KS cS] 54) = w1 at *
        refine (C1.out _ b1).mono ?_
        rintro e w2 ⟨rfl, rfl⟩
        go_wp2_with fail
        refine (FW.out _).mono ?_
        rintro e w3 ⟨rfl, hb3⟩
        have b3 := below_call b1 b1.size hb3
        have k3 := k1.below' hb3
        have k4 := k2.below' hb3
        clear p1 p2 p3 p4
        obtain ⟨p1, p2, p3⟩ := k3.cells3
        have p4 := k4.cells0
        go_wp2_with fail
        refine (AW.out _).mono ?_
        rintro e w9 ⟨rfl, hb9⟩
        have b9 := below_call b3 b3.size hb9
        go_wp2
        go_ret
        exact ⟨rfl, b9⟩
end Go.Proofs.Ytdimlpcbbkokiaa
