/- Walk: the staves of any lines (stave.Staves). -/
import Derived.Test.YtdimlpcbbkokiaaT15
import Derived.Test.YtdimlpcbbkokiaaT29
import Derived.Deep.CutBlock
namespace Go.Proofs.Ytdimlpcbbkokiaa
open Go.RowKit Go.Shelf
set_option linter.unusedVariables false
attribute [local go_sem] Oper.semAt_some

/-- five lines from line i on have gaps that are alike -/
def eB (m : Nat → Nat) (ln : Nat → Nat → Int) (i : Nat) : Bool := evenB (fun j => m (i + j)) (fun j => ln (i + j))
/-- where the staves begin, of n lines from line i on -/
def stS (e : Nat → Bool) (n i : Nat) : List Nat := if n < 5 then [] else if e i then i :: stS e (n - 5) (i + 5) else stS e (n - 1) (i + 1)
termination_by n
decreasing_by all_goals omega
theorem stS_few {e : Nat → Bool} {n i : Nat} (h : n < 5) : stS e n i = [] := by rw [stS, if_pos h]
theorem stS_yes {e : Nat → Bool} {n i : Nat} (h : 5 ≤ n) (he : e i = true) : stS e n i = i :: stS e (n - 5) (i + 5) := by rw [stS, if_neg (by omega), if_pos he]
theorem stS_no {e : Nat → Bool} {n i : Nat} (h : 5 ≤ n) (he : e i = false) : stS e n i = stS e (n - 1) (i + 1) := by rw [stS, if_neg (by omega), if_neg (by rw [he]; simp)]
theorem stS_at {e : Nat → Bool} : ∀ {n i : Nat} {t : Nat}, t ∈ stS e n i → i ≤ t ∧ t + 5 ≤ i + n ∧ e t = true := by
  intro n
  induction n using Nat.strongRecOn with
  | _ n ih =>
    intro i t ht
    by_cases h : n < 5
    · rw [stS_few h] at ht; cases ht
    · cases he : e i with
      | true =>
        rw [stS_yes (by omega) he] at ht
        rcases List.mem_cons.1 ht with rfl | ht
        · exact ⟨Nat.le_refl _, by omega, he⟩
        · have := ih (n - 5) (by omega) ht; exact ⟨by omega, by omega, this.2.2⟩
      | false =>
        rw [stS_no (by omega) he] at ht
        have := ih (n - 1) (by omega) ht; exact ⟨by omega, by omega, this.2.2⟩
theorem stS_len {e : Nat → Bool} : ∀ {n i : Nat}, (stS e n i).length ≤ n := by
  intro n
  induction n using Nat.strongRecOn with
  | _ n ih =>
    intro i
    by_cases h : n < 5
    · rw [stS_few h]; exact Nat.zero_le _
    · cases he : e i with
      | true => rw [stS_yes (by omega) he, List.length_cons]; have := ih (n - 5) (by omega) (i := i + 5); omega
      | false => rw [stS_no (by omega) he]; have := ih (n - 1) (by omega) (i := i + 1); omega
theorem FoundM.grownBlk {B B' : Nat} {w w' : World} {m : Nat → Nat} {ln : Nat → Nat → Int} {k n : Nat} {vo vr : Value} {v : Nat → Value} {xs : List Value} (h : FoundM B w m ln k vo v) (hr : w.ownsRow B' 54 1 vr n xs) (hg : w.grownBy w' vr.ownBlock) : FoundM B w' m ln k vo v :=
  ⟨own_grown h.row hr (by decide) hg, fun i hi => own_grown (h.lines i hi) hr (by decide) hg⟩
theorem FoundM.alloc {B : Nat} {w : World} {m : Nat → Nat} {ln : Nat → Nat → Int} {k : Nat} {vo : Value} {v : Nat → Value} (h : FoundM B w m ln k vo v) (o : Obj) : FoundM B (w.alloc o) m ln k vo v := h.below ((Below.refl _ _).alloc (Nat.le_refl _) _)
/-- staves over fresh memory: they begin at the lines of a list, five lines each -/
structure StOut (B : Nat) (w : World) (m : Nat → Nat) (ln : Nat → Nat → Int) (st : List Nat) (vo : Value) (vs : Nat → Value) : Prop where
  row : w.ownsRow B 54 1 vo st.length ((List.range st.length).map vs)
  each : ∀ t, t < st.length → ∃ v, FoundM B w (fun j => m (st.getD t 0 + j)) (fun j => ln (st.getD t 0 + j)) 5 (vs t) v
section
variable {B : Nat} {w w' : World} {m : Nat → Nat} {ln : Nat → Nat → Int} {st : List Nat} {vo : Value} {vs : Nat → Value}
theorem StOut.below (h : StOut B w m ln st vo vs) (hb : Below w.heap.size w w') : StOut B w' m ln st vo vs :=
  ⟨own_below h.row hb, fun t ht => by obtain ⟨v, hv⟩ := h.each t ht; exact ⟨v, hv.below hb⟩⟩
theorem StOut.base {B' : Nat} (h : StOut B w m ln st vo vs) (hB : B' ≤ B) : StOut B' w m ln st vo vs :=
  ⟨own_base h.row hB, fun t ht => by obtain ⟨v, hv⟩ := h.each t ht; exact ⟨v, hv.base hB⟩⟩
theorem StOut.nil (w : World) (B : Nat) (m : Nat → Nat) (ln : Nat → Nat → Int) (vs : Nat → Value) : StOut B w m ln [] (.slice none 0 0) vs := ⟨World.ownsRow_nil _ _ _ _, fun t ht => by simp at ht⟩
theorem StOut.snoc {i : Nat} {vo' u : Value} {vu : Nat → Value} (h : StOut B w m ln st vo vs) (hu : FoundM B w (fun j => m (i + j)) (fun j => ln (i + j)) 5 u vu)
    (hg : w.grownBy w' vo.ownBlock) (hr : w'.ownsRow B 54 1 vo' (st.length + 1) ((List.range st.length).map vs ++ [u])) : StOut B w' m ln (st ++ [i]) vo' (fun t => if t = st.length then u else vs t) := by
  have e : (st ++ [i]).length = st.length + 1 := by simp
  refine ⟨?_, fun t ht => ?_⟩
  · rw [e, range_snoc]
    simp only [if_true]
    rw [show (List.range st.length).map (fun t => if t = st.length then u else vs t) = (List.range st.length).map vs from List.map_congr_left fun i hi => by rw [if_neg]; have := List.mem_range.1 hi; omega]
    exact hr
  · rw [e] at ht
    by_cases e2 : t = st.length
    · subst e2
      refine ⟨vu, ?_⟩
      simp only [if_true]
      rw [show (st ++ [i]).getD st.length 0 = i by simp]
      exact hu.grownBlk h.row hg
    · obtain ⟨v, hv⟩ := h.each t (by omega)
      refine ⟨v, ?_⟩
      simp only [if_neg e2]
      rw [show (st ++ [i]).getD t 0 = st.getD t 0 by rw [List.getD_eq_getElem?_getD, List.getD_eq_getElem?_getD, List.getElem?_append_left (by omega)]]
      exact hv.grownBlk h.row hg
end
theorem Lines.sub {w : World} {B b off K i n : Nat} {m : Nat → Nat} {ln : Nat → Nat → Int} (h : Lines w B (some ⟨b, off, none⟩) K m ln) (hi : i + n ≤ K) : Lines w B (some ⟨b, off + i, none⟩) n (fun j => m (i + j)) (fun j => ln (i + j)) := by
  obtain ⟨vs, h1, h2⟩ := h
  refine ⟨fun j => vs (i + j), fun hn => ?_, fun j hj => h2 (i + j) (by omega)⟩
  obtain ⟨b', off', e, hb, hc⟩ := h1 (by omega)
  cases e
  refine ⟨b, off + i, rfl, hb, fun j j0 j1 => ?_⟩
  have := hc ((i : Int) + j) (by omega) (by omega)
  rw [show ((i : Int) + j).toNat = i + j.toNat by omega] at this
  rw [Nat.add_assoc]
  refine this.trans ?_
  show some (vs ((i : Int) + j).toNat) = some (vs (i + j.toNat))
  rw [show ((i : Int) + j).toNat = i + j.toNat by omega]

set_option maxRecDepth 100000 in
set_option maxHeartbeats 4000000 in
theorem staves_any (A : Option Addr) (K c : Nat) (m : Nat → Nat) (ln : Nat → Nat → Int) (w : World) (hL : Lines w w.heap.size A K m ln) (hc : K ≤ c) (hK : K ≤ 1000) (hm : ∀ i, i < K → m i ≤ 1000000) (hb : ∀ i j, i < K → j < m i → -1099511627776 ≤ ln i j ∧ ln i j ≤ 1099511627776) :
    Calls Try.prog 34 #[.slice A K c] w (New w fun v w' => ∃ vs, StOut w.heap.size w' m ln (stS (eB m ln) K 0) v vs) := by
  have EV := Lib.hid fun i (hi : i + 5 ≤ K) A' c' w' hL' => even_any A' c' (fun j => m (i + j)) (fun j => ln (i + j)) w' hL' (fun j hj => hm (i + j) (by omega)) (fun j t hj ht => hb (i + j) t (by omega) ht)
  have HL := Lib.hid hL
  have HM := Lib.hid hm
  obtain ⟨i0, hi0, hz0, hz1, hz2⟩ := info_parts infoInts
  obtain ⟨s0, hs0, hsz0, hsz1, hsz2⟩ := info_parts infoLines
  clear hL hb hm
  go_enter Try.func34, Try.ntmps34
  go_wp2_with fail
  go_step3
  go_wp2_with fail
  go_step3
  go_wp2_with fail
  go_loopw [3, 4] (fun vo s wr => Below w.heap.size w wr ∧ ∃ (i : Nat) (st : List Nat) (vs : Nat → Value), i ≤ K ∧ s = .int .i64 i ∧ StOut w.heap.size wr m ln st vo vs ∧ st.length ≤ i ∧ stS (eB m ln) K 0 = st ++ stS (eB m ln) (K - i) i) (fun _ s _ => K - (intOf s).toNat)
  case atStart => exact ⟨Below.refl _ _, 0, [], fun _ => default, by omega, rfl, StOut.nil _ _ _ _ _, by simp, rfl⟩
  case round =>
    obtain ⟨b1, i, st, vs, hi, rfl, hS, hsl, hst⟩ := hrel
    have HST := Lib.hid hst
    clear hst
    obtain ⟨Ao, co, rfl, -, -⟩ := own_arr hS.row
    by_cases h5 : (i : Int) + 5 ≤ K
    · obtain ⟨b, off, A0, c0, rfl, hbB, -, -⟩ := HL.out.at_ (i := i) (by omega)
      have h5' : ¬ ((i : Int) + 5 > (K : Int)) := by omega
      have u1 : IntKind.i64.wrap ((i : Int) + 5) = (i : Int) + 5 := IntWalk.i64_in _ (by omega)
      have EVi := Lib.hid fun c' w' hL' => EV.out i (by omega) (some ⟨b, off + i, none⟩) c' w' hL'
      cases hev : eB m ln i with
      | false =>
        have hst : Hid (stS (eB m ln) (K - i) i = stS (eB m ln) (K - (i + 1)) (i + 1)) := by show _ = _; rw [stS_no (by omega) hev, Nat.sub_sub]
        replace EVi : Hid (∀ c' w', Lines w' w'.heap.size (some ⟨b, off + i, none⟩) 5 (fun j => m (i + j)) (fun j => ln (i + j)) → Calls Try.prog 76 #[.slice (some ⟨b, off + i, none⟩) 5 c'] w' fun e w'' => e = .returned (.bool false) ∧ Below w'.heap.size w' w'') := by
          show ∀ _, _
          intro c' w' hL'
          have := EVi.out c' w' hL'
          rw [show evenB (fun j => m (i + j)) (fun j => ln (i + j)) = eB m ln i from rfl, hev] at this
          exact this
        clear hev
        go_wp2_with fail
        refine (EVi.out _ _ ((HL.out.below b1).sub (by omega))).mono ?_
        rintro e w2 ⟨rfl, hb2⟩
        have b2 := below_call b1 b1.size hb2
        have S2 := hS.below hb2
        clear b1 hb2 hS
        go_wp2_with fail
        go_roundw
        case rel => exact ⟨b2, i + 1, st, vs, by omega, by go_num, S2, by omega, by rw [HST.out, hst.out]⟩
        case measure => simp [intOf]; omega
      | true =>
        have hst : Hid (stS (eB m ln) (K - i) i = i :: stS (eB m ln) (K - (i + 5)) (i + 5)) := by show _ = _; rw [stS_yes (by omega) hev, Nat.sub_sub]
        have MP : Hid (∀ j, j < 5 → 0 < m (i + j)) := by
          show ∀ _, _
          intro j hj
          have hev2 : evenB (fun j => m (i + j)) (fun j => ln (i + j)) = true := hev
          unfold evenB at hev2
          rw [Bool.and_eq_true] at hev2
          have := of_decide_eq_true (List.all_eq_true.1 hev2.1 j (List.mem_range.2 hj))
          exact this.1
        replace EVi : Hid (∀ c' w', Lines w' w'.heap.size (some ⟨b, off + i, none⟩) 5 (fun j => m (i + j)) (fun j => ln (i + j)) → Calls Try.prog 76 #[.slice (some ⟨b, off + i, none⟩) 5 c'] w' fun e w'' => e = .returned (.bool true) ∧ Below w'.heap.size w' w'') := by
          show ∀ _, _
          intro c' w' hL'
          have := EVi.out c' w' hL'
          rw [show evenB (fun j => m (i + j)) (fun j => ln (i + j)) = eB m ln i from rfl, hev] at this
          exact this
        clear hev
        go_wp2_with fail
        refine (EVi.out _ _ ((HL.out.below b1).sub (by omega))).mono ?_
        rintro e w2 ⟨rfl, hb2⟩
        have b2 := below_call b1 b1.size hb2
        have S2 := hS.below hb2
        have ks := Blk.new w2 54 #[.slice none 0 0]
        have bs : Below w2.heap.size w2 (w2.alloc (.cells #[.slice none 0 0] 54)) := (Below.refl _ _).alloc (Nat.le_refl _) _
        have z2 := b2.size
        have z1 := b1.size
        clear hb2 hS
        go_wp2_with fail
        generalize w2.alloc (.cells #[.slice none 0 0] 54) = w3 at *
        generalize hgs : w2.heap.size = gs at *
        go_loopw [29] (fun s w9 => ∃ j : Nat, j ≤ 5 ∧ s = .int .i64 j ∧ Below gs w2 w9 ∧ ∃ vo v, Blk w9 gs 54 #[vo] ∧ FoundM gs w9 (fun j => m (i + j)) (fun j => ln (i + j)) j vo v) (fun s _ => 5 - (intOf s).toNat)
        case atStart => exact ⟨0, by omega, rfl, bs, _, fun _ => default, ks, FoundM.nil _ _ _ _ _⟩
        case round =>
          obtain ⟨j, j5, rfl, b4, vo, v, k4, F4⟩ := hrel
          clear bs ks
          obtain ⟨A8, c8, rfl, -, -⟩ := own_arr F4.row
          have q1 := k4.at0
          have q2 := k4.frozen 0
          have zb : gs ≤ wr.heap.size := by rw [← hgs]; exact b4.size
          by_cases hlt : (j : Int) < 5
          · obtain ⟨b5, off5, A5, c5, e5, hbB5, hc5, ha5⟩ := HL.out.at_ (i := i + j) (by omega)
            cases e5
            have hc6 : wr.cell? ⟨b, off + i + j, none⟩ = some (.slice A5 (m (i + j)) c5) := by
              have h1 := (b2.cell (p := ⟨b, off + (i + j), none⟩) hbB).trans hc5
              rw [Nat.add_assoc]
              exact (b4.cell (p := ⟨b, off + (i + j), none⟩) (by show b < gs; omega)).trans h1
            have MJ := MP.out j (by omega)
            have MK := HM.out (i + j) (by omega)
            have CL := Lib.hid fun W hA' => clone_any A5 (m (i + j)) c5 (fun jj => ln (i + j) jj.toNat) W hA' MJ MK
            have b24 : Below w.heap.size w wr := b2.trans (b4.mono z2)
            have HA5 := Lib.hid (ArrI.more (ArrI.below ha5 b24) b24.size)
            clear ha5 hc5
            have n1 := World.new_ne wr _ q1
            have ne := own_neB F4.row k4 (by decide)
            have HF4 := Lib.hid F4
            have own4 := F4.row
            clear F4
            obtain ⟨mj, hmj⟩ : ∃ mj, m (i + j) = mj := ⟨_, rfl⟩
            obtain ⟨q, hq⟩ : ∃ q, ln (i + j) = q := ⟨_, rfl⟩
            have HMJ := Lib.hid hmj; have HQ := Lib.hid hq
            rw [hmj] at hc6 MJ MK
            rw [hmj, hq] at CL HA5
            clear hmj hq
            go_wp2_with fail
            go_region_law
              (first
                | (refine step_append_lies _ (by rfl) _ _ _ (by rfl) gs 25 i0 (.slice none 0 0) 1 24 Try.underlying34 hi0 hz0 hz1 hz2 rfl (by omega) (.slice A8 j c8) _ _ (by rfl) (own7.alloc _) ⟨w6.heap.size, 0, none⟩ 1 1 [.slice (some ⟨g6, 0, none⟩) mj c6] (by rfl) (by rfl) (World.news_of_block (cs := #[.slice (some ⟨g6, 0, none⟩) mj c6]) (t := 25) (fr := (0, 0)) (heap_alloc_new w6 _)) (by simp [Value.oneCell']) (by omega) (by unfold maxLen; omega) (by omega) (by simp; omega) (w6.heap.size + 1) (by simp) ?_
                   intro gg cap w1 hown1 hgrow hat hlt1
                   have k7 := (k6.alloc (.cells #[.slice (some ⟨g6, 0, none⟩) mj c6] 25)).grown hgrow ne
                   have x3 := k7.at0
                   have x4 := k7.frozen 0)
                | (refine (show (if Region.wanted (⟨some 36, _, _, _, _, _⟩ : Oper) _ = true then _ else _) from ?_)
                   go_simp
                   refine (CL.out _ (show ArrI wr.drew wr.drew.heap.size _ _ _ from HA5.out)).mono ?_
                   rintro e w6 ⟨v6, rfl, own6, hb6⟩
                   obtain ⟨g6, c6, rfl⟩ := own_some own6 MJ
                   have x1 := (k4.drew.below' hb6).at0
                   have x2 := (k4.drew.below' hb6).frozen 0
                   have y1 := World.new_ne w6 _ x1
                   have own7 := own_below (w := wr.drew) own4 hb6
                   have F6 := HF4.out.drew.below hb6
                   have b6 : Below gs w2 w6 := b4.drew.trans (hb6.mono zb)
                   have k6 := k4.drew.below' hb6
                   have z6 : gs ≤ w6.heap.size := by have := hb6.size; exact Nat.le_trans zb this
                   have z7 := k6.lt
                   have x5 : ∀ o, (w6.alloc o).cell? ⟨gs, 0, none⟩ = some (.slice A8 j c8) := fun o => (k6.alloc o).at0
                   dsimp only))
            all_goals
              have F7 : FoundM gs w1 (fun j => m (i + j)) (fun j => ln (i + j)) (j + 1) (.slice (some ⟨gg, 0, none⟩) (j + 1) cap) (fun t => if t = j then .slice (some ⟨g6, 0, none⟩) mj c6 else v t) :=
                (F6.alloc (.cells #[.slice (some ⟨g6, 0, none⟩) mj c6] 25)).snoc (by rw [HMJ.out, HQ.out]; exact (own_base own6 zb).alloc _) hgrow hown1
              have b7 : Below gs w2 w1 := (b6.alloc z6 (.cells #[.slice (some ⟨g6, 0, none⟩) mj c6] 25)).grown hgrow (by simp; omega) (fun k hk => (own_ge own4 hk).1)
              have k8 := k7.set_ 0 (.slice (some ⟨gg, 0, none⟩) (j + 1) cap)
              have F8 : FoundM gs (w1.setCell ⟨gs, 0, none⟩ (.slice (some ⟨gg, 0, none⟩) (j + 1) cap)) (fun j => m (i + j)) (fun j => ln (i + j)) (j + 1) (.slice (some ⟨gg, 0, none⟩) (j + 1) cap) (fun t => if t = j then .slice (some ⟨g6, 0, none⟩) mj c6 else v t) :=
                ⟨own_far F7.row k7 (by decide) _ _, fun t ht => own_far (F7.lines t ht) k7 (by decide) _ _⟩
              have b8 : Below gs w2 (w1.setCell ⟨gs, 0, none⟩ (.slice (some ⟨gg, 0, none⟩) (j + 1) cap)) := b7.setCell (Nat.le_refl _) _
              have B8 := Lib.hid b8; have K8 := Lib.hid k8; have FF8 := Lib.hid F8
              clear b7 k7 hown1 hgrow x1 x2 x5 own7 k6 b6 hat F6 F7 b8 k8 F8
              go_wp2
              go_roundw
              case rel => exact ⟨j + 1, by omega, by go_num, B8.out, _, K8.out, _, FF8.out⟩
              case measure => simp [intOf]; omega
          · obtain rfl : j = 5 := by omega
            clear q2
            have S4 := S2.below (hgs ▸ b4)
            have b24 : Below w.heap.size w wr := b2.trans (b4.mono z2)
            have zz := b24.size
            go_wp2_with (at_builtin; refine wpList_append_own _ rfl (.tmp 41) (.tmp 43) 56 rfl w.heap.size 54 s0 (.agg #[.slice none 0 0]) 1 24 Try.underlying56 hs0 hsz0 hsz1 hsz2 rfl (by decide) _ _ _ rfl (S4.row.alloc _) ⟨wr.heap.size, 0, none⟩ 1 1 [.slice A8 5 c8] rfl rfl ?c1 ?c2 ?c3 ?c4 ?c5 ?_)
            try case c1 => exact cell_one_new _ _ _
            try case c2 => simp [Value.oneCell']
            try case c3 => unfold maxLen; omega
            try case c4 => omega
            try case c5 => first | omega | (simp; done) | (simp; omega)
            intro v' w7 own7 hg7 _
            have b7 : Below w.heap.size w w7 := (b24.alloc zz (.cells #[.slice A8 5 c8] 54)).grown hg7 (by simp; omega) (fun k hk => (own_ge S4.row hk).1)
            have S7 := (S4.below ((Below.refl _ _).alloc (Nat.le_refl _) (.cells #[.slice A8 5 c8] 54))).snoc (i := i) ((F4.base z2).alloc _) hg7 own7
            obtain ⟨A9, c9, rfl, -, -⟩ := own_arr own7
            clear own7 hg7 S4 F4 b4 k4
            go_wp2
            go_roundw
            case rel => exact ⟨b7, i + 5, st ++ [i], _, by omega, by go_num, by simpa using S7, by simp; omega, by rw [HST.out, hst.out, List.append_assoc]; rfl⟩
            case measure => simp [intOf]; omega
    · have i5' : (i : Int) + 5 > (K : Int) := by omega
      have u1 : IntKind.i64.wrap ((i : Int) + 5) = (i : Int) + 5 := IntWalk.i64_in _ (by omega)
      go_wp2_with fail
      try rw [Exit.noGoto_ret]
      go_ret
      refine ⟨_, rfl, ⟨vs, ?_⟩, b1⟩
      rw [HST.out, stS_few (by omega), List.append_nil]
      exact hS
end Go.Proofs.Ytdimlpcbbkokiaa
