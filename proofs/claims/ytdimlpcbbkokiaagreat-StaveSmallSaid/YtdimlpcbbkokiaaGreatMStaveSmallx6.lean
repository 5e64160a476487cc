/- Texts of mine in build order: T30, T31, T32, T16, T19, T33, Open, Open2. Conditions: each theorem's own. -/
import Derived.Test.YtdimlpcbbkokiaaGreatMStaveSmallx5
import Derived.Deep.CutBlock
import Derived.Laws.AppendOwnNone
import Derived.Deep.RegionLaw
import Derived.Deep.RegionHeld3
import Derived.Test.YtdimlpcbbkokiaaGreatRows
import Derived.ProofKit
import Derived.OpenShut
import Derived.ShutString
import Derived.ChangeOld
import Derived.Lib.SmallJoins
import Derived.Deep.Matrix
import Derived.SizedLaws
import Derived.ChangeSame
/- Walk: the staves of any lines (stave.Staves). -/
namespace Go.Proofs.YtdimlpcbbkokiaaGreat
open Go.RowKit Go.Shelf
set_option linter.unusedVariables false
attribute [local go_sem] Oper.semAt_some

/-- five lines from line i on have gaps that are alike -/
def eB (m : Nat → Nat) (ln : Nat → Nat → Int) (i : Nat) : Bool := evenB (fun j => m (i + j)) (fun j => ln (i + j))
/-- where the staves begin, of n lines from line i on -/
def stS (e : Nat → Bool) (n i : Nat) : List Nat := if n < 5 then [] else if e i then i :: stS e (n - 5) (i + 5) else stS e (n - 1) (i + 1)
termination_by n
decreasing_by all_goals omega
theorem stS_few {e : Nat → Bool} {n i : Nat} (h : n < 5) : stS e n i = [] := by rw [stS, if_pos h]
theorem stS_yes {e : Nat → Bool} {n i : Nat} (h : 5 ≤ n) (he : e i = true) : stS e n i = i :: stS e (n - 5) (i + 5) := by rw [stS, if_neg (by omega), if_pos he]
theorem stS_no {e : Nat → Bool} {n i : Nat} (h : 5 ≤ n) (he : e i = false) : stS e n i = stS e (n - 1) (i + 1) := by rw [stS, if_neg (by omega), if_neg (by rw [he]; simp)]
theorem stS_at {e : Nat → Bool} : ∀ {n i : Nat} {t : Nat}, t ∈ stS e n i → i ≤ t ∧ t + 5 ≤ i + n ∧ e t = true := by
  intro n
  induction n using Nat.strongRecOn with
  | _ n ih =>
    intro i t ht
    by_cases h : n < 5
    · rw [stS_few h] at ht; cases ht
    · cases he : e i with
      | true =>
        rw [stS_yes (by omega) he] at ht
        rcases List.mem_cons.1 ht with rfl | ht
        · exact ⟨Nat.le_refl _, by omega, he⟩
        · have := ih (n - 5) (by omega) ht; exact ⟨by omega, by omega, this.2.2⟩
      | false =>
        rw [stS_no (by omega) he] at ht
        have := ih (n - 1) (by omega) ht; exact ⟨by omega, by omega, this.2.2⟩
theorem stS_len {e : Nat → Bool} : ∀ {n i : Nat}, (stS e n i).length ≤ n := by
  intro n
  induction n using Nat.strongRecOn with
  | _ n ih =>
    intro i
    by_cases h : n < 5
    · rw [stS_few h]; exact Nat.zero_le _
    · cases he : e i with
      | true => rw [stS_yes (by omega) he, List.length_cons]; have := ih (n - 5) (by omega) (i := i + 5); omega
      | false => rw [stS_no (by omega) he]; have := ih (n - 1) (by omega) (i := i + 1); omega
theorem FoundM.grownBlk {B B' : Nat} {w w' : World} {m : Nat → Nat} {ln : Nat → Nat → Int} {k n : Nat} {vo vr : Value} {v : Nat → Value} {xs : List Value} (h : FoundM B w m ln k vo v) (hr : w.ownsRow B' 40 1 vr n xs) (hg : w.grownBy w' vr.ownBlock) : FoundM B w' m ln k vo v :=
  ⟨own_grown h.row hr (by decide) hg, fun i hi => own_grown (h.lines i hi) hr (by decide) hg⟩
theorem FoundM.alloc {B : Nat} {w : World} {m : Nat → Nat} {ln : Nat → Nat → Int} {k : Nat} {vo : Value} {v : Nat → Value} (h : FoundM B w m ln k vo v) (o : Obj) : FoundM B (w.alloc o) m ln k vo v := h.below ((Below.refl _ _).alloc (Nat.le_refl _) _)
/-- staves over fresh memory: they begin at the lines of a list, five lines each -/
structure StOut (B : Nat) (w : World) (m : Nat → Nat) (ln : Nat → Nat → Int) (st : List Nat) (vo : Value) (vs : Nat → Value) : Prop where
  row : w.ownsRow B 40 1 vo st.length ((List.range st.length).map vs)
  each : ∀ t, t < st.length → ∃ v, FoundM B w (fun j => m (st.getD t 0 + j)) (fun j => ln (st.getD t 0 + j)) 5 (vs t) v
section
variable {B : Nat} {w w' : World} {m : Nat → Nat} {ln : Nat → Nat → Int} {st : List Nat} {vo : Value} {vs : Nat → Value}
theorem StOut.below (h : StOut B w m ln st vo vs) (hb : Below w.heap.size w w') : StOut B w' m ln st vo vs :=
  ⟨own_below h.row hb, fun t ht => by obtain ⟨v, hv⟩ := h.each t ht; exact ⟨v, hv.below hb⟩⟩
theorem StOut.base {B' : Nat} (h : StOut B w m ln st vo vs) (hB : B' ≤ B) : StOut B' w m ln st vo vs :=
  ⟨own_base h.row hB, fun t ht => by obtain ⟨v, hv⟩ := h.each t ht; exact ⟨v, hv.base hB⟩⟩
theorem StOut.nil (w : World) (B : Nat) (m : Nat → Nat) (ln : Nat → Nat → Int) (vs : Nat → Value) : StOut B w m ln [] (.slice none 0 0) vs := ⟨World.ownsRow_nil _ _ _ _, fun t ht => by simp at ht⟩
theorem StOut.snoc {i : Nat} {vo' u : Value} {vu : Nat → Value} (h : StOut B w m ln st vo vs) (hu : FoundM B w (fun j => m (i + j)) (fun j => ln (i + j)) 5 u vu)
    (hg : w.grownBy w' vo.ownBlock) (hr : w'.ownsRow B 40 1 vo' (st.length + 1) ((List.range st.length).map vs ++ [u])) : StOut B w' m ln (st ++ [i]) vo' (fun t => if t = st.length then u else vs t) := by
  have e : (st ++ [i]).length = st.length + 1 := by simp
  refine ⟨?_, fun t ht => ?_⟩
  · rw [e, range_snoc]
    simp only [if_true]
    rw [show (List.range st.length).map (fun t => if t = st.length then u else vs t) = (List.range st.length).map vs from List.map_congr_left fun i hi => by rw [if_neg]; have := List.mem_range.1 hi; omega]
    exact hr
  · rw [e] at ht
    by_cases e2 : t = st.length
    · subst e2
      refine ⟨vu, ?_⟩
      simp only [if_true]
      rw [show (st ++ [i]).getD st.length 0 = i by simp]
      exact hu.grownBlk h.row hg
    · obtain ⟨v, hv⟩ := h.each t (by omega)
      refine ⟨v, ?_⟩
      simp only [if_neg e2]
      rw [show (st ++ [i]).getD t 0 = st.getD t 0 by rw [List.getD_eq_getElem?_getD, List.getD_eq_getElem?_getD, List.getElem?_append_left (by omega)]]
      exact hv.grownBlk h.row hg
end
theorem Lines.sub {w : World} {B b off K i n : Nat} {m : Nat → Nat} {ln : Nat → Nat → Int} (h : Lines w B (some ⟨b, off, none⟩) K m ln) (hi : i + n ≤ K) : Lines w B (some ⟨b, off + i, none⟩) n (fun j => m (i + j)) (fun j => ln (i + j)) := by
  obtain ⟨vs, h1, h2⟩ := h
  refine ⟨fun j => vs (i + j), fun hn => ?_, fun j hj => h2 (i + j) (by omega)⟩
  obtain ⟨b', off', e, hb, hc⟩ := h1 (by omega)
  cases e
  refine ⟨b, off + i, rfl, hb, fun j j0 j1 => ?_⟩
  have := hc ((i : Int) + j) (by omega) (by omega)
  rw [show ((i : Int) + j).toNat = i + j.toNat by omega] at this
  rw [Nat.add_assoc]
  refine this.trans ?_
  show some (vs ((i : Int) + j).toNat) = some (vs (i + j.toNat))
  rw [show ((i : Int) + j).toNat = i + j.toNat by omega]

set_option maxRecDepth 100000 in
set_option maxHeartbeats 4000000 in
theorem staves_any (A : Option Addr) (K c : Nat) (m : Nat → Nat) (ln : Nat → Nat → Int) (w : World) (hL : Lines w w.heap.size A K m ln) (hc : K ≤ c) (hK : K ≤ 1000) (hm : ∀ i, i < K → m i ≤ 1000000) (hb : ∀ i j, i < K → j < m i → -1099511627776 ≤ ln i j ∧ ln i j ≤ 1099511627776) :
    Calls Tryz.prog 33 #[.slice A K c] w (New w fun v w' => ∃ vs, StOut w.heap.size w' m ln (stS (eB m ln) K 0) v vs) := by
  have EV := Lib.hid fun i (hi : i + 5 ≤ K) A' c' w' hL' => even_any A' c' (fun j => m (i + j)) (fun j => ln (i + j)) w' hL' (fun j hj => hm (i + j) (by omega)) (fun j t hj ht => hb (i + j) t (by omega) ht)
  have HL := Lib.hid hL
  have HM := Lib.hid hm
  obtain ⟨i0, hi0, hz0, hz1, hz2⟩ := info_parts infoInts
  obtain ⟨s0, hs0, hsz0, hsz1, hsz2⟩ := info_parts infoLines
  clear hL hb hm
  go_enter Tryz.func33, Tryz.ntmps33
  go_wp2_with fail
  go_step3
  go_wp2_with fail
  go_step3
  go_wp2_with fail
  go_loopw [3, 4] (fun vo s wr => Below w.heap.size w wr ∧ ∃ (i : Nat) (st : List Nat) (vs : Nat → Value), i ≤ K ∧ s = .int .i64 i ∧ StOut w.heap.size wr m ln st vo vs ∧ st.length ≤ i ∧ stS (eB m ln) K 0 = st ++ stS (eB m ln) (K - i) i) (fun _ s _ => K - (intOf s).toNat)
  case atStart => exact ⟨Below.refl _ _, 0, [], fun _ => default, by omega, rfl, StOut.nil _ _ _ _ _, by simp, rfl⟩
  case round =>
    obtain ⟨b1, i, st, vs, hi, rfl, hS, hsl, hst⟩ := hrel
    have HST := Lib.hid hst
    clear hst
    obtain ⟨Ao, co, rfl, -, -⟩ := own_arr hS.row
    by_cases h5 : (i : Int) + 5 ≤ K
    · obtain ⟨b, off, A0, c0, rfl, hbB, -, -⟩ := HL.out.at_ (i := i) (by omega)
      have h5' : ¬ ((i : Int) + 5 > (K : Int)) := by omega
      have u1 : IntKind.i64.wrap ((i : Int) + 5) = (i : Int) + 5 := IntWalk.i64_in _ (by omega)
      have EVi := Lib.hid fun c' w' hL' => EV.out i (by omega) (some ⟨b, off + i, none⟩) c' w' hL'
      cases hev : eB m ln i with
      | false =>
        have hst : Hid (stS (eB m ln) (K - i) i = stS (eB m ln) (K - (i + 1)) (i + 1)) := by show _ = _; rw [stS_no (by omega) hev, Nat.sub_sub]
        replace EVi : Hid (∀ c' w', Lines w' w'.heap.size (some ⟨b, off + i, none⟩) 5 (fun j => m (i + j)) (fun j => ln (i + j)) → Calls Tryz.prog 76 #[.slice (some ⟨b, off + i, none⟩) 5 c'] w' fun e w'' => e = .returned (.bool false) ∧ Below w'.heap.size w' w'') := by
          show ∀ _, _
          intro c' w' hL'
          have := EVi.out c' w' hL'
          rw [show evenB (fun j => m (i + j)) (fun j => ln (i + j)) = eB m ln i from rfl, hev] at this
          exact this
        clear hev
        go_wp2_with fail
        refine (EVi.out _ _ ((HL.out.below b1).sub (by omega))).mono ?_
        rintro e w2 ⟨rfl, hb2⟩
        have b2 := below_call b1 b1.size hb2
        have S2 := hS.below hb2
        clear b1 hb2 hS
        go_wp2_with fail
        go_roundw
        case rel => exact ⟨b2, i + 1, st, vs, by omega, by go_num, S2, by omega, by rw [HST.out, hst.out]⟩
        case measure => simp [intOf]; omega
      | true =>
        have hst : Hid (stS (eB m ln) (K - i) i = i :: stS (eB m ln) (K - (i + 5)) (i + 5)) := by show _ = _; rw [stS_yes (by omega) hev, Nat.sub_sub]
        have MP : Hid (∀ j, j < 5 → 0 < m (i + j)) := by
          show ∀ _, _
          intro j hj
          have hev2 : evenB (fun j => m (i + j)) (fun j => ln (i + j)) = true := hev
          unfold evenB at hev2
          rw [Bool.and_eq_true] at hev2
          have := of_decide_eq_true (List.all_eq_true.1 hev2.1 j (List.mem_range.2 hj))
          exact this.1
        replace EVi : Hid (∀ c' w', Lines w' w'.heap.size (some ⟨b, off + i, none⟩) 5 (fun j => m (i + j)) (fun j => ln (i + j)) → Calls Tryz.prog 76 #[.slice (some ⟨b, off + i, none⟩) 5 c'] w' fun e w'' => e = .returned (.bool true) ∧ Below w'.heap.size w' w'') := by
          show ∀ _, _
          intro c' w' hL'
          have := EVi.out c' w' hL'
          rw [show evenB (fun j => m (i + j)) (fun j => ln (i + j)) = eB m ln i from rfl, hev] at this
          exact this
        clear hev
        go_wp2_with fail
        refine (EVi.out _ _ ((HL.out.below b1).sub (by omega))).mono ?_
        rintro e w2 ⟨rfl, hb2⟩
        have b2 := below_call b1 b1.size hb2
        have S2 := hS.below hb2
        have ks := Blk.new w2 40 #[.slice none 0 0]
        have bs : Below w2.heap.size w2 (w2.alloc (.cells #[.slice none 0 0] 40)) := (Below.refl _ _).alloc (Nat.le_refl _) _
        have z2 := b2.size
        have z1 := b1.size
        clear hb2 hS
        go_wp2_with fail
        generalize w2.alloc (.cells #[.slice none 0 0] 40) = w3 at *
        generalize hgs : w2.heap.size = gs at *
        go_loopw [29] (fun s w9 => ∃ j : Nat, j ≤ 5 ∧ s = .int .i64 j ∧ Below gs w2 w9 ∧ ∃ vo v, Blk w9 gs 40 #[vo] ∧ FoundM gs w9 (fun j => m (i + j)) (fun j => ln (i + j)) j vo v) (fun s _ => 5 - (intOf s).toNat)
        case atStart => exact ⟨0, by omega, rfl, bs, _, fun _ => default, ks, FoundM.nil _ _ _ _ _⟩
        case round =>
          obtain ⟨j, j5, rfl, b4, vo, v, k4, F4⟩ := hrel
          clear bs ks
          obtain ⟨A8, c8, rfl, -, -⟩ := own_arr F4.row
          have q1 := k4.at0
          have q2 := k4.frozen 0
          have zb : gs ≤ wr.heap.size := by rw [← hgs]; exact b4.size
          by_cases hlt : (j : Int) < 5
          · obtain ⟨b5, off5, A5, c5, e5, hbB5, hc5, ha5⟩ := HL.out.at_ (i := i + j) (by omega)
            cases e5
            have hc6 : wr.cell? ⟨b, off + i + j, none⟩ = some (.slice A5 (m (i + j)) c5) := by
              have h1 := (b2.cell (p := ⟨b, off + (i + j), none⟩) hbB).trans hc5
              rw [Nat.add_assoc]
              exact (b4.cell (p := ⟨b, off + (i + j), none⟩) (by show b < gs; omega)).trans h1
            have MJ := MP.out j (by omega)
            have MK := HM.out (i + j) (by omega)
            have CL := Lib.hid fun W hA' => clone_any A5 (m (i + j)) c5 (fun jj => ln (i + j) jj.toNat) W hA' MJ MK
            have b24 : Below w.heap.size w wr := b2.trans (b4.mono z2)
            have HA5 := Lib.hid (ArrI.more (ArrI.below ha5 b24) b24.size)
            clear ha5 hc5
            have n1 := World.new_ne wr _ q1
            have ne := own_neB F4.row k4 (by decide)
            have HF4 := Lib.hid F4
            have own4 := F4.row
            clear F4
            obtain ⟨mj, hmj⟩ : ∃ mj, m (i + j) = mj := ⟨_, rfl⟩
            obtain ⟨q, hq⟩ : ∃ q, ln (i + j) = q := ⟨_, rfl⟩
            have HMJ := Lib.hid hmj; have HQ := Lib.hid hq
            rw [hmj] at hc6 MJ MK
            rw [hmj, hq] at CL HA5
            clear hmj hq
            go_wp2_with fail
            go_region_law
              (first
                | (refine step_append_lies _ (by rfl) _ _ _ (by rfl) gs 37 i0 (.slice none 0 0) 1 24 Tryz.underlying25 hi0 hz0 hz1 hz2 rfl (by omega) (.slice A8 j c8) _ _ (by rfl) (own7.alloc _) ⟨w6.heap.size, 0, none⟩ 1 1 [.slice (some ⟨g6, 0, none⟩) mj c6] (by rfl) (by rfl) (World.news_of_block (cs := #[.slice (some ⟨g6, 0, none⟩) mj c6]) (t := 37) (fr := (0, 0)) (heap_alloc_new w6 _)) (by simp [Value.oneCell']) (by omega) (by unfold maxLen; omega) (by omega) (by simp; omega) (w6.heap.size + 1) (by simp) ?_
                   intro gg cap w1 hown1 hgrow hat hlt1
                   have k7 := (k6.alloc (.cells #[.slice (some ⟨g6, 0, none⟩) mj c6] 37)).grown hgrow ne
                   have x3 := k7.at0
                   have x4 := k7.frozen 0)
                | (refine (show (if Region.wanted (⟨some 36, _, _, _, _, _⟩ : Oper) _ = true then _ else _) from ?_)
                   go_simp
                   refine (CL.out _ (show ArrI wr.drew wr.drew.heap.size _ _ _ from HA5.out)).mono ?_
                   rintro e w6 ⟨v6, rfl, own6, hb6⟩
                   obtain ⟨g6, c6, rfl⟩ := own_some own6 MJ
                   have x1 := (k4.drew.below' hb6).at0
                   have x2 := (k4.drew.below' hb6).frozen 0
                   have y1 := World.new_ne w6 _ x1
                   have own7 := own_below (w := wr.drew) own4 hb6
                   have F6 := HF4.out.drew.below hb6
                   have b6 : Below gs w2 w6 := b4.drew.trans (hb6.mono zb)
                   have k6 := k4.drew.below' hb6
                   have z6 : gs ≤ w6.heap.size := by have := hb6.size; exact Nat.le_trans zb this
                   have z7 := k6.lt
                   have x5 : ∀ o, (w6.alloc o).cell? ⟨gs, 0, none⟩ = some (.slice A8 j c8) := fun o => (k6.alloc o).at0
                   dsimp only))
            all_goals
              have F7 : FoundM gs w1 (fun j => m (i + j)) (fun j => ln (i + j)) (j + 1) (.slice (some ⟨gg, 0, none⟩) (j + 1) cap) (fun t => if t = j then .slice (some ⟨g6, 0, none⟩) mj c6 else v t) :=
                (F6.alloc (.cells #[.slice (some ⟨g6, 0, none⟩) mj c6] 37)).snoc (by rw [HMJ.out, HQ.out]; exact (own_base own6 zb).alloc _) hgrow hown1
              have b7 : Below gs w2 w1 := (b6.alloc z6 (.cells #[.slice (some ⟨g6, 0, none⟩) mj c6] 37)).grown hgrow (by simp; omega) (fun k hk => (own_ge own4 hk).1)
              have k8 := k7.set_ 0 (.slice (some ⟨gg, 0, none⟩) (j + 1) cap)
              have F8 : FoundM gs (w1.setCell ⟨gs, 0, none⟩ (.slice (some ⟨gg, 0, none⟩) (j + 1) cap)) (fun j => m (i + j)) (fun j => ln (i + j)) (j + 1) (.slice (some ⟨gg, 0, none⟩) (j + 1) cap) (fun t => if t = j then .slice (some ⟨g6, 0, none⟩) mj c6 else v t) :=
                ⟨own_far F7.row k7 (by decide) _ _, fun t ht => own_far (F7.lines t ht) k7 (by decide) _ _⟩
              have b8 : Below gs w2 (w1.setCell ⟨gs, 0, none⟩ (.slice (some ⟨gg, 0, none⟩) (j + 1) cap)) := b7.setCell (Nat.le_refl _) _
              have B8 := Lib.hid b8; have K8 := Lib.hid k8; have FF8 := Lib.hid F8
              clear b7 k7 hown1 hgrow x1 x2 x5 own7 k6 b6 hat F6 F7 b8 k8 F8
              go_wp2
              go_roundw
              case rel => exact ⟨j + 1, by omega, by go_num, B8.out, _, K8.out, _, FF8.out⟩
              case measure => simp [intOf]; omega
          · obtain rfl : j = 5 := by omega
            clear q2
            have S4 := S2.below (hgs ▸ b4)
            have b24 : Below w.heap.size w wr := b2.trans (b4.mono z2)
            have zz := b24.size
            go_wp2_with (at_builtin; refine wpList_append_own _ rfl (.tmp 41) (.tmp 43) 45 rfl w.heap.size 40 s0 (.agg #[.slice none 0 0]) 1 24 Tryz.underlying45 hs0 hsz0 hsz1 hsz2 rfl (by decide) _ _ _ rfl (S4.row.alloc _) ⟨wr.heap.size, 0, none⟩ 1 1 [.slice A8 5 c8] rfl rfl ?c1 ?c2 ?c3 ?c4 ?c5 ?_)
            try case c1 => exact cell_one_new _ _ _
            try case c2 => simp [Value.oneCell']
            try case c3 => unfold maxLen; omega
            try case c4 => omega
            try case c5 => first | omega | (simp; done) | (simp; omega)
            intro v' w7 own7 hg7 _
            have b7 : Below w.heap.size w w7 := (b24.alloc zz (.cells #[.slice A8 5 c8] 40)).grown hg7 (by simp; omega) (fun k hk => (own_ge S4.row hk).1)
            have S7 := (S4.below ((Below.refl _ _).alloc (Nat.le_refl _) (.cells #[.slice A8 5 c8] 40))).snoc (i := i) ((F4.base z2).alloc _) hg7 own7
            obtain ⟨A9, c9, rfl, -, -⟩ := own_arr own7
            clear own7 hg7 S4 F4 b4 k4
            go_wp2
            go_roundw
            case rel => exact ⟨b7, i + 5, st ++ [i], _, by omega, by go_num, by simpa using S7, by simp; omega, by rw [HST.out, hst.out, List.append_assoc]; rfl⟩
            case measure => simp [intOf]; omega
    · have i5' : (i : Int) + 5 > (K : Int) := by omega
      have u1 : IntKind.i64.wrap ((i : Int) + 5) = (i : Int) + 5 := IntWalk.i64_in _ (by omega)
      go_wp2_with fail
      try rw [Exit.noGoto_ret]
      go_ret
      refine ⟨_, rfl, ⟨vs, ?_⟩, b1⟩
      rw [HST.out, stS_few (by omega), List.append_nil]
      exact hS
end Go.Proofs.YtdimlpcbbkokiaaGreat

/- Walk: the reference's test of five lines (custosref03.group). -/
namespace Go.Proofs.YtdimlpcbbkokiaaGreat
open Go.RowKit Go.Shelf
set_option linter.unusedVariables false
attribute [local go_sem] Oper.semAt_some

theorem minA_le {q : Int → Int} (n : Nat) (i : Nat) (h : i ≤ n) : minA q n ≤ q i := by
  induction n with
  | zero => obtain rfl : i = 0 := by omega
            exact Int.le_refl _
  | succ n ih =>
    rw [minA]
    by_cases e : i = n + 1
    · subst e; rw [show ((n + 1 : Nat) : Int) = (n : Int) + 1 by omega]; split <;> omega
    · have := ih (by omega); split <;> omega
theorem minA_is {q : Int → Int} (n : Nat) : ∃ i : Nat, i ≤ n ∧ minA q n = q i := by
  induction n with
  | zero => exact ⟨0, Nat.le_refl _, rfl⟩
  | succ n ih =>
    rw [minA]
    split
    · exact ⟨n + 1, Nat.le_refl _, by rw [show ((n + 1 : Nat) : Int) = (n : Int) + 1 by omega]⟩
    · obtain ⟨i, hi, e⟩ := ih; exact ⟨i, by omega, e⟩
theorem maxA_ge {q : Int → Int} (n : Nat) (i : Nat) (h : i ≤ n) : q i ≤ maxA q n := by
  induction n with
  | zero => obtain rfl : i = 0 := by omega
            exact Int.le_refl _
  | succ n ih =>
    rw [maxA]
    by_cases e : i = n + 1
    · subst e; rw [show ((n + 1 : Nat) : Int) = (n : Int) + 1 by omega]; split <;> omega
    · have := ih (by omega); split <;> omega
theorem maxA_is {q : Int → Int} (n : Nat) : ∃ i : Nat, i ≤ n ∧ maxA q n = q i := by
  induction n with
  | zero => exact ⟨0, Nat.le_refl _, rfl⟩
  | succ n ih =>
    rw [maxA]
    split
    · exact ⟨n + 1, Nat.le_refl _, by rw [show ((n + 1 : Nat) : Int) = (n : Int) + 1 by omega]⟩
    · obtain ⟨i, hi, e⟩ := ih; exact ⟨i, by omega, e⟩
/-- the gaps are alike, each tested against each -/
theorem evenV_iff {ln : Nat → Nat → Int} {n : Nat} : evenV ln n = true ↔ ∀ i, i < 8 → (2 ≤ gapF ln n i ∧ gapF ln n i ≤ 64) ∧ ∀ k, k < 8 → gapF ln n i - gapF ln n k ≤ 2 := by
  unfold evenV
  rw [decide_eq_true_iff]
  obtain ⟨a, ha, ea⟩ := minA_is (q := fun j => gapF ln n j.toNat) 7
  obtain ⟨b, hb, eb⟩ := maxA_is (q := fun j => gapF ln n j.toNat) 7
  have h1 := fun i (hi : i ≤ 7) => minA_le (q := fun j => gapF ln n j.toNat) 7 i hi
  have h2 := fun i (hi : i ≤ 7) => maxA_ge (q := fun j => gapF ln n j.toNat) 7 i hi
  simp only [Int.toNat_natCast] at ea eb h1 h2
  constructor
  · intro h i hi
    have := h1 i (by omega)
    have := h2 i (by omega)
    exact ⟨by omega, fun k hk => by have := h1 k (by omega); omega⟩
  · intro h
    have := h a (by omega)
    have := h b (by omega)
    have := (h b (by omega)).2 a (by omega)
    omega
theorem gap_snoc1 (ln : Nat → Nat → Int) (m i : Nat) : (List.range (2 * i + 1)).map (fun j => Value.int .i64 (gapF ln m j)) = (List.range (2 * i)).map (fun j => Value.int .i64 (gapF ln m j)) ++ [.int .i64 (ln (i + 1) 0 - ln i 0)] := by
  rw [range_snoc]
  have e1 : gapF ln m (2 * i) = ln (i + 1) 0 - ln i 0 := by unfold gapF; rw [if_pos (by omega), show 2 * i / 2 = i by omega]
  rw [e1]
theorem gap_snoc2 (ln : Nat → Nat → Int) (m i : Nat) : (List.range (2 * (i + 1))).map (fun j => Value.int .i64 (gapF ln m j)) = (List.range (2 * i + 1)).map (fun j => Value.int .i64 (gapF ln m j)) ++ [.int .i64 (ln (i + 1) (m - 1) - ln i (m - 1))] := by
  rw [show 2 * (i + 1) = 2 * i + 1 + 1 by omega, range_snoc]
  have e2 : gapF ln m (2 * i + 1) = ln (i + 1) (m - 1) - ln i (m - 1) := by unfold gapF; rw [if_neg (by omega), show (2 * i + 1) / 2 = i by omega]
  rw [e2]

set_option maxRecDepth 100000 in
set_option maxHeartbeats 4000000 in
theorem group_any (A : Option Addr) (c : Nat) (m : Nat → Nat) (ln : Nat → Nat → Int) (w : World) (hL : Lines w w.heap.size A 5 m ln) (hm : ∀ i, i < 5 → m i ≤ 1000000) (hb : ∀ i j, i < 5 → j < m i → -1099511627776 ≤ ln i j ∧ ln i j ≤ 1099511627776) :
    Calls Tryz.prog 77 #[.slice A 5 c] w fun e w' => e = .returned (.bool (evenB m ln)) ∧ Below w.heap.size w w' := by
  obtain ⟨i0, hi0, hz0', hz1, hz2⟩ := info_parts infoInt
  have HL := Lib.hid hL
  have EV0 : Hid (∀ i, i < 5 → ¬ (0 < m i ∧ m i = m 0) → evenB m ln = false) := by
    show ∀ _, _
    intro i hi hn
    unfold evenB
    rw [Bool.and_eq_false_iff]
    left
    rw [List.all_eq_false]
    exact ⟨i, List.mem_range.2 hi, by simpa using hn⟩
  have EV1 : Hid ((∀ i, i < 5 → 0 < m i ∧ m i = m 0) → evenB m ln = evenV ln (m 0)) := by
    show _ → _
    intro h
    unfold evenB
    rw [show ((List.range 5).all fun i => decide (0 < m i ∧ m i = m 0)) = true from List.all_eq_true.2 fun i hi => decide_eq_true (h i (List.mem_range.1 hi)), Bool.true_and]
  obtain ⟨b, off, A0, c0, rfl, hbB, h0, ha0⟩ := hL.at_ (i := 0) (by omega)
  rw [Nat.add_zero] at h0
  have HM := Lib.hid hm; have HB := Lib.hid hb
  clear hL hm hb ha0
  have M0 := HM.out 0 (by omega)
  generalize hm0 : m 0 = m0 at *
  have HM0 := Lib.hid hm0
  by_cases mz : m0 = 0
  · have E : Hid (evenB m ln = false) := by show _ = _; exact EV0.out 0 (by omega) (by rw [hm0]; omega)
    subst mz
    clear hm0
    go_enter Tryz.func77, Tryz.ntmps77
    go_wp2
    go_ret
    exact ⟨ret_bool E.out.symm, Below.refl _ _⟩
  · have mz' : ((m0 : Int) == 0) = false := by simp; omega
    clear hm0
    go_enter Tryz.func77, Tryz.ntmps77
    go_wp2
    go_loopw [4, 5] (fun vo s wr => ∃ i : Nat, i ≤ 5 ∧ s = .int .i64 i ∧ (∀ j, j < i → 0 < m j ∧ m j = m0) ∧ wr.ownsRow w.heap.size 3 1 vo (2 * (i - 1)) ((List.range (2 * (i - 1))).map fun j => Value.int .i64 (gapF ln m0 j)) ∧ Below w.heap.size w wr) (fun _ s _ => 5 - (intOf s).toNat)
    case atStart => exact ⟨0, by omega, rfl, fun j hj => by omega, World.ownsRow_nil _ _ _ _, Below.refl _ _⟩
    case round =>
      obtain ⟨i, hi, rfl, hg, hown, b1⟩ := hrel
      clear h0
      by_cases hlt : (i : Int) < 5
      · obtain ⟨b2, off2, A2, c2, e2, -, hc2, ha2⟩ := HL.out.at_ (i := i) (by omega)
        cases e2
        have HC2 := Lib.hid hc2
        replace hc2 := (b1.cell (p := ⟨b, off + i, none⟩) hbB).trans hc2
        have MI := HM.out i (by omega)
        obtain ⟨mi, hmi⟩ : ∃ mi, m i = mi := ⟨_, rfl⟩
        rw [hmi] at hc2 ha2 MI HC2
        have HMI := Lib.hid hmi
        clear hmi
        by_cases hzm : mi = m0
        · subst hzm
          have g1 : ∀ j, j < i + 1 → 0 < m j ∧ m j = mi := fun j hj => by
            rcases Nat.lt_succ_iff_lt_or_eq.1 hj with h | rfl
            · exact hg j h
            · exact ⟨by rw [HMI.out]; omega, HMI.out⟩
          have G1 := Lib.hid g1
          clear g1
          have bne : ((mi : Int) != (mi : Int)) = false := by simp
          by_cases hi0' : i = 0
          · have d0 : decide ((0 : Int) < (i : Int)) = false := decide_eq_false (by omega)
            have d0' : decide (0 < i) = false := decide_eq_false (by omega)
            have HI0 := Lib.hid hi0'
            clear ha2 hg hi0'
            go_wp2
            go_roundw
            case rel => exact ⟨i + 1, by omega, by go_num, G1.out, by rw [show i + 1 - 1 = i - 1 by have := HI0.out; omega]; exact hown, b1⟩
            case measure => simp [intOf]; omega
          · obtain ⟨k, hk⟩ : ∃ k, i = k + 1 := ⟨i - 1, by omega⟩
            obtain ⟨b4, off4, A4, c4, e4, -, hc4, ha4⟩ := HL.out.at_ (i := k) (by omega)
            cases e4
            rw [(hg k (by omega)).2] at hc4 ha4
            have HC4 := Lib.hid hc4
            replace hc4 := (b1.cell (p := ⟨b, off + k, none⟩) hbB).trans hc4
            obtain ⟨b3, off3, rfl, hb3, hc3⟩ := ArrI.fn ha2 (by omega)
            obtain ⟨b5, off5, rfl, hb5, hc5⟩ := ArrI.fn ha4 (by omega)
            have x1 := hc3 0 (by omega) (by omega)
            have x2 := hc3 ((mi : Int) - 1) (by omega) (by omega)
            have x3 := hc5 0 (by omega) (by omega)
            have x4 := hc5 ((mi : Int) - 1) (by omega) (by omega)
            rw [show ((mi : Int) - 1).toNat = mi - 1 by omega] at x2 x4
            simp only [Int.toNat_zero, Nat.add_zero] at x1 x3
            have X2 := Lib.hid x2; have X4 := Lib.hid x4
            clear x2 x4
            replace x1 := (b1.cell (p := ⟨b3, off3, none⟩) hb3).trans x1
            replace x3 := (b1.cell (p := ⟨b5, off5, none⟩) hb5).trans x3
            obtain ⟨y1, y2⟩ := HB.out i 0 (by omega) (by rw [HMI.out]; omega)
            obtain ⟨y3, y4⟩ := HB.out i (mi - 1) (by omega) (by rw [HMI.out]; omega)
            obtain ⟨y5, y6⟩ := HB.out k 0 (by omega) (by have := hg k (by omega); omega)
            obtain ⟨y7, y8⟩ := HB.out k (mi - 1) (by omega) (by have := hg k (by omega); omega)
            have GS1 := Lib.hid (gap_snoc1 ln mi k)
            have GS2 := Lib.hid (gap_snoc2 ln mi k)
            rw [← hk] at GS1 GS2
            rw [show i - 1 = k by omega] at hown
            have HK := Lib.hid hk
            generalize ln i 0 = a1 at *
            generalize ln i (mi - 1) = a2 at *
            generalize ln k 0 = a3 at *
            generalize ln k (mi - 1) = a4 at *
            have v1 : IntKind.i64.wrap (a1 - a3) = a1 - a3 := IntWalk.i64_in _ (by omega)
            have v2 : IntKind.i64.wrap (a2 - a4) = a2 - a4 := IntWalk.i64_in _ (by omega)
            have v3 : IntKind.i64.wrap ((mi : Int) - 1) = (mi : Int) - 1 := IntWalk.i64_in _ (by omega)
            have v4 : IntKind.i64.wrap ((i : Int) - 1) = (k : Int) := by rw [show (i : Int) - 1 = k by omega]; exact IntWalk.i64_in _ (by omega)
            have o3 : u4.ownBlock ≠ some b3 := fun e => by have := own_ge hown e; omega
            have o5 : u4.ownBlock ≠ some b5 := fun e => by have := own_ge hown e; omega
            have ob : u4.ownBlock ≠ some b := fun e => by have := own_ge hown e; omega
            have n3 := World.new_ne wr _ x1; have n5 := World.new_ne wr _ x3; have nb := World.new_ne wr _ hc2
            have z1 := b1.size
            have j1 : (0 : Int) < (mi : Int) := by omega
            have j2 : (mi : Int) - 1 < (mi : Int) := by omega
            have j3 : (0 : Int) ≤ (mi : Int) - 1 := by omega
            have j4 : 0 < mi := by omega
            have j5 : (1 : Int) ≤ (mi : Int) := by omega
            have j6 : 1 ≤ mi := by omega
            have i1 : (0 : Int) < (i : Int) := by omega
            have d0 : decide ((0 : Int) < (i : Int)) = true := decide_eq_true i1
            have i2 : (k : Int) < 5 := by omega
            have i3 : (0 : Int) ≤ (k : Int) := by omega
            have i4 : 0 < i := by omega
            clear hc3 hc5 ha2 ha4 hg hk hi0'
            go_wp2_with fail
            go_region_held3 (fun w' => w'.cell? ⟨b, off + i, none⟩ = some (.slice (some ⟨b3, off3, none⟩) mi c2) ∧ w'.cell? ⟨b, off + k, none⟩ = some (.slice (some ⟨b5, off5, none⟩) mi c4) ∧ w'.cell? ⟨b3, off3, none⟩ = some (.int .i64 a1) ∧ w'.cell? ⟨b5, off5, none⟩ = some (.int .i64 a3))
              (first
                | (simp [go_sem, *]; done)
                | (go_keep; done)
                | (refine ⟨?_, ?_, ?_, ?_⟩
                   · (rw [hgrow.cell_far _ (by simp; omega) (Ne.symm ob)]; first | assumption | (go_keep; done) | (simp [go_sem, *]; done))
                   · (rw [hgrow.cell_far _ (by simp; omega) (Ne.symm ob)]; first | assumption | (go_keep; done) | (simp [go_sem, *]; done))
                   · (rw [hgrow.cell_far _ (by simp; omega) (Ne.symm o3)]; first | assumption | (go_keep; done) | (simp [go_sem, *]; done))
                   · (rw [hgrow.cell_far _ (by simp; omega) (Ne.symm o5)]; first | assumption | (go_keep; done) | (simp [go_sem, *]; done))))
              ((refine step_append_lies _ (by rfl) _ _ _ (by rfl) w.heap.size 3 i0 (.int .i64 0) 1 8 Tryz.underlying37 hi0 hz0' hz1 hz2 rfl (by omega) u4 _ _ (by rfl) ((hown.alloc _).drew) ⟨wr.heap.size, 0, none⟩ 1 1 [.int .i64 (a1 - a3)] (by rfl) (by rfl) (World.news_of_block (cs := #[.int .i64 (a1 - a3)]) (t := 3) (fr := (0, 0)) (heap_alloc_new wr _)) (by simp [Value.oneCell']) (by omega) (by unfold maxLen; omega) (by omega) (by simp; omega) (wr.heap.size + 1) (by simp) ?_; intro gg cap w1 hown1 hgrow hat hlt1))
            have b9 : Below w.heap.size w w1 := (show Below w.heap.size w (wr.alloc (.cells #[.int .i64 (a1 - a3)] 3)).drew from (b1.alloc b1.size _).drew).grown hgrow (by simp; omega) (fun j hj => (own_ge hown hj).1)
            rw [← GS1.out] at hown1
            have q1 := (b9.cell (p := ⟨b, off + i, none⟩) hbB).trans HC2.out
            have q2 := (b9.cell (p := ⟨b, off + k, none⟩) hbB).trans HC4.out
            have q3 := (b9.cell (p := ⟨b3, off3 + (mi - 1), none⟩) hb3).trans X2.out
            have q4 := (b9.cell (p := ⟨b5, off5 + (mi - 1), none⟩) hb5).trans X4.out
            have m3 := World.new_ne w1 _ q3; have m5 := World.new_ne w1 _ q4; have mb := World.new_ne w1 _ q1
            have p3 : (Value.slice (some ⟨gg, 0, none⟩) (2 * k + 1) cap).ownBlock ≠ some b3 := fun e => by have := own_ge hown1 e; omega
            have p5 : (Value.slice (some ⟨gg, 0, none⟩) (2 * k + 1) cap).ownBlock ≠ some b5 := fun e => by have := own_ge hown1 e; omega
            have pb : (Value.slice (some ⟨gg, 0, none⟩) (2 * k + 1) cap).ownBlock ≠ some b := fun e => by have := own_ge hown1 e; omega
            have z9 := b9.size
            clear hown hgrow b1 hat x1 x3 hc2 hc4 n3 n5 nb o3 o5 ob v1
            go_wp2_with fail
            go_region_held3 (fun w' => w'.cell? ⟨b, off + i, none⟩ = some (.slice (some ⟨b3, off3, none⟩) mi c2) ∧ w'.cell? ⟨b, off + k, none⟩ = some (.slice (some ⟨b5, off5, none⟩) mi c4) ∧ w'.cell? ⟨b3, off3 + (mi - 1), none⟩ = some (.int .i64 a2) ∧ w'.cell? ⟨b5, off5 + (mi - 1), none⟩ = some (.int .i64 a4))
              (first
                | (simp [go_sem, *]; done)
                | (go_keep; done)
                | (refine ⟨?_, ?_, ?_, ?_⟩
                   · (rw [hgrow.cell_far _ (by simp; omega) (Ne.symm pb)]; first | assumption | (go_keep; done) | (simp [go_sem, *]; done))
                   · (rw [hgrow.cell_far _ (by simp; omega) (Ne.symm pb)]; first | assumption | (go_keep; done) | (simp [go_sem, *]; done))
                   · (rw [hgrow.cell_far _ (by simp; omega) (Ne.symm p3)]; first | assumption | (go_keep; done) | (simp [go_sem, *]; done))
                   · (rw [hgrow.cell_far _ (by simp; omega) (Ne.symm p5)]; first | assumption | (go_keep; done) | (simp [go_sem, *]; done))))
              ((refine step_append_lies _ (by rfl) _ _ _ (by rfl) w.heap.size 3 i0 (.int .i64 0) 1 8 Tryz.underlying37 hi0 hz0' hz1 hz2 rfl (by omega) (.slice (some ⟨gg, 0, none⟩) (2 * k + 1) cap) _ _ (by rfl) ((hown1.alloc _).drew) ⟨w1.heap.size, 0, none⟩ 1 1 [.int .i64 (a2 - a4)] (by rfl) (by rfl) (World.news_of_block (cs := #[.int .i64 (a2 - a4)]) (t := 3) (fr := (0, 0)) (heap_alloc_new w1 _)) (by simp [Value.oneCell']) (by omega) (by unfold maxLen; omega) (by omega) (by simp; omega) (w1.heap.size + 1) (by simp) ?_; intro gg2 cap2 w2 hown2 hgrow hat2 hlt2))
            all_goals
              have b10 : Below w.heap.size w w2 := (show Below w.heap.size w (w1.alloc (.cells #[.int .i64 (a2 - a4)] 3)).drew from (b9.alloc b9.size _).drew).grown hgrow (by simp; omega) (fun j hj => (own_ge hown1 hj).1)
              have B10 := Lib.hid b10
              have HO2 := Lib.hid hown2
              clear hown1 hgrow b9 hat2 q1 q2 q3 q4 b10 hown2
              go_wp2
              go_roundw
              case rel => exact ⟨i + 1, by omega, by go_num, G1.out, by (have e := HK.out; have h2 := GS2.out; rw [show 2 * i = 2 * k + 1 + 1 by omega] at h2; rw [show 2 * (i + 1 - 1) = 2 * k + 1 + 1 by omega, h2]; exact HO2.out), B10.out⟩
              case measure => simp [intOf]; omega
        · have E : Hid (evenB m ln = false) := by show _ = _; exact EV0.out i (by omega) (by rw [HMI.out]; omega)
          have hzm' : ((mi : Int) != (m0 : Int)) = true := by simp; omega
          clear hown ha2 hzm
          go_wp2
          go_ret
          exact ⟨ret_bool E.out.symm, b1⟩
      · obtain rfl : i = 5 := by omega
        change wr.ownsRow _ _ 1 u4 8 ((List.range 8).map _) at hown
        obtain ⟨A8, c8, rfl, ha8⟩ := own_arrI hown
        have E := Lib.hid (EV1.out hg)
        have GB : ∀ j : Nat, j < 8 → -2199023255552 ≤ gapF ln m0 j ∧ gapF ln m0 j ≤ 2199023255552 := fun j j1 => by
          have q1 := hg (j / 2) (by omega)
          have q2 := hg (j / 2 + 1) (by omega)
          have q3 := HB.out (j / 2) 0 (by omega) (by omega)
          have q4 := HB.out (j / 2 + 1) 0 (by omega) (by omega)
          have q5 := HB.out (j / 2) (m0 - 1) (by omega) (by omega)
          have q6 := HB.out (j / 2 + 1) (m0 - 1) (by omega) (by omega)
          unfold gapF
          split <;> omega
        have HGB := Lib.hid GB
        clear GB hg hown
        obtain ⟨b8, o8, rfl, hb8, hc8⟩ := ArrI.fn ha8 (by omega)
        have HC8 := Lib.hid fun (j : Nat) (hj : (j : Int) < 8) => hc8 j (by omega) (by omega)
        clear hc8 ha8
        go_wp2_with fail
        generalize wr = w5 at *
        go_loopw [6] (fun s wr => ∃ i : Nat, i ≤ 8 ∧ s = .int .i64 i ∧ (∀ j, j < i → (2 ≤ gapF ln m0 j ∧ gapF ln m0 j ≤ 64) ∧ ∀ k, k < 8 → gapF ln m0 j - gapF ln m0 k ≤ 2) ∧ ∃ nn, wr = w5.drewN nn) (fun s _ => 8 - (intOf s).toNat)
        case atStart => exact ⟨0, by omega, rfl, fun j hj => by omega, 0, rfl⟩
        case round =>
          obtain ⟨i, hi, rfl, hal, nn, hwr⟩ := hrel
          have HAL := Lib.hid hal
          have HC9 : Hid (∀ j : Nat, (j : Int) < 8 → wr.cell? ⟨b8, o8 + j, none⟩ = some (.int .i64 (gapF ln m0 j))) := by
            show ∀ _, _
            intro j hj
            have := HC8.out j hj
            rw [Int.toNat_natCast] at this
            rw [hwr]; exact this
          have HWR := Lib.hid hwr
          clear hwr hal
          by_cases il : (i : Int) < 8
          · have ci := HC9.out i il
            obtain ⟨gi1, gi2⟩ := HGB.out i (by omega)
            by_cases hlo : gapF ln m0 i < 2
            · have F : Hid (evenB m ln = false) := by show _ = _; rw [E.out]; exact Bool.eq_false_iff.2 fun h => by have := (evenV_iff.1 h) i (by omega); omega
              generalize gapF ln m0 i = gi at *
              go_wp2
              go_ret
              exact ⟨ret_bool F.out.symm, by rw [HWR.out]; exact below_drewN b1 _⟩
            by_cases hhi : 64 < gapF ln m0 i
            · have F : Hid (evenB m ln = false) := by show _ = _; rw [E.out]; exact Bool.eq_false_iff.2 fun h => by have := (evenV_iff.1 h) i (by omega); omega
              generalize gapF ln m0 i = gi at *
              go_wp2
              go_ret
              exact ⟨ret_bool F.out.symm, by rw [HWR.out]; exact below_drewN b1 _⟩
            have GI := Lib.hid (rfl : gapF ln m0 i = gapF ln m0 i)
            obtain ⟨gi, hgi⟩ : ∃ gi, gapF ln m0 i = gi := ⟨_, rfl⟩
            have HGI := Lib.hid hgi
            rw [hgi] at ci hlo hhi gi1 gi2
            clear hgi GI
            go_wp2_with fail
            generalize wr = w6 at *
            go_loopw [7] (fun s wr => ∃ k : Nat, k ≤ 8 ∧ s = .int .i64 k ∧ (∀ j, j < k → gi - gapF ln m0 j ≤ 2) ∧ ∃ nn, wr = w6.drewN nn) (fun s _ => 8 - (intOf s).toNat)
            case atStart => exact ⟨0, by omega, rfl, fun j hj => by omega, 0, rfl⟩
            case round =>
              obtain ⟨k, hk, rfl, hak, n2, hwr2⟩ := hrel
              have HAK := Lib.hid hak
              have HWR2 := Lib.hid hwr2
              by_cases kl : (k : Int) < 8
              · have ck : wr.cell? ⟨b8, o8 + k, none⟩ = some (.int .i64 (gapF ln m0 k)) := by rw [hwr2]; exact HC9.out k kl
                have ci2 : wr.cell? ⟨b8, o8 + i, none⟩ = some (.int .i64 gi) := by rw [hwr2]; exact ci
                clear hwr2 hak
                obtain ⟨gk1, gk2⟩ := HGB.out k (by omega)
                obtain ⟨gk, hgk⟩ : ∃ gk, gapF ln m0 k = gk := ⟨_, rfl⟩
                have HGK := Lib.hid hgk
                rw [hgk] at ck gk1 gk2
                clear hgk
                have v1 : IntKind.i64.wrap (gi - gk) = gi - gk := IntWalk.i64_in _ (by omega)
                by_cases hd : gi - gk ≤ 2
                · have dd : decide (2 < gi - gk) = false := decide_eq_false (by omega)
                  go_wp2_with fail
                  go_quiet (fail)
                  go_wp2
                  go_roundw
                  case rel =>
                    refine ⟨k + 1, by omega, by go_num, fun j hj => ?_, _, by rw [HWR2.out]; exact World.drewN_drewN _ _ _⟩
                    rcases Nat.lt_succ_iff_lt_or_eq.1 hj with h | rfl
                    · exact HAK.out j h
                    · rw [HGK.out]; omega
                  case measure => simp [intOf]; omega
                · have dd : decide (2 < gi - gk) = true := decide_eq_true (by omega)
                  have F : Hid (evenB m ln = false) := by
                    show _ = _
                    rw [E.out]
                    exact Bool.eq_false_iff.2 fun h => by
                      have := ((evenV_iff.1 h) i (by omega)).2 k (by omega)
                      rw [HGI.out, HGK.out] at this; omega
                  go_wp2_with fail
                  go_quiet (fail)
                  go_wp2
                  go_ret
                  exact ⟨ret_bool F.out.symm, by rw [HWR2.out, HWR.out]; exact below_drewN (below_drewN (below_drewN b1 _) _) _⟩
              · obtain rfl : k = 8 := by omega
                clear hak hwr2
                go_wp2_with fail
                go_roundw
                case rel =>
                  refine ⟨i + 1, by omega, by go_num, fun j hj => ?_, _, by rw [HWR2.out, HWR.out]; exact World.drewN_drewN _ _ _⟩
                  rcases Nat.lt_succ_iff_lt_or_eq.1 hj with h | rfl
                  · exact HAL.out j h
                  · rw [HGI.out]; exact ⟨by omega, HAK.out⟩
                case measure => simp [intOf]; omega
          · obtain rfl : i = 8 := by omega
            have F : Hid (evenB m ln = true) := by show _ = _; rw [E.out]; exact evenV_iff.2 HAL.out
            go_wp2
            go_ret
            exact ⟨ret_bool F.out.symm, by rw [HWR.out]; exact below_drewN b1 _⟩
end Go.Proofs.YtdimlpcbbkokiaaGreat

/- Walk: the reference's staves of any lines (custosref03.Staves), by recursion. -/
namespace Go.Proofs.YtdimlpcbbkokiaaGreat
open Go.RowKit Go.Shelf
set_option linter.unusedVariables false
attribute [local go_sem] Oper.semAt_some

theorem addr_add (b off i : Nat) : (⟨b, off, none⟩ : Addr).add i = ⟨b, off + i, none⟩ := by
  unfold Addr.add; split
  · rename_i e; rw [e]; rfl
  · rfl
theorem LinesZ.sub {w : World} {B b off K i n : Nat} {m : Nat → Nat} {ln : Nat → Nat → Int} (h : LinesZ w B (some ⟨b, off, none⟩) K m ln) (hi : i + n ≤ K) : LinesZ w B (some ⟨b, off + i, none⟩) n (fun j => m (i + j)) (fun j => ln (i + j)) := by
  obtain ⟨vs, h1, h2⟩ := h
  refine ⟨fun j => vs (i + j), fun hn => ?_, fun j hj => h2 (i + j) (by omega)⟩
  obtain ⟨b', off', e, hb, hc⟩ := h1 (by omega)
  cases e
  refine ⟨b, off + i, rfl, hb, fun j j0 j1 => ?_⟩
  have := hc ((i : Int) + j) (by omega) (by omega)
  rw [show ((i : Int) + j).toNat = i + j.toNat by omega] at this
  rw [Nat.add_assoc]
  refine this.trans ?_
  show some (vs ((i : Int) + j).toNat) = some (vs (i + j.toNat))
  rw [show ((i : Int) + j).toNat = i + j.toNat by omega]
theorem LinesZ.none {w : World} {B : Nat} (A : Option Addr) (m : Nat → Nat) (ln : Nat → Nat → Int) : LinesZ w B A 0 m ln := ⟨fun _ => default, Arr.nil, fun i hi => by omega⟩
theorem LinesZ.shift {w : World} {B K i j : Nat} {A : Option Addr} {m : Nat → Nat} {ln : Nat → Nat → Int} (h : LinesZ w B A K (fun t => m (i + (j + t))) (fun t => ln (i + (j + t)))) : LinesZ w B A K (fun t => m (i + j + t)) (fun t => ln (i + j + t)) := by
  simpa only [Nat.add_assoc] using h
theorem StOut.cons {B : Nat} {w w' : World} {m : Nat → Nat} {ln : Nat → Nat → Int} {st : List Nat} {i : Nat} {vr vo' vq u : Value} {vs vu : Nat → Value} {n : Nat} {xs : List Value} (h : StOut B w m ln st vr vs) (hu : FoundM B w (fun j => m (i + j)) (fun j => ln (i + j)) 5 u vu)
    (hq : w.ownsRow B 40 1 vq n xs) (hg : w.grownBy w' vq.ownBlock) (hr : w'.ownsRow B 40 1 vo' (1 + st.length) ([u] ++ (List.range st.length).map vs)) : StOut B w' m ln (i :: st) vo' (fun t => match t with | 0 => u | t + 1 => vs t) := by
  refine ⟨?_, fun t ht => ?_⟩
  · rw [List.length_cons, List.range_succ_eq_map, List.map_cons, List.map_map, Nat.add_comm]
    exact hr
  · cases t with
    | zero => exact ⟨vu, hu.grownBlk hq hg⟩
    | succ t =>
      obtain ⟨v, hv⟩ := h.each t (by simpa using ht)
      exact ⟨v, hv.grownBlk hq hg⟩

set_option maxRecDepth 100000 in
set_option maxHeartbeats 4000000 in
theorem rstaves_ind (K : Nat) (m : Nat → Nat) (ln : Nat → Nat → Int) (hK : K ≤ 1000) (hm : ∀ i, i < K → m i ≤ 1000000) (hb : ∀ i j, i < K → j < m i → -1099511627776 ≤ ln i j ∧ ln i j ≤ 1099511627776) (n : Nat) :
    ∀ (i : Nat) (A : Option Addr) (c : Nat) (w : World), i + n = K → n ≤ c → c ≤ 9223372036854775807 → LinesZ w w.heap.size A n (fun j => m (i + j)) (fun j => ln (i + j)) →
    Calls Tryz.prog 35 #[.slice A n c] w (New w fun v w' => ∃ vs, StOut w.heap.size w' m ln (stS (eB m ln) n i) v vs) := by
  induction n using Nat.strongRecOn with
  | _ n ih =>
  intro i A c w hi hc hcm hL
  by_cases h5 : n < 5
  · have h5' : (n : Int) < 5 := by omega
    have HS := Lib.hid (stS_few (e := eB m ln) (i := i) h5)
    clear ih
    go_enter Tryz.func35, Tryz.ntmps35
    go_wp2
    go_ret
    exact ⟨_, rfl, ⟨fun _ => default, by rw [HS.out]; exact StOut.nil _ _ _ _ _⟩, Below.refl _ _⟩
  · obtain ⟨b, off, A0, c0, rfl, hbB, -, -, -⟩ := hL.at_ (i := 0) (by omega)
    have h5' : ¬ (n : Int) < 5 := by omega
    have h5c : (5 : Int) ≤ (c : Int) := by omega
    have h5d : 5 ≤ c := by omega
    have h5e : 5 ≤ n := by omega
    have GR := Lib.hid fun c' w' hL' => group_any (some ⟨b, off, none⟩) c' (fun j => m (i + j)) (fun j => ln (i + j)) w' hL' (fun j hj => hm (i + j) (by omega)) (fun j t hj ht => hb (i + j) t (by omega) ht)
    have L5 : LinesZ w w.heap.size (some ⟨b, off, none⟩) 5 (fun j => m (i + j)) (fun j => ln (i + j)) := by
      have := hL.sub (i := 0) (n := 5) (by omega)
      simpa using this
    cases hev : eB m ln i with
    | false =>
      have IH := Lib.hid fun w' hL' => ih (n - 1) (by omega) (i + 1) (some ⟨b, off + 1, none⟩) (c - 1) w' (by omega) (by omega) (by omega) hL'
      have LN' : LinesZ w w.heap.size (some ⟨b, off + 1, none⟩) (n - 1) (fun j => m (i + 1 + j)) (fun j => ln (i + 1 + j)) := (hL.sub (i := 1) (n := n - 1) (by omega)).shift
      have HS := Lib.hid (stS_no (e := eB m ln) (i := i) h5e hev)
      rw [show evenB (fun j => m (i + j)) (fun j => ln (i + j)) = false from hev] at GR
      clear ih hev hm hb
      go_enter Tryz.func35, Tryz.ntmps35
      go_wp2_with fail
      refine (GR.out _ _ L5.lines).mono ?_
      rintro e w1 ⟨rfl, hb1⟩
      go_wp2_with fail
      refine (IH.out _ (LN'.below hb1)).mono ?_
      rintro e w2 ⟨v, rfl, ⟨vs, hS⟩, hb2⟩
      have b2 : Below w.heap.size w w2 := below_call hb1 hb1.size hb2
      have z1 := hb1.size
      go_wp2
      go_ret
      exact ⟨_, rfl, ⟨vs, by rw [HS.out]; exact hS.base z1⟩, b2⟩
    | true =>
      have IH := Lib.hid fun A' c' w' hc1 hc2 hL' => ih (n - 5) (by omega) (i + 5) A' c' w' (by omega) hc1 hc2 hL'
      have LN' : LinesZ w w.heap.size (some ⟨b, off + 5, none⟩) (n - 5) (fun j => m (i + 5 + j)) (fun j => ln (i + 5 + j)) := (hL.sub (i := 5) (n := n - 5) (by omega)).shift
      by_cases hc5 : c = 5
      · obtain rfl : n = 5 := by omega
        subst hc5
        have CL := Lib.hid fun c' w' hL' => copyLists_any (some ⟨b, off, none⟩) 5 c' (fun j => m (i + j)) (fun j => ln (i + j)) w' hL' (by omega) (fun j hj => by have := hm (i + j) (by omega); omega)
        have HS := Lib.hid (stS_yes (e := eB m ln) (i := i) h5e hev)
        obtain ⟨s0, hs0, hsz0, hsz1, hsz2⟩ := info_parts infoLines
        rw [show evenB (fun j => m (i + j)) (fun j => ln (i + j)) = true from hev] at GR
        clear ih hev hm hb
        go_enter Tryz.func35, Tryz.ntmps35
        go_wp2_with fail
        refine (GR.out _ _ L5.lines).mono ?_
        rintro e w1 ⟨rfl, hb1⟩
        go_wp2_with fail
        refine (CL.out _ _ (L5.below hb1)).mono ?_
        rintro e w2 ⟨v5, rfl, ⟨vu, hF⟩, hb2⟩
        obtain ⟨Au, cu, rfl, -, -⟩ := own_arr hF.row
        have b2 : Below w.heap.size w w2 := below_call hb1 hb1.size hb2
        have b3 : Below w.heap.size w (w2.alloc (.cells #[.slice Au 5 cu] 40)) := b2.alloc b2.size _
        have k3 := Blk.new w2 40 #[.slice Au 5 cu]
        have F3 := (hF.base hb1.size).alloc (.cells #[.slice Au 5 cu] 40)
        have z2 := b2.size
        clear hF hb2
        go_wp2_with fail
        generalize hw3 : w2.alloc (.cells #[.slice Au 5 cu] 40) = w3 at *
        generalize hg2 : w2.heap.size = g2 at *
        clear hw3
        refine (IH.out (some ⟨b, off, none⟩) 0 w3 (by omega) (by omega) (LinesZ.none _ _ _)).mono ?_
        rintro e w4 ⟨vr, rfl, ⟨vs, hS⟩, hb4⟩
        have b4 := below_call b3 b3.size hb4
        have k4 := k3.below' hb4
        have F4 := F3.below hb4
        have z3 := b3.size
        have S4 := hS.base z3
        have own4 : w4.ownsRow w.heap.size 40 1 (.slice (some ⟨g2, 0, none⟩) 1 1) 1 [.slice Au 5 cu] := own_one k4 z2
        have SL := stS_len (e := eB m ln) (n := 5 - 5) (i := i + 5)
        obtain ⟨Ar, cr, rfl, -, har⟩ := own_arr S4.row
        clear k3 F3 hS hb4 b3
        rcases S4.row.2 with ⟨hnil, hz⟩ | ⟨gr, capr, curr, hvr, -⟩
        · have hz' : (stS (eB m ln) (5 - 5) (i + 5)).length = 0 := hz
          have hcr : cr = 0 := by simp at hnil; exact hnil.2.2
          have hAr : Ar = none := by simp at hnil; exact hnil.1
          subst hAr
          subst hcr
          have HZ := Lib.hid hz'
          rw [hz']
          have hst : Hid (stS (eB m ln) 5 i = [i]) := by show _ = _; rw [HS.out, List.length_eq_zero_iff.1 hz']
          go_wp2_with (at_builtin; refine wpList_append_own_none rfl (.tmp 19) (.tmp 22) 45 rfl w.heap.size 40 s0 1 Tryz.underlying45 hs0 _ 1 [.slice Au 5 cu] rfl own4 rfl ?_)
          go_wp2
          go_ret
          refine ⟨_, rfl, ⟨fun _ => .slice Au 5 cu, ?_⟩, b4⟩
          rw [hst.out]
          refine ⟨own4, fun t ht => ?_⟩
          obtain rfl : t = 0 := by simpa using ht
          exact ⟨vu, F4⟩
        · obtain ⟨L, hL'⟩ : ∃ L, (stS (eB m ln) (5 - 5) (i + 5)).length = L := ⟨_, rfl⟩
          obtain ⟨rfl, rfl⟩ : Ar = some ⟨gr, 0, none⟩ ∧ cr = capr := by simp at hvr; exact ⟨hvr.1, hvr.2⟩
          have ONE : ∀ u ∈ (List.range L).map vs, u.oneCell' = true := fun u hu => by
            obtain ⟨t, ht, rfl⟩ := List.mem_map.1 hu
            have ht := List.mem_range.1 ht
            obtain ⟨v, hv⟩ := S4.each t (by omega)
            obtain ⟨A9, c9, e9, -, -⟩ := own_arr hv.row
            rw [e9]; rfl
          have CEL : ∀ (j : Nat) (u : Value), ((List.range L).map vs)[j]? = some u → w4.cell? ((⟨gr, 0, none⟩ : Addr).add j) = some u := fun j u hj => by
            have hjn : j < L := by
              rcases Nat.lt_or_ge j L with h | h
              · exact h
              · rw [List.getElem?_eq_none (by simpa using h)] at hj; cases hj
            obtain ⟨b9, o9, e9, -, hc9'⟩ := Arr.at_ har (i := (j : Int)) (by omega) (by omega)
            cases e9
            rw [Int.toNat_natCast, Nat.zero_add, hL', List.getD_eq_getElem?_getD, hj] at hc9'
            have hadd : (⟨gr, 0, none⟩ : Addr).add j = ⟨gr, j, none⟩ := by rw [addr_add, Nat.zero_add]
            rw [hadd]; exact hc9'
          have HLL := Lib.hid hL'
          have HS4 := Lib.hid S4
          have HONE := Lib.hid ONE; have HCEL := Lib.hid CEL
          rw [hL'] at SL ⊢
          clear hL' har S4 ONE CEL hvr
          go_wp2_with (at_builtin; refine wpList_append_own _ rfl (.tmp 19) (.tmp 22) 45 rfl w.heap.size 40 s0 (.agg #[.slice none 0 0]) 1 24 Tryz.underlying45 hs0 hsz0 hsz1 hsz2 rfl (by decide) _ 1 [.slice Au 5 cu] rfl own4 ⟨gr, 0, none⟩ L cr ((List.range L).map vs) rfl (by simp) ?c1 ?c2 ?c3 ?c4 ?c5 ?_)
          try (case c1 => exact HCEL.out)
          try (case c2 => exact HONE.out)
          try (case c3 => unfold maxLen; omega)
          try (case c4 => omega)
          try (case c5 => first | omega | (have := b4.size; omega))
          intro v' w7 own7 hg7 _
          have b7 : Below w.heap.size w w7 := b4.grown hg7 b4.size (fun k hk => (own_ge own4 hk).1)
          rw [← HLL.out] at own7
          have S7 := HS4.out.cons F4 own4 hg7 own7
          obtain ⟨A9, c9, rfl, -, -⟩ := own_arr own7
          go_wp2
          go_ret
          exact ⟨_, rfl, ⟨_, by rw [HS.out]; exact S7⟩, b7⟩
      · have hc6 : ¬ c ≤ 5 := by omega
        have hc7 : ¬ (c : Int) ≤ 5 := by omega
        have hc8 : 5 < c := by omega
        have hc9 : ¬ (c - 5 = 0) := by omega
        have CL := Lib.hid fun c' w' hL' => copyLists_any (some ⟨b, off, none⟩) 5 c' (fun j => m (i + j)) (fun j => ln (i + j)) w' hL' (by omega) (fun j hj => by have := hm (i + j) (by omega); omega)
        have HS := Lib.hid (stS_yes (e := eB m ln) (i := i) h5e hev)
        obtain ⟨s0, hs0, hsz0, hsz1, hsz2⟩ := info_parts infoLines
        rw [show evenB (fun j => m (i + j)) (fun j => ln (i + j)) = true from hev] at GR
        clear ih hev hm hb
        go_enter Tryz.func35, Tryz.ntmps35
        go_wp2_with fail
        refine (GR.out _ _ L5.lines).mono ?_
        rintro e w1 ⟨rfl, hb1⟩
        go_wp2_with fail
        refine (CL.out _ _ (L5.below hb1)).mono ?_
        rintro e w2 ⟨v5, rfl, ⟨vu, hF⟩, hb2⟩
        obtain ⟨Au, cu, rfl, -, -⟩ := own_arr hF.row
        have b2 : Below w.heap.size w w2 := below_call hb1 hb1.size hb2
        have b3 : Below w.heap.size w (w2.alloc (.cells #[.slice Au 5 cu] 40)) := b2.alloc b2.size _
        have k3 := Blk.new w2 40 #[.slice Au 5 cu]
        have F3 := (hF.base hb1.size).alloc (.cells #[.slice Au 5 cu] 40)
        have z2 := b2.size
        clear hF hb2
        go_wp2_with fail
        generalize hw3 : w2.alloc (.cells #[.slice Au 5 cu] 40) = w3 at *
        generalize hg2 : w2.heap.size = g2 at *
        clear hw3
        refine (IH.out (some ⟨b, off + 5, none⟩) (c - 5) w3 (by omega) (by omega) (LN'.below b3)).mono ?_
        rintro e w4 ⟨vr, rfl, ⟨vs, hS⟩, hb4⟩
        have b4 := below_call b3 b3.size hb4
        have k4 := k3.below' hb4
        have F4 := F3.below hb4
        have z3 := b3.size
        have S4 := hS.base z3
        have own4 : w4.ownsRow w.heap.size 40 1 (.slice (some ⟨g2, 0, none⟩) 1 1) 1 [.slice Au 5 cu] := own_one k4 z2
        have SL := stS_len (e := eB m ln) (n := n - 5) (i := i + 5)
        obtain ⟨Ar, cr, rfl, -, har⟩ := own_arr S4.row
        clear k3 F3 hS hb4 b3
        rcases S4.row.2 with ⟨hnil, hz⟩ | ⟨gr, capr, curr, hvr, -⟩
        · have hz' : (stS (eB m ln) (n - 5) (i + 5)).length = 0 := hz
          have hcr : cr = 0 := by simp at hnil; exact hnil.2.2
          have hAr : Ar = none := by simp at hnil; exact hnil.1
          subst hAr
          subst hcr
          have HZ := Lib.hid hz'
          rw [hz']
          have hst : Hid (stS (eB m ln) n i = [i]) := by show _ = _; rw [HS.out, List.length_eq_zero_iff.1 hz']
          go_wp2_with (at_builtin; refine wpList_append_own_none rfl (.tmp 19) (.tmp 22) 45 rfl w.heap.size 40 s0 1 Tryz.underlying45 hs0 _ 1 [.slice Au 5 cu] rfl own4 rfl ?_)
          go_wp2
          go_ret
          refine ⟨_, rfl, ⟨fun _ => .slice Au 5 cu, ?_⟩, b4⟩
          rw [hst.out]
          refine ⟨own4, fun t ht => ?_⟩
          obtain rfl : t = 0 := by simpa using ht
          exact ⟨vu, F4⟩
        · obtain ⟨L, hL'⟩ : ∃ L, (stS (eB m ln) (n - 5) (i + 5)).length = L := ⟨_, rfl⟩
          obtain ⟨rfl, rfl⟩ : Ar = some ⟨gr, 0, none⟩ ∧ cr = capr := by simp at hvr; exact ⟨hvr.1, hvr.2⟩
          have ONE : ∀ u ∈ (List.range L).map vs, u.oneCell' = true := fun u hu => by
            obtain ⟨t, ht, rfl⟩ := List.mem_map.1 hu
            have ht := List.mem_range.1 ht
            obtain ⟨v, hv⟩ := S4.each t (by omega)
            obtain ⟨A9, c9, e9, -, -⟩ := own_arr hv.row
            rw [e9]; rfl
          have CEL : ∀ (j : Nat) (u : Value), ((List.range L).map vs)[j]? = some u → w4.cell? ((⟨gr, 0, none⟩ : Addr).add j) = some u := fun j u hj => by
            have hjn : j < L := by
              rcases Nat.lt_or_ge j L with h | h
              · exact h
              · rw [List.getElem?_eq_none (by simpa using h)] at hj; cases hj
            obtain ⟨b9, o9, e9, -, hc9'⟩ := Arr.at_ har (i := (j : Int)) (by omega) (by omega)
            cases e9
            rw [Int.toNat_natCast, Nat.zero_add, hL', List.getD_eq_getElem?_getD, hj] at hc9'
            have hadd : (⟨gr, 0, none⟩ : Addr).add j = ⟨gr, j, none⟩ := by rw [addr_add, Nat.zero_add]
            rw [hadd]; exact hc9'
          have HLL := Lib.hid hL'
          have HS4 := Lib.hid S4
          have HONE := Lib.hid ONE; have HCEL := Lib.hid CEL
          rw [hL'] at SL ⊢
          clear hL' har S4 ONE CEL hvr
          go_wp2_with (at_builtin; refine wpList_append_own _ rfl (.tmp 19) (.tmp 22) 45 rfl w.heap.size 40 s0 (.agg #[.slice none 0 0]) 1 24 Tryz.underlying45 hs0 hsz0 hsz1 hsz2 rfl (by decide) _ 1 [.slice Au 5 cu] rfl own4 ⟨gr, 0, none⟩ L cr ((List.range L).map vs) rfl (by simp) ?c1 ?c2 ?c3 ?c4 ?c5 ?_)
          try (case c1 => exact HCEL.out)
          try (case c2 => exact HONE.out)
          try (case c3 => unfold maxLen; omega)
          try (case c4 => omega)
          try (case c5 => first | omega | (have := b4.size; omega))
          intro v' w7 own7 hg7 _
          have b7 : Below w.heap.size w w7 := b4.grown hg7 b4.size (fun k hk => (own_ge own4 hk).1)
          rw [← HLL.out] at own7
          have S7 := HS4.out.cons F4 own4 hg7 own7
          obtain ⟨A9, c9, rfl, -, -⟩ := own_arr own7
          go_wp2
          go_ret
          exact ⟨_, rfl, ⟨_, by rw [HS.out]; exact S7⟩, b7⟩
end Go.Proofs.YtdimlpcbbkokiaaGreat

/- Walk: the examples of the chapter (custoslaw03.awake). -/
namespace Go.Proofs.YtdimlpcbbkokiaaGreat
open Go.RowKit Go.Shelf
set_option linter.unusedVariables false
attribute [local go_sem] Oper.semAt_some

theorem Found.toLines {B : Nat} {w : World} {m : Nat} {ln : Nat → Nat → Int} {k : Nat} {vo : Value} {v : Nat → Value} (h : Found B w m ln k vo v) : ∃ A c, vo = .slice A k c ∧ k ≤ c ∧ Lines w w.heap.size A k (fun _ => m) ln := by
  obtain ⟨A, c, e, hc, ha⟩ := own_arr h.row
  refine ⟨A, c, e, hc, v, Arr.congr ha fun i i0 i1 => ?_, fun i hi => ?_⟩
  · rw [List.getD_eq_getElem?_getD, List.getElem?_map, List.getElem?_range (by omega)]; rfl
  · obtain ⟨A', c', e', ha'⟩ := own_arrI (h.lines i hi)
    exact ⟨A', c', e', ha'⟩
/-- one line alone -/
theorem TraceOut.one {w w' : World} {W H : Int} {p : Int → Int} {v : Value} (h : TraceOut w W H p v w') (h1 : Many 1073741824 W H (cst p W) 1) (hW : 0 < W) :
    ∃ g c g' c', v = .slice (some ⟨g, 0, none⟩) 1 c ∧ w.heap.size ≤ g ∧ g < w'.heap.size ∧ w'.cell? ⟨g, 0, none⟩ = some (.slice (some ⟨g', 0, none⟩) W.toNat c') ∧ ArrI w' w'.heap.size (some ⟨g', 0, none⟩) W.toNat (fun j => LN 1073741824 W H (cst p W) 0 j.toNat) := by
  obtain ⟨k, l, vs, hk, hp, -, hr, hl⟩ := h
  obtain rfl := hk.uniq h1
  obtain rfl : l = [0] := List.perm_singleton.1 hp
  obtain ⟨g, c, e⟩ := own_some hr (by omega)
  obtain ⟨g', c', e'⟩ := own_some (hl 0 (by omega)) (by omega)
  obtain ⟨A', c2, e2, ha⟩ := own_arrI (hl 0 (by omega))
  rw [e'] at e2
  cases e2
  have hg := own_ge hr (k := g) (by rw [e]; rfl)
  refine ⟨g, c, g', c', e, hg.1, hg.2, ?_, ha⟩
  obtain ⟨A3, c3, e3, -, ha3⟩ := own_arr hr
  rw [e] at e3
  cases e3
  obtain ⟨b, off, e4, -, hc⟩ := Arr.at_ ha3 (i := 0) (by omega) (by omega)
  cases e4
  rw [show 0 + (0 : Int).toNat = 0 from rfl] at hc
  rw [hc, ← e']; rfl

theorem awC1 : chk 16 5 80 (rowQ 7) = 0 := by decide +kernel
theorem awC2 : chk 16 5 80 rowQ2 = 0 := by decide +kernel
theorem awC3 : costE 16 5 80 (rowQ 7) 16 (fun _ => 2) = 0 := by decide +kernel
theorem awC4 : costV 16 5 80 (rowQ 7) 16 (fun _ => 2) = 2 := by decide +kernel
theorem awE1 : evenB (fun _ => 3) (fun i _ => lit [4, 10, 16, 22, 28] i) = true := by decide +kernel
theorem awE2 : evenB (fun _ => 3) (fun i _ => lit [4, 10, 16, 22, 31] i) = false := by decide +kernel
theorem awEq : sameI 16 16 (fun _ => 2) (fun _ => 2) = true := by decide +kernel
theorem awN1 : stN (fun _ => 3) (fun i _ => lit [4, 10, 16, 22, 28] i) = 1 := by unfold stN; rw [awE1]; rfl
theorem awN2 : stN (fun _ => 3) (fun i _ => lit [4, 10, 16, 22, 31] i) = 0 := by unfold stN; rw [awE2]; rfl
theorem lit_bd1 (i j : Nat) (hi : i < 5) : -1099511627776 ≤ lit [4, 10, 16, 22, 28] i ∧ lit [4, 10, 16, 22, 28] i ≤ 1099511627776 := by
  obtain rfl | rfl | rfl | rfl | rfl : i = 0 ∨ i = 1 ∨ i = 2 ∨ i = 3 ∨ i = 4 := by omega
  all_goals decide
theorem lit_bd2 (i j : Nat) (hi : i < 5) : -1099511627776 ≤ lit [4, 10, 16, 22, 31] i ∧ lit [4, 10, 16, 22, 31] i ≤ 1099511627776 := by
  obtain rfl | rfl | rfl | rfl | rfl : i = 0 ∨ i = 1 ∨ i = 2 ∨ i = 3 ∨ i = 4 := by omega
  all_goals decide
theorem awI1 : #[Value.int .i64 2] = i64s 1 (lit [2]) := i64s_lit (l := [2])
theorem awI2 : #[Value.int .i64 4, .int .i64 10, .int .i64 16, .int .i64 22, .int .i64 28] = i64s 5 (lit [4, 10, 16, 22, 28]) := i64s_lit (l := [4, 10, 16, 22, 28])
theorem awI3 : #[Value.int .i64 4, .int .i64 10, .int .i64 16, .int .i64 22, .int .i64 31] = i64s 5 (lit [4, 10, 16, 22, 31]) := i64s_lit (l := [4, 10, 16, 22, 31])
theorem Found.one {B : Nat} {w : World} {m : Nat} {ln : Nat → Nat → Int} {vo : Value} {v : Nat → Value} (h : Found B w m ln 1 vo v) (hm : 0 < m) :
    ∃ g c g' c', vo = .slice (some ⟨g, 0, none⟩) 1 c ∧ g < w.heap.size ∧ w.cell? ⟨g, 0, none⟩ = some (.slice (some ⟨g', 0, none⟩) m c') ∧ ArrI w w.heap.size (some ⟨g', 0, none⟩) m (fun j => ln 0 j.toNat) := by
  obtain ⟨g, c, e⟩ := own_some h.row (by omega)
  obtain ⟨g', c', e'⟩ := own_some (h.lines 0 (by omega)) hm
  obtain ⟨A', c2, e2, ha⟩ := own_arrI (h.lines 0 (by omega))
  rw [e'] at e2
  cases e2
  have hg := own_ge h.row (k := g) (by rw [e]; rfl)
  refine ⟨g, c, g', c', e, hg.2, ?_, ha⟩
  obtain ⟨A3, c3, e3, -, ha3⟩ := own_arr h.row
  rw [e] at e3
  cases e3
  obtain ⟨b, off, e4, -, hc⟩ := Arr.at_ ha3 (i := 0) (by omega) (by omega)
  cases e4
  rw [show 0 + (0 : Int).toNat = 0 from rfl] at hc
  rw [hc, ← e']; rfl

set_option maxRecDepth 100000 in
set_option maxHeartbeats 2000000 in
theorem awake3_any (w : World) : Calls Tryz.prog 15 #[] w fun e w' => e = .returned (.bool true) ∧ Below w.heap.size w w' := by
  have M1 := many_one aw1' aw2
  have M2 := many_one aw3.1 aw4
  have FL : Hid (∀ w' A d, ArrI w' w'.heap.size A 1 (lit [2]) → Calls Tryz.prog 10 #[.int .i64 16, .slice A 1 d] w' (New w' fun v w1 => ∃ vs, Found w'.heap.size w1 16 (fun i _ => lit [2] i) 1 v vs)) := by
    show ∀ _, _
    exact fun w' A d hR => flat_any 16 1 d A (lit [2]) w' hR (by omega) (by omega)
  have CO := Lib.hid fun w' A P c d hA hP => cost_all 16 5 A P 80 c 16 d (rowQ 7) (fun _ => 2) 0 2 w' hA (by decide) (rowQ_B 7) hP (by decide) awC3 awC4
  go_enter Tryz.func15, Tryz.ntmps15
  go_wp2_with fail
  refine (row_any 7 _ (by omega) (by omega)).mono ?_
  rintro e w1 ⟨_, rfl, ⟨g1, rfl, hg1, kg1⟩, b1⟩
  have b2 : Below w.heap.size w (w1.alloc (.cells #[.int .i64 16, .int .i64 5, .slice (some ⟨g1, 0, none⟩) 80 80] 24)) := b1.alloc b1.size _
  have kg2 := kg1.alloc (.cells #[.int .i64 16, .int .i64 5, .slice (some ⟨g1, 0, none⟩) 80 80] 24)
  have kx2 := Blk.new w1 24 #[.int .i64 16, .int .i64 5, .slice (some ⟨g1, 0, none⟩) 80 80]
  have z1 := b1.size
  have z2 := kg1.lt
  go_wp2_with fail
  clear b1 kg1
  generalize w1.alloc (.cells #[.int .i64 16, .int .i64 5, .slice (some ⟨g1, 0, none⟩) 80 80] 24) = w2 at *
  generalize w1.heap.size = gx at *
  refine (trace_ok 16 5 (some ⟨g1, 0, none⟩) 80 80 (rowQ 7) _ (kg2.arrB kg2.lt) (by decide) (rowQ_B 7) awC1 (by omega) (by omega)).mono ?_
  rintro e w3 ⟨_, rfl, ⟨vo, rfl, hT⟩, hb3⟩
  obtain ⟨g3, c3, g4, c4, rfl, hg3, hl3, q3, ha4⟩ := hT.one M1 (by omega)
  clear hT
  have b3 := below_call b2 b2.size hb3
  have kg3 := kg2.below' hb3
  have kx3 := kx2.below' hb3
  have ha4 : ArrI w3 w3.heap.size (some ⟨g4, 0, none⟩) 16 (fun _ => 2) := ha4.congr fun i i0 i1 => aw1'' i i0 i1
  change w3.cell? _ = some (.slice _ 16 _) at q3
  clear b2 kg2 kx2 hb3
  obtain ⟨p1, p2, p3⟩ := kx3.cells3
  go_wp2_with fail
  have X1 : ∀ o, (w3.alloc o).cell? ⟨gx, 0, none⟩ = some (.int .i64 16) := fun o => ((kx3.alloc o).cells3).1
  have X2 : ∀ o, (w3.alloc o).cell? ⟨gx, 1, none⟩ = some (.int .i64 5) := fun o => ((kx3.alloc o).cells3).2.1
  have X3 : ∀ o, (w3.alloc o).cell? ⟨gx, 2, none⟩ = some (.slice (some ⟨g1, 0, none⟩) 80 80) := fun o => ((kx3.alloc o).cells3).2.2
  go_cut [4, 5] from 12 to 20 (fun nn ff wx => nn = .int .i64 2 ∧ ff = .int .i64 0 ∧ Below w3.heap.size w3 wx)
  case first =>
    go_region_law
      (first
        | (go_simp
           first
             | refine (FL.out _ _ _ (Blk.arrI ((Blk.new w3 3 #[.int .i64 2]).drew.to awI1) (by simp))).mono ?_
             | refine (FL.out _ _ _ (Blk.arrI ((Blk.new w3.drew 3 #[.int .i64 2]).to awI1) (by simp))).mono ?_
           rintro e w5 ⟨_, rfl, ⟨vs, hF⟩, hb5⟩
           obtain ⟨g5, c5, g6, c6, rfl, hl5, q5, ha6⟩ := hF.one (by omega)
           have b5 : Below w3.heap.size w3 w5 := by first | exact below_call ((Below.refl w3.heap.size w3).alloc (Nat.le_refl _) (.cells #[.int .i64 2] 3)).drew (by simp) hb5 | exact below_call ((Below.refl w3.heap.size w3).drew.alloc (Nat.le_refl _) (.cells #[.int .i64 2] 3)) (by simp) hb5
           have kx5 := kx3.below' b5
           have kg5 := kg3.below' b5
           obtain ⟨x1, x2, x3⟩ := kx5.cells3
           dsimp only)
        | (go_simp
           refine (CO.out _ _ _ _ _ (kg5.arrB kg5.lt) (ha6.congr fun _ _ _ => rfl)).mono ?_
           rintro e w7 ⟨rfl, hb7⟩
           have b7 := below_call b5 b5.size hb7
           have kx7 := kx5.below' hb7
           obtain ⟨y1, y2, y3⟩ := kx7.cells3
           dsimp only))
    all_goals
      go_wp2_with fail
      go_meet
      exact ⟨rfl, rfl, b7⟩
  case rest =>
  obtain ⟨rfl, rfl, b7⟩ := hcut
  generalize wc = w7 at *
  have kx7 := kx3.below' b7
  have c7 := below_call b3 b3.size b7
  have kg7 := kg3.below' b7
  have q7 := (b7.cell (p := ⟨g3, 0, none⟩) hl3).trans q3
  have a7 := ha4.to b7
  have hl7 : g3 < w7.heap.size := Nat.lt_of_lt_of_le hl3 b7.size
  clear b7 b3 kx3 kg3 q3 ha4 X1 X2 X3 p1 p2 p3
  go_wp2_with fail
  refine wp_region_held_drew (S := fun w' => w'.cell? ⟨g3, 0, none⟩ = some (.slice (some ⟨g4, 0, none⟩) 16 c4)) (by kernel_rfl) (by simp [go_sem, *]) (fun hHeld => ?_)
  refine wpAnyH_take (i := 0) (oi := _) (v := ?_) (by simp only [List.getElem?_toArray, List.getElem?_cons_zero]; exact rfl) (by kernel_rfl) (by kernel_rfl) (by kernel_rfl) (by exact fun _ _ _ h => h) (Or.inl ⟨by rfl, ?_⟩) (by assumption) ?_
  rotate_left 1
  · intro w hSw
    (try dsimp only at hSw)
    go_simp
    try with_reducible rfl
  try simp only [Act.put, List.setIfInBounds_toArray, List.set_cons_zero, List.set_cons_succ]
  refine wpAnyH_take (i := 1) (oi := _) (v := ?_) (by simp only [List.getElem?_toArray, List.getElem?_cons_zero, List.getElem?_cons_succ]; exact rfl) (by kernel_rfl) (by kernel_rfl) (by kernel_rfl) (by exact fun _ _ _ h => h) (Or.inl ⟨by rfl, ?_⟩) (by assumption) ?_
  rotate_left 1
  · intro w hSw
    (try dsimp only at hSw)
    go_simp
    try with_reducible rfl
  try simp only [Act.put, List.setIfInBounds_toArray, List.set_cons_zero, List.set_cons_succ]
  refine wpAnyH_take (i := 2) (oi := _) (v := ?_) (by simp only [List.getElem?_toArray, List.getElem?_cons_zero, List.getElem?_cons_succ]; exact rfl) (by kernel_rfl) (by kernel_rfl) (by kernel_rfl) (by exact fun _ _ _ h => h) (Or.inl ⟨by rfl, ?_⟩) (by assumption) ?_
  rotate_left 1
  · intro w hSw
    (try dsimp only at hSw)
    go_simp
    try with_reducible rfl
  try simp only [Act.put, List.setIfInBounds_toArray, List.set_cons_zero, List.set_cons_succ]
  refine wpAnyH_take (i := 3) (oi := _) (v := ?_) (by simp only [List.getElem?_toArray, List.getElem?_cons_zero, List.getElem?_cons_succ]; exact rfl) (by kernel_rfl) (by kernel_rfl) (by kernel_rfl) (by exact fun _ _ _ h => h) (Or.inl ⟨by rfl, ?_⟩) (by assumption) ?_
  rotate_left 1
  · intro w hSw
    (try dsimp only at hSw)
    go_simp
    try with_reducible rfl
  try simp only [Act.put, List.setIfInBounds_toArray, List.set_cons_zero, List.set_cons_succ]
  refine wpAnyH_take (i := 4) (oi := _) (v := ?_) (by simp only [List.getElem?_toArray, List.getElem?_cons_zero, List.getElem?_cons_succ]; exact rfl) (by kernel_rfl) (by kernel_rfl) (by kernel_rfl) (by exact fun _ _ _ h => h) (Or.inl ⟨by rfl, ?_⟩) (by assumption) ?_
  rotate_left 1
  · intro w hSw
    (try dsimp only at hSw)
    go_simp
    try with_reducible rfl
  try simp only [Act.put, List.setIfInBounds_toArray, List.set_cons_zero, List.set_cons_succ]
  refine wpAnyH_take (i := 5) (oi := _) (v := ?_) (by simp only [List.getElem?_toArray, List.getElem?_cons_zero, List.getElem?_cons_succ]; exact rfl) (by kernel_rfl) (by kernel_rfl) (by kernel_rfl) (by exact fun _ _ _ h => h) (Or.inl ⟨by rfl, ?_⟩) (by assumption) ?_
  rotate_left 1
  · intro w hSw
    (try dsimp only at hSw)
    go_simp
    try with_reducible rfl
  try simp only [Act.put, List.setIfInBounds_toArray, List.set_cons_zero, List.set_cons_succ]
  refine wpAnyH_take (i := 6) (oi := _) (v := ?_) (by simp only [List.getElem?_toArray, List.getElem?_cons_zero, List.getElem?_cons_succ]; exact rfl) (by kernel_rfl) (by kernel_rfl) (by kernel_rfl) (by exact fun _ _ _ h => h) (Or.inl ⟨by rfl, ?_⟩) (by assumption) ?_
  rotate_left 1
  · intro w hSw
    (try dsimp only at hSw)
    go_simp
    try with_reducible rfl
  try simp only [Act.put, List.setIfInBounds_toArray, List.set_cons_zero, List.set_cons_succ]
  refine wpAnyH_take (i := 7) (oi := _) (v := ?_) (by simp only [List.getElem?_toArray, List.getElem?_cons_zero, List.getElem?_cons_succ]; exact rfl) (by kernel_rfl) (by kernel_rfl) (by kernel_rfl) (by exact fun _ _ _ h => h) (Or.inl ⟨by rfl, ?_⟩) (by assumption) ?_
  rotate_left 1
  · intro w hSw
    (try dsimp only at hSw)
    go_simp
    try with_reducible rfl
  try simp only [Act.put, List.setIfInBounds_toArray, List.set_cons_zero, List.set_cons_succ]
  refine wpAnyH_take (i := 8) (oi := _) (v := ?_) (by simp only [List.getElem?_toArray, List.getElem?_cons_zero, List.getElem?_cons_succ]; exact rfl) (by kernel_rfl) (by kernel_rfl) (by kernel_rfl) (by exact fun _ _ _ h => h) (Or.inl ⟨by rfl, ?_⟩) (by assumption) ?_
  rotate_left 1
  · intro w hSw
    (try dsimp only at hSw)
    go_simp
    try with_reducible rfl
  try simp only [Act.put, List.setIfInBounds_toArray, List.set_cons_zero, List.set_cons_succ]
  refine wpAnyH_take (i := 9) (oi := _) (v := ?_) (by simp only [List.getElem?_toArray, List.getElem?_cons_zero, List.getElem?_cons_succ]; exact rfl) (by kernel_rfl) (by kernel_rfl) (by kernel_rfl) (by exact fun _ _ _ h => h) (Or.inl ⟨by rfl, ?_⟩) (by assumption) ?_
  rotate_left 1
  · intro w hSw
    (try dsimp only at hSw)
    go_simp
    try with_reducible rfl
  try simp only [Act.put, List.setIfInBounds_toArray, List.set_cons_zero, List.set_cons_succ]
  refine wpAnyH_take (i := 10) (oi := _) (v := ?_) (by simp only [List.getElem?_toArray, List.getElem?_cons_zero, List.getElem?_cons_succ]; exact rfl) (by kernel_rfl) (by kernel_rfl) (by kernel_rfl) (by exact fun _ _ _ h => h) (Or.inl ⟨by rfl, ?_⟩) (by assumption) ?_
  rotate_left 1
  · intro w hSw
    (try dsimp only at hSw)
    go_simp
    try with_reducible rfl
  try simp only [Act.put, List.setIfInBounds_toArray, List.set_cons_zero, List.set_cons_succ]
  refine wpAnyH_take (i := 11) (oi := _) (v := ?_) (by simp only [List.getElem?_toArray, List.getElem?_cons_zero, List.getElem?_cons_succ]; exact rfl) (by kernel_rfl) (by kernel_rfl) (by kernel_rfl) (by exact fun _ _ _ h => h) (Or.inl ⟨by rfl, ?_⟩) (by assumption) ?_
  rotate_left 1
  · intro w hSw
    (try dsimp only at hSw)
    go_simp
    try with_reducible rfl
  try simp only [Act.put, List.setIfInBounds_toArray, List.set_cons_zero, List.set_cons_succ]
  refine wpAnyH_take (i := 12) (oi := _) (v := ?_) (by simp only [List.getElem?_toArray, List.getElem?_cons_zero, List.getElem?_cons_succ]; exact rfl) (by kernel_rfl) (by kernel_rfl) (by kernel_rfl) (by exact fun _ _ _ h => h) (Or.inl ⟨by rfl, ?_⟩) (by assumption) ?_
  rotate_left 1
  · intro w hSw
    (try dsimp only at hSw)
    go_simp
    try with_reducible rfl
  try simp only [Act.put, List.setIfInBounds_toArray, List.set_cons_zero, List.set_cons_succ]
  refine wpAnyH_take (i := 13) (oi := _) (v := ?_) (by simp only [List.getElem?_toArray, List.getElem?_cons_zero, List.getElem?_cons_succ]; exact rfl) (by kernel_rfl) (by kernel_rfl) (by kernel_rfl) (by exact fun _ _ _ h => h) (Or.inl ⟨by rfl, ?_⟩) (by assumption) ?_
  rotate_left 1
  · intro w hSw
    (try dsimp only at hSw)
    go_simp
    try with_reducible rfl
  try simp only [Act.put, List.setIfInBounds_toArray, List.set_cons_zero, List.set_cons_succ]
  refine wpAnyH_take (i := 14) (oi := _) (v := ?_) (by simp only [List.getElem?_toArray, List.getElem?_cons_zero, List.getElem?_cons_succ]; exact rfl) (by kernel_rfl) (by kernel_rfl) (by kernel_rfl) (by exact fun _ _ _ h => h) (Or.inl ⟨by rfl, ?_⟩) (by assumption) ?_
  rotate_left 1
  · intro w hSw
    (try dsimp only at hSw)
    go_simp
    try with_reducible rfl
  try simp only [Act.put, List.setIfInBounds_toArray, List.set_cons_zero, List.set_cons_succ]
  refine wpAnyH_ready (rs := [15]) (by kernel_rfl) (by simp) ?_
  refine AllReadyH.cons (o := _) (by simp only [List.getElem?_toArray, List.getElem?_cons_zero, List.getElem?_cons_succ]; exact rfl) (fun K hK => ?_) AllReadyH.nil
  go_simp
  refine hK.out _ _ (by first | (simp [go_sem, *]; done) | (go_keep; done)) (fun hHeld => ?_)
  clear hK K
  try simp only [Act.put, List.setIfInBounds_toArray, List.set_cons_zero, List.set_cons_succ]
  refine wpAnyH_ready (rs := [16]) (by kernel_rfl) (by simp) ?_
  refine AllReadyH.cons (o := _) (by simp only [List.getElem?_toArray, List.getElem?_cons_zero, List.getElem?_cons_succ]; exact rfl) (fun K hK => ?_) AllReadyH.nil
  go_simp
  go_at_call 10
  refine (FL.out _ _ _ (Blk.arrI ((Blk.new w7 3 #[.int .i64 2]).drew.to awI1) (by simp))).mono ?_
  rintro e w9 ⟨_, rfl, ⟨vs, hF⟩, hb9⟩
  obtain ⟨g9, c9, g10, c10, rfl, hl9, q9, ha10⟩ := hF.one (by omega)
  have b9 : Below w7.heap.size w7 w9 := below_call ((Below.refl w7.heap.size w7).alloc (Nat.le_refl _) (.cells #[.int .i64 2] 3)).drew (by simp) hb9
  have a9 := a7.to b9
  have x9 := (b9.cell (p := ⟨g3, 0, none⟩) hl7).trans q7
  go_wp2_with fail
  refine hK.out _ _ x9 (fun hHeld => ?_)
  clear hK K
  try simp only [Act.put, List.setIfInBounds_toArray, List.set_cons_zero, List.set_cons_succ]
  refine wpAnyH_take (i := 17) (oi := _) (v := ?_) (by simp only [List.getElem?_toArray, List.getElem?_cons_zero, List.getElem?_cons_succ]; exact rfl) (by kernel_rfl) (by kernel_rfl) (by kernel_rfl) (by exact fun _ _ _ h => h) (Or.inl ⟨by rfl, ?_⟩) (by assumption) ?_
  rotate_left 1
  · intro w hSw
    (try dsimp only at hSw)
    go_simp
    try with_reducible rfl
  try simp only [Act.put, List.setIfInBounds_toArray, List.set_cons_zero, List.set_cons_succ]
  refine wpAnyH_ready (rs := [18]) (by kernel_rfl) (by simp) ?_
  refine AllReadyH.cons (o := _) (by simp only [List.getElem?_toArray, List.getElem?_cons_zero, List.getElem?_cons_succ]; exact rfl) (fun K hK => ?_) AllReadyH.nil
  go_simp
  refine hK.out _ _ (by first | (simp [go_sem, *]; done) | (go_keep; done)) (fun hHeld => ?_)
  clear hK K
  try simp only [Act.put, List.setIfInBounds_toArray, List.set_cons_zero, List.set_cons_succ]
  refine wpAnyH_ready (rs := [19]) (by kernel_rfl) (by simp) ?_
  refine AllReadyH.cons (o := _) (by simp only [List.getElem?_toArray, List.getElem?_cons_zero, List.getElem?_cons_succ]; exact rfl) (fun K hK => ?_) AllReadyH.nil
  go_simp
  go_at_call 49
  refine (equalI_any _ _ 16 16 _ _ (fun _ => 2) (fun _ => 2) _ a9 (ha10.congr fun _ _ _ => rfl) (by decide) (by decide)).mono ?_
  rintro e w10 ⟨rfl, nq, rfl⟩
  rw [awEq]
  have x10 : (w9.drewN nq).cell? ⟨g3, 0, none⟩ = some (.slice (some ⟨g4, 0, none⟩) 16 c4) := x9
  go_wp2_with fail
  refine hK.out _ _ x10 (fun hHeld => ?_)
  clear hK K
  try simp only [Act.put, List.setIfInBounds_toArray, List.set_cons_zero, List.set_cons_succ]
  refine wpAnyH_take (i := 20) (oi := _) (v := ?_) (by simp only [List.getElem?_toArray, List.getElem?_cons_zero, List.getElem?_cons_succ]; exact rfl) (by kernel_rfl) (by kernel_rfl) (by kernel_rfl) (by exact fun _ _ _ h => h) (Or.inl ⟨by rfl, ?_⟩) (by assumption) ?_
  rotate_left 1
  · intro w hSw
    (try dsimp only at hSw)
    go_simp
    try with_reducible rfl
  try simp only [Act.put, List.setIfInBounds_toArray, List.set_cons_zero, List.set_cons_succ]
  refine wpAnyH_take (i := 21) (oi := _) (v := ?_) (by simp only [List.getElem?_toArray, List.getElem?_cons_zero, List.getElem?_cons_succ]; exact rfl) (by kernel_rfl) (by kernel_rfl) (by kernel_rfl) (by exact fun _ _ _ h => h) (Or.inl ⟨by rfl, ?_⟩) (by assumption) ?_
  rotate_left 1
  · intro w hSw
    (try dsimp only at hSw)
    go_simp
    try with_reducible rfl
  try simp only [Act.put, List.setIfInBounds_toArray, List.set_cons_zero, List.set_cons_succ]
  refine wpAnyH_take (i := 22) (oi := _) (v := ?_) (by simp only [List.getElem?_toArray, List.getElem?_cons_zero, List.getElem?_cons_succ]; exact rfl) (by kernel_rfl) (by kernel_rfl) (by kernel_rfl) (by exact fun _ _ _ h => h) (Or.inl ⟨by rfl, ?_⟩) (by assumption) ?_
  rotate_left 1
  · intro w hSw
    (try dsimp only at hSw)
    go_simp
    try with_reducible rfl
  try simp only [Act.put, List.setIfInBounds_toArray, List.set_cons_zero, List.set_cons_succ]
  refine wpAnyH_take (i := 23) (oi := _) (v := ?_) (by simp only [List.getElem?_toArray, List.getElem?_cons_zero, List.getElem?_cons_succ]; exact rfl) (by kernel_rfl) (by kernel_rfl) (by kernel_rfl) (by exact fun _ _ _ h => h) (Or.inl ⟨by rfl, ?_⟩) (by assumption) ?_
  rotate_left 1
  · intro w hSw
    (try dsimp only at hSw)
    go_simp
    try with_reducible rfl
  try simp only [Act.put, List.setIfInBounds_toArray, List.set_cons_zero, List.set_cons_succ]
  refine wpAnyH_take (i := 24) (oi := _) (v := ?_) (by simp only [List.getElem?_toArray, List.getElem?_cons_zero, List.getElem?_cons_succ]; exact rfl) (by kernel_rfl) (by kernel_rfl) (by kernel_rfl) (by exact fun _ _ _ h => h) (Or.inl ⟨by rfl, ?_⟩) (by assumption) ?_
  rotate_left 1
  · intro w hSw
    (try dsimp only at hSw)
    go_simp
    try with_reducible rfl
  try simp only [Act.put, List.setIfInBounds_toArray, List.set_cons_zero, List.set_cons_succ]
  refine wpAnyH_take (i := 25) (oi := _) (v := ?_) (by simp only [List.getElem?_toArray, List.getElem?_cons_zero, List.getElem?_cons_succ]; exact rfl) (by kernel_rfl) (by kernel_rfl) (by kernel_rfl) (by exact fun _ _ _ h => h) (Or.inl ⟨by rfl, ?_⟩) (by assumption) ?_
  rotate_left 1
  · intro w hSw
    (try dsimp only at hSw)
    go_simp
    try with_reducible rfl
  try simp only [Act.put, List.setIfInBounds_toArray, List.set_cons_zero, List.set_cons_succ]
  refine wpAnyH_done (by kernel_rfl) ?_ _
  have kx9 := kx7.below' b9
  have kg9 := kg7.below' b9
  have b10 : Below w.heap.size w (w9.drewN nq) := below_drewN (below_call c7 c7.size b9) nq
  have kx10 : Blk (w9.drewN nq) gx 24 #[.int .i64 16, .int .i64 5, .slice (some ⟨g1, 0, none⟩) 80 80] := kx9.drewN nq
  have kg10 : Blk (w9.drewN nq) g1 5 (u8s 80 (rowQ 7)) := kg9.drewN nq
  clear b9 kx9 kg9 c7 kx7 kg7 q7 a7 hb9 hF q9 ha10 a9 x9 x10
  generalize w9.drewN nq = w10 at *
  obtain ⟨y1, y2, y3⟩ := kx10.cells3
  have c23 : w10.cell? ⟨g1, 23, none⟩ = some (.int .u8 (rowQ 7 23)) := kg10.u8at (i := 23) (by omega) (by omega)
  have f23 : w10.frozen? ⟨g1, 23, none⟩ = false := kg10.frozen 23
  have ng : g1 ≠ gx := by omega
  have z10 := b10.size
  have kg11 : Blk (w10.setCell ⟨g1, 23, none⟩ (.int .u8 1)) g1 5 (u8s 80 rowQ2) := (kg10.u8set 23 (by omega) 1).u8conv fun j _ _ => rfl
  have kx11 : Blk (w10.setCell ⟨g1, 23, none⟩ (.int .u8 1)) gx 24 #[.int .i64 16, .int .i64 5, .slice (some ⟨g1, 0, none⟩) 80 80] := kx10.far (p := ⟨g1, 23, none⟩) (fun e => ng e.symm) _
  have b11 : Below w.heap.size w (w10.setCell ⟨g1, 23, none⟩ (.int .u8 1)) := b10.setCell hg1 _
  obtain ⟨v1, v2, v3⟩ := kx11.cells3
  clear kg10 kx10
  go_wp2_with fail
  clear y1 y2 y3 c23 f23 b10 v1 v2 v3
  generalize w10.setCell ⟨g1, 23, none⟩ (.int .u8 1) = w11 at *
  refine (trace_ok 16 5 (some ⟨g1, 0, none⟩) 80 80 rowQ2 _ (kg11.arrB kg11.lt) (by decide) rowQ2_B awC2 (by omega) (by omega)).mono ?_
  rintro e w12 ⟨_, rfl, ⟨vo2, rfl, hT2⟩, hb12⟩
  obtain ⟨g13, c13, g14, c14, rfl, hg13, hl13, q13, ha14⟩ := hT2.one M2 (by omega)
  clear hT2
  have b12 := below_call b11 b11.size hb12
  change w12.cell? _ = some (.slice _ 16 _) at q13
  obtain ⟨b', off', e', -, hc7⟩ := ArrI.at_ ha14 (i := 7) (by omega) (by decide)
  cases e'
  rw [show 0 + (7 : Int).toNat = 7 from rfl, show (7 : Int).toNat = 7 from rfl, aw3'] at hc7
  clear b11 kg11 kx11 hb12 ha14
  have F5 : Hid (∀ l w' A d, ArrI w' w'.heap.size A 5 (lit l) → Calls Tryz.prog 10 #[.int .i64 3, .slice A 5 d] w' (New w' fun v w1 => ∃ vs, Found w'.heap.size w1 3 (fun i _ => lit l i) 5 v vs)) := by
    show ∀ _, _
    exact fun l w' A d hR => flat_any 3 5 d A (lit l) w' hR (by omega) (by omega)
  go_wp2_with fail
  refine (F5.out [4, 10, 16, 22, 28] _ _ _ (Blk.arrI ((Blk.new _ _ _).to awI2) (by simp))).mono ?_
  rintro e w13 ⟨_, rfl, ⟨vs, hF⟩, hb13⟩
  obtain ⟨A5, c5', rfl, hc5, hL⟩ := hF.toLines
  have b13 : Below w.heap.size w w13 := below_call (b12.alloc b12.size (.cells #[.int .i64 4, .int .i64 10, .int .i64 16, .int .i64 22, .int .i64 28] 3)) (by have := b12.size; simp; omega) hb13
  clear hF hb13 b12 q13 hc7
  go_wp2_with fail
  refine (staves5 A5 c5' _ _ _ hL hc5 (fun i _ => by decide) (fun i j hi _ => lit_bd1 i j hi)).mono ?_
  rintro e w14 ⟨_, rfl, ⟨A6, c6', rfl⟩, hb14⟩
  rw [awN1]
  have b14 := below_call b13 b13.size hb14
  clear hL b13 hb14
  go_wp2_with fail
  refine (F5.out [4, 10, 16, 22, 31] _ _ _ (Blk.arrI ((Blk.new _ _ _).to awI3) (by simp))).mono ?_
  rintro e w15 ⟨_, rfl, ⟨vs, hF⟩, hb15⟩
  obtain ⟨A7, c7', rfl, hc7', hL⟩ := hF.toLines
  have b15 : Below w.heap.size w w15 := below_call (b14.alloc b14.size (.cells #[.int .i64 4, .int .i64 10, .int .i64 16, .int .i64 22, .int .i64 31] 3)) (by have := b14.size; simp; omega) hb15
  clear hF hb15 b14
  go_wp2_with fail
  refine (staves5 A7 c7' _ _ _ hL hc7' (fun i _ => by decide) (fun i j hi _ => lit_bd2 i j hi)).mono ?_
  rintro e w16 ⟨_, rfl, ⟨A8, c8', rfl⟩, hb16⟩
  rw [awN2]
  have b16 := below_call b15 b15.size hb16
  clear hL b15 hb16
  go_wp2
  go_ret
  exact ⟨rfl, b16⟩
end Go.Proofs.YtdimlpcbbkokiaaGreat

/- Walks: a row is among the lines (the closures of StaveFull, slices.ContainsFunc over numbers and over lines). -/
namespace Go.Proofs.YtdimlpcbbkokiaaGreat
open Go.RowKit Go.Shelf
set_option linter.unusedVariables false

set_option maxHeartbeats 400000 in
/-- the first number of a slice that meets a closure's test -/
theorem idxFuncI (fid : Nat) (cap : Array Value) (f : Int → Bool) (w : World) (hent : ∀ args w, (callFunc fid args).run Tryz.prog w = .ok (.enter fid args) w) (hf : ∀ v, Calls Tryz.prog fid (#[.int .i64 v] ++ cap) w fun e W' => e = .returned (.bool (f v)) ∧ w = W')
    (A : Option Addr) (n c : Nat) (p : Int → Int) (hA : ArrI w w.heap.size A n p) (hn : n ≤ maxLen) :
    Calls Tryz.prog 108 #[.slice A n c, .func (.func fid) #[] cap] w fun e w' => e = .returned (.int .i64 (idxF (fun i => f (p i)) n)) ∧ w = w' := by
  unfold maxLen at hn
  have HF := Lib.hid hf; clear hf
  go_enter Tryz.func108, Tryz.ntmps108
  go_wp2
  go_loop [8] (fun i => ∃ k : Int, 0 ≤ k ∧ k ≤ n ∧ i = .int .i64 k ∧ ∀ j : Int, 0 ≤ j → j < k → f (p j) = false) (fun i => n - (intOf i).toNat)
  case atStart => exact ⟨0, by omega, by omega, rfl, fun j a b => by omega⟩
  case round =>
    obtain ⟨k, h0, hk, rfl, hno⟩ := hrel
    have HN := Lib.hid hno; clear hno
    by_cases hlt : k < n
    · obtain ⟨b, off, rfl, hb, hc⟩ := ArrI.at_ hA h0 hlt
      cases hfk : f (p k)
      · have HK := Lib.hid hfk; clear hfk
        go_wp2_with fail
        refine (HF.out _).mono ?_
        rintro e w' ⟨rfl, rfl⟩
        rw [HK.out]
        go_wp2
        go_round
        case rel =>
          refine ⟨k + 1, by omega, by omega, by go_num, fun j a b => ?_⟩
          by_cases e : j = k
          · rw [e]; exact HK.out
          · exact HN.out j a (by omega)
        case measure => simp [intOf]; omega
      · have HK := Lib.hid hfk; clear hfk
        go_wp2_with fail
        refine (HF.out _).mono ?_
        rintro e w' ⟨rfl, rfl⟩
        rw [HK.out]
        go_wp2
        go_ret
        refine ⟨ret_int ?_, rfl⟩
        obtain ⟨k', rfl⟩ := Int.eq_ofNat_of_zero_le h0
        rw [idxF_some HN.out HK.out (by omega)]
    · go_wp2
      go_ret
      refine ⟨ret_int ?_, rfl⟩
      rw [idxF_none (fun j a b => HN.out j a (by omega))]
theorem containsI (fid : Nat) (cap : Array Value) (f : Int → Bool) (w : World) (hent : ∀ args w, (callFunc fid args).run Tryz.prog w = .ok (.enter fid args) w) (hf : ∀ v, Calls Tryz.prog fid (#[.int .i64 v] ++ cap) w fun e W' => e = .returned (.bool (f v)) ∧ w = W')
    (A : Option Addr) (n c : Nat) (p : Int → Int) (hA : ArrI w w.heap.size A n p) (hn : n ≤ maxLen) :
    Calls Tryz.prog 73 #[.slice A n c, .func (.func fid) #[] cap] w fun e w' => e = .returned (.bool (decide (0 ≤ idxF (fun i => f (p i)) n))) ∧ w = w' := by
  have IF := Lib.hid (idxFuncI fid cap f w hent hf A n c p hA hn)
  clear hf hent
  go_enter Tryz.func73, Tryz.ntmps73
  go_wp2_with fail
  refine IF.out.mono ?_
  rintro e w' ⟨rfl, rfl⟩
  go_wp2
  go_ret
  exact ⟨rfl, rfl⟩
set_option maxHeartbeats 400000 in
/-- the same over the values of a row -/
theorem idxFuncL (fid : Nat) (cap : Array Value) (f : Int → Bool) (v : Nat → Value) (w : World) (hent : ∀ args w, (callFunc fid args).run Tryz.prog w = .ok (.enter fid args) w)
    (A : Option Addr) (n c : Nat) (hA : Arr w w.heap.size A n (fun i => v i.toNat)) (hn : n ≤ maxLen) (hone : ∀ t, t < n → ∃ B m d, v t = .slice B m d)
    (hf : ∀ t, t < n → Calls Tryz.prog fid (#[v t] ++ cap) w fun e W' => e = .returned (.bool (f t)) ∧ w = W') :
    Calls Tryz.prog 72 #[.slice A n c, .func (.func fid) #[] cap] w fun e w' => e = .returned (.int .i64 (idxF f n)) ∧ w = w' := by
  unfold maxLen at hn
  have HF := Lib.hid hf; clear hf
  have HO := Lib.hid hone; clear hone
  go_enter Tryz.func72, Tryz.ntmps72
  go_wp2
  go_loop [8] (fun i => ∃ k : Int, 0 ≤ k ∧ k ≤ n ∧ i = .int .i64 k ∧ ∀ j : Int, 0 ≤ j → j < k → f j = false) (fun i => n - (intOf i).toNat)
  case atStart => exact ⟨0, by omega, by omega, rfl, fun j a b => by omega⟩
  case round =>
    obtain ⟨k, h0, hk, rfl, hno⟩ := hrel
    have HN := Lib.hid hno; clear hno
    by_cases hlt : k < n
    · obtain ⟨b, off, rfl, hb, hc⟩ := Arr.at_ hA h0 hlt
      have hcall := Lib.hid (HF.out k.toNat (by omega))
      rw [Int.toNat_of_nonneg h0] at hcall
      obtain ⟨B, m, d, hv⟩ := HO.out k.toNat (by omega)
      rw [hv] at hcall hc
      clear hv
      cases hfk : f k
      · have HK := Lib.hid hfk; clear hfk
        go_wp2_with fail
        refine (hcall.out).mono ?_
        rintro e w' ⟨rfl, rfl⟩
        rw [HK.out]
        go_wp2
        go_round
        case rel =>
          refine ⟨k + 1, by omega, by omega, by go_num, fun j a b => ?_⟩
          by_cases e : j = k
          · rw [e]; exact HK.out
          · exact HN.out j a (by omega)
        case measure => simp [intOf]; omega
      · have HK := Lib.hid hfk; clear hfk
        go_wp2_with fail
        refine (hcall.out).mono ?_
        rintro e w' ⟨rfl, rfl⟩
        rw [HK.out]
        go_wp2
        go_ret
        refine ⟨ret_int ?_, rfl⟩
        obtain ⟨k', rfl⟩ := Int.eq_ofNat_of_zero_le h0
        rw [idxF_some HN.out HK.out (by omega)]
    · go_wp2
      go_ret
      refine ⟨ret_int ?_, rfl⟩
      rw [idxF_none (fun j a b => HN.out j a (by omega))]
theorem containsL (fid : Nat) (cap : Array Value) (f : Int → Bool) (v : Nat → Value) (w : World) (hent : ∀ args w, (callFunc fid args).run Tryz.prog w = .ok (.enter fid args) w)
    (A : Option Addr) (n c : Nat) (hA : Arr w w.heap.size A n (fun i => v i.toNat)) (hn : n ≤ maxLen) (hone : ∀ t, t < n → ∃ B m d, v t = .slice B m d)
    (hf : ∀ t, t < n → Calls Tryz.prog fid (#[v t] ++ cap) w fun e W' => e = .returned (.bool (f t)) ∧ w = W') :
    Calls Tryz.prog 28 #[.slice A n c, .func (.func fid) #[] cap] w fun e w' => e = .returned (.bool (decide (0 ≤ idxF f n))) ∧ w = w' := by
  have IF := Lib.hid (idxFuncL fid cap f v w hent A n c hA hn hone hf)
  clear hf hent hone
  go_enter Tryz.func28, Tryz.ntmps28
  go_wp2_with fail
  refine IF.out.mono ?_
  rintro e w' ⟨rfl, rfl⟩
  go_wp2
  go_ret
  exact ⟨rfl, rfl⟩
/-- all numbers of a line are y -/
def allAt (y : Int) (n : Nat) (l : Int → Int) : Bool := !decide (0 ≤ idxF (fun i => l i != y) n)
theorem allAt_of {y : Int} {n : Nat} {l : Int → Int} (h : ∀ i : Int, 0 ≤ i → i < n → l i = y) : allAt y n l = true := by
  unfold allAt
  rw [idxF_none (fun i a b => by simp [h i a b])]
  rfl
end Go.Proofs.YtdimlpcbbkokiaaGreat

/- Walks: staves compared; the closures of StaveGroups. -/
namespace Go.Proofs.YtdimlpcbbkokiaaGreat
open Go.RowKit Go.Shelf
set_option linter.unusedVariables false
attribute [local go_sem] Oper.semAt_some

theorem sameL_self (n : Nat) (m : Nat → Nat) (a : Nat → Nat → Int) : sameL n n m m a a = true := sameL_iff.2 ⟨rfl, fun _ _ => ⟨rfl, fun _ _ => rfl⟩⟩
/-- a stave's place in its row -/
theorem StOut.at_ {B : Nat} {w : World} {m : Nat → Nat} {ln : Nat → Nat → Int} {st : List Nat} {vo : Value} {vs : Nat → Value} (h : StOut B w m ln st vo vs) {t : Nat} (ht : t < st.length) :
    ∃ b c A5 c5, vo = .slice (some ⟨b, 0, none⟩) st.length c ∧ B ≤ b ∧ b < w.heap.size ∧ w.cell? ⟨b, t, none⟩ = some (.slice A5 5 c5) ∧ vs t = .slice A5 5 c5 ∧ Lines w w.heap.size A5 5 (fun j => m (st.getD t 0 + j)) (fun j => ln (st.getD t 0 + j)) := by
  obtain ⟨b, c, e⟩ := own_some h.row (by omega)
  obtain ⟨A', c', e', -, ha⟩ := own_arr h.row
  rw [e] at e'
  cases e'
  obtain ⟨v, hv⟩ := h.each t ht
  obtain ⟨A5, c5, e5, -, -, hL⟩ := hv.toLines
  obtain ⟨b', o', e2, hb, hc⟩ := Arr.at_ ha (i := (t : Int)) (by omega) (by omega)
  cases e2
  rw [Int.toNat_natCast, Nat.zero_add, List.getD_eq_getElem?_getD, List.getElem?_map, List.getElem?_range ht] at hc
  have hg := own_ge h.row (k := b) (by rw [e]; rfl)
  refine ⟨b, c, A5, c5, e, hg.1, hg.2, ?_, e5, hL⟩
  rw [hc, ← e5]; rfl

set_option maxRecDepth 100000 in
set_option maxHeartbeats 2000000 in
theorem sameStaves_true (B1 B2 : Nat) (m : Nat → Nat) (ln : Nat → Nat → Int) (st : List Nat) (A1 A2 : Option Addr) (c1 c2 : Nat) (vs1 vs2 : Nat → Value) (w : World) (h1 : StOut B1 w m ln st (.slice A1 st.length c1) vs1) (h2 : StOut B2 w m ln st (.slice A2 st.length c2) vs2) (hst : st.length ≤ 1000) (hm : ∀ t, t ∈ st → ∀ j, j < 5 → m (t + j) ≤ maxLen) :
    Calls Tryz.prog 34 #[.slice A1 st.length c1, .slice A2 st.length c2] w fun e w' => e = .returned (.bool true) ∧ Below w.heap.size w w' := by
  have SS := Lib.hid fun i (hi : ∀ j, j < 5 → m (i + j) ≤ maxLen) A B c d w' hA hB => sameStave_any A B 5 5 c d (fun j => m (i + j)) (fun j => m (i + j)) (fun j => ln (i + j)) (fun j => ln (i + j)) w' hA hB (by decide) (by decide) hi hi
  have HM : Hid (∀ t, t < st.length → ∀ j, j < 5 → m (st.getD t 0 + j) ≤ maxLen) := by
    show ∀ _, _
    intro t ht
    rw [List.getD_eq_getElem?_getD, List.getElem?_eq_getElem ht]
    exact hm _ (List.getElem_mem ht)
  have S1 := Lib.hid fun t ht => h1.at_ (t := t) ht
  have S2 := Lib.hid fun t ht => h2.at_ (t := t) ht
  clear h1 h2 hm
  generalize hn : st.length = n at *
  clear hn
  go_enter Tryz.func34, Tryz.ntmps34
  go_wp2
  go_loopw [5] (fun s wr => ∃ i : Nat, i ≤ n ∧ s = .int .i64 i ∧ Below w.heap.size w wr) (fun s _ => n - (intOf s).toNat)
  case atStart => exact ⟨0, by omega, rfl, Below.refl _ _⟩
  case round =>
    obtain ⟨i, hi, rfl, b1⟩ := hrel
    by_cases hlt : (i : Int) < n
    · obtain ⟨g1, d1, A5, c5, e1, -, hb1, hc1, -, L1⟩ := S1.out i (by omega)
      obtain ⟨g2, d2, A6, c6, e2, -, hb2, hc2, -, L2⟩ := S2.out i (by omega)
      cases e1
      cases e2
      have SSi := Lib.hid fun c d w' hA hB => SS.out (st.getD i 0) (HM.out i (by omega)) A5 A6 c d w' hA hB
      rw [sameL_self] at SSi
      have q1 := (b1.cell (p := ⟨g1, i, none⟩) hb1).trans hc1
      have q2 := (b1.cell (p := ⟨g2, i, none⟩) hb2).trans hc2
      have M1 := Lib.hid (L1.below b1); have M2 := Lib.hid (L2.below b1)
      have B1 := Lib.hid b1
      have z1 := b1.size
      clear L1 L2 hc1 hc2 b1
      go_wp2_with fail
      go_region_held3 (fun w' => w'.cell? ⟨g1, i, none⟩ = some (.slice A5 5 c5) ∧ w'.cell? ⟨g2, i, none⟩ = some (.slice A6 5 c6))
        (simp [go_sem, *])
        ((go_at_call 41
          refine (SSi.out _ _ _ (show Lines wr.drew wr.drew.heap.size _ _ _ _ from M1.out) (show Lines wr.drew wr.drew.heap.size _ _ _ _ from M2.out)).mono ?_
          rintro e w2 ⟨rfl, hb2'⟩
          have b2 := below_call B1.out.drew B1.out.drew.size hb2'
          have x1 : w2.cell? ⟨g1, i, none⟩ = some (.slice A5 5 c5) := (hb2'.cell (p := ⟨g1, i, none⟩) (by show g1 < _; have := B1.out.drew.size; omega)).trans q1
          have x2 : w2.cell? ⟨g2, i, none⟩ = some (.slice A6 5 c6) := (hb2'.cell (p := ⟨g2, i, none⟩) (by show g2 < _; have := B1.out.drew.size; omega)).trans q2))
      go_wp2_with fail
      go_roundw
      case rel => exact ⟨i + 1, by omega, by go_num, b2⟩
      case measure => simp [intOf]; omega
    · obtain rfl : n = i := by omega
      go_wp2
      go_ret
      exact ⟨rfl, b1⟩

/-! ### the closures of the law -/
theorem enterLong (args : Array Value) (w : World) : (callFunc 29 args).run Tryz.prog w = .ok (.enter 29 args) w := enters_of Tryz.func29 (by kernel_rfl) rfl args w
theorem enterHuge (args : Array Value) (w : World) : (callFunc 31 args).run Tryz.prog w = .ok (.enter 31 args) w := enters_of Tryz.func31 (by kernel_rfl) rfl args w
theorem enterHuge1 (args : Array Value) (w : World) : (callFunc 74 args).run Tryz.prog w = .ok (.enter 74 args) w := enters_of Tryz.func74 (by kernel_rfl) rfl args w
theorem long_any (A : Option Addr) (n c : Nat) (w : World) (hn : n ≤ maxLen) : Calls Tryz.prog 29 #[.slice A n c] w fun e w' => e = .returned (.bool (decide ((60 : Int) < n))) ∧ w = w' := by
  unfold maxLen at hn
  go_enter Tryz.func29, Tryz.ntmps29
  go_wp2
  go_ret
  exact ⟨rfl, rfl⟩
def far40 (v : Int) : Bool := decide (v < -1099511627776) || decide (1099511627776 < v)
theorem huge1_any (v : Int) (w : World) : Calls Tryz.prog 74 #[.int .i64 v] w fun e w' => e = .returned (.bool (far40 v)) ∧ w = w' := by
  unfold far40
  by_cases h : v < -1099511627776
  · have d1 : decide (v < -1099511627776) = true := decide_eq_true h
    go_enter Tryz.func74, Tryz.ntmps74
    go_wp2
    go_ret
    exact ⟨ret_bool (by simp [h]), rfl⟩
  · have d1 : decide (v < -1099511627776) = false := decide_eq_false h
    go_enter Tryz.func74, Tryz.ntmps74
    go_wp2
    go_ret
    exact ⟨ret_bool (by simp), rfl⟩
theorem huge_any (A : Option Addr) (n c : Nat) (q : Int → Int) (w : World) (hA : ArrI w w.heap.size A n q) (hn : n ≤ maxLen) : Calls Tryz.prog 31 #[.slice A n c] w fun e w' => e = .returned (.bool (decide (0 ≤ idxF (fun i => far40 (q i)) n))) ∧ w = w' := by
  have CI := Lib.hid (containsI 74 #[] far40 w enterHuge1 (fun v => huge1_any v w) A n c q hA hn)
  go_enter Tryz.func31, Tryz.ntmps31
  go_wp2_with fail
  refine CI.out.mono ?_
  rintro e w' ⟨rfl, rfl⟩
  go_wp2
  go_ret
  exact ⟨rfl, rfl⟩
end Go.Proofs.YtdimlpcbbkokiaaGreat

/- How an argument of a statement is opened: slices of integers and images, as functions of the index. -/
namespace Go.Proofs.YtdimlpcbbkokiaaGreat
open Go.ChangeShapes Go.WideShapes Go.ChangeAt Go.RowKit Go.Deep
set_option linter.unusedVariables false

theorem Tryz.own : ownKnob Tryz.prog.godebug = none := by kernel_rfl
theorem Tryz.laidOut : laidOutB Tryz.prog = true := by kernel_rfl

theorem addr_plain {w : World} {a : Addr} {v : Value} (h : w.cell? a = some v) : ∃ b off, a = ⟨b, off, none⟩ := by
  obtain ⟨b, off, spot⟩ := a
  have hs : spot = none := by simpa using World.cell?_spot h
  subst hs
  exact ⟨b, off, rfl⟩

section
variable {H : Type} {enc : TypeId × Value → H} {P : Program} {w : World}
theorem ints_of {t e : TypeId} {k : IntKind} {fuel : Nat} {v : Value} {x : DataW H × List MemPlace} (ht : P.underlying t = some (.slice e)) (he : P.underlying e = some (.int k)) (hc : P.cellsOf e = 1) (h0 : (Lit.int k 0).wf = true)
    (h : DataW.trod enc P w 0 (fun _ => true) true fuel t [v] = some x) :
    ∃ A n c zs, v = .slice A n c ∧ (A = none → c = 0) ∧ n ≤ c ∧ c ≤ maxLen ∧ Arr w w.heap.size A n (fun i => .int k (lit zs i)) ∧ ∀ i, (Lit.int k (lit zs i)).wf = true := by
  rcases open_ints ht he hc h with ⟨hcs, _⟩ | ⟨a, l, c, zs, hcs, _, hl, hm, hz, _, hcell, hwz⟩
  · simp at hcs
    exact ⟨none, 0, 0, [], hcs, fun _ => rfl, Nat.le_refl _, Nat.zero_le _, Arr.nil, fun i => by simpa [lit] using h0⟩
  · simp at hcs
    refine ⟨some a, l, c, zs, hcs, (fun e => by cases e), hl, hm, fun hn => ?_, fun i => ?_⟩
    · have hz' : zs.length = c := by simpa using hz
      have c0 := hcell 0 (by omega)
      obtain ⟨b, off, e⟩ := addr_plain c0
      have ha : a = ⟨b, off, none⟩ := by simpa [Addr.add] using e
      subst ha
      refine ⟨b, off, rfl, block_lt_of_cell c0, fun i h0 hi => ?_⟩
      have := hcell i.toNat (by omega)
      have hadd : (⟨b, off, none⟩ : Addr).add i.toNat = ⟨b, off + i.toNat, none⟩ := by
        unfold Addr.add; split
        · rename_i e; rw [e]; rfl
        · rfl
      rw [hadd] at this
      exact this
    · unfold lit
      rw [List.getD_eq_getElem?_getD]
      by_cases hi : i.toNat < zs.length
      · rw [List.getElem?_eq_getElem hi]; exact hwz _ (List.getElem_mem hi)
      · rw [List.getElem?_eq_none (by omega)]; exact h0
theorem open_sl {t e : TypeId} {k : IntKind} {v : Value} {d : DataW H} {p : List MemPlace} {base : Nat} (ht : P.underlying t = some (.slice e)) (he : P.underlying e = some (.int k)) (hc : P.cellsOf e = 1) (h0 : (Lit.int k 0).wf = true)
    (hv : Value.okWide P w .any base t v) (h : DataW.Trod enc P w 0 (fun _ => true) true t v d p) :
    ∃ A n c zs, v = .slice A n c ∧ (A = none → c = 0) ∧ n ≤ c ∧ c ≤ maxLen ∧ Arr w w.heap.size A n (fun i => .int k (lit zs i)) ∧ ∀ i, (Lit.int k (lit zs i)).wf = true := by
  obtain ⟨a0, l0, c0, rfl⟩ := okWide_slice ht hv
  obtain ⟨fuel, hf⟩ := h
  exact ints_of ht he hc h0 (by simpa [Value.cells] using hf)
/-- a struct of two ints and a slice of bytes: Ink, Grey -/
theorem open_img {t tI tB eB : TypeId} {f0 f1 f2 : Field} {v : Value} {d : DataW H} {p : List MemPlace} {base : Nat} (hs : P.underlying t = some (.struct #[f0, f1, f2])) (e0 : f0.type = tI) (e1 : f1.type = tI) (e2 : f2.type = tB)
    (hone : oneCellFields P #[f0, f1, f2] = true) (hC : P.cellsOf t = 3) (hI : P.underlying tI = some (.int .i64)) (hB : P.underlying tB = some (.slice eB)) (hE : P.underlying eB = some (.int .u8)) (hcE : P.cellsOf eB = 1)
    (hv : Value.okWide P w .any base t v) (h : DataW.Trod enc P w 0 (fun _ => true) true t v d p) :
    ∃ W Hh A n c zs, v = .agg #[.int .i64 W, .int .i64 Hh, .slice A n c] ∧ (Lit.int .i64 W).wf = true ∧ (Lit.int .i64 Hh).wf = true ∧ (A = none → c = 0) ∧ n ≤ c ∧ c ≤ maxLen ∧ ArrB w w.heap.size A n (lit zs) ∧ IsB (lit zs) := by
  obtain ⟨v0, v1, v2, y0, y1, y2, n, rfl, -, -, h0, h1, h2⟩ := Go.Joins.open_agg3 hs hone hC hv h
  rw [e0] at h0; rw [e1] at h1; rw [e2] at h2
  obtain ⟨W, hw, -, wW⟩ := DataW.trod_int hI h0
  obtain ⟨Hh, hh, -, wH⟩ := DataW.trod_int hI h1
  simp at hw hh
  subst hw; subst hh
  obtain ⟨A, m, c, zs, rfl, z, a, b, d, e⟩ := ints_of hB hE hcE (by decide) h2
  exact ⟨W, Hh, A, m, c, zs, rfl, wW, wH, z, a, b, d, fun i => bounds_u8 (e i)⟩
end
end Go.Proofs.YtdimlpcbbkokiaaGreat

/- How an argument that is a list of lists of numbers, or a struct of one, is opened. -/
namespace Go.Proofs.YtdimlpcbbkokiaaGreat
open Go.ChangeShapes Go.WideShapes Go.ChangeAt Go.RowKit Go.Deep
set_option linter.unusedVariables false

theorem weightsAll_mem {H : Type} {P : Program} {e : TypeId} : ∀ {l : List (DataW H)} {d : DataW H}, d ∈ l → ∀ n ∈ d.weights P e, n ∈ DataW.weightsAll P e l
  | d' :: r, d, hd, n, hn => by
    simp only [DataW.weightsAll, List.mem_append]
    rcases List.mem_cons.1 hd with rfl | h
    · exact Or.inl hn
    · exact Or.inr (weightsAll_mem h n hn)
theorem add_plain (b off i : Nat) : (⟨b, off, none⟩ : Addr).add i = ⟨b, off + i, none⟩ := by
  unfold Addr.add; split
  · rename_i e; rw [e]; rfl
  · rfl
section
variable {H : Type} {enc : TypeId × Value → H} {P : Program} {w : World}
/-- what is known of lines that came in -/
structure LinesIn (w : World) (A : Option Addr) (K c : Nat) (m : Nat → Nat) (ln : Nat → Nat → Int) : Prop where
  nil : A = none → c = 0
  le : K ≤ c
  lines : LinesZ w w.heap.size A K m ln
  lens : ∀ i, i < K → m i ≤ 17592186044416
  outer : c ≤ 9223372036854775807
  few : K ≤ 5864062014634
  wf : ∀ i j, i < K → (Lit.int .i64 (ln i j)).wf = true
theorem lines_of {t e q : TypeId} {fuel : Nat} {v : Value} {x : DataW H × List MemPlace} (ht : P.underlying t = some (.slice e)) (he : P.underlying e = some (.slice q)) (hq : P.underlying q = some (.int .i64)) (ce : P.cellsOf e = 1) (cq : P.cellsOf q = 1) (be : 24 ≤ P.bytesOf e) (bq : P.bytesOf q = 8)
    (h : DataW.trod enc P w 0 (fun _ => true) true fuel t [v] = some x) (hw : ∀ n ∈ x.1.weights P t, n ≤ reachBytes) :
    ∃ A K c m ln, v = .slice A K c ∧ LinesIn w A K c m ln := by
  have hr : reachBytes = 140737488351232 := rfl
  rcases open_int_rows ht he hq ce cq h with ⟨hcs, _⟩ | ⟨a, len, cap, A, L, C, Z, hcs, _, hl, hm, rfl, hrow⟩
  · simp at hcs
    exact ⟨none, 0, 0, fun _ => 0, fun _ _ => 0, hcs, fun _ => rfl, Nat.le_refl _, ⟨fun _ => default, Arr.nil, fun i hi => by omega⟩, fun i hi => by omega, by omega, by omega, fun i j hi => by omega⟩
  · simp at hcs
    have w0 : cap * P.bytesOf e ≤ reachBytes := hw _ (by
      simp only [DataW.weights, ht, List.mem_cons]
      left
      rw [List.length_map, List.length_map, List.length_range, List.length_range, show len + (cap - len) = cap by omega])
    have w1 : ∀ r, r < len → L r ≤ C r → (Z r).length = C r → (A r = none → C r = 0) → C r * 8 ≤ reachBytes := fun r hr' h1 h2 h3 => by
      cases hA : A r with
      | none => rw [h3 hA]; omega
      | some a' =>
        refine hw _ ?_
        simp only [DataW.weights, ht, List.mem_cons, List.mem_append]
        right; left
        refine weightsAll_mem (d := intRow .i64 (A r) (L r) (Z r)) (List.mem_map.2 ⟨r, List.mem_range.2 hr', rfl⟩) _ ?_
        unfold intRow
        rw [hA]
        simp only [DataW.weights, he, List.mem_cons]
        left
        rw [bq]
        simp only [lits, List.length_map, List.length_take, List.length_drop]
        rw [h2, show min (L r) (C r) + (C r - L r) = C r by omega]
    refine ⟨some a, len, cap, L, fun i j => (Z i).getD j 0, hcs, (fun e => by cases e), hl, ⟨fun r => .slice (A r) (L r) (C r), fun hn => ?_, fun r hr' => ?_⟩, fun r hr' => ?_, ?_, ?_, fun r j hr' => ?_⟩
    · obtain ⟨c0, -⟩ := hrow 0 (by omega)
      obtain ⟨b, off, e0⟩ := addr_plain c0
      have ha : a = ⟨b, off, none⟩ := by simpa [Addr.add] using e0
      subst ha
      refine ⟨b, off, rfl, block_lt_of_cell c0, fun i i0 i1 => ?_⟩
      obtain ⟨ci, -⟩ := hrow i.toNat (by omega)
      rw [add_plain] at ci
      exact ci
    · obtain ⟨_, h1, h2, h3, h4, h5, h6⟩ := hrow r (by omega)
      refine ⟨A r, C r, rfl, h5, fun hn => ?_⟩
      cases hA : A r with
      | none => have := h5 hA; omega
      | some a' =>
        obtain ⟨-, hcell⟩ := h6 a' hA
        have c0 := hcell 0 (by omega)
        obtain ⟨b, off, e0⟩ := addr_plain c0
        have ha : a' = ⟨b, off, none⟩ := by simpa [Addr.add] using e0
        subst ha
        refine ⟨b, off, rfl, block_lt_of_cell c0, fun i i0 i1 => ?_⟩
        have := hcell i.toNat (by omega)
        rw [add_plain] at this
        exact this
    · obtain ⟨_, h1, h2, h3, h4, h5, h6⟩ := hrow r (by omega)
      have := w1 r hr' h1 h3 h5
      omega
    · have : cap * 24 ≤ cap * P.bytesOf e := Nat.mul_le_mul_left _ be
      omega
    · have : cap * 24 ≤ cap * P.bytesOf e := Nat.mul_le_mul_left _ be
      omega
    · obtain ⟨_, h1, h2, h3, h4, h5, h6⟩ := hrow r (by omega)
      rw [List.getD_eq_getElem?_getD]
      by_cases hj : j < (Z r).length
      · rw [List.getElem?_eq_getElem hj]; exact h4 _ (List.getElem_mem hj)
      · rw [List.getElem?_eq_none (by omega)]; decide
theorem open_lines {t e q : TypeId} {v : Value} {d : DataW H} {p : List MemPlace} {base : Nat} (ht : P.underlying t = some (.slice e)) (he : P.underlying e = some (.slice q)) (hq : P.underlying q = some (.int .i64)) (ce : P.cellsOf e = 1) (cq : P.cellsOf q = 1) (be : 24 ≤ P.bytesOf e) (bq : P.bytesOf q = 8)
    (hv : Value.okWide P w .any base t v) (h : DataW.Trod enc P w 0 (fun _ => true) true t v d p) (hw : ∀ n ∈ d.weights P t, n ≤ reachBytes) :
    ∃ A K c m ln, v = .slice A K c ∧ LinesIn w A K c m ln := by
  obtain ⟨a0, l0, c0, rfl⟩ := okWide_slice ht hv
  obtain ⟨fuel, hf⟩ := h
  exact lines_of ht he hq ce cq be bq (by simpa [Value.cells] using hf) hw
/-- a struct of one list of lines: Stave -/
theorem open_stave {t tL e q : TypeId} {f0 : Field} {v : Value} {d : DataW H} {p : List MemPlace} {base : Nat} (hs : P.underlying t = some (.struct #[f0])) (e0 : f0.type = tL) (o0 : f0.offset = 0) (hC : P.cellsOf t = 1) (hCL : P.cellsOf tL = 1)
    (ht : P.underlying tL = some (.slice e)) (he : P.underlying e = some (.slice q)) (hq : P.underlying q = some (.int .i64)) (ce : P.cellsOf e = 1) (cq : P.cellsOf q = 1) (be : 24 ≤ P.bytesOf e) (bq : P.bytesOf q = 8)
    (hv : Value.okWide P w .any base t v) (h : DataW.Trod enc P w 0 (fun _ => true) true t v d p) (hw : ∀ n ∈ d.weights P t, n ≤ reachBytes) :
    ∃ A K c m ln, v = .agg #[.slice A K c] ∧ LinesIn w A K c m ln := by
  obtain ⟨cs, rfl, hsz⟩ := okWide_struct hs hv
  obtain ⟨c0, rfl⟩ : ∃ c0, cs = #[c0] := Array.size_eq_one_iff.1 (hsz.trans hC)
  obtain ⟨fuel, hf⟩ := h
  obtain ⟨y0, n, hx, _, h0⟩ := trod_struct1 hs hf
  simp only [Prod.mk.injEq] at hx
  obtain ⟨A, K, c, m, ln, rfl, hl⟩ := lines_of (v := c0) (x := y0) ht he hq ce cq be bq (by rw [← e0]; simpa [Value.cells, o0, e0, hCL] using h0) (fun k hk => hw k (by
    rw [hx.1]
    simp only [DataW.weights, hs, DataW.weightsEach, List.map_cons, List.map_nil, List.mem_append]
    left
    rw [e0]; exact hk))
  exact ⟨A, K, c, m, ln, rfl, hl⟩
end
end Go.Proofs.YtdimlpcbbkokiaaGreat
