/- Walks: slices.Clone of numbers; how many staves five lines are (stave.Staves). -/
import Derived.Test.YtdimlpcbbkokiaaT14
import Derived.WalkMore
import Derived.Deep.RegionLaw
namespace Go.Proofs.Ytdimlpcbbkokiaa
open Go.RowKit Go.Shelf
set_option linter.unusedVariables false
attribute [local go_sem] Oper.semAt_some

theorem clone_own {w w' : World} {n : Nat} {e : TypeId} {v : Value} {q : Int → Int} {xs : List Value} (h : w'.ownsRow w.heap.size e 1 v n xs) (hx : xs = (List.range n).map (fun (j : Nat) => Value.int .i64 (q j))) : w'.ownsRow w.heap.size e 1 v n ((List.range n).map fun (j : Nat) => Value.int .i64 (q j)) := hx ▸ h
set_option maxRecDepth 100000 in
set_option maxHeartbeats 1000000 in
theorem clone_any (A : Option Addr) (n c : Nat) (q : Int → Int) (w : World) (hA : ArrI w w.heap.size A n q) (hn0 : 0 < n) (hn : n ≤ 1000000) :
    Calls Try.prog 15 #[.slice A n c] w (New w fun v w' => w'.ownsRow w.heap.size 3 1 v n ((List.range n).map fun (j : Nat) => Value.int .i64 (q j))) := by
  obtain ⟨i0, hi0, hz0, hz1, hz2⟩ := info_parts infoInt
  obtain ⟨b, off, rfl, hb, hc⟩ := ArrI.fn hA hn0
  have E1 : ∀ W, (binOp .eql 25 (.slice (some ⟨b, off, none⟩) n c) (.slice none 0 0)).run Try.prog W = .ok (.bool false) W := fun W => Go.run_eql_slice_nil W _ _ _ _ _ Try.underlying25
  have HC := Lib.hid hc
  clear hc hA
  go_enter Try.func15, Try.ntmps15
  go_wp2_with (at_builtin; refine wpList_append_own _ rfl (.tmp 5) (.tmp 6) 25 rfl w.heap.size 3 i0 (.int .i64 0) 1 8 Try.underlying25 hi0 hz0 hz1 hz2 rfl (by decide) _ 0 [] rfl (World.ownsRow_made w #[] 0 (Nat.le_refl _) (by decide) rfl) ⟨b, off, none⟩ n c ((List.range n).map (fun (j : Nat) => Value.int .i64 (q j))) rfl (by simp) ?c1 ?c2 ?c3 ?c4 ?c5 ?_)
  case c1 =>
    intro j u hj
    have hjn : j < n := by
      rcases Nat.lt_or_ge j n with h | h
      · exact h
      · rw [List.getElem?_eq_none (by simpa using h)] at hj; cases hj
    have := HC.out j (by omega) (by omega)
    simp [hjn] at hj
    subst hj
    rw [Int.toNat_natCast] at this
    have hadd : (⟨b, off, none⟩ : Addr).add j = ⟨b, off + j, none⟩ := by unfold Addr.add; split <;> simp_all
    rw [hadd, ← this]
    exact (Below.cell ((Below.refl _ _).alloc (Nat.le_refl _) _) (p := ⟨b, off + j, none⟩) hb)
  case c2 => simp [Value.oneCell']
  case c3 => unfold maxLen; omega
  case c4 => omega
  case c5 => simp
  intro v' w7 own7 hg7 _
  have b7 : Below w.heap.size w w7 := ((Below.refl w.heap.size w).alloc (Nat.le_refl _) (.cells #[] 3)).grown hg7 (by simp) (fun k hk => by cases hk; exact Nat.le_refl _)
  go_wp2
  go_ret
  exact ⟨_, rfl, own7, b7⟩

/-- how many staves five lines are -/
def stN (m : Nat → Nat) (ln : Nat → Nat → Int) : Nat := if evenB m ln = true then 1 else 0
theorem infoLines : (Try.prog.info? 54).map (fun i => (i.zero, i.size, i.bytes)) = some (some (.agg #[.slice none 0 0]), 1, 24) := by kernel_rfl
set_option maxRecDepth 100000 in
set_option maxHeartbeats 4000000 in
theorem staves5 (A : Option Addr) (c : Nat) (m : Nat → Nat) (ln : Nat → Nat → Int) (w : World) (hL : Lines w w.heap.size A 5 m ln) (hc : 5 ≤ c) (hm : ∀ i, i < 5 → m i ≤ 1000000) (hb : ∀ i j, i < 5 → j < m i → -1099511627776 ≤ ln i j ∧ ln i j ≤ 1099511627776) :
    Calls Try.prog 34 #[.slice A 5 c] w (New w fun v w' => ∃ A' c', v = .slice A' (stN m ln) c') := by
  have EV := Lib.hid fun c w' hL' => even_any A c m ln w' hL' hm hb
  have HL := Lib.hid hL
  obtain ⟨b, off, A0, c0, rfl, hbB, -, -⟩ := hL.at_ (i := 0) (by omega)
  clear hL
  have hc0 : (5 : Int) ≤ c := by omega
  obtain ⟨i0, hi0, hz0, hz1, hz2⟩ := info_parts infoInts
  obtain ⟨s0, hs0, hsz0, hsz1, hsz2⟩ := info_parts infoLines
  go_enter Try.func34, Try.ntmps34
  go_wp2_with fail
  go_step3
  go_wp2_with fail
  go_step3
  go_wp2_with fail
  go_loopw [3, 4] (fun vo s wr => Below w.heap.size w wr ∧ ((s = .int .i64 0 ∧ vo = .slice none 0 0) ∨ ∃ i : Nat, 0 < i ∧ i ≤ 5 ∧ s = .int .i64 i ∧ ∃ A' c', vo = .slice A' (stN m ln) c')) (fun _ s _ => 6 - (intOf s).toNat)
  case atStart => exact ⟨Below.refl _ _, .inl ⟨rfl, rfl⟩⟩
  case round =>
    obtain ⟨b1, (⟨rfl, rfl⟩ | ⟨i, i0, i5, rfl, A', c', rfl⟩)⟩ := hrel
    · cases hev : evenB m ln with
      | false =>
        have hst : Hid (stN m ln = 0) := by show _ = _; unfold stN; rw [hev]; rfl
        rw [hev] at EV
        clear hev
        go_wp2_with fail
        refine (EV.out c _ (HL.out.below b1)).mono ?_
        rintro e w2 ⟨rfl, hb2⟩
        have b2 := below_call b1 b1.size hb2
        clear b1 hb2
        go_wp2_with fail
        go_roundw
        case rel => exact ⟨b2, .inr ⟨1, by omega, by omega, rfl, none, 0, by rw [hst.out]⟩⟩
        case measure => simp [intOf]
      | true =>
        have hst : Hid (stN m ln = 1) := by show _ = _; unfold stN; rw [hev]; rfl
        have MP : Hid (∀ j, j < 5 → 0 < m j) := by
          show ∀ _, _
          intro j hj
          unfold evenB at hev
          rw [Bool.and_eq_true] at hev
          have := of_decide_eq_true (List.all_eq_true.1 hev.1 j (List.mem_range.2 hj))
          exact this.1
        rw [hev] at EV
        clear hev
        go_wp2_with fail
        refine (EV.out c _ (HL.out.below b1)).mono ?_
        rintro e w2 ⟨rfl, hb2⟩
        have b2 := below_call b1 b1.size hb2
        have b3 : Below w.heap.size w (w2.alloc (.cells #[.slice none 0 0] 54)) := b2.alloc b2.size _
        have ks := Blk.new w2 54 #[.slice none 0 0]
        have z2 := b2.size
        clear b1 hb2
        go_wp2_with fail
        generalize w2.alloc (.cells #[.slice none 0 0] 54) = w3 at *
        generalize w2.heap.size = gs at *
        clear b2
        go_loopw [29] (fun s w9 => ∃ j : Nat, j ≤ 5 ∧ s = .int .i64 j ∧ Below w.heap.size w w9 ∧ ∃ vo xs, Blk w9 gs 54 #[vo] ∧ w9.ownsRow w.heap.size 25 1 vo j xs) (fun s _ => 5 - (intOf s).toNat)
        case atStart => exact ⟨0, by omega, rfl, b3, _, [], ks, World.ownsRow_nil _ _ _ _⟩
        case round =>
          obtain ⟨j, j5, rfl, b4, vo, xs, k4, own4⟩ := hrel
          clear b3 ks
          obtain ⟨A8, c8, rfl, -, -⟩ := own_arr own4
          have q1 := k4.at0
          have q2 := k4.frozen 0
          by_cases hlt : (j : Int) < 5
          · obtain ⟨b5, off5, A5, c5, e5, -, hc5, ha5⟩ := HL.out.at_ (i := j) (by omega)
            cases e5
            replace hc5 := (b4.cell (p := ⟨b, off + j, none⟩) hbB).trans hc5
            have MJ := MP.out j (by omega)
            have MK := hm j (by omega)
            have CL := Lib.hid fun W hA' => clone_any A5 (m j) c5 (fun jj => ln j jj.toNat) W hA' MJ MK
            have HA5 := Lib.hid (ArrI.more (ArrI.below ha5 b4) b4.size)
            clear ha5
            generalize m j = mj at *
            have n1 := World.new_ne wr _ q1
            have ne := own_neB own4 k4 (by decide)
            go_wp2_with fail
            go_region_law
              (first
                | (refine step_append_lies _ (by rfl) _ _ _ (by rfl) w.heap.size 25 i0 (.slice none 0 0) 1 24 Try.underlying34 hi0 hz0 hz1 hz2 rfl (by omega) (.slice A8 j c8) _ _ (by rfl) (own7.alloc _) ⟨w6.heap.size, 0, none⟩ 1 1 [.slice (some ⟨g6, 0, none⟩) mj c6] (by rfl) (by rfl) (World.news_of_block (cs := #[.slice (some ⟨g6, 0, none⟩) mj c6]) (t := 25) (fr := (0, 0)) (heap_alloc_new w6 _)) (by simp [Value.oneCell']) (by omega) (by unfold maxLen; omega) (by omega) (by simp; omega) (w6.heap.size + 1) (by simp) ?_
                   intro gg cap w1 hown1 hgrow hat hlt1
                   have k7 := (k6.alloc (.cells #[.slice (some ⟨g6, 0, none⟩) mj c6] 25)).grown hgrow ne
                   have x3 := k7.at0
                   have x4 := k7.frozen 0)
                | (refine (show (if Region.wanted (⟨some 36, _, _, _, _, _⟩ : Oper) _ = true then _ else _) from ?_)
                   go_simp
                   refine (CL.out _ (show ArrI wr.drew wr.drew.heap.size _ _ _ from HA5.out)).mono ?_
                   rintro e w6 ⟨v6, rfl, own6, hb6⟩
                   obtain ⟨g6, c6, rfl⟩ := own_some own6 MJ
                   have x1 := (k4.drew.below' hb6).at0
                   have x2 := (k4.drew.below' hb6).frozen 0
                   have y1 := World.new_ne w6 _ x1
                   have own7 := own_below (w := wr.drew) own4 hb6
                   have b6 := b4.drew.trans (hb6.mono b4.size)
                   have k6 := k4.drew.below' hb6
                   have z6 := b6.size
                   have z7 := k6.lt
                   have x5 : ∀ o, (w6.alloc o).cell? ⟨gs, 0, none⟩ = some (.slice A8 j c8) := fun o => (k6.alloc o).at0
                   dsimp only))
            all_goals
              have b7 : Below w.heap.size w w1 := (b6.alloc b6.size (.cells #[.slice (some ⟨g6, 0, none⟩) mj c6] 25)).grown hgrow (by simp; omega) (fun k hk => (own_ge own4 hk).1)
              have k8 := k7.set_ 0 (.slice (some ⟨gg, 0, none⟩) (j + 1) cap)
              have own8 := own_far hown1 k7 (by decide) 0 (.slice (some ⟨gg, 0, none⟩) (j + 1) cap)
              have b8 : Below w.heap.size w (w1.setCell ⟨gs, 0, none⟩ (.slice (some ⟨gg, 0, none⟩) (j + 1) cap)) := b7.setCell z2 _
              clear b7 k7 hown1 hgrow x1 x2 x5 own7 k6 b6 hat
              go_wp2
              go_roundw
              case rel => exact ⟨j + 1, by omega, by go_num, b8, _, _, k8, own8⟩
              case measure => simp [intOf]; omega
          · obtain rfl : j = 5 := by omega
            clear q2
            go_wp2_with (at_builtin; refine wpList_append_own _ rfl (.tmp 41) (.tmp 43) 56 rfl w.heap.size 54 s0 (.agg #[.slice none 0 0]) 1 24 Try.underlying56 hs0 hsz0 hsz1 hsz2 rfl (by decide) _ 0 [] rfl (World.ownsRow_nil _ _ _ _) ⟨wr.heap.size, 0, none⟩ 1 1 [.slice A8 5 c8] rfl rfl ?c1 ?c2 ?c3 ?c4 ?c5 ?_)
            try case c1 => exact cell_one_new _ _ _
            try case c2 => simp [Value.oneCell']
            try case c3 => unfold maxLen; omega
            try case c4 => omega
            try case c5 => have := b4.size; first | omega | (simp; omega)
            intro v' w7 own7 hg7 _
            have b7 : Below w.heap.size w w7 := (b4.alloc b4.size (.cells #[.slice A8 5 c8] 54)).grown hg7 (by have := b4.size; simp; omega) (fun k hk => by cases hk)
            obtain ⟨A9, c9, rfl, -, -⟩ := own_arr own7
            clear own7 hg7
            go_wp2
            go_roundw
            case rel => exact ⟨b7, .inr ⟨5, by omega, by omega, by go_num, A9, c9, by rw [hst.out]⟩⟩
            case measure => simp [intOf]
    · have i5' : (i : Int) + 5 > 5 := by omega
      go_wp2_with fail
      rw [Exit.noGoto_ret]
      go_ret
      exact ⟨_, rfl, ⟨_, _, rfl⟩, b1⟩
end Go.Proofs.Ytdimlpcbbkokiaa
