/- Texts of mine in build order: T47, T15, T25, T29, T30, T31, T32. Conditions: each theorem's own. -/
import Derived.Test.YtdimlpcbbkokiaaMStaveRunsx5
import Derived.Shelf.SlSortCmp.WholeK
import Derived.WalkMore
import Derived.Deep.RegionLaw
import Derived.Deep.CutBlock
import Derived.Laws.AppendOwnNone
/- Walks: the order of runs (stave.Runs's comparing function), cmp.Or of two numbers; rows of runs. -/
namespace Go.Proofs.Ytdimlpcbbkokiaa
open Go.RowKit Go.Shelf Go.Lib Go.Sort
set_option linter.unusedVariables false
attribute [local go_sem] Oper.semAt_some

set_option maxHeartbeats 1000000 in
theorem or2i_any (g : Nat) (a b : Int) (w : World) (h : Blk w g 3 #[.int .i64 a, .int .i64 b]) :
    Calls Try.prog 91 #[.slice (some ⟨g, 0, none⟩) 2 2] w fun e w' => e = .returned (.int .i64 (orE a b)) ∧ w = w' := by
  have p1 : w.cell? ⟨g, 0, none⟩ = some (.int .i64 a) := by rw [h.cell]; rfl
  have p2 : w.cell? ⟨g, 1, none⟩ = some (.int .i64 b) := by rw [h.cell]; rfl
  have HO : Hid (orE a b = if a = 0 then b else a) := rfl
  generalize orE a b = z at *
  clear h
  by_cases ha : a = 0
  · have hz : z = b := by rw [HO.out, if_pos ha]
    subst hz
    subst ha
    by_cases hb : z = 0
    · subst hb
      clear HO
      go_enter Try.func91, Try.ntmps91
      go_wp2_with fail
      go_loop [8] (fun i => ∃ k : Nat, k ≤ 2 ∧ i = .int .i64 k) (fun i => 2 - (intOf i).toNat)
      case atStart => exact ⟨0, by omega, rfl⟩
      case round =>
        obtain ⟨k, hk, rfl⟩ := hrel
        by_cases k2 : k = 2
        · subst k2
          go_wp2
          go_ret
          exact ⟨rfl, rfl⟩
        · have hc : w.cell? ⟨g, k, none⟩ = some (.int .i64 0) := by
            by_cases k0 : k = 0
            · subst k0; exact p1
            · obtain rfl : k = 1 := by omega
              exact p2
          have kl : (k : Int) < 2 := by omega
          clear p1 p2
          go_wp2
          go_round
          case rel => exact ⟨k + 1, by omega, by go_num⟩
          case measure => simp [intOf]; omega
    · have hb' : (z == 0) = false := by simp [hb]
      have hb2 : (z != 0) = true := by simp [hb]
      have HB := Lib.hid hb
      clear HO hb
      go_enter Try.func91, Try.ntmps91
      go_wp2_with fail
      go_loop [8] (fun i => ∃ k : Nat, k ≤ 1 ∧ i = .int .i64 k) (fun i => 2 - (intOf i).toNat)
      case atStart => exact ⟨0, by omega, rfl⟩
      case round =>
        obtain ⟨k, hk, rfl⟩ := hrel
        by_cases k0 : k = 0
        · subst k0
          go_wp2
          go_round
          case rel => exact ⟨1, by omega, by go_num⟩
          case measure => simp [intOf]
        · obtain rfl : k = 1 := by omega
          go_wp2
          go_ret
          exact ⟨rfl, rfl⟩
  · have hz : z = a := by rw [HO.out, if_neg ha]
    subst hz
    have hb' : (z == 0) = false := by simp [ha]
    have hb2 : (z != 0) = true := by simp [ha]
    have HA := Lib.hid ha
    clear HO ha
    go_enter Try.func91, Try.ntmps91
    go_wp2_with fail
    go_loop [8] (fun i => i = .int .i64 0) (fun i => 2 - (intOf i).toNat)
    case atStart => exact rfl
    case round =>
      subst hrel
      go_wp2
      go_ret
      exact ⟨rfl, rfl⟩
/-- numbers that do not wrap when they are subtracted -/
def Small (x : Int) : Prop := -1000000 ≤ x ∧ x ≤ 1000000
def cmpR (a b : Rn) : Int := orE (a.1 - b.1) (a.2.1 - b.2.1)
set_option maxRecDepth 100000 in
set_option maxHeartbeats 1000000 in
/-- the comparing function lays three blocks and turns nothing -/
theorem cmpRuns_any (a b : Rn) (w : World) (ha : Small a.1 ∧ Small a.2.1) (hb : Small b.1 ∧ Small b.2.1) :
    Calls Try.prog 90 #[.agg #[.int .i64 a.1, .int .i64 a.2.1, .int .i64 a.2.2], .agg #[.int .i64 b.1, .int .i64 b.2.1, .int .i64 b.2.2]] w fun e w' => e = .returned (.int .i64 (cmpR a b)) ∧ ∃ q os', w' = grow (w.drewN q) os' := by
  obtain ⟨a1, a2, a3⟩ := a
  obtain ⟨b1, b2, b3⟩ := b
  obtain ⟨⟨x1, x2⟩, ⟨x3, x4⟩⟩ := ha
  obtain ⟨⟨x5, x6⟩, ⟨x7, x8⟩⟩ := hb
  simp only at x1 x2 x3 x4 x5 x6 x7 x8
  have OR := Lib.hid fun g w' h => or2i_any g (a1 - b1) (a2 - b2) w' h
  show Calls Try.prog _ _ _ fun e w' => e = .returned (.int .i64 (orE (a1 - b1) (a2 - b2))) ∧ _
  generalize orE (a1 - b1) (a2 - b2) = r at *
  go_enter Try.func90, Try.ntmps90
  go_wp2_with fail
  refine (OR.out (w.heap.size + 1 + 1) _ (Blk.new' (by simp) _ _)).mono ?_
  rintro e w' ⟨rfl, rfl⟩
  go_wp2
  go_ret
  exact ⟨rfl, 0, _, by rw [alloc_eq_grow, alloc_eq_grow, alloc_eq_grow, grow_grow, grow_grow]; rfl⟩
end Go.Proofs.Ytdimlpcbbkokiaa

/- Walks: slices.Clone of numbers; how many staves five lines are (stave.Staves). -/
namespace Go.Proofs.Ytdimlpcbbkokiaa
open Go.RowKit Go.Shelf
set_option linter.unusedVariables false
attribute [local go_sem] Oper.semAt_some

theorem clone_own {w w' : World} {n : Nat} {e : TypeId} {v : Value} {q : Int → Int} {xs : List Value} (h : w'.ownsRow w.heap.size e 1 v n xs) (hx : xs = (List.range n).map (fun (j : Nat) => Value.int .i64 (q j))) : w'.ownsRow w.heap.size e 1 v n ((List.range n).map fun (j : Nat) => Value.int .i64 (q j)) := hx ▸ h
set_option maxRecDepth 100000 in
set_option maxHeartbeats 1000000 in
theorem clone_any (A : Option Addr) (n c : Nat) (q : Int → Int) (w : World) (hA : ArrI w w.heap.size A n q) (hn0 : 0 < n) (hn : n ≤ 1000000) :
    Calls Try.prog 15 #[.slice A n c] w (New w fun v w' => w'.ownsRow w.heap.size 3 1 v n ((List.range n).map fun (j : Nat) => Value.int .i64 (q j))) := by
  obtain ⟨i0, hi0, hz0, hz1, hz2⟩ := info_parts infoInt
  obtain ⟨b, off, rfl, hb, hc⟩ := ArrI.fn hA hn0
  have E1 : ∀ W, (binOp .eql 25 (.slice (some ⟨b, off, none⟩) n c) (.slice none 0 0)).run Try.prog W = .ok (.bool false) W := fun W => Go.run_eql_slice_nil W _ _ _ _ _ Try.underlying25
  have HC := Lib.hid hc
  clear hc hA
  go_enter Try.func15, Try.ntmps15
  go_wp2_with (at_builtin; refine wpList_append_own _ rfl (.tmp 5) (.tmp 6) 25 rfl w.heap.size 3 i0 (.int .i64 0) 1 8 Try.underlying25 hi0 hz0 hz1 hz2 rfl (by decide) _ 0 [] rfl (World.ownsRow_made w #[] 0 (Nat.le_refl _) (by decide) rfl) ⟨b, off, none⟩ n c ((List.range n).map (fun (j : Nat) => Value.int .i64 (q j))) rfl (by simp) ?c1 ?c2 ?c3 ?c4 ?c5 ?_)
  case c1 =>
    intro j u hj
    have hjn : j < n := by
      rcases Nat.lt_or_ge j n with h | h
      · exact h
      · rw [List.getElem?_eq_none (by simpa using h)] at hj; cases hj
    have := HC.out j (by omega) (by omega)
    simp [hjn] at hj
    subst hj
    rw [Int.toNat_natCast] at this
    have hadd : (⟨b, off, none⟩ : Addr).add j = ⟨b, off + j, none⟩ := by unfold Addr.add; split <;> simp_all
    rw [hadd, ← this]
    exact (Below.cell ((Below.refl _ _).alloc (Nat.le_refl _) _) (p := ⟨b, off + j, none⟩) hb)
  case c2 => simp [Value.oneCell']
  case c3 => unfold maxLen; omega
  case c4 => omega
  case c5 => simp
  intro v' w7 own7 hg7 _
  have b7 : Below w.heap.size w w7 := ((Below.refl w.heap.size w).alloc (Nat.le_refl _) (.cells #[] 3)).grown hg7 (by simp) (fun k hk => by cases hk; exact Nat.le_refl _)
  go_wp2
  go_ret
  exact ⟨_, rfl, own7, b7⟩

/-- how many staves five lines are -/
def stN (m : Nat → Nat) (ln : Nat → Nat → Int) : Nat := if evenB m ln = true then 1 else 0
theorem infoLines : (Try.prog.info? 54).map (fun i => (i.zero, i.size, i.bytes)) = some (some (.agg #[.slice none 0 0]), 1, 24) := by kernel_rfl
set_option maxRecDepth 100000 in
set_option maxHeartbeats 4000000 in
theorem staves5 (A : Option Addr) (c : Nat) (m : Nat → Nat) (ln : Nat → Nat → Int) (w : World) (hL : Lines w w.heap.size A 5 m ln) (hc : 5 ≤ c) (hm : ∀ i, i < 5 → m i ≤ 1000000) (hb : ∀ i j, i < 5 → j < m i → -1099511627776 ≤ ln i j ∧ ln i j ≤ 1099511627776) :
    Calls Try.prog 34 #[.slice A 5 c] w (New w fun v w' => ∃ A' c', v = .slice A' (stN m ln) c') := by
  have EV := Lib.hid fun c w' hL' => even_any A c m ln w' hL' hm hb
  have HL := Lib.hid hL
  obtain ⟨b, off, A0, c0, rfl, hbB, -, -⟩ := hL.at_ (i := 0) (by omega)
  clear hL
  have hc0 : (5 : Int) ≤ c := by omega
  obtain ⟨i0, hi0, hz0, hz1, hz2⟩ := info_parts infoInts
  obtain ⟨s0, hs0, hsz0, hsz1, hsz2⟩ := info_parts infoLines
  go_enter Try.func34, Try.ntmps34
  go_wp2_with fail
  go_step3
  go_wp2_with fail
  go_step3
  go_wp2_with fail
  go_loopw [3, 4] (fun vo s wr => Below w.heap.size w wr ∧ ((s = .int .i64 0 ∧ vo = .slice none 0 0) ∨ ∃ i : Nat, 0 < i ∧ i ≤ 5 ∧ s = .int .i64 i ∧ ∃ A' c', vo = .slice A' (stN m ln) c')) (fun _ s _ => 6 - (intOf s).toNat)
  case atStart => exact ⟨Below.refl _ _, .inl ⟨rfl, rfl⟩⟩
  case round =>
    obtain ⟨b1, (⟨rfl, rfl⟩ | ⟨i, i0, i5, rfl, A', c', rfl⟩)⟩ := hrel
    · cases hev : evenB m ln with
      | false =>
        have hst : Hid (stN m ln = 0) := by show _ = _; unfold stN; rw [hev]; rfl
        rw [hev] at EV
        clear hev
        go_wp2_with fail
        refine (EV.out c _ (HL.out.below b1)).mono ?_
        rintro e w2 ⟨rfl, hb2⟩
        have b2 := below_call b1 b1.size hb2
        clear b1 hb2
        go_wp2_with fail
        go_roundw
        case rel => exact ⟨b2, .inr ⟨1, by omega, by omega, rfl, none, 0, by rw [hst.out]⟩⟩
        case measure => simp [intOf]
      | true =>
        have hst : Hid (stN m ln = 1) := by show _ = _; unfold stN; rw [hev]; rfl
        have MP : Hid (∀ j, j < 5 → 0 < m j) := by
          show ∀ _, _
          intro j hj
          unfold evenB at hev
          rw [Bool.and_eq_true] at hev
          have := of_decide_eq_true (List.all_eq_true.1 hev.1 j (List.mem_range.2 hj))
          exact this.1
        rw [hev] at EV
        clear hev
        go_wp2_with fail
        refine (EV.out c _ (HL.out.below b1)).mono ?_
        rintro e w2 ⟨rfl, hb2⟩
        have b2 := below_call b1 b1.size hb2
        have b3 : Below w.heap.size w (w2.alloc (.cells #[.slice none 0 0] 54)) := b2.alloc b2.size _
        have ks := Blk.new w2 54 #[.slice none 0 0]
        have z2 := b2.size
        clear b1 hb2
        go_wp2_with fail
        generalize w2.alloc (.cells #[.slice none 0 0] 54) = w3 at *
        generalize w2.heap.size = gs at *
        clear b2
        go_loopw [29] (fun s w9 => ∃ j : Nat, j ≤ 5 ∧ s = .int .i64 j ∧ Below w.heap.size w w9 ∧ ∃ vo xs, Blk w9 gs 54 #[vo] ∧ w9.ownsRow w.heap.size 25 1 vo j xs) (fun s _ => 5 - (intOf s).toNat)
        case atStart => exact ⟨0, by omega, rfl, b3, _, [], ks, World.ownsRow_nil _ _ _ _⟩
        case round =>
          obtain ⟨j, j5, rfl, b4, vo, xs, k4, own4⟩ := hrel
          clear b3 ks
          obtain ⟨A8, c8, rfl, -, -⟩ := own_arr own4
          have q1 := k4.at0
          have q2 := k4.frozen 0
          by_cases hlt : (j : Int) < 5
          · obtain ⟨b5, off5, A5, c5, e5, -, hc5, ha5⟩ := HL.out.at_ (i := j) (by omega)
            cases e5
            replace hc5 := (b4.cell (p := ⟨b, off + j, none⟩) hbB).trans hc5
            have MJ := MP.out j (by omega)
            have MK := hm j (by omega)
            have CL := Lib.hid fun W hA' => clone_any A5 (m j) c5 (fun jj => ln j jj.toNat) W hA' MJ MK
            have HA5 := Lib.hid (ArrI.more (ArrI.below ha5 b4) b4.size)
            clear ha5
            generalize m j = mj at *
            have n1 := World.new_ne wr _ q1
            have ne := own_neB own4 k4 (by decide)
            go_wp2_with fail
            go_region_law
              (first
                | (refine step_append_lies _ (by rfl) _ _ _ (by rfl) w.heap.size 25 i0 (.slice none 0 0) 1 24 Try.underlying34 hi0 hz0 hz1 hz2 rfl (by omega) (.slice A8 j c8) _ _ (by rfl) (own7.alloc _) ⟨w6.heap.size, 0, none⟩ 1 1 [.slice (some ⟨g6, 0, none⟩) mj c6] (by rfl) (by rfl) (World.news_of_block (cs := #[.slice (some ⟨g6, 0, none⟩) mj c6]) (t := 25) (fr := (0, 0)) (heap_alloc_new w6 _)) (by simp [Value.oneCell']) (by omega) (by unfold maxLen; omega) (by omega) (by simp; omega) (w6.heap.size + 1) (by simp) ?_
                   intro gg cap w1 hown1 hgrow hat hlt1
                   have k7 := (k6.alloc (.cells #[.slice (some ⟨g6, 0, none⟩) mj c6] 25)).grown hgrow ne
                   have x3 := k7.at0
                   have x4 := k7.frozen 0)
                | (refine (show (if Region.wanted (⟨some 36, _, _, _, _, _⟩ : Oper) _ = true then _ else _) from ?_)
                   go_simp
                   refine (CL.out _ (show ArrI wr.drew wr.drew.heap.size _ _ _ from HA5.out)).mono ?_
                   rintro e w6 ⟨v6, rfl, own6, hb6⟩
                   obtain ⟨g6, c6, rfl⟩ := own_some own6 MJ
                   have x1 := (k4.drew.below' hb6).at0
                   have x2 := (k4.drew.below' hb6).frozen 0
                   have y1 := World.new_ne w6 _ x1
                   have own7 := own_below (w := wr.drew) own4 hb6
                   have b6 := b4.drew.trans (hb6.mono b4.size)
                   have k6 := k4.drew.below' hb6
                   have z6 := b6.size
                   have z7 := k6.lt
                   have x5 : ∀ o, (w6.alloc o).cell? ⟨gs, 0, none⟩ = some (.slice A8 j c8) := fun o => (k6.alloc o).at0
                   dsimp only))
            all_goals
              have b7 : Below w.heap.size w w1 := (b6.alloc b6.size (.cells #[.slice (some ⟨g6, 0, none⟩) mj c6] 25)).grown hgrow (by simp; omega) (fun k hk => (own_ge own4 hk).1)
              have k8 := k7.set_ 0 (.slice (some ⟨gg, 0, none⟩) (j + 1) cap)
              have own8 := own_far hown1 k7 (by decide) 0 (.slice (some ⟨gg, 0, none⟩) (j + 1) cap)
              have b8 : Below w.heap.size w (w1.setCell ⟨gs, 0, none⟩ (.slice (some ⟨gg, 0, none⟩) (j + 1) cap)) := b7.setCell z2 _
              clear b7 k7 hown1 hgrow x1 x2 x5 own7 k6 b6 hat
              go_wp2
              go_roundw
              case rel => exact ⟨j + 1, by omega, by go_num, b8, _, _, k8, own8⟩
              case measure => simp [intOf]; omega
          · obtain rfl : j = 5 := by omega
            clear q2
            go_wp2_with (at_builtin; refine wpList_append_own _ rfl (.tmp 41) (.tmp 43) 56 rfl w.heap.size 54 s0 (.agg #[.slice none 0 0]) 1 24 Try.underlying56 hs0 hsz0 hsz1 hsz2 rfl (by decide) _ 0 [] rfl (World.ownsRow_nil _ _ _ _) ⟨wr.heap.size, 0, none⟩ 1 1 [.slice A8 5 c8] rfl rfl ?c1 ?c2 ?c3 ?c4 ?c5 ?_)
            try case c1 => exact cell_one_new _ _ _
            try case c2 => simp [Value.oneCell']
            try case c3 => unfold maxLen; omega
            try case c4 => omega
            try case c5 => have := b4.size; first | omega | (simp; omega)
            intro v' w7 own7 hg7 _
            have b7 : Below w.heap.size w w7 := (b4.alloc b4.size (.cells #[.slice A8 5 c8] 54)).grown hg7 (by have := b4.size; simp; omega) (fun k hk => by cases hk)
            obtain ⟨A9, c9, rfl, -, -⟩ := own_arr own7
            clear own7 hg7
            go_wp2
            go_roundw
            case rel => exact ⟨b7, .inr ⟨5, by omega, by omega, by go_num, A9, c9, by rw [hst.out]⟩⟩
            case measure => simp [intOf]
    · have i5' : (i : Int) + 5 > 5 := by omega
      go_wp2_with fail
      rw [Exit.noGoto_ret]
      go_ret
      exact ⟨_, rfl, ⟨_, _, rfl⟩, b1⟩
end Go.Proofs.Ytdimlpcbbkokiaa

/- Walks: lists of numbers and lists of lines compared; a list of numbers copied. -/
namespace Go.Proofs.Ytdimlpcbbkokiaa
open Go.RowKit Go.Shelf
set_option linter.unusedVariables false
attribute [local go_sem] Oper.semAt_some

set_option maxHeartbeats 400000 in
theorem sameInts_any (A B : Option Addr) (n m c d : Nat) (p q : Int → Int) (w : World) (hA : ArrI w w.heap.size A n p) (hB : ArrI w w.heap.size B m q) (hn : n ≤ maxLen) (hm : m ≤ maxLen) :
    Calls Try.prog 68 #[.slice A n c, .slice B m d] w fun e w' => e = .returned (.bool (sameI n m p q)) ∧ ∃ k, w' = w.drewN k := by
  unfold maxLen at hn hm
  by_cases hnm : n = m
  · subst hnm
    go_enter Try.func68, Try.ntmps68
    go_wp2
    go_loopw [5] (fun s wr => ∃ i : Int, 0 ≤ i ∧ i ≤ n ∧ s = .int .i64 i ∧ (∀ j : Int, 0 ≤ j → j < i → p j = q j) ∧ ∃ k, wr = w.drewN k) (fun s _ => n - (intOf s).toNat)
    case atStart => exact ⟨0, by omega, by omega, rfl, fun j a b => by omega, 0, rfl⟩
    case round =>
      obtain ⟨i, h0, hi, rfl, hall, k, rfl⟩ := hrel
      have HA := Lib.hid hall; clear hall
      by_cases hlt : i < n
      · obtain ⟨b, off, rfl, hb, hc⟩ := ArrI.at_ hA h0 hlt
        obtain ⟨b', off', rfl, hb', hc'⟩ := ArrI.at_ hB h0 hlt
        by_cases he : p i = q i
        · have hbool : (p i != q i) = false := by simp [he]
          have HE := Lib.hid he; clear he
          go_wp2_with fail
          go_quiet (fail)
          go_wp2
          go_roundw
          case rel =>
            refine ⟨i + 1, by omega, by omega, by go_num, fun j a b => ?_, _, rfl⟩
            by_cases e : j = i
            · rw [e]; exact HE.out
            · exact HA.out j a (by omega)
          case measure => simp [intOf]; omega
        · have hbool : (p i != q i) = true := by simp [he]
          have HE := Lib.hid he; clear he
          have hr : Hid (sameI n n p q = false) := by
            show _ = _
            rw [Bool.eq_false_iff]; intro h; exact HE.out ((sameI_iff.1 h).2 i h0 hlt)
          go_wp2_with fail
          go_quiet (fail)
          go_wp2
          go_ret
          exact ⟨ret_bool hr.out.symm, _, World.drewN_drewN _ _ _⟩
      · have hr : Hid (sameI n n p q = true) := by
          show _ = _
          exact sameI_iff.2 ⟨rfl, fun j a b => HA.out j a (by omega)⟩
        go_wp2
        go_ret
        exact ⟨ret_bool hr.out.symm, _, rfl⟩
  · have hr : Hid (sameI n m p q = false) := by
      show _ = _
      rw [Bool.eq_false_iff]; intro h; exact hnm (sameI_iff.1 h).1
    go_enter Try.func68, Try.ntmps68
    go_wp2
    all_goals
      go_ret
      exact ⟨ret_bool hr.out.symm, 0, rfl⟩

/-- two lists of lines are the same -/
def sameL (n m : Nat) (mA mB : Nat → Nat) (a b : Nat → Nat → Int) : Bool := decide (n = m) && allN n fun i => sameI (mA i.toNat) (mB i.toNat) (fun j => a i.toNat j.toNat) (fun j => b i.toNat j.toNat)
theorem sameL_iff {n m : Nat} {mA mB : Nat → Nat} {a b : Nat → Nat → Int} : sameL n m mA mB a b = true ↔ n = m ∧ ∀ i, i < n → mA i = mB i ∧ ∀ j, j < mA i → a i j = b i j := by
  unfold sameL
  rw [Bool.and_eq_true, decide_eq_true_iff, allN_iff]
  refine and_congr_right fun _ => ⟨fun h i hi => ?_, fun h i i0 i1 => ?_⟩
  · have := h i (by omega) (by omega)
    rw [Int.toNat_natCast] at this
    obtain ⟨h1, h2⟩ := sameI_iff.1 this
    exact ⟨h1, fun j hj => by have := h2 j (by omega) (by omega); simpa using this⟩
  · obtain ⟨h1, h2⟩ := h i.toNat (by omega)
    exact sameI_iff.2 ⟨h1, fun j j0 j1 => h2 j.toNat (by omega)⟩
set_option maxHeartbeats 1000000 in
theorem sameLists_any (A B : Option Addr) (n m c d : Nat) (mA mB : Nat → Nat) (a b : Nat → Nat → Int) (w : World) (hA : Lines w w.heap.size A n mA a) (hB : Lines w w.heap.size B m mB b) (hn : n ≤ maxLen) (hm : m ≤ maxLen) (hmA : ∀ i, i < n → mA i ≤ maxLen) (hmB : ∀ i, i < m → mB i ≤ maxLen) :
    Calls Try.prog 22 #[.slice A n c, .slice B m d] w fun e w' => e = .returned (.bool (sameL n m mA mB a b)) ∧ ∃ k, w' = w.drewN k := by
  unfold maxLen at hn hm
  by_cases hnm : n = m
  · subst hnm
    have SI := Lib.hid fun i (hi : i < n) A' B' c' d' w' hA' hB' => sameInts_any A' B' (mA i) (mB i) c' d' (fun j => a i j.toNat) (fun j => b i j.toNat) w' hA' hB' (hmA i hi) (hmB i hi)
    clear hmA hmB
    go_enter Try.func22, Try.ntmps22
    go_wp2
    go_loopw [5] (fun s wr => ∃ i : Nat, i ≤ n ∧ s = .int .i64 i ∧ (∀ j, j < i → sameI (mA j) (mB j) (fun t => a j t.toNat) (fun t => b j t.toNat) = true) ∧ ∃ k, wr = w.drewN k) (fun s _ => n - (intOf s).toNat)
    case atStart => exact ⟨0, by omega, rfl, fun j hj => by omega, 0, rfl⟩
    case round =>
      obtain ⟨i, hi, rfl, hall, k, hwr⟩ := hrel
      have HA := Lib.hid hall; clear hall
      by_cases hlt : (i : Int) < n
      · obtain ⟨b1, o1, A1, c1, rfl, hb1, hc1, ha1⟩ := hA.at_ (i := i) (by omega)
        obtain ⟨b2, o2, A2, c2, rfl, hb2, hc2, ha2⟩ := hB.at_ (i := i) (by omega)
        have SIi := Lib.hid fun k' => SI.out i (by omega) A1 A2 c1 c2 (wr.drewN k') (by rw [hwr]; exact ha1) (by rw [hwr]; exact ha2)
        replace hc1 : wr.cell? ⟨b1, o1 + i, none⟩ = some (.slice A1 (mA i) c1) := by rw [hwr]; exact hc1
        replace hc2 : wr.cell? ⟨b2, o2 + i, none⟩ = some (.slice A2 (mB i) c2) := by rw [hwr]; exact hc2
        have HWR := Lib.hid hwr
        clear hwr
        cases hs : sameI (mA i) (mB i) (fun t => a i t.toNat) (fun t => b i t.toNat) with
        | true =>
          rw [hs] at SIi
          have HS := Lib.hid hs; clear hs
          go_wp2_with fail
          go_quiet ((go_at_call 68; exact Calls.quiet_of (SIi.out _)))
          go_wp2
          go_roundw
          case rel =>
            refine ⟨i + 1, by omega, by go_num, fun j hj => ?_, _, by rw [HWR.out]; exact World.drewN_drewN _ _ _⟩
            rcases Nat.lt_succ_iff_lt_or_eq.1 hj with h | rfl
            · exact HA.out j h
            · exact HS.out
          case measure => simp [intOf]; omega
        | false =>
          rw [hs] at SIi
          have hr : Hid (sameL n n mA mB a b = false) := by
            show _ = _
            rw [Bool.eq_false_iff]
            intro h
            have := (sameL_iff.1 h).2 i (by omega)
            rw [sameI_iff.2 ⟨this.1, fun j j0 j1 => this.2 j.toNat (by omega)⟩] at hs
            cases hs
          clear hs
          go_wp2_with fail
          go_quiet ((go_at_call 68; exact Calls.quiet_of (SIi.out _)))
          go_wp2
          go_ret
          exact ⟨ret_bool hr.out.symm, _, by rw [HWR.out]; exact World.drewN_drewN _ _ _⟩
      · obtain rfl : n = i := by omega
        have hr : Hid (sameL n n mA mB a b = true) := by
          show _ = _
          refine sameL_iff.2 ⟨rfl, fun i hi => ?_⟩
          obtain ⟨h1, h2⟩ := sameI_iff.1 (HA.out i hi)
          exact ⟨h1, fun j hj => by have := h2 j (by omega) (by omega); simpa using this⟩
        subst hwr
        go_wp2
        go_ret
        exact ⟨ret_bool hr.out.symm, _, rfl⟩
  · have hr : Hid (sameL n m mA mB a b = false) := by
      show _ = _
      rw [Bool.eq_false_iff]; intro h; exact hnm (sameL_iff.1 h).1
    go_enter Try.func22, Try.ntmps22
    go_wp2
    all_goals
      go_ret
      exact ⟨ret_bool hr.out.symm, 0, rfl⟩
/-- a copy of numbers: a list of the same numbers in memory of its own, or none -/
theorem clone_all (A : Option Addr) (n c : Nat) (q : Int → Int) (w : World) (hA : ArrI w w.heap.size A n q) (hn : n ≤ 1000000) :
    Calls Try.prog 15 #[.slice A n c] w (New w fun v w' => ∃ A' c', v = .slice A' n c' ∧ ArrI w' w'.heap.size A' n q) := by
  by_cases h0 : 0 < n
  · refine (clone_any A n c q w hA h0 hn).mono ?_
    rintro e w' ⟨v, rfl, own, hb⟩
    obtain ⟨A', c', e, ha⟩ := own_arrI (q := fun j => q j) own
    exact ⟨v, rfl, ⟨A', c', e, ha.congr fun i i0 i1 => by rw [Int.toNat_of_nonneg i0]⟩, hb⟩
  · obtain rfl : n = 0 := by omega
    cases A with
    | none =>
      have E1 : ∀ W, (binOp .eql 25 (.slice none 0 c) (.slice none 0 0)).run Try.prog W = .ok (.bool true) W := fun W => Go.run_eql_slice_nil W _ _ _ _ _ Try.underlying25
      go_enter Try.func15, Try.ntmps15
      go_wp2
      go_ret
      exact ⟨_, rfl, ⟨none, 0, rfl, Arr.nil⟩, Below.refl _ _⟩
    | some a =>
      have E1 : ∀ W, (binOp .eql 25 (.slice (some a) 0 c) (.slice none 0 0)).run Try.prog W = .ok (.bool false) W := fun W => Go.run_eql_slice_nil W _ _ _ _ _ Try.underlying25
      obtain ⟨i0, hi0, hz0, hz1, hz2⟩ := info_parts infoInt
      go_enter Try.func15, Try.ntmps15
      go_wp2_with (at_builtin; refine wpList_append_own _ rfl (.tmp 5) (.tmp 6) 25 rfl w.heap.size 3 i0 (.int .i64 0) 1 8 Try.underlying25 hi0 hz0 hz1 hz2 rfl (by decide) _ 0 [] rfl (World.ownsRow_made w #[] 0 (Nat.le_refl _) (by decide) rfl) a 0 c [] rfl rfl ?c1 ?c2 ?c3 ?c4 ?c5 ?_)
      case c1 => intro j u hj; simp at hj
      case c2 => simp
      case c3 => unfold maxLen; omega
      case c4 => omega
      case c5 => simp
      intro v' w7 own7 hg7 _
      have b7 : Below w.heap.size w w7 := ((Below.refl w.heap.size w).alloc (Nat.le_refl _) (.cells #[] 3)).grown hg7 (by simp) (fun k hk => by cases hk; exact Nat.le_refl _)
      obtain ⟨A', c', e, -, ha⟩ := own_arr own7
      go_wp2
      go_ret
      exact ⟨_, rfl, ⟨A', c', e, Arr.nil⟩, b7⟩
theorem few_any (W H : Int) (A : Option Addr) (n c : Nat) (w : World) :
    Calls Try.prog 12 #[.agg #[.int .i64 W, .int .i64 H, .slice A n c]] w fun e w' => e = .returned (.bool (decide ((n : Int) ≤ 6000))) ∧ Below w.heap.size w w' := by
  go_enter Try.func12, Try.ntmps12
  go_wp2
  go_ret
  exact ⟨rfl, by (repeat (first | exact Below.refl _ _ | assumption | refine Below.drew ?_ | refine below_drewN ?_ _ | refine Below.alloc ?_ (by first | omega | (simp; done) | (simp; omega)) _ | refine Below.setCell ?_ (by first | omega | (simp; done) | (simp; omega)) _ | refine below_setRow ?_ (by first | omega | (simp; done) | (simp; omega)) _ ))⟩
end Go.Proofs.Ytdimlpcbbkokiaa

/- Walks: copies of numbers, of lines and of a stave; staves compared. -/
namespace Go.Proofs.Ytdimlpcbbkokiaa
open Go.RowKit Go.Shelf
set_option linter.unusedVariables false
attribute [local go_sem] Oper.semAt_some

/-- k lines of any lengths, a slice each, in memory of the call's own -/
structure FoundM (B : Nat) (w : World) (m : Nat → Nat) (ln : Nat → Nat → Int) (k : Nat) (vo : Value) (v : Nat → Value) : Prop where
  row : w.ownsRow B 25 1 vo k ((List.range k).map v)
  lines : ∀ i, i < k → w.ownsRow B 3 1 (v i) (m i) ((List.range (m i)).map fun j => Value.int .i64 (ln i j))
section
variable {B : Nat} {w w' : World} {m : Nat → Nat} {ln : Nat → Nat → Int} {k : Nat} {vo : Value} {v : Nat → Value}
theorem FoundM.below (h : FoundM B w m ln k vo v) (hb : Below w.heap.size w w') : FoundM B w' m ln k vo v :=
  ⟨own_below h.row hb, fun i hi => own_below (h.lines i hi) hb⟩
theorem FoundM.drew (h : FoundM B w m ln k vo v) : FoundM B w.drew m ln k vo v := ⟨h.row, h.lines⟩
theorem FoundM.base {B' : Nat} (h : FoundM B w m ln k vo v) (hB : B' ≤ B) : FoundM B' w m ln k vo v := ⟨own_base h.row hB, fun i hi => own_base (h.lines i hi) hB⟩
theorem FoundM.nil (w : World) (B : Nat) (m : Nat → Nat) (ln : Nat → Nat → Int) (v : Nat → Value) : FoundM B w m ln 0 (.slice none 0 0) v := ⟨World.ownsRow_nil _ _ _ _, fun i hi => by omega⟩
theorem FoundM.snoc {vo' u : Value} (h : FoundM B w m ln k vo v) (hu : w.ownsRow B 3 1 u (m k) ((List.range (m k)).map fun j => Value.int .i64 (ln k j)))
    (hg : w.grownBy w' vo.ownBlock) (hr : w'.ownsRow B 25 1 vo' (k + 1) ((List.range k).map v ++ [u])) : FoundM B w' m ln (k + 1) vo' (fun i => if i = k then u else v i) := by
  refine ⟨?_, fun i hi => ?_⟩
  · rw [range_snoc]
    simp only [if_true]
    rw [show (List.range k).map (fun i => if i = k then u else v i) = (List.range k).map v from List.map_congr_left fun i hi => by rw [if_neg]; have := List.mem_range.1 hi; omega]
    exact hr
  · show World.ownsRow _ _ _ _ (if i = k then _ else v i) _ _
    by_cases e : i = k
    · subst e
      rw [if_pos rfl]
      exact own_grown hu h.row (by decide) hg
    · rw [if_neg e]
      exact own_grown (h.lines i (by omega)) h.row (by decide) hg
theorem FoundM.toLines (h : FoundM B w m ln k vo v) : ∃ A c, vo = .slice A k c ∧ k ≤ c ∧ (A = none → c = 0) ∧ Lines w w.heap.size A k m ln := by
  have hn : ∀ A c, vo = .slice A k c → A = none → c = 0 := by
    rintro A c e rfl
    rcases h.row.2 with ⟨h2, _⟩ | ⟨g, cap, cur, h2, _⟩
    · rw [e] at h2; simp at h2; exact h2.2
    · rw [e] at h2; simp at h2
  obtain ⟨A, c, e, hc, ha⟩ := own_arr h.row
  refine ⟨A, c, e, hc, hn A c e, v, Arr.congr ha fun i i0 i1 => ?_, fun i hi => ?_⟩
  · rw [List.getD_eq_getElem?_getD, List.getElem?_map, List.getElem?_range (by omega)]; rfl
  · obtain ⟨A', c', e', ha'⟩ := own_arrI (h.lines i hi)
    exact ⟨A', c', e', ha'⟩
end
/-- lines that came in, with what a nil one is -/
def LinesZ (w : World) (B : Nat) (A : Option Addr) (K : Nat) (m : Nat → Nat) (ln : Nat → Nat → Int) : Prop :=
  ∃ vs : Nat → Value, Arr w B A K (fun j => vs j.toNat) ∧ ∀ i, i < K → ∃ A' c', vs i = .slice A' (m i) c' ∧ (A' = none → c' = 0) ∧ ArrI w B A' (m i) (fun j => ln i j.toNat)
section
variable {B : Nat} {w w' : World} {m : Nat → Nat} {ln : Nat → Nat → Int} {K : Nat} {A : Option Addr}
theorem LinesZ.lines (h : LinesZ w B A K m ln) : Lines w B A K m ln := by
  obtain ⟨vs, h1, h2⟩ := h
  exact ⟨vs, h1, fun i hi => by obtain ⟨A', c', e, -, ha⟩ := h2 i hi; exact ⟨A', c', e, ha⟩⟩
theorem LinesZ.below (h : LinesZ w w.heap.size A K m ln) (hb : Below w.heap.size w w') : LinesZ w' w'.heap.size A K m ln := by
  obtain ⟨vs, h1, h2⟩ := h
  exact ⟨vs, (Arr.below h1 hb).more hb.size, fun i hi => by obtain ⟨A', c', e, hz, ha⟩ := h2 i hi; exact ⟨A', c', e, hz, ha.to hb⟩⟩
theorem LinesZ.at_ (h : LinesZ w B A K m ln) {i : Nat} (hi : i < K) :
    ∃ b off A' c', A = some ⟨b, off, none⟩ ∧ b < B ∧ w.cell? ⟨b, off + i, none⟩ = some (.slice A' (m i) c') ∧ (A' = none → c' = 0) ∧ ArrI w B A' (m i) (fun j => ln i j.toNat) := by
  obtain ⟨vs, h1, h2⟩ := h
  obtain ⟨b, off, e, hb, hc⟩ := Arr.at_ h1 (i := (i : Int)) (by omega) (by omega)
  rw [Int.toNat_natCast] at hc
  obtain ⟨A', c', e', hz, ha⟩ := h2 i hi
  exact ⟨b, off, A', c', e, hb, by rw [hc, e'], hz, ha⟩
end

set_option maxRecDepth 100000 in
set_option maxHeartbeats 400000 in
theorem copyInts_any (A : Option Addr) (n c : Nat) (q : Nat → Int) (w : World) (hA : ArrI w w.heap.size A n (fun j => q j.toNat)) (hc : A = none → c = 0) (hn : n ≤ 17592186044416) :
    Calls Try.prog 75 #[.slice A n c] w (New w fun v w' => w'.ownsRow w.heap.size 3 1 v n ((List.range n).map fun j => Value.int .i64 (q j))) := by
  obtain ⟨i0, hi0, hz0, hz1, hz2⟩ := info_parts infoInt
  have hnil := World.ownsRow_nil w w.heap.size 3 1
  cases A with
  | none =>
    have hn0 : n = 0 := by
      rcases Nat.eq_zero_or_pos n with h | h
      · exact h
      · obtain ⟨b, off, e, _⟩ := hA h; cases e
    subst hn0
    obtain rfl := hc rfl
    go_enter Try.func75, Try.ntmps75
    go_wp2_with (at_builtin; refine wpList_append_own_none rfl (.tmp 4) (.tmp 5) 25 rfl w.heap.size 3 i0 1 Try.underlying25 hi0 _ 0 [] rfl hnil rfl ?_)
    go_ret
    exact ⟨_, rfl, hnil, Below.refl _ _⟩
  | some ad =>
    go_enter Try.func75, Try.ntmps75
    go_wp2_with (at_builtin; refine wpList_append_own _ rfl (.tmp 4) (.tmp 5) 25 rfl w.heap.size 3 i0 (.int .i64 0) 1 8 Try.underlying25 hi0 hz0 hz1 hz2 rfl (by decide) _ 0 [] rfl hnil ad n c ((List.range n).map (fun (j : Nat) => Value.int .i64 (q j))) rfl (by simp) ?c1 ?c2 ?c3 ?c4 (Nat.le_refl _) ?_)
    case c1 =>
      intro j u hj
      have hjn : j < n := by
        rcases Nat.lt_or_ge j n with h | h
        · exact h
        · rw [List.getElem?_eq_none (by simpa using h)] at hj; cases hj
      obtain ⟨b, off, e, _, hcell⟩ := hA (by omega)
      injection e with e; subst e
      have := hcell j (by omega) (by omega)
      simp [hjn] at hj
      subst hj
      rw [Int.toNat_natCast] at this
      unfold Addr.add
      split
      · rename_i e; subst e; exact this
      · exact this
    case c2 => intro u hu; simp at hu; obtain ⟨j, _, rfl⟩ := hu; rfl
    case c3 => unfold maxLen; omega
    case c4 => omega
    intro v' w1 hown' hg _
    go_wp2
    go_ret
    refine ⟨_, rfl, ?_, (Below.refl _ _).grown hg (Nat.le_refl _) (fun k hk => by simp [Value.ownBlock] at hk)⟩
    try rw [Nat.zero_add, List.nil_append] at hown'
    exact hown'

set_option maxRecDepth 100000 in
set_option maxHeartbeats 2000000 in
theorem copyLists_any (A : Option Addr) (K c : Nat) (m : Nat → Nat) (ln : Nat → Nat → Int) (w : World) (hL : LinesZ w w.heap.size A K m ln) (hK : K ≤ 5864062014634) (hm : ∀ i, i < K → m i ≤ 17592186044416) :
    Calls Try.prog 33 #[.slice A K c] w (New w fun v w' => ∃ vs, FoundM w.heap.size w' m ln K v vs) := by
  obtain ⟨i0, hi0, hz0, hz1, hz2⟩ := info_parts infoInts
  have CI := Lib.hid fun i (hi : i < K) A' c' w' hA' hc' => copyInts_any A' (m i) c' (ln i) w' hA' hc' (hm i hi)
  go_enter Try.func33, Try.ntmps33
  go_wp2
  go_loopw [3, 4] (fun vo s wr => ∃ (k : Nat) (v : Nat → Value), k ≤ K ∧ s = .int .i64 k ∧ FoundM w.heap.size wr m ln k vo v ∧ Below w.heap.size w wr) (fun _ s _ => K - (intOf s).toNat)
  case atStart => exact ⟨0, fun _ => .slice none 0 0, by omega, rfl, FoundM.nil _ _ _ _ _, Below.refl _ _⟩
  case round =>
    obtain ⟨k, v, hk, rfl, hF, b1⟩ := hrel
    obtain ⟨Ao, co, rfl, -, -⟩ := own_arr hF.row
    by_cases hlt : (k : Int) < K
    · obtain ⟨b, off, A', c', rfl, hb, hc, hz, ha⟩ := hL.at_ (i := k) (by omega)
      have hc1 := (b1.cell (p := ⟨b, off + k, none⟩) hb).trans hc
      have CIk := Lib.hid (CI.out k (by omega) A' c' wr ((ha.below b1).more b1.size) hz)
      have z1 := b1.size
      clear hc ha hz
      go_wp2_with fail
      refine CIk.out.mono ?_
      rintro e w2 ⟨u, rfl, own2, hb2⟩
      obtain ⟨Au, cu, rfl, -, -⟩ := own_arr own2
      have F2 := hF.below hb2
      have b2 := below_call b1 b1.size hb2
      have z2 := b2.size
      clear hF hb2 hc1
      go_wp2_with (at_builtin; refine wpList_append_own _ rfl (.tmp 11) (.tmp 17) 34 rfl w.heap.size 25 i0 (.slice none 0 0) 1 24 Try.underlying34 hi0 hz0 hz1 hz2 rfl (by decide) _ _ _ rfl (F2.row.alloc _) ⟨w2.heap.size, 0, none⟩ 1 1 [.slice Au (m k) cu] rfl rfl ?c1 ?c2 ?c3 ?c4 ?c5 ?_)
      try case c1 => exact cell_one_new _ _ _
      try case c2 => simp [Value.oneCell']
      try case c3 => unfold maxLen; omega
      try case c4 => omega
      try case c5 => first | omega | (simp; done) | (simp; omega)
      intro v' w7 own7 hg7 _
      have F7 := (F2.below ((Below.refl _ _).alloc (Nat.le_refl _) (.cells #[.slice Au (m k) cu] 25))).snoc ((own_base own2 z1).alloc _) hg7 own7
      have b7 : Below w.heap.size w w7 := (b2.alloc z2 (.cells #[.slice Au (m k) cu] 25)).grown hg7 (by simp; omega) (fun j hj => (own_ge F2.row hj).1)
      clear own7 hg7 F2 b2 b1
      go_wp2
      go_roundw
      case rel => exact ⟨k + 1, _, by omega, by go_num, F7, b7⟩
      case measure => simp [intOf]; omega
    · obtain rfl : K = k := by omega
      go_wp2
      go_ret
      exact ⟨_, rfl, ⟨_, hF⟩, b1⟩
/-- a stave over fresh lines -/
theorem copyStave_any (A : Option Addr) (K c : Nat) (m : Nat → Nat) (ln : Nat → Nat → Int) (w : World) (hL : LinesZ w w.heap.size A K m ln) (hK : K ≤ 5864062014634) (hm : ∀ i, i < K → m i ≤ 17592186044416) :
    Calls Try.prog 37 #[.agg #[.slice A K c]] w (New w fun v w' => ∃ vo vs, v = .agg #[vo] ∧ FoundM w.heap.size w' m ln K vo vs) := by
  have CL := Lib.hid fun w' hL' => copyLists_any A K c m ln w' hL' hK hm
  have b1 : Below w.heap.size w ((w.alloc (.cells #[.slice A K c] 54)).alloc (.cells #[.slice none 0 0] 54)) := by (repeat (first | exact Below.refl _ _ | assumption | refine Below.drew ?_ | refine below_drewN ?_ _ | refine Below.alloc ?_ (by first | omega | (simp; done) | (simp; omega)) _ | refine Below.setCell ?_ (by first | omega | (simp; done) | (simp; omega)) _ | refine below_setRow ?_ (by first | omega | (simp; done) | (simp; omega)) _ ))
  have k1 : Blk ((w.alloc (.cells #[.slice A K c] 54)).alloc (.cells #[.slice none 0 0] 54)) w.heap.size 54 #[.slice A K c] := (Blk.new _ _ _).alloc _
  have k2 : Blk ((w.alloc (.cells #[.slice A K c] 54)).alloc (.cells #[.slice none 0 0] 54)) (w.heap.size + 1) 54 #[.slice none 0 0] := Blk.new' (by simp) _ _
  have r1 := k1.at0
  go_enter Try.func37, Try.ntmps37
  go_wp2_with fail
  generalize (w.alloc (.cells #[.slice A K c] 54)).alloc (.cells #[.slice none 0 0] 54) = w1 at *
  refine (CL.out _ (hL.below b1)).mono ?_
  rintro e w2 ⟨v, rfl, ⟨vs, hF⟩, hb2⟩
  have b2 := below_call b1 b1.size hb2
  have k3 := k2.below' hb2
  have q1 := k3.at0
  have q2 := k3.frozen 0
  have zz := b1.size
  obtain ⟨Ao, co, rfl, -, -⟩ := own_arr hF.row
  have F3 : FoundM w.heap.size (w2.setCell ⟨w.heap.size + 1, 0, none⟩ (.slice Ao K co)) m ln K (.slice Ao K co) vs :=
    ⟨own_far (own_base hF.row zz) k3 (by decide) _ _, fun i hi => own_far (own_base (hF.lines i hi) zz) k3 (by decide) _ _⟩
  clear hF
  have k4 := (k3.set_ 0 (.slice Ao K co)).at0
  go_wp2
  refine bodyPost_ret (v := .agg #[.slice Ao K co]) (by simp [results, Try.results37, go_sem, k4]) rfl ?_
  exact ⟨_, rfl, ⟨_, vs, rfl, F3⟩, b2.setCell (by show w.heap.size ≤ w.heap.size + 1; omega) _⟩
set_option maxHeartbeats 1000000 in
theorem sameStave_any (A B : Option Addr) (n m c d : Nat) (mA mB : Nat → Nat) (a b : Nat → Nat → Int) (w : World) (hA : Lines w w.heap.size A n mA a) (hB : Lines w w.heap.size B m mB b) (hn : n ≤ maxLen) (hm : m ≤ maxLen) (hmA : ∀ i, i < n → mA i ≤ maxLen) (hmB : ∀ i, i < m → mB i ≤ maxLen) :
    Calls Try.prog 40 #[.agg #[.slice A n c], .agg #[.slice B m d]] w fun e w' => e = .returned (.bool (sameL n m mA mB a b)) ∧ Below w.heap.size w w' := by
  have b1 : Below w.heap.size w ((w.alloc (.cells #[.slice A n c] 54)).alloc (.cells #[.slice B m d] 54)) := by (repeat (first | exact Below.refl _ _ | assumption | refine Below.drew ?_ | refine below_drewN ?_ _ | refine Below.alloc ?_ (by first | omega | (simp; done) | (simp; omega)) _ | refine Below.setCell ?_ (by first | omega | (simp; done) | (simp; omega)) _ | refine below_setRow ?_ (by first | omega | (simp; done) | (simp; omega)) _ ))
  have SL := Lib.hid (sameLists_any A B n m c d mA mB a b _ (hA.below b1) (hB.below b1) hn hm hmA hmB)
  have r1 : ((w.alloc (.cells #[.slice A n c] 54)).alloc (.cells #[.slice B m d] 54)).cell? ⟨w.heap.size, 0, none⟩ = some (.slice A n c) := ((Blk.new w 54 #[.slice A n c]).alloc _).at0
  have r2 : ((w.alloc (.cells #[.slice A n c] 54)).alloc (.cells #[.slice B m d] 54)).cell? ⟨w.heap.size + 1, 0, none⟩ = some (.slice B m d) := (Blk.new' (by simp) _ _).at0
  go_enter Try.func40, Try.ntmps40
  go_wp2_with fail
  refine SL.out.mono ?_
  rintro e w2 ⟨rfl, nq, rfl⟩
  go_wp2
  go_ret
  exact ⟨rfl, below_drewN b1 _⟩
end Go.Proofs.Ytdimlpcbbkokiaa

/- Walk: the staves of any lines (stave.Staves). -/
namespace Go.Proofs.Ytdimlpcbbkokiaa
open Go.RowKit Go.Shelf
set_option linter.unusedVariables false
attribute [local go_sem] Oper.semAt_some

/-- five lines from line i on have gaps that are alike -/
def eB (m : Nat → Nat) (ln : Nat → Nat → Int) (i : Nat) : Bool := evenB (fun j => m (i + j)) (fun j => ln (i + j))
/-- where the staves begin, of n lines from line i on -/
def stS (e : Nat → Bool) (n i : Nat) : List Nat := if n < 5 then [] else if e i then i :: stS e (n - 5) (i + 5) else stS e (n - 1) (i + 1)
termination_by n
decreasing_by all_goals omega
theorem stS_few {e : Nat → Bool} {n i : Nat} (h : n < 5) : stS e n i = [] := by rw [stS, if_pos h]
theorem stS_yes {e : Nat → Bool} {n i : Nat} (h : 5 ≤ n) (he : e i = true) : stS e n i = i :: stS e (n - 5) (i + 5) := by rw [stS, if_neg (by omega), if_pos he]
theorem stS_no {e : Nat → Bool} {n i : Nat} (h : 5 ≤ n) (he : e i = false) : stS e n i = stS e (n - 1) (i + 1) := by rw [stS, if_neg (by omega), if_neg (by rw [he]; simp)]
theorem stS_at {e : Nat → Bool} : ∀ {n i : Nat} {t : Nat}, t ∈ stS e n i → i ≤ t ∧ t + 5 ≤ i + n ∧ e t = true := by
  intro n
  induction n using Nat.strongRecOn with
  | _ n ih =>
    intro i t ht
    by_cases h : n < 5
    · rw [stS_few h] at ht; cases ht
    · cases he : e i with
      | true =>
        rw [stS_yes (by omega) he] at ht
        rcases List.mem_cons.1 ht with rfl | ht
        · exact ⟨Nat.le_refl _, by omega, he⟩
        · have := ih (n - 5) (by omega) ht; exact ⟨by omega, by omega, this.2.2⟩
      | false =>
        rw [stS_no (by omega) he] at ht
        have := ih (n - 1) (by omega) ht; exact ⟨by omega, by omega, this.2.2⟩
theorem stS_len {e : Nat → Bool} : ∀ {n i : Nat}, (stS e n i).length ≤ n := by
  intro n
  induction n using Nat.strongRecOn with
  | _ n ih =>
    intro i
    by_cases h : n < 5
    · rw [stS_few h]; exact Nat.zero_le _
    · cases he : e i with
      | true => rw [stS_yes (by omega) he, List.length_cons]; have := ih (n - 5) (by omega) (i := i + 5); omega
      | false => rw [stS_no (by omega) he]; have := ih (n - 1) (by omega) (i := i + 1); omega
theorem FoundM.grownBlk {B B' : Nat} {w w' : World} {m : Nat → Nat} {ln : Nat → Nat → Int} {k n : Nat} {vo vr : Value} {v : Nat → Value} {xs : List Value} (h : FoundM B w m ln k vo v) (hr : w.ownsRow B' 54 1 vr n xs) (hg : w.grownBy w' vr.ownBlock) : FoundM B w' m ln k vo v :=
  ⟨own_grown h.row hr (by decide) hg, fun i hi => own_grown (h.lines i hi) hr (by decide) hg⟩
theorem FoundM.alloc {B : Nat} {w : World} {m : Nat → Nat} {ln : Nat → Nat → Int} {k : Nat} {vo : Value} {v : Nat → Value} (h : FoundM B w m ln k vo v) (o : Obj) : FoundM B (w.alloc o) m ln k vo v := h.below ((Below.refl _ _).alloc (Nat.le_refl _) _)
/-- staves over fresh memory: they begin at the lines of a list, five lines each -/
structure StOut (B : Nat) (w : World) (m : Nat → Nat) (ln : Nat → Nat → Int) (st : List Nat) (vo : Value) (vs : Nat → Value) : Prop where
  row : w.ownsRow B 54 1 vo st.length ((List.range st.length).map vs)
  each : ∀ t, t < st.length → ∃ v, FoundM B w (fun j => m (st.getD t 0 + j)) (fun j => ln (st.getD t 0 + j)) 5 (vs t) v
section
variable {B : Nat} {w w' : World} {m : Nat → Nat} {ln : Nat → Nat → Int} {st : List Nat} {vo : Value} {vs : Nat → Value}
theorem StOut.below (h : StOut B w m ln st vo vs) (hb : Below w.heap.size w w') : StOut B w' m ln st vo vs :=
  ⟨own_below h.row hb, fun t ht => by obtain ⟨v, hv⟩ := h.each t ht; exact ⟨v, hv.below hb⟩⟩
theorem StOut.base {B' : Nat} (h : StOut B w m ln st vo vs) (hB : B' ≤ B) : StOut B' w m ln st vo vs :=
  ⟨own_base h.row hB, fun t ht => by obtain ⟨v, hv⟩ := h.each t ht; exact ⟨v, hv.base hB⟩⟩
theorem StOut.nil (w : World) (B : Nat) (m : Nat → Nat) (ln : Nat → Nat → Int) (vs : Nat → Value) : StOut B w m ln [] (.slice none 0 0) vs := ⟨World.ownsRow_nil _ _ _ _, fun t ht => by simp at ht⟩
theorem StOut.snoc {i : Nat} {vo' u : Value} {vu : Nat → Value} (h : StOut B w m ln st vo vs) (hu : FoundM B w (fun j => m (i + j)) (fun j => ln (i + j)) 5 u vu)
    (hg : w.grownBy w' vo.ownBlock) (hr : w'.ownsRow B 54 1 vo' (st.length + 1) ((List.range st.length).map vs ++ [u])) : StOut B w' m ln (st ++ [i]) vo' (fun t => if t = st.length then u else vs t) := by
  have e : (st ++ [i]).length = st.length + 1 := by simp
  refine ⟨?_, fun t ht => ?_⟩
  · rw [e, range_snoc]
    simp only [if_true]
    rw [show (List.range st.length).map (fun t => if t = st.length then u else vs t) = (List.range st.length).map vs from List.map_congr_left fun i hi => by rw [if_neg]; have := List.mem_range.1 hi; omega]
    exact hr
  · rw [e] at ht
    by_cases e2 : t = st.length
    · subst e2
      refine ⟨vu, ?_⟩
      simp only [if_true]
      rw [show (st ++ [i]).getD st.length 0 = i by simp]
      exact hu.grownBlk h.row hg
    · obtain ⟨v, hv⟩ := h.each t (by omega)
      refine ⟨v, ?_⟩
      simp only [if_neg e2]
      rw [show (st ++ [i]).getD t 0 = st.getD t 0 by rw [List.getD_eq_getElem?_getD, List.getD_eq_getElem?_getD, List.getElem?_append_left (by omega)]]
      exact hv.grownBlk h.row hg
end
theorem Lines.sub {w : World} {B b off K i n : Nat} {m : Nat → Nat} {ln : Nat → Nat → Int} (h : Lines w B (some ⟨b, off, none⟩) K m ln) (hi : i + n ≤ K) : Lines w B (some ⟨b, off + i, none⟩) n (fun j => m (i + j)) (fun j => ln (i + j)) := by
  obtain ⟨vs, h1, h2⟩ := h
  refine ⟨fun j => vs (i + j), fun hn => ?_, fun j hj => h2 (i + j) (by omega)⟩
  obtain ⟨b', off', e, hb, hc⟩ := h1 (by omega)
  cases e
  refine ⟨b, off + i, rfl, hb, fun j j0 j1 => ?_⟩
  have := hc ((i : Int) + j) (by omega) (by omega)
  rw [show ((i : Int) + j).toNat = i + j.toNat by omega] at this
  rw [Nat.add_assoc]
  refine this.trans ?_
  show some (vs ((i : Int) + j).toNat) = some (vs (i + j.toNat))
  rw [show ((i : Int) + j).toNat = i + j.toNat by omega]

set_option maxRecDepth 100000 in
set_option maxHeartbeats 4000000 in
theorem staves_any (A : Option Addr) (K c : Nat) (m : Nat → Nat) (ln : Nat → Nat → Int) (w : World) (hL : Lines w w.heap.size A K m ln) (hc : K ≤ c) (hK : K ≤ 1000) (hm : ∀ i, i < K → m i ≤ 1000000) (hb : ∀ i j, i < K → j < m i → -1099511627776 ≤ ln i j ∧ ln i j ≤ 1099511627776) :
    Calls Try.prog 34 #[.slice A K c] w (New w fun v w' => ∃ vs, StOut w.heap.size w' m ln (stS (eB m ln) K 0) v vs) := by
  have EV := Lib.hid fun i (hi : i + 5 ≤ K) A' c' w' hL' => even_any A' c' (fun j => m (i + j)) (fun j => ln (i + j)) w' hL' (fun j hj => hm (i + j) (by omega)) (fun j t hj ht => hb (i + j) t (by omega) ht)
  have HL := Lib.hid hL
  have HM := Lib.hid hm
  obtain ⟨i0, hi0, hz0, hz1, hz2⟩ := info_parts infoInts
  obtain ⟨s0, hs0, hsz0, hsz1, hsz2⟩ := info_parts infoLines
  clear hL hb hm
  go_enter Try.func34, Try.ntmps34
  go_wp2_with fail
  go_step3
  go_wp2_with fail
  go_step3
  go_wp2_with fail
  go_loopw [3, 4] (fun vo s wr => Below w.heap.size w wr ∧ ∃ (i : Nat) (st : List Nat) (vs : Nat → Value), i ≤ K ∧ s = .int .i64 i ∧ StOut w.heap.size wr m ln st vo vs ∧ st.length ≤ i ∧ stS (eB m ln) K 0 = st ++ stS (eB m ln) (K - i) i) (fun _ s _ => K - (intOf s).toNat)
  case atStart => exact ⟨Below.refl _ _, 0, [], fun _ => default, by omega, rfl, StOut.nil _ _ _ _ _, by simp, rfl⟩
  case round =>
    obtain ⟨b1, i, st, vs, hi, rfl, hS, hsl, hst⟩ := hrel
    have HST := Lib.hid hst
    clear hst
    obtain ⟨Ao, co, rfl, -, -⟩ := own_arr hS.row
    by_cases h5 : (i : Int) + 5 ≤ K
    · obtain ⟨b, off, A0, c0, rfl, hbB, -, -⟩ := HL.out.at_ (i := i) (by omega)
      have h5' : ¬ ((i : Int) + 5 > (K : Int)) := by omega
      have u1 : IntKind.i64.wrap ((i : Int) + 5) = (i : Int) + 5 := IntWalk.i64_in _ (by omega)
      have EVi := Lib.hid fun c' w' hL' => EV.out i (by omega) (some ⟨b, off + i, none⟩) c' w' hL'
      cases hev : eB m ln i with
      | false =>
        have hst : Hid (stS (eB m ln) (K - i) i = stS (eB m ln) (K - (i + 1)) (i + 1)) := by show _ = _; rw [stS_no (by omega) hev, Nat.sub_sub]
        replace EVi : Hid (∀ c' w', Lines w' w'.heap.size (some ⟨b, off + i, none⟩) 5 (fun j => m (i + j)) (fun j => ln (i + j)) → Calls Try.prog 76 #[.slice (some ⟨b, off + i, none⟩) 5 c'] w' fun e w'' => e = .returned (.bool false) ∧ Below w'.heap.size w' w'') := by
          show ∀ _, _
          intro c' w' hL'
          have := EVi.out c' w' hL'
          rw [show evenB (fun j => m (i + j)) (fun j => ln (i + j)) = eB m ln i from rfl, hev] at this
          exact this
        clear hev
        go_wp2_with fail
        refine (EVi.out _ _ ((HL.out.below b1).sub (by omega))).mono ?_
        rintro e w2 ⟨rfl, hb2⟩
        have b2 := below_call b1 b1.size hb2
        have S2 := hS.below hb2
        clear b1 hb2 hS
        go_wp2_with fail
        go_roundw
        case rel => exact ⟨b2, i + 1, st, vs, by omega, by go_num, S2, by omega, by rw [HST.out, hst.out]⟩
        case measure => simp [intOf]; omega
      | true =>
        have hst : Hid (stS (eB m ln) (K - i) i = i :: stS (eB m ln) (K - (i + 5)) (i + 5)) := by show _ = _; rw [stS_yes (by omega) hev, Nat.sub_sub]
        have MP : Hid (∀ j, j < 5 → 0 < m (i + j)) := by
          show ∀ _, _
          intro j hj
          have hev2 : evenB (fun j => m (i + j)) (fun j => ln (i + j)) = true := hev
          unfold evenB at hev2
          rw [Bool.and_eq_true] at hev2
          have := of_decide_eq_true (List.all_eq_true.1 hev2.1 j (List.mem_range.2 hj))
          exact this.1
        replace EVi : Hid (∀ c' w', Lines w' w'.heap.size (some ⟨b, off + i, none⟩) 5 (fun j => m (i + j)) (fun j => ln (i + j)) → Calls Try.prog 76 #[.slice (some ⟨b, off + i, none⟩) 5 c'] w' fun e w'' => e = .returned (.bool true) ∧ Below w'.heap.size w' w'') := by
          show ∀ _, _
          intro c' w' hL'
          have := EVi.out c' w' hL'
          rw [show evenB (fun j => m (i + j)) (fun j => ln (i + j)) = eB m ln i from rfl, hev] at this
          exact this
        clear hev
        go_wp2_with fail
        refine (EVi.out _ _ ((HL.out.below b1).sub (by omega))).mono ?_
        rintro e w2 ⟨rfl, hb2⟩
        have b2 := below_call b1 b1.size hb2
        have S2 := hS.below hb2
        have ks := Blk.new w2 54 #[.slice none 0 0]
        have bs : Below w2.heap.size w2 (w2.alloc (.cells #[.slice none 0 0] 54)) := (Below.refl _ _).alloc (Nat.le_refl _) _
        have z2 := b2.size
        have z1 := b1.size
        clear hb2 hS
        go_wp2_with fail
        generalize w2.alloc (.cells #[.slice none 0 0] 54) = w3 at *
        generalize hgs : w2.heap.size = gs at *
        go_loopw [29] (fun s w9 => ∃ j : Nat, j ≤ 5 ∧ s = .int .i64 j ∧ Below gs w2 w9 ∧ ∃ vo v, Blk w9 gs 54 #[vo] ∧ FoundM gs w9 (fun j => m (i + j)) (fun j => ln (i + j)) j vo v) (fun s _ => 5 - (intOf s).toNat)
        case atStart => exact ⟨0, by omega, rfl, bs, _, fun _ => default, ks, FoundM.nil _ _ _ _ _⟩
        case round =>
          obtain ⟨j, j5, rfl, b4, vo, v, k4, F4⟩ := hrel
          clear bs ks
          obtain ⟨A8, c8, rfl, -, -⟩ := own_arr F4.row
          have q1 := k4.at0
          have q2 := k4.frozen 0
          have zb : gs ≤ wr.heap.size := by rw [← hgs]; exact b4.size
          by_cases hlt : (j : Int) < 5
          · obtain ⟨b5, off5, A5, c5, e5, hbB5, hc5, ha5⟩ := HL.out.at_ (i := i + j) (by omega)
            cases e5
            have hc6 : wr.cell? ⟨b, off + i + j, none⟩ = some (.slice A5 (m (i + j)) c5) := by
              have h1 := (b2.cell (p := ⟨b, off + (i + j), none⟩) hbB).trans hc5
              rw [Nat.add_assoc]
              exact (b4.cell (p := ⟨b, off + (i + j), none⟩) (by show b < gs; omega)).trans h1
            have MJ := MP.out j (by omega)
            have MK := HM.out (i + j) (by omega)
            have CL := Lib.hid fun W hA' => clone_any A5 (m (i + j)) c5 (fun jj => ln (i + j) jj.toNat) W hA' MJ MK
            have b24 : Below w.heap.size w wr := b2.trans (b4.mono z2)
            have HA5 := Lib.hid (ArrI.more (ArrI.below ha5 b24) b24.size)
            clear ha5 hc5
            have n1 := World.new_ne wr _ q1
            have ne := own_neB F4.row k4 (by decide)
            have HF4 := Lib.hid F4
            have own4 := F4.row
            clear F4
            obtain ⟨mj, hmj⟩ : ∃ mj, m (i + j) = mj := ⟨_, rfl⟩
            obtain ⟨q, hq⟩ : ∃ q, ln (i + j) = q := ⟨_, rfl⟩
            have HMJ := Lib.hid hmj; have HQ := Lib.hid hq
            rw [hmj] at hc6 MJ MK
            rw [hmj, hq] at CL HA5
            clear hmj hq
            go_wp2_with fail
            go_region_law
              (first
                | (refine step_append_lies _ (by rfl) _ _ _ (by rfl) gs 25 i0 (.slice none 0 0) 1 24 Try.underlying34 hi0 hz0 hz1 hz2 rfl (by omega) (.slice A8 j c8) _ _ (by rfl) (own7.alloc _) ⟨w6.heap.size, 0, none⟩ 1 1 [.slice (some ⟨g6, 0, none⟩) mj c6] (by rfl) (by rfl) (World.news_of_block (cs := #[.slice (some ⟨g6, 0, none⟩) mj c6]) (t := 25) (fr := (0, 0)) (heap_alloc_new w6 _)) (by simp [Value.oneCell']) (by omega) (by unfold maxLen; omega) (by omega) (by simp; omega) (w6.heap.size + 1) (by simp) ?_
                   intro gg cap w1 hown1 hgrow hat hlt1
                   have k7 := (k6.alloc (.cells #[.slice (some ⟨g6, 0, none⟩) mj c6] 25)).grown hgrow ne
                   have x3 := k7.at0
                   have x4 := k7.frozen 0)
                | (refine (show (if Region.wanted (⟨some 36, _, _, _, _, _⟩ : Oper) _ = true then _ else _) from ?_)
                   go_simp
                   refine (CL.out _ (show ArrI wr.drew wr.drew.heap.size _ _ _ from HA5.out)).mono ?_
                   rintro e w6 ⟨v6, rfl, own6, hb6⟩
                   obtain ⟨g6, c6, rfl⟩ := own_some own6 MJ
                   have x1 := (k4.drew.below' hb6).at0
                   have x2 := (k4.drew.below' hb6).frozen 0
                   have y1 := World.new_ne w6 _ x1
                   have own7 := own_below (w := wr.drew) own4 hb6
                   have F6 := HF4.out.drew.below hb6
                   have b6 : Below gs w2 w6 := b4.drew.trans (hb6.mono zb)
                   have k6 := k4.drew.below' hb6
                   have z6 : gs ≤ w6.heap.size := by have := hb6.size; exact Nat.le_trans zb this
                   have z7 := k6.lt
                   have x5 : ∀ o, (w6.alloc o).cell? ⟨gs, 0, none⟩ = some (.slice A8 j c8) := fun o => (k6.alloc o).at0
                   dsimp only))
            all_goals
              have F7 : FoundM gs w1 (fun j => m (i + j)) (fun j => ln (i + j)) (j + 1) (.slice (some ⟨gg, 0, none⟩) (j + 1) cap) (fun t => if t = j then .slice (some ⟨g6, 0, none⟩) mj c6 else v t) :=
                (F6.alloc (.cells #[.slice (some ⟨g6, 0, none⟩) mj c6] 25)).snoc (by rw [HMJ.out, HQ.out]; exact (own_base own6 zb).alloc _) hgrow hown1
              have b7 : Below gs w2 w1 := (b6.alloc z6 (.cells #[.slice (some ⟨g6, 0, none⟩) mj c6] 25)).grown hgrow (by simp; omega) (fun k hk => (own_ge own4 hk).1)
              have k8 := k7.set_ 0 (.slice (some ⟨gg, 0, none⟩) (j + 1) cap)
              have F8 : FoundM gs (w1.setCell ⟨gs, 0, none⟩ (.slice (some ⟨gg, 0, none⟩) (j + 1) cap)) (fun j => m (i + j)) (fun j => ln (i + j)) (j + 1) (.slice (some ⟨gg, 0, none⟩) (j + 1) cap) (fun t => if t = j then .slice (some ⟨g6, 0, none⟩) mj c6 else v t) :=
                ⟨own_far F7.row k7 (by decide) _ _, fun t ht => own_far (F7.lines t ht) k7 (by decide) _ _⟩
              have b8 : Below gs w2 (w1.setCell ⟨gs, 0, none⟩ (.slice (some ⟨gg, 0, none⟩) (j + 1) cap)) := b7.setCell (Nat.le_refl _) _
              have B8 := Lib.hid b8; have K8 := Lib.hid k8; have FF8 := Lib.hid F8
              clear b7 k7 hown1 hgrow x1 x2 x5 own7 k6 b6 hat F6 F7 b8 k8 F8
              go_wp2
              go_roundw
              case rel => exact ⟨j + 1, by omega, by go_num, B8.out, _, K8.out, _, FF8.out⟩
              case measure => simp [intOf]; omega
          · obtain rfl : j = 5 := by omega
            clear q2
            have S4 := S2.below (hgs ▸ b4)
            have b24 : Below w.heap.size w wr := b2.trans (b4.mono z2)
            have zz := b24.size
            go_wp2_with (at_builtin; refine wpList_append_own _ rfl (.tmp 41) (.tmp 43) 56 rfl w.heap.size 54 s0 (.agg #[.slice none 0 0]) 1 24 Try.underlying56 hs0 hsz0 hsz1 hsz2 rfl (by decide) _ _ _ rfl (S4.row.alloc _) ⟨wr.heap.size, 0, none⟩ 1 1 [.slice A8 5 c8] rfl rfl ?c1 ?c2 ?c3 ?c4 ?c5 ?_)
            try case c1 => exact cell_one_new _ _ _
            try case c2 => simp [Value.oneCell']
            try case c3 => unfold maxLen; omega
            try case c4 => omega
            try case c5 => first | omega | (simp; done) | (simp; omega)
            intro v' w7 own7 hg7 _
            have b7 : Below w.heap.size w w7 := (b24.alloc zz (.cells #[.slice A8 5 c8] 54)).grown hg7 (by simp; omega) (fun k hk => (own_ge S4.row hk).1)
            have S7 := (S4.below ((Below.refl _ _).alloc (Nat.le_refl _) (.cells #[.slice A8 5 c8] 54))).snoc (i := i) ((F4.base z2).alloc _) hg7 own7
            obtain ⟨A9, c9, rfl, -, -⟩ := own_arr own7
            clear own7 hg7 S4 F4 b4 k4
            go_wp2
            go_roundw
            case rel => exact ⟨b7, i + 5, st ++ [i], _, by omega, by go_num, by simpa using S7, by simp; omega, by rw [HST.out, hst.out, List.append_assoc]; rfl⟩
            case measure => simp [intOf]; omega
    · have i5' : (i : Int) + 5 > (K : Int) := by omega
      have u1 : IntKind.i64.wrap ((i : Int) + 5) = (i : Int) + 5 := IntWalk.i64_in _ (by omega)
      go_wp2_with fail
      try rw [Exit.noGoto_ret]
      go_ret
      refine ⟨_, rfl, ⟨vs, ?_⟩, b1⟩
      rw [HST.out, stS_few (by omega), List.append_nil]
      exact hS
end Go.Proofs.Ytdimlpcbbkokiaa

/- Walk: the reference's test of five lines (custosref03.group). -/
namespace Go.Proofs.Ytdimlpcbbkokiaa
open Go.RowKit Go.Shelf
set_option linter.unusedVariables false
attribute [local go_sem] Oper.semAt_some

theorem minA_le {q : Int → Int} (n : Nat) (i : Nat) (h : i ≤ n) : minA q n ≤ q i := by
  induction n with
  | zero => obtain rfl : i = 0 := by omega
            exact Int.le_refl _
  | succ n ih =>
    rw [minA]
    by_cases e : i = n + 1
    · subst e; rw [show ((n + 1 : Nat) : Int) = (n : Int) + 1 by omega]; split <;> omega
    · have := ih (by omega); split <;> omega
theorem minA_is {q : Int → Int} (n : Nat) : ∃ i : Nat, i ≤ n ∧ minA q n = q i := by
  induction n with
  | zero => exact ⟨0, Nat.le_refl _, rfl⟩
  | succ n ih =>
    rw [minA]
    split
    · exact ⟨n + 1, Nat.le_refl _, by rw [show ((n + 1 : Nat) : Int) = (n : Int) + 1 by omega]⟩
    · obtain ⟨i, hi, e⟩ := ih; exact ⟨i, by omega, e⟩
theorem maxA_ge {q : Int → Int} (n : Nat) (i : Nat) (h : i ≤ n) : q i ≤ maxA q n := by
  induction n with
  | zero => obtain rfl : i = 0 := by omega
            exact Int.le_refl _
  | succ n ih =>
    rw [maxA]
    by_cases e : i = n + 1
    · subst e; rw [show ((n + 1 : Nat) : Int) = (n : Int) + 1 by omega]; split <;> omega
    · have := ih (by omega); split <;> omega
theorem maxA_is {q : Int → Int} (n : Nat) : ∃ i : Nat, i ≤ n ∧ maxA q n = q i := by
  induction n with
  | zero => exact ⟨0, Nat.le_refl _, rfl⟩
  | succ n ih =>
    rw [maxA]
    split
    · exact ⟨n + 1, Nat.le_refl _, by rw [show ((n + 1 : Nat) : Int) = (n : Int) + 1 by omega]⟩
    · obtain ⟨i, hi, e⟩ := ih; exact ⟨i, by omega, e⟩
/-- the gaps are alike, each tested against each -/
theorem evenV_iff {ln : Nat → Nat → Int} {n : Nat} : evenV ln n = true ↔ ∀ i, i < 8 → (2 ≤ gapF ln n i ∧ gapF ln n i ≤ 64) ∧ ∀ k, k < 8 → gapF ln n i - gapF ln n k ≤ 2 := by
  unfold evenV
  rw [decide_eq_true_iff]
  obtain ⟨a, ha, ea⟩ := minA_is (q := fun j => gapF ln n j.toNat) 7
  obtain ⟨b, hb, eb⟩ := maxA_is (q := fun j => gapF ln n j.toNat) 7
  have h1 := fun i (hi : i ≤ 7) => minA_le (q := fun j => gapF ln n j.toNat) 7 i hi
  have h2 := fun i (hi : i ≤ 7) => maxA_ge (q := fun j => gapF ln n j.toNat) 7 i hi
  simp only [Int.toNat_natCast] at ea eb h1 h2
  constructor
  · intro h i hi
    have := h1 i (by omega)
    have := h2 i (by omega)
    exact ⟨by omega, fun k hk => by have := h1 k (by omega); omega⟩
  · intro h
    have := h a (by omega)
    have := h b (by omega)
    have := (h b (by omega)).2 a (by omega)
    omega
theorem gap_snoc1 (ln : Nat → Nat → Int) (m i : Nat) : (List.range (2 * i + 1)).map (fun j => Value.int .i64 (gapF ln m j)) = (List.range (2 * i)).map (fun j => Value.int .i64 (gapF ln m j)) ++ [.int .i64 (ln (i + 1) 0 - ln i 0)] := by
  rw [range_snoc]
  have e1 : gapF ln m (2 * i) = ln (i + 1) 0 - ln i 0 := by unfold gapF; rw [if_pos (by omega), show 2 * i / 2 = i by omega]
  rw [e1]
theorem gap_snoc2 (ln : Nat → Nat → Int) (m i : Nat) : (List.range (2 * (i + 1))).map (fun j => Value.int .i64 (gapF ln m j)) = (List.range (2 * i + 1)).map (fun j => Value.int .i64 (gapF ln m j)) ++ [.int .i64 (ln (i + 1) (m - 1) - ln i (m - 1))] := by
  rw [show 2 * (i + 1) = 2 * i + 1 + 1 by omega, range_snoc]
  have e2 : gapF ln m (2 * i + 1) = ln (i + 1) (m - 1) - ln i (m - 1) := by unfold gapF; rw [if_neg (by omega), show (2 * i + 1) / 2 = i by omega]
  rw [e2]

set_option maxRecDepth 100000 in
set_option maxHeartbeats 4000000 in
theorem group_any (A : Option Addr) (c : Nat) (m : Nat → Nat) (ln : Nat → Nat → Int) (w : World) (hL : Lines w w.heap.size A 5 m ln) (hm : ∀ i, i < 5 → m i ≤ 1000000) (hb : ∀ i j, i < 5 → j < m i → -1099511627776 ≤ ln i j ∧ ln i j ≤ 1099511627776) :
    Calls Try.prog 77 #[.slice A 5 c] w fun e w' => e = .returned (.bool (evenB m ln)) ∧ Below w.heap.size w w' := by
  obtain ⟨i0, hi0, hz0', hz1, hz2⟩ := info_parts infoInt
  have HL := Lib.hid hL
  have EV0 : Hid (∀ i, i < 5 → ¬ (0 < m i ∧ m i = m 0) → evenB m ln = false) := by
    show ∀ _, _
    intro i hi hn
    unfold evenB
    rw [Bool.and_eq_false_iff]
    left
    rw [List.all_eq_false]
    exact ⟨i, List.mem_range.2 hi, by simpa using hn⟩
  have EV1 : Hid ((∀ i, i < 5 → 0 < m i ∧ m i = m 0) → evenB m ln = evenV ln (m 0)) := by
    show _ → _
    intro h
    unfold evenB
    rw [show ((List.range 5).all fun i => decide (0 < m i ∧ m i = m 0)) = true from List.all_eq_true.2 fun i hi => decide_eq_true (h i (List.mem_range.1 hi)), Bool.true_and]
  obtain ⟨b, off, A0, c0, rfl, hbB, h0, ha0⟩ := hL.at_ (i := 0) (by omega)
  rw [Nat.add_zero] at h0
  have HM := Lib.hid hm; have HB := Lib.hid hb
  clear hL hm hb ha0
  have M0 := HM.out 0 (by omega)
  generalize hm0 : m 0 = m0 at *
  have HM0 := Lib.hid hm0
  by_cases mz : m0 = 0
  · have E : Hid (evenB m ln = false) := by show _ = _; exact EV0.out 0 (by omega) (by rw [hm0]; omega)
    subst mz
    clear hm0
    go_enter Try.func77, Try.ntmps77
    go_wp2
    go_ret
    exact ⟨ret_bool E.out.symm, Below.refl _ _⟩
  · have mz' : ((m0 : Int) == 0) = false := by simp; omega
    clear hm0
    go_enter Try.func77, Try.ntmps77
    go_wp2
    go_loopw [4, 5] (fun vo s wr => ∃ i : Nat, i ≤ 5 ∧ s = .int .i64 i ∧ (∀ j, j < i → 0 < m j ∧ m j = m0) ∧ wr.ownsRow w.heap.size 3 1 vo (2 * (i - 1)) ((List.range (2 * (i - 1))).map fun j => Value.int .i64 (gapF ln m0 j)) ∧ Below w.heap.size w wr) (fun _ s _ => 5 - (intOf s).toNat)
    case atStart => exact ⟨0, by omega, rfl, fun j hj => by omega, World.ownsRow_nil _ _ _ _, Below.refl _ _⟩
    case round =>
      obtain ⟨i, hi, rfl, hg, hown, b1⟩ := hrel
      clear h0
      by_cases hlt : (i : Int) < 5
      · obtain ⟨b2, off2, A2, c2, e2, -, hc2, ha2⟩ := HL.out.at_ (i := i) (by omega)
        cases e2
        have HC2 := Lib.hid hc2
        replace hc2 := (b1.cell (p := ⟨b, off + i, none⟩) hbB).trans hc2
        have MI := HM.out i (by omega)
        obtain ⟨mi, hmi⟩ : ∃ mi, m i = mi := ⟨_, rfl⟩
        rw [hmi] at hc2 ha2 MI HC2
        have HMI := Lib.hid hmi
        clear hmi
        by_cases hzm : mi = m0
        · subst hzm
          have g1 : ∀ j, j < i + 1 → 0 < m j ∧ m j = mi := fun j hj => by
            rcases Nat.lt_succ_iff_lt_or_eq.1 hj with h | rfl
            · exact hg j h
            · exact ⟨by rw [HMI.out]; omega, HMI.out⟩
          have G1 := Lib.hid g1
          clear g1
          have bne : ((mi : Int) != (mi : Int)) = false := by simp
          by_cases hi0' : i = 0
          · have d0 : decide ((0 : Int) < (i : Int)) = false := decide_eq_false (by omega)
            have d0' : decide (0 < i) = false := decide_eq_false (by omega)
            have HI0 := Lib.hid hi0'
            clear ha2 hg hi0'
            go_wp2
            go_roundw
            case rel => exact ⟨i + 1, by omega, by go_num, G1.out, by rw [show i + 1 - 1 = i - 1 by have := HI0.out; omega]; exact hown, b1⟩
            case measure => simp [intOf]; omega
          · obtain ⟨k, hk⟩ : ∃ k, i = k + 1 := ⟨i - 1, by omega⟩
            obtain ⟨b4, off4, A4, c4, e4, -, hc4, ha4⟩ := HL.out.at_ (i := k) (by omega)
            cases e4
            rw [(hg k (by omega)).2] at hc4 ha4
            have HC4 := Lib.hid hc4
            replace hc4 := (b1.cell (p := ⟨b, off + k, none⟩) hbB).trans hc4
            obtain ⟨b3, off3, rfl, hb3, hc3⟩ := ArrI.fn ha2 (by omega)
            obtain ⟨b5, off5, rfl, hb5, hc5⟩ := ArrI.fn ha4 (by omega)
            have x1 := hc3 0 (by omega) (by omega)
            have x2 := hc3 ((mi : Int) - 1) (by omega) (by omega)
            have x3 := hc5 0 (by omega) (by omega)
            have x4 := hc5 ((mi : Int) - 1) (by omega) (by omega)
            rw [show ((mi : Int) - 1).toNat = mi - 1 by omega] at x2 x4
            simp only [Int.toNat_zero, Nat.add_zero] at x1 x3
            have X2 := Lib.hid x2; have X4 := Lib.hid x4
            clear x2 x4
            replace x1 := (b1.cell (p := ⟨b3, off3, none⟩) hb3).trans x1
            replace x3 := (b1.cell (p := ⟨b5, off5, none⟩) hb5).trans x3
            obtain ⟨y1, y2⟩ := HB.out i 0 (by omega) (by rw [HMI.out]; omega)
            obtain ⟨y3, y4⟩ := HB.out i (mi - 1) (by omega) (by rw [HMI.out]; omega)
            obtain ⟨y5, y6⟩ := HB.out k 0 (by omega) (by have := hg k (by omega); omega)
            obtain ⟨y7, y8⟩ := HB.out k (mi - 1) (by omega) (by have := hg k (by omega); omega)
            have GS1 := Lib.hid (gap_snoc1 ln mi k)
            have GS2 := Lib.hid (gap_snoc2 ln mi k)
            rw [← hk] at GS1 GS2
            rw [show i - 1 = k by omega] at hown
            have HK := Lib.hid hk
            generalize ln i 0 = a1 at *
            generalize ln i (mi - 1) = a2 at *
            generalize ln k 0 = a3 at *
            generalize ln k (mi - 1) = a4 at *
            have v1 : IntKind.i64.wrap (a1 - a3) = a1 - a3 := IntWalk.i64_in _ (by omega)
            have v2 : IntKind.i64.wrap (a2 - a4) = a2 - a4 := IntWalk.i64_in _ (by omega)
            have v3 : IntKind.i64.wrap ((mi : Int) - 1) = (mi : Int) - 1 := IntWalk.i64_in _ (by omega)
            have v4 : IntKind.i64.wrap ((i : Int) - 1) = (k : Int) := by rw [show (i : Int) - 1 = k by omega]; exact IntWalk.i64_in _ (by omega)
            have o3 : u4.ownBlock ≠ some b3 := fun e => by have := own_ge hown e; omega
            have o5 : u4.ownBlock ≠ some b5 := fun e => by have := own_ge hown e; omega
            have ob : u4.ownBlock ≠ some b := fun e => by have := own_ge hown e; omega
            have n3 := World.new_ne wr _ x1; have n5 := World.new_ne wr _ x3; have nb := World.new_ne wr _ hc2
            have z1 := b1.size
            have j1 : (0 : Int) < (mi : Int) := by omega
            have j2 : (mi : Int) - 1 < (mi : Int) := by omega
            have j3 : (0 : Int) ≤ (mi : Int) - 1 := by omega
            have j4 : 0 < mi := by omega
            have j5 : (1 : Int) ≤ (mi : Int) := by omega
            have j6 : 1 ≤ mi := by omega
            have i1 : (0 : Int) < (i : Int) := by omega
            have d0 : decide ((0 : Int) < (i : Int)) = true := decide_eq_true i1
            have i2 : (k : Int) < 5 := by omega
            have i3 : (0 : Int) ≤ (k : Int) := by omega
            have i4 : 0 < i := by omega
            clear hc3 hc5 ha2 ha4 hg hk hi0'
            go_wp2_with fail
            go_region_held3 (fun w' => w'.cell? ⟨b, off + i, none⟩ = some (.slice (some ⟨b3, off3, none⟩) mi c2) ∧ w'.cell? ⟨b, off + k, none⟩ = some (.slice (some ⟨b5, off5, none⟩) mi c4) ∧ w'.cell? ⟨b3, off3, none⟩ = some (.int .i64 a1) ∧ w'.cell? ⟨b5, off5, none⟩ = some (.int .i64 a3))
              (first
                | (simp [go_sem, *]; done)
                | (go_keep; done)
                | (refine ⟨?_, ?_, ?_, ?_⟩
                   · (rw [hgrow.cell_far _ (by simp; omega) (Ne.symm ob)]; first | assumption | (go_keep; done) | (simp [go_sem, *]; done))
                   · (rw [hgrow.cell_far _ (by simp; omega) (Ne.symm ob)]; first | assumption | (go_keep; done) | (simp [go_sem, *]; done))
                   · (rw [hgrow.cell_far _ (by simp; omega) (Ne.symm o3)]; first | assumption | (go_keep; done) | (simp [go_sem, *]; done))
                   · (rw [hgrow.cell_far _ (by simp; omega) (Ne.symm o5)]; first | assumption | (go_keep; done) | (simp [go_sem, *]; done))))
              ((refine step_append_lies _ (by rfl) _ _ _ (by rfl) w.heap.size 3 i0 (.int .i64 0) 1 8 Try.underlying25 hi0 hz0' hz1 hz2 rfl (by omega) u4 _ _ (by rfl) ((hown.alloc _).drew) ⟨wr.heap.size, 0, none⟩ 1 1 [.int .i64 (a1 - a3)] (by rfl) (by rfl) (World.news_of_block (cs := #[.int .i64 (a1 - a3)]) (t := 3) (fr := (0, 0)) (heap_alloc_new wr _)) (by simp [Value.oneCell']) (by omega) (by unfold maxLen; omega) (by omega) (by simp; omega) (wr.heap.size + 1) (by simp) ?_; intro gg cap w1 hown1 hgrow hat hlt1))
            have b9 : Below w.heap.size w w1 := (show Below w.heap.size w (wr.alloc (.cells #[.int .i64 (a1 - a3)] 3)).drew from (b1.alloc b1.size _).drew).grown hgrow (by simp; omega) (fun j hj => (own_ge hown hj).1)
            rw [← GS1.out] at hown1
            have q1 := (b9.cell (p := ⟨b, off + i, none⟩) hbB).trans HC2.out
            have q2 := (b9.cell (p := ⟨b, off + k, none⟩) hbB).trans HC4.out
            have q3 := (b9.cell (p := ⟨b3, off3 + (mi - 1), none⟩) hb3).trans X2.out
            have q4 := (b9.cell (p := ⟨b5, off5 + (mi - 1), none⟩) hb5).trans X4.out
            have m3 := World.new_ne w1 _ q3; have m5 := World.new_ne w1 _ q4; have mb := World.new_ne w1 _ q1
            have p3 : (Value.slice (some ⟨gg, 0, none⟩) (2 * k + 1) cap).ownBlock ≠ some b3 := fun e => by have := own_ge hown1 e; omega
            have p5 : (Value.slice (some ⟨gg, 0, none⟩) (2 * k + 1) cap).ownBlock ≠ some b5 := fun e => by have := own_ge hown1 e; omega
            have pb : (Value.slice (some ⟨gg, 0, none⟩) (2 * k + 1) cap).ownBlock ≠ some b := fun e => by have := own_ge hown1 e; omega
            have z9 := b9.size
            clear hown hgrow b1 hat x1 x3 hc2 hc4 n3 n5 nb o3 o5 ob v1
            go_wp2_with fail
            go_region_held3 (fun w' => w'.cell? ⟨b, off + i, none⟩ = some (.slice (some ⟨b3, off3, none⟩) mi c2) ∧ w'.cell? ⟨b, off + k, none⟩ = some (.slice (some ⟨b5, off5, none⟩) mi c4) ∧ w'.cell? ⟨b3, off3 + (mi - 1), none⟩ = some (.int .i64 a2) ∧ w'.cell? ⟨b5, off5 + (mi - 1), none⟩ = some (.int .i64 a4))
              (first
                | (simp [go_sem, *]; done)
                | (go_keep; done)
                | (refine ⟨?_, ?_, ?_, ?_⟩
                   · (rw [hgrow.cell_far _ (by simp; omega) (Ne.symm pb)]; first | assumption | (go_keep; done) | (simp [go_sem, *]; done))
                   · (rw [hgrow.cell_far _ (by simp; omega) (Ne.symm pb)]; first | assumption | (go_keep; done) | (simp [go_sem, *]; done))
                   · (rw [hgrow.cell_far _ (by simp; omega) (Ne.symm p3)]; first | assumption | (go_keep; done) | (simp [go_sem, *]; done))
                   · (rw [hgrow.cell_far _ (by simp; omega) (Ne.symm p5)]; first | assumption | (go_keep; done) | (simp [go_sem, *]; done))))
              ((refine step_append_lies _ (by rfl) _ _ _ (by rfl) w.heap.size 3 i0 (.int .i64 0) 1 8 Try.underlying25 hi0 hz0' hz1 hz2 rfl (by omega) (.slice (some ⟨gg, 0, none⟩) (2 * k + 1) cap) _ _ (by rfl) ((hown1.alloc _).drew) ⟨w1.heap.size, 0, none⟩ 1 1 [.int .i64 (a2 - a4)] (by rfl) (by rfl) (World.news_of_block (cs := #[.int .i64 (a2 - a4)]) (t := 3) (fr := (0, 0)) (heap_alloc_new w1 _)) (by simp [Value.oneCell']) (by omega) (by unfold maxLen; omega) (by omega) (by simp; omega) (w1.heap.size + 1) (by simp) ?_; intro gg2 cap2 w2 hown2 hgrow hat2 hlt2))
            all_goals
              have b10 : Below w.heap.size w w2 := (show Below w.heap.size w (w1.alloc (.cells #[.int .i64 (a2 - a4)] 3)).drew from (b9.alloc b9.size _).drew).grown hgrow (by simp; omega) (fun j hj => (own_ge hown1 hj).1)
              have B10 := Lib.hid b10
              have HO2 := Lib.hid hown2
              clear hown1 hgrow b9 hat2 q1 q2 q3 q4 b10 hown2
              go_wp2
              go_roundw
              case rel => exact ⟨i + 1, by omega, by go_num, G1.out, by (have e := HK.out; have h2 := GS2.out; rw [show 2 * i = 2 * k + 1 + 1 by omega] at h2; rw [show 2 * (i + 1 - 1) = 2 * k + 1 + 1 by omega, h2]; exact HO2.out), B10.out⟩
              case measure => simp [intOf]; omega
        · have E : Hid (evenB m ln = false) := by show _ = _; exact EV0.out i (by omega) (by rw [HMI.out]; omega)
          have hzm' : ((mi : Int) != (m0 : Int)) = true := by simp; omega
          clear hown ha2 hzm
          go_wp2
          go_ret
          exact ⟨ret_bool E.out.symm, b1⟩
      · obtain rfl : i = 5 := by omega
        change wr.ownsRow _ _ 1 u4 8 ((List.range 8).map _) at hown
        obtain ⟨A8, c8, rfl, ha8⟩ := own_arrI hown
        have E := Lib.hid (EV1.out hg)
        have GB : ∀ j : Nat, j < 8 → -2199023255552 ≤ gapF ln m0 j ∧ gapF ln m0 j ≤ 2199023255552 := fun j j1 => by
          have q1 := hg (j / 2) (by omega)
          have q2 := hg (j / 2 + 1) (by omega)
          have q3 := HB.out (j / 2) 0 (by omega) (by omega)
          have q4 := HB.out (j / 2 + 1) 0 (by omega) (by omega)
          have q5 := HB.out (j / 2) (m0 - 1) (by omega) (by omega)
          have q6 := HB.out (j / 2 + 1) (m0 - 1) (by omega) (by omega)
          unfold gapF
          split <;> omega
        have HGB := Lib.hid GB
        clear GB hg hown
        obtain ⟨b8, o8, rfl, hb8, hc8⟩ := ArrI.fn ha8 (by omega)
        have HC8 := Lib.hid fun (j : Nat) (hj : (j : Int) < 8) => hc8 j (by omega) (by omega)
        clear hc8 ha8
        go_wp2_with fail
        generalize wr = w5 at *
        go_loopw [6] (fun s wr => ∃ i : Nat, i ≤ 8 ∧ s = .int .i64 i ∧ (∀ j, j < i → (2 ≤ gapF ln m0 j ∧ gapF ln m0 j ≤ 64) ∧ ∀ k, k < 8 → gapF ln m0 j - gapF ln m0 k ≤ 2) ∧ ∃ nn, wr = w5.drewN nn) (fun s _ => 8 - (intOf s).toNat)
        case atStart => exact ⟨0, by omega, rfl, fun j hj => by omega, 0, rfl⟩
        case round =>
          obtain ⟨i, hi, rfl, hal, nn, hwr⟩ := hrel
          have HAL := Lib.hid hal
          have HC9 : Hid (∀ j : Nat, (j : Int) < 8 → wr.cell? ⟨b8, o8 + j, none⟩ = some (.int .i64 (gapF ln m0 j))) := by
            show ∀ _, _
            intro j hj
            have := HC8.out j hj
            rw [Int.toNat_natCast] at this
            rw [hwr]; exact this
          have HWR := Lib.hid hwr
          clear hwr hal
          by_cases il : (i : Int) < 8
          · have ci := HC9.out i il
            obtain ⟨gi1, gi2⟩ := HGB.out i (by omega)
            by_cases hlo : gapF ln m0 i < 2
            · have F : Hid (evenB m ln = false) := by show _ = _; rw [E.out]; exact Bool.eq_false_iff.2 fun h => by have := (evenV_iff.1 h) i (by omega); omega
              generalize gapF ln m0 i = gi at *
              go_wp2
              go_ret
              exact ⟨ret_bool F.out.symm, by rw [HWR.out]; exact below_drewN b1 _⟩
            by_cases hhi : 64 < gapF ln m0 i
            · have F : Hid (evenB m ln = false) := by show _ = _; rw [E.out]; exact Bool.eq_false_iff.2 fun h => by have := (evenV_iff.1 h) i (by omega); omega
              generalize gapF ln m0 i = gi at *
              go_wp2
              go_ret
              exact ⟨ret_bool F.out.symm, by rw [HWR.out]; exact below_drewN b1 _⟩
            have GI := Lib.hid (rfl : gapF ln m0 i = gapF ln m0 i)
            obtain ⟨gi, hgi⟩ : ∃ gi, gapF ln m0 i = gi := ⟨_, rfl⟩
            have HGI := Lib.hid hgi
            rw [hgi] at ci hlo hhi gi1 gi2
            clear hgi GI
            go_wp2_with fail
            generalize wr = w6 at *
            go_loopw [7] (fun s wr => ∃ k : Nat, k ≤ 8 ∧ s = .int .i64 k ∧ (∀ j, j < k → gi - gapF ln m0 j ≤ 2) ∧ ∃ nn, wr = w6.drewN nn) (fun s _ => 8 - (intOf s).toNat)
            case atStart => exact ⟨0, by omega, rfl, fun j hj => by omega, 0, rfl⟩
            case round =>
              obtain ⟨k, hk, rfl, hak, n2, hwr2⟩ := hrel
              have HAK := Lib.hid hak
              have HWR2 := Lib.hid hwr2
              by_cases kl : (k : Int) < 8
              · have ck : wr.cell? ⟨b8, o8 + k, none⟩ = some (.int .i64 (gapF ln m0 k)) := by rw [hwr2]; exact HC9.out k kl
                have ci2 : wr.cell? ⟨b8, o8 + i, none⟩ = some (.int .i64 gi) := by rw [hwr2]; exact ci
                clear hwr2 hak
                obtain ⟨gk1, gk2⟩ := HGB.out k (by omega)
                obtain ⟨gk, hgk⟩ : ∃ gk, gapF ln m0 k = gk := ⟨_, rfl⟩
                have HGK := Lib.hid hgk
                rw [hgk] at ck gk1 gk2
                clear hgk
                have v1 : IntKind.i64.wrap (gi - gk) = gi - gk := IntWalk.i64_in _ (by omega)
                by_cases hd : gi - gk ≤ 2
                · have dd : decide (2 < gi - gk) = false := decide_eq_false (by omega)
                  go_wp2_with fail
                  go_quiet (fail)
                  go_wp2
                  go_roundw
                  case rel =>
                    refine ⟨k + 1, by omega, by go_num, fun j hj => ?_, _, by rw [HWR2.out]; exact World.drewN_drewN _ _ _⟩
                    rcases Nat.lt_succ_iff_lt_or_eq.1 hj with h | rfl
                    · exact HAK.out j h
                    · rw [HGK.out]; omega
                  case measure => simp [intOf]; omega
                · have dd : decide (2 < gi - gk) = true := decide_eq_true (by omega)
                  have F : Hid (evenB m ln = false) := by
                    show _ = _
                    rw [E.out]
                    exact Bool.eq_false_iff.2 fun h => by
                      have := ((evenV_iff.1 h) i (by omega)).2 k (by omega)
                      rw [HGI.out, HGK.out] at this; omega
                  go_wp2_with fail
                  go_quiet (fail)
                  go_wp2
                  go_ret
                  exact ⟨ret_bool F.out.symm, by rw [HWR2.out, HWR.out]; exact below_drewN (below_drewN (below_drewN b1 _) _) _⟩
              · obtain rfl : k = 8 := by omega
                clear hak hwr2
                go_wp2_with fail
                go_roundw
                case rel =>
                  refine ⟨i + 1, by omega, by go_num, fun j hj => ?_, _, by rw [HWR2.out, HWR.out]; exact World.drewN_drewN _ _ _⟩
                  rcases Nat.lt_succ_iff_lt_or_eq.1 hj with h | rfl
                  · exact HAL.out j h
                  · rw [HGI.out]; exact ⟨by omega, HAK.out⟩
                case measure => simp [intOf]; omega
          · obtain rfl : i = 8 := by omega
            have F : Hid (evenB m ln = true) := by show _ = _; rw [E.out]; exact evenV_iff.2 HAL.out
            go_wp2
            go_ret
            exact ⟨ret_bool F.out.symm, by rw [HWR.out]; exact below_drewN b1 _⟩
end Go.Proofs.Ytdimlpcbbkokiaa

/- Walk: the reference's staves of any lines (custosref03.Staves), by recursion. -/
namespace Go.Proofs.Ytdimlpcbbkokiaa
open Go.RowKit Go.Shelf
set_option linter.unusedVariables false
attribute [local go_sem] Oper.semAt_some

theorem addr_add (b off i : Nat) : (⟨b, off, none⟩ : Addr).add i = ⟨b, off + i, none⟩ := by
  unfold Addr.add; split
  · rename_i e; rw [e]; rfl
  · rfl
theorem LinesZ.sub {w : World} {B b off K i n : Nat} {m : Nat → Nat} {ln : Nat → Nat → Int} (h : LinesZ w B (some ⟨b, off, none⟩) K m ln) (hi : i + n ≤ K) : LinesZ w B (some ⟨b, off + i, none⟩) n (fun j => m (i + j)) (fun j => ln (i + j)) := by
  obtain ⟨vs, h1, h2⟩ := h
  refine ⟨fun j => vs (i + j), fun hn => ?_, fun j hj => h2 (i + j) (by omega)⟩
  obtain ⟨b', off', e, hb, hc⟩ := h1 (by omega)
  cases e
  refine ⟨b, off + i, rfl, hb, fun j j0 j1 => ?_⟩
  have := hc ((i : Int) + j) (by omega) (by omega)
  rw [show ((i : Int) + j).toNat = i + j.toNat by omega] at this
  rw [Nat.add_assoc]
  refine this.trans ?_
  show some (vs ((i : Int) + j).toNat) = some (vs (i + j.toNat))
  rw [show ((i : Int) + j).toNat = i + j.toNat by omega]
theorem LinesZ.none {w : World} {B : Nat} (A : Option Addr) (m : Nat → Nat) (ln : Nat → Nat → Int) : LinesZ w B A 0 m ln := ⟨fun _ => default, Arr.nil, fun i hi => by omega⟩
theorem LinesZ.shift {w : World} {B K i j : Nat} {A : Option Addr} {m : Nat → Nat} {ln : Nat → Nat → Int} (h : LinesZ w B A K (fun t => m (i + (j + t))) (fun t => ln (i + (j + t)))) : LinesZ w B A K (fun t => m (i + j + t)) (fun t => ln (i + j + t)) := by
  simpa only [Nat.add_assoc] using h
theorem StOut.cons {B : Nat} {w w' : World} {m : Nat → Nat} {ln : Nat → Nat → Int} {st : List Nat} {i : Nat} {vr vo' vq u : Value} {vs vu : Nat → Value} {n : Nat} {xs : List Value} (h : StOut B w m ln st vr vs) (hu : FoundM B w (fun j => m (i + j)) (fun j => ln (i + j)) 5 u vu)
    (hq : w.ownsRow B 54 1 vq n xs) (hg : w.grownBy w' vq.ownBlock) (hr : w'.ownsRow B 54 1 vo' (1 + st.length) ([u] ++ (List.range st.length).map vs)) : StOut B w' m ln (i :: st) vo' (fun t => match t with | 0 => u | t + 1 => vs t) := by
  refine ⟨?_, fun t ht => ?_⟩
  · rw [List.length_cons, List.range_succ_eq_map, List.map_cons, List.map_map, Nat.add_comm]
    exact hr
  · cases t with
    | zero => exact ⟨vu, hu.grownBlk hq hg⟩
    | succ t =>
      obtain ⟨v, hv⟩ := h.each t (by simpa using ht)
      exact ⟨v, hv.grownBlk hq hg⟩

set_option maxRecDepth 100000 in
set_option maxHeartbeats 4000000 in
theorem rstaves_ind (K : Nat) (m : Nat → Nat) (ln : Nat → Nat → Int) (hK : K ≤ 1000) (hm : ∀ i, i < K → m i ≤ 1000000) (hb : ∀ i j, i < K → j < m i → -1099511627776 ≤ ln i j ∧ ln i j ≤ 1099511627776) (n : Nat) :
    ∀ (i : Nat) (A : Option Addr) (c : Nat) (w : World), i + n = K → n ≤ c → c ≤ 17592186044416 → LinesZ w w.heap.size A n (fun j => m (i + j)) (fun j => ln (i + j)) →
    Calls Try.prog 36 #[.slice A n c] w (New w fun v w' => ∃ vs, StOut w.heap.size w' m ln (stS (eB m ln) n i) v vs) := by
  induction n using Nat.strongRecOn with
  | _ n ih =>
  intro i A c w hi hc hcm hL
  by_cases h5 : n < 5
  · have h5' : (n : Int) < 5 := by omega
    have HS := Lib.hid (stS_few (e := eB m ln) (i := i) h5)
    clear ih
    go_enter Try.func36, Try.ntmps36
    go_wp2
    go_ret
    exact ⟨_, rfl, ⟨fun _ => default, by rw [HS.out]; exact StOut.nil _ _ _ _ _⟩, Below.refl _ _⟩
  · obtain ⟨b, off, A0, c0, rfl, hbB, -, -, -⟩ := hL.at_ (i := 0) (by omega)
    have h5' : ¬ (n : Int) < 5 := by omega
    have h5c : (5 : Int) ≤ (c : Int) := by omega
    have h5d : 5 ≤ c := by omega
    have h5e : 5 ≤ n := by omega
    have GR := Lib.hid fun c' w' hL' => group_any (some ⟨b, off, none⟩) c' (fun j => m (i + j)) (fun j => ln (i + j)) w' hL' (fun j hj => hm (i + j) (by omega)) (fun j t hj ht => hb (i + j) t (by omega) ht)
    have L5 : LinesZ w w.heap.size (some ⟨b, off, none⟩) 5 (fun j => m (i + j)) (fun j => ln (i + j)) := by
      have := hL.sub (i := 0) (n := 5) (by omega)
      simpa using this
    cases hev : eB m ln i with
    | false =>
      have IH := Lib.hid fun w' hL' => ih (n - 1) (by omega) (i + 1) (some ⟨b, off + 1, none⟩) (c - 1) w' (by omega) (by omega) (by omega) hL'
      have LN' : LinesZ w w.heap.size (some ⟨b, off + 1, none⟩) (n - 1) (fun j => m (i + 1 + j)) (fun j => ln (i + 1 + j)) := (hL.sub (i := 1) (n := n - 1) (by omega)).shift
      have HS := Lib.hid (stS_no (e := eB m ln) (i := i) h5e hev)
      rw [show evenB (fun j => m (i + j)) (fun j => ln (i + j)) = false from hev] at GR
      clear ih hev hm hb
      go_enter Try.func36, Try.ntmps36
      go_wp2_with fail
      refine (GR.out _ _ L5.lines).mono ?_
      rintro e w1 ⟨rfl, hb1⟩
      go_wp2_with fail
      refine (IH.out _ (LN'.below hb1)).mono ?_
      rintro e w2 ⟨v, rfl, ⟨vs, hS⟩, hb2⟩
      have b2 : Below w.heap.size w w2 := below_call hb1 hb1.size hb2
      have z1 := hb1.size
      go_wp2
      go_ret
      exact ⟨_, rfl, ⟨vs, by rw [HS.out]; exact hS.base z1⟩, b2⟩
    | true =>
      have IH := Lib.hid fun A' c' w' hc1 hc2 hL' => ih (n - 5) (by omega) (i + 5) A' c' w' (by omega) hc1 hc2 hL'
      have LN' : LinesZ w w.heap.size (some ⟨b, off + 5, none⟩) (n - 5) (fun j => m (i + 5 + j)) (fun j => ln (i + 5 + j)) := (hL.sub (i := 5) (n := n - 5) (by omega)).shift
      by_cases hc5 : c = 5
      · obtain rfl : n = 5 := by omega
        subst hc5
        have CL := Lib.hid fun c' w' hL' => copyLists_any (some ⟨b, off, none⟩) 5 c' (fun j => m (i + j)) (fun j => ln (i + j)) w' hL' (by omega) (fun j hj => by have := hm (i + j) (by omega); omega)
        have HS := Lib.hid (stS_yes (e := eB m ln) (i := i) h5e hev)
        obtain ⟨s0, hs0, hsz0, hsz1, hsz2⟩ := info_parts infoLines
        rw [show evenB (fun j => m (i + j)) (fun j => ln (i + j)) = true from hev] at GR
        clear ih hev hm hb
        go_enter Try.func36, Try.ntmps36
        go_wp2_with fail
        refine (GR.out _ _ L5.lines).mono ?_
        rintro e w1 ⟨rfl, hb1⟩
        go_wp2_with fail
        refine (CL.out _ _ (L5.below hb1)).mono ?_
        rintro e w2 ⟨v5, rfl, ⟨vu, hF⟩, hb2⟩
        obtain ⟨Au, cu, rfl, -, -⟩ := own_arr hF.row
        have b2 : Below w.heap.size w w2 := below_call hb1 hb1.size hb2
        have b3 : Below w.heap.size w (w2.alloc (.cells #[.slice Au 5 cu] 54)) := b2.alloc b2.size _
        have k3 := Blk.new w2 54 #[.slice Au 5 cu]
        have F3 := (hF.base hb1.size).alloc (.cells #[.slice Au 5 cu] 54)
        have z2 := b2.size
        clear hF hb2
        go_wp2_with fail
        generalize hw3 : w2.alloc (.cells #[.slice Au 5 cu] 54) = w3 at *
        generalize hg2 : w2.heap.size = g2 at *
        clear hw3
        refine (IH.out (some ⟨b, off, none⟩) 0 w3 (by omega) (by omega) (LinesZ.none _ _ _)).mono ?_
        rintro e w4 ⟨vr, rfl, ⟨vs, hS⟩, hb4⟩
        have b4 := below_call b3 b3.size hb4
        have k4 := k3.below' hb4
        have F4 := F3.below hb4
        have z3 := b3.size
        have S4 := hS.base z3
        have own4 : w4.ownsRow w.heap.size 54 1 (.slice (some ⟨g2, 0, none⟩) 1 1) 1 [.slice Au 5 cu] := own_one k4 z2
        have SL := stS_len (e := eB m ln) (n := 5 - 5) (i := i + 5)
        obtain ⟨Ar, cr, rfl, -, har⟩ := own_arr S4.row
        clear k3 F3 hS hb4 b3
        rcases S4.row.2 with ⟨hnil, hz⟩ | ⟨gr, capr, curr, hvr, -⟩
        · have hz' : (stS (eB m ln) (5 - 5) (i + 5)).length = 0 := hz
          have hcr : cr = 0 := by simp at hnil; exact hnil.2.2
          have hAr : Ar = none := by simp at hnil; exact hnil.1
          subst hAr
          subst hcr
          have HZ := Lib.hid hz'
          rw [hz']
          have hst : Hid (stS (eB m ln) 5 i = [i]) := by show _ = _; rw [HS.out, List.length_eq_zero_iff.1 hz']
          go_wp2_with (at_builtin; refine wpList_append_own_none rfl (.tmp 19) (.tmp 22) 56 rfl w.heap.size 54 s0 1 Try.underlying56 hs0 _ 1 [.slice Au 5 cu] rfl own4 rfl ?_)
          go_wp2
          go_ret
          refine ⟨_, rfl, ⟨fun _ => .slice Au 5 cu, ?_⟩, b4⟩
          rw [hst.out]
          refine ⟨own4, fun t ht => ?_⟩
          obtain rfl : t = 0 := by simpa using ht
          exact ⟨vu, F4⟩
        · obtain ⟨L, hL'⟩ : ∃ L, (stS (eB m ln) (5 - 5) (i + 5)).length = L := ⟨_, rfl⟩
          obtain ⟨rfl, rfl⟩ : Ar = some ⟨gr, 0, none⟩ ∧ cr = capr := by simp at hvr; exact ⟨hvr.1, hvr.2⟩
          have ONE : ∀ u ∈ (List.range L).map vs, u.oneCell' = true := fun u hu => by
            obtain ⟨t, ht, rfl⟩ := List.mem_map.1 hu
            have ht := List.mem_range.1 ht
            obtain ⟨v, hv⟩ := S4.each t (by omega)
            obtain ⟨A9, c9, e9, -, -⟩ := own_arr hv.row
            rw [e9]; rfl
          have CEL : ∀ (j : Nat) (u : Value), ((List.range L).map vs)[j]? = some u → w4.cell? ((⟨gr, 0, none⟩ : Addr).add j) = some u := fun j u hj => by
            have hjn : j < L := by
              rcases Nat.lt_or_ge j L with h | h
              · exact h
              · rw [List.getElem?_eq_none (by simpa using h)] at hj; cases hj
            obtain ⟨b9, o9, e9, -, hc9'⟩ := Arr.at_ har (i := (j : Int)) (by omega) (by omega)
            cases e9
            rw [Int.toNat_natCast, Nat.zero_add, hL', List.getD_eq_getElem?_getD, hj] at hc9'
            have hadd : (⟨gr, 0, none⟩ : Addr).add j = ⟨gr, j, none⟩ := by rw [addr_add, Nat.zero_add]
            rw [hadd]; exact hc9'
          have HLL := Lib.hid hL'
          have HS4 := Lib.hid S4
          have HONE := Lib.hid ONE; have HCEL := Lib.hid CEL
          rw [hL'] at SL ⊢
          clear hL' har S4 ONE CEL hvr
          go_wp2_with (at_builtin; refine wpList_append_own _ rfl (.tmp 19) (.tmp 22) 56 rfl w.heap.size 54 s0 (.agg #[.slice none 0 0]) 1 24 Try.underlying56 hs0 hsz0 hsz1 hsz2 rfl (by decide) _ 1 [.slice Au 5 cu] rfl own4 ⟨gr, 0, none⟩ L cr ((List.range L).map vs) rfl (by simp) ?c1 ?c2 ?c3 ?c4 ?c5 ?_)
          try (case c1 => exact HCEL.out)
          try (case c2 => exact HONE.out)
          try (case c3 => unfold maxLen; omega)
          try (case c4 => omega)
          try (case c5 => first | omega | (have := b4.size; omega))
          intro v' w7 own7 hg7 _
          have b7 : Below w.heap.size w w7 := b4.grown hg7 b4.size (fun k hk => (own_ge own4 hk).1)
          rw [← HLL.out] at own7
          have S7 := HS4.out.cons F4 own4 hg7 own7
          obtain ⟨A9, c9, rfl, -, -⟩ := own_arr own7
          go_wp2
          go_ret
          exact ⟨_, rfl, ⟨_, by rw [HS.out]; exact S7⟩, b7⟩
      · have hc6 : ¬ c ≤ 5 := by omega
        have hc7 : ¬ (c : Int) ≤ 5 := by omega
        have hc8 : 5 < c := by omega
        have hc9 : ¬ (c - 5 = 0) := by omega
        have CL := Lib.hid fun c' w' hL' => copyLists_any (some ⟨b, off, none⟩) 5 c' (fun j => m (i + j)) (fun j => ln (i + j)) w' hL' (by omega) (fun j hj => by have := hm (i + j) (by omega); omega)
        have HS := Lib.hid (stS_yes (e := eB m ln) (i := i) h5e hev)
        obtain ⟨s0, hs0, hsz0, hsz1, hsz2⟩ := info_parts infoLines
        rw [show evenB (fun j => m (i + j)) (fun j => ln (i + j)) = true from hev] at GR
        clear ih hev hm hb
        go_enter Try.func36, Try.ntmps36
        go_wp2_with fail
        refine (GR.out _ _ L5.lines).mono ?_
        rintro e w1 ⟨rfl, hb1⟩
        go_wp2_with fail
        refine (CL.out _ _ (L5.below hb1)).mono ?_
        rintro e w2 ⟨v5, rfl, ⟨vu, hF⟩, hb2⟩
        obtain ⟨Au, cu, rfl, -, -⟩ := own_arr hF.row
        have b2 : Below w.heap.size w w2 := below_call hb1 hb1.size hb2
        have b3 : Below w.heap.size w (w2.alloc (.cells #[.slice Au 5 cu] 54)) := b2.alloc b2.size _
        have k3 := Blk.new w2 54 #[.slice Au 5 cu]
        have F3 := (hF.base hb1.size).alloc (.cells #[.slice Au 5 cu] 54)
        have z2 := b2.size
        clear hF hb2
        go_wp2_with fail
        generalize hw3 : w2.alloc (.cells #[.slice Au 5 cu] 54) = w3 at *
        generalize hg2 : w2.heap.size = g2 at *
        clear hw3
        refine (IH.out (some ⟨b, off + 5, none⟩) (c - 5) w3 (by omega) (by omega) (LN'.below b3)).mono ?_
        rintro e w4 ⟨vr, rfl, ⟨vs, hS⟩, hb4⟩
        have b4 := below_call b3 b3.size hb4
        have k4 := k3.below' hb4
        have F4 := F3.below hb4
        have z3 := b3.size
        have S4 := hS.base z3
        have own4 : w4.ownsRow w.heap.size 54 1 (.slice (some ⟨g2, 0, none⟩) 1 1) 1 [.slice Au 5 cu] := own_one k4 z2
        have SL := stS_len (e := eB m ln) (n := n - 5) (i := i + 5)
        obtain ⟨Ar, cr, rfl, -, har⟩ := own_arr S4.row
        clear k3 F3 hS hb4 b3
        rcases S4.row.2 with ⟨hnil, hz⟩ | ⟨gr, capr, curr, hvr, -⟩
        · have hz' : (stS (eB m ln) (n - 5) (i + 5)).length = 0 := hz
          have hcr : cr = 0 := by simp at hnil; exact hnil.2.2
          have hAr : Ar = none := by simp at hnil; exact hnil.1
          subst hAr
          subst hcr
          have HZ := Lib.hid hz'
          rw [hz']
          have hst : Hid (stS (eB m ln) n i = [i]) := by show _ = _; rw [HS.out, List.length_eq_zero_iff.1 hz']
          go_wp2_with (at_builtin; refine wpList_append_own_none rfl (.tmp 19) (.tmp 22) 56 rfl w.heap.size 54 s0 1 Try.underlying56 hs0 _ 1 [.slice Au 5 cu] rfl own4 rfl ?_)
          go_wp2
          go_ret
          refine ⟨_, rfl, ⟨fun _ => .slice Au 5 cu, ?_⟩, b4⟩
          rw [hst.out]
          refine ⟨own4, fun t ht => ?_⟩
          obtain rfl : t = 0 := by simpa using ht
          exact ⟨vu, F4⟩
        · obtain ⟨L, hL'⟩ : ∃ L, (stS (eB m ln) (n - 5) (i + 5)).length = L := ⟨_, rfl⟩
          obtain ⟨rfl, rfl⟩ : Ar = some ⟨gr, 0, none⟩ ∧ cr = capr := by simp at hvr; exact ⟨hvr.1, hvr.2⟩
          have ONE : ∀ u ∈ (List.range L).map vs, u.oneCell' = true := fun u hu => by
            obtain ⟨t, ht, rfl⟩ := List.mem_map.1 hu
            have ht := List.mem_range.1 ht
            obtain ⟨v, hv⟩ := S4.each t (by omega)
            obtain ⟨A9, c9, e9, -, -⟩ := own_arr hv.row
            rw [e9]; rfl
          have CEL : ∀ (j : Nat) (u : Value), ((List.range L).map vs)[j]? = some u → w4.cell? ((⟨gr, 0, none⟩ : Addr).add j) = some u := fun j u hj => by
            have hjn : j < L := by
              rcases Nat.lt_or_ge j L with h | h
              · exact h
              · rw [List.getElem?_eq_none (by simpa using h)] at hj; cases hj
            obtain ⟨b9, o9, e9, -, hc9'⟩ := Arr.at_ har (i := (j : Int)) (by omega) (by omega)
            cases e9
            rw [Int.toNat_natCast, Nat.zero_add, hL', List.getD_eq_getElem?_getD, hj] at hc9'
            have hadd : (⟨gr, 0, none⟩ : Addr).add j = ⟨gr, j, none⟩ := by rw [addr_add, Nat.zero_add]
            rw [hadd]; exact hc9'
          have HLL := Lib.hid hL'
          have HS4 := Lib.hid S4
          have HONE := Lib.hid ONE; have HCEL := Lib.hid CEL
          rw [hL'] at SL ⊢
          clear hL' har S4 ONE CEL hvr
          go_wp2_with (at_builtin; refine wpList_append_own _ rfl (.tmp 19) (.tmp 22) 56 rfl w.heap.size 54 s0 (.agg #[.slice none 0 0]) 1 24 Try.underlying56 hs0 hsz0 hsz1 hsz2 rfl (by decide) _ 1 [.slice Au 5 cu] rfl own4 ⟨gr, 0, none⟩ L cr ((List.range L).map vs) rfl (by simp) ?c1 ?c2 ?c3 ?c4 ?c5 ?_)
          try (case c1 => exact HCEL.out)
          try (case c2 => exact HONE.out)
          try (case c3 => unfold maxLen; omega)
          try (case c4 => omega)
          try (case c5 => first | omega | (have := b4.size; omega))
          intro v' w7 own7 hg7 _
          have b7 : Below w.heap.size w w7 := b4.grown hg7 b4.size (fun k hk => (own_ge own4 hk).1)
          rw [← HLL.out] at own7
          have S7 := HS4.out.cons F4 own4 hg7 own7
          obtain ⟨A9, c9, rfl, -, -⟩ := own_arr own7
          go_wp2
          go_ret
          exact ⟨_, rfl, ⟨_, by rw [HS.out]; exact S7⟩, b7⟩
end Go.Proofs.Ytdimlpcbbkokiaa
