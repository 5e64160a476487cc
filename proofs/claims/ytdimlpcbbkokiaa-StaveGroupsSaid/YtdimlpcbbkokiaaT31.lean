/- Walk: the reference's test of five lines (custosref03.group). -/
import Derived.Test.YtdimlpcbbkokiaaT14
namespace Go.Proofs.Ytdimlpcbbkokiaa
open Go.RowKit Go.Shelf
set_option linter.unusedVariables false
attribute [local go_sem] Oper.semAt_some

theorem minA_le {q : Int → Int} (n : Nat) (i : Nat) (h : i ≤ n) : minA q n ≤ q i := by
  induction n with
  | zero => obtain rfl : i = 0 := by omega
            exact Int.le_refl _
  | succ n ih =>
    rw [minA]
    by_cases e : i = n + 1
    · subst e; rw [show ((n + 1 : Nat) : Int) = (n : Int) + 1 by omega]; split <;> omega
    · have := ih (by omega); split <;> omega
theorem minA_is {q : Int → Int} (n : Nat) : ∃ i : Nat, i ≤ n ∧ minA q n = q i := by
  induction n with
  | zero => exact ⟨0, Nat.le_refl _, rfl⟩
  | succ n ih =>
    rw [minA]
    split
    · exact ⟨n + 1, Nat.le_refl _, by rw [show ((n + 1 : Nat) : Int) = (n : Int) + 1 by omega]⟩
    · obtain ⟨i, hi, e⟩ := ih; exact ⟨i, by omega, e⟩
theorem maxA_ge {q : Int → Int} (n : Nat) (i : Nat) (h : i ≤ n) : q i ≤ maxA q n := by
  induction n with
  | zero => obtain rfl : i = 0 := by omega
            exact Int.le_refl _
  | succ n ih =>
    rw [maxA]
    by_cases e : i = n + 1
    · subst e; rw [show ((n + 1 : Nat) : Int) = (n : Int) + 1 by omega]; split <;> omega
    · have := ih (by omega); split <;> omega
theorem maxA_is {q : Int → Int} (n : Nat) : ∃ i : Nat, i ≤ n ∧ maxA q n = q i := by
  induction n with
  | zero => exact ⟨0, Nat.le_refl _, rfl⟩
  | succ n ih =>
    rw [maxA]
    split
    · exact ⟨n + 1, Nat.le_refl _, by rw [show ((n + 1 : Nat) : Int) = (n : Int) + 1 by omega]⟩
    · obtain ⟨i, hi, e⟩ := ih; exact ⟨i, by omega, e⟩
/-- the gaps are alike, each tested against each -/
theorem evenV_iff {ln : Nat → Nat → Int} {n : Nat} : evenV ln n = true ↔ ∀ i, i < 8 → (2 ≤ gapF ln n i ∧ gapF ln n i ≤ 64) ∧ ∀ k, k < 8 → gapF ln n i - gapF ln n k ≤ 2 := by
  unfold evenV
  rw [decide_eq_true_iff]
  obtain ⟨a, ha, ea⟩ := minA_is (q := fun j => gapF ln n j.toNat) 7
  obtain ⟨b, hb, eb⟩ := maxA_is (q := fun j => gapF ln n j.toNat) 7
  have h1 := fun i (hi : i ≤ 7) => minA_le (q := fun j => gapF ln n j.toNat) 7 i hi
  have h2 := fun i (hi : i ≤ 7) => maxA_ge (q := fun j => gapF ln n j.toNat) 7 i hi
  simp only [Int.toNat_natCast] at ea eb h1 h2
  constructor
  · intro h i hi
    have := h1 i (by omega)
    have := h2 i (by omega)
    exact ⟨by omega, fun k hk => by have := h1 k (by omega); omega⟩
  · intro h
    have := h a (by omega)
    have := h b (by omega)
    have := (h b (by omega)).2 a (by omega)
    omega
theorem gap_snoc1 (ln : Nat → Nat → Int) (m i : Nat) : (List.range (2 * i + 1)).map (fun j => Value.int .i64 (gapF ln m j)) = (List.range (2 * i)).map (fun j => Value.int .i64 (gapF ln m j)) ++ [.int .i64 (ln (i + 1) 0 - ln i 0)] := by
  rw [range_snoc]
  have e1 : gapF ln m (2 * i) = ln (i + 1) 0 - ln i 0 := by unfold gapF; rw [if_pos (by omega), show 2 * i / 2 = i by omega]
  rw [e1]
theorem gap_snoc2 (ln : Nat → Nat → Int) (m i : Nat) : (List.range (2 * (i + 1))).map (fun j => Value.int .i64 (gapF ln m j)) = (List.range (2 * i + 1)).map (fun j => Value.int .i64 (gapF ln m j)) ++ [.int .i64 (ln (i + 1) (m - 1) - ln i (m - 1))] := by
  rw [show 2 * (i + 1) = 2 * i + 1 + 1 by omega, range_snoc]
  have e2 : gapF ln m (2 * i + 1) = ln (i + 1) (m - 1) - ln i (m - 1) := by unfold gapF; rw [if_neg (by omega), show (2 * i + 1) / 2 = i by omega]
  rw [e2]

set_option maxRecDepth 100000 in
set_option maxHeartbeats 4000000 in
theorem group_any (A : Option Addr) (c : Nat) (m : Nat → Nat) (ln : Nat → Nat → Int) (w : World) (hL : Lines w w.heap.size A 5 m ln) (hm : ∀ i, i < 5 → m i ≤ 1000000) (hb : ∀ i j, i < 5 → j < m i → -1099511627776 ≤ ln i j ∧ ln i j ≤ 1099511627776) :
    Calls Try.prog 77 #[.slice A 5 c] w fun e w' => e = .returned (.bool (evenB m ln)) ∧ Below w.heap.size w w' := by
  obtain ⟨i0, hi0, hz0', hz1, hz2⟩ := info_parts infoInt
  have HL := Lib.hid hL
  have EV0 : Hid (∀ i, i < 5 → ¬ (0 < m i ∧ m i = m 0) → evenB m ln = false) := by
    show ∀ _, _
    intro i hi hn
    unfold evenB
    rw [Bool.and_eq_false_iff]
    left
    rw [List.all_eq_false]
    exact ⟨i, List.mem_range.2 hi, by simpa using hn⟩
  have EV1 : Hid ((∀ i, i < 5 → 0 < m i ∧ m i = m 0) → evenB m ln = evenV ln (m 0)) := by
    show _ → _
    intro h
    unfold evenB
    rw [show ((List.range 5).all fun i => decide (0 < m i ∧ m i = m 0)) = true from List.all_eq_true.2 fun i hi => decide_eq_true (h i (List.mem_range.1 hi)), Bool.true_and]
  obtain ⟨b, off, A0, c0, rfl, hbB, h0, ha0⟩ := hL.at_ (i := 0) (by omega)
  rw [Nat.add_zero] at h0
  have HM := Lib.hid hm; have HB := Lib.hid hb
  clear hL hm hb ha0
  have M0 := HM.out 0 (by omega)
  generalize hm0 : m 0 = m0 at *
  have HM0 := Lib.hid hm0
  by_cases mz : m0 = 0
  · have E : Hid (evenB m ln = false) := by show _ = _; exact EV0.out 0 (by omega) (by rw [hm0]; omega)
    subst mz
    clear hm0
    go_enter Try.func77, Try.ntmps77
    go_wp2
    go_ret
    exact ⟨ret_bool E.out.symm, Below.refl _ _⟩
  · have mz' : ((m0 : Int) == 0) = false := by simp; omega
    clear hm0
    go_enter Try.func77, Try.ntmps77
    go_wp2
    go_loopw [4, 5] (fun vo s wr => ∃ i : Nat, i ≤ 5 ∧ s = .int .i64 i ∧ (∀ j, j < i → 0 < m j ∧ m j = m0) ∧ wr.ownsRow w.heap.size 3 1 vo (2 * (i - 1)) ((List.range (2 * (i - 1))).map fun j => Value.int .i64 (gapF ln m0 j)) ∧ Below w.heap.size w wr) (fun _ s _ => 5 - (intOf s).toNat)
    case atStart => exact ⟨0, by omega, rfl, fun j hj => by omega, World.ownsRow_nil _ _ _ _, Below.refl _ _⟩
    case round =>
      obtain ⟨i, hi, rfl, hg, hown, b1⟩ := hrel
      clear h0
      by_cases hlt : (i : Int) < 5
      · obtain ⟨b2, off2, A2, c2, e2, -, hc2, ha2⟩ := HL.out.at_ (i := i) (by omega)
        cases e2
        have HC2 := Lib.hid hc2
        replace hc2 := (b1.cell (p := ⟨b, off + i, none⟩) hbB).trans hc2
        have MI := HM.out i (by omega)
        obtain ⟨mi, hmi⟩ : ∃ mi, m i = mi := ⟨_, rfl⟩
        rw [hmi] at hc2 ha2 MI HC2
        have HMI := Lib.hid hmi
        clear hmi
        by_cases hzm : mi = m0
        · subst hzm
          have g1 : ∀ j, j < i + 1 → 0 < m j ∧ m j = mi := fun j hj => by
            rcases Nat.lt_succ_iff_lt_or_eq.1 hj with h | rfl
            · exact hg j h
            · exact ⟨by rw [HMI.out]; omega, HMI.out⟩
          have G1 := Lib.hid g1
          clear g1
          have bne : ((mi : Int) != (mi : Int)) = false := by simp
          by_cases hi0' : i = 0
          · have d0 : decide ((0 : Int) < (i : Int)) = false := decide_eq_false (by omega)
            have d0' : decide (0 < i) = false := decide_eq_false (by omega)
            have HI0 := Lib.hid hi0'
            clear ha2 hg hi0'
            go_wp2
            go_roundw
            case rel => exact ⟨i + 1, by omega, by go_num, G1.out, by rw [show i + 1 - 1 = i - 1 by have := HI0.out; omega]; exact hown, b1⟩
            case measure => simp [intOf]; omega
          · obtain ⟨k, hk⟩ : ∃ k, i = k + 1 := ⟨i - 1, by omega⟩
            obtain ⟨b4, off4, A4, c4, e4, -, hc4, ha4⟩ := HL.out.at_ (i := k) (by omega)
            cases e4
            rw [(hg k (by omega)).2] at hc4 ha4
            have HC4 := Lib.hid hc4
            replace hc4 := (b1.cell (p := ⟨b, off + k, none⟩) hbB).trans hc4
            obtain ⟨b3, off3, rfl, hb3, hc3⟩ := ArrI.fn ha2 (by omega)
            obtain ⟨b5, off5, rfl, hb5, hc5⟩ := ArrI.fn ha4 (by omega)
            have x1 := hc3 0 (by omega) (by omega)
            have x2 := hc3 ((mi : Int) - 1) (by omega) (by omega)
            have x3 := hc5 0 (by omega) (by omega)
            have x4 := hc5 ((mi : Int) - 1) (by omega) (by omega)
            rw [show ((mi : Int) - 1).toNat = mi - 1 by omega] at x2 x4
            simp only [Int.toNat_zero, Nat.add_zero] at x1 x3
            have X2 := Lib.hid x2; have X4 := Lib.hid x4
            clear x2 x4
            replace x1 := (b1.cell (p := ⟨b3, off3, none⟩) hb3).trans x1
            replace x3 := (b1.cell (p := ⟨b5, off5, none⟩) hb5).trans x3
            obtain ⟨y1, y2⟩ := HB.out i 0 (by omega) (by rw [HMI.out]; omega)
            obtain ⟨y3, y4⟩ := HB.out i (mi - 1) (by omega) (by rw [HMI.out]; omega)
            obtain ⟨y5, y6⟩ := HB.out k 0 (by omega) (by have := hg k (by omega); omega)
            obtain ⟨y7, y8⟩ := HB.out k (mi - 1) (by omega) (by have := hg k (by omega); omega)
            have GS1 := Lib.hid (gap_snoc1 ln mi k)
            have GS2 := Lib.hid (gap_snoc2 ln mi k)
            rw [← hk] at GS1 GS2
            rw [show i - 1 = k by omega] at hown
            have HK := Lib.hid hk
            generalize ln i 0 = a1 at *
            generalize ln i (mi - 1) = a2 at *
            generalize ln k 0 = a3 at *
            generalize ln k (mi - 1) = a4 at *
            have v1 : IntKind.i64.wrap (a1 - a3) = a1 - a3 := IntWalk.i64_in _ (by omega)
            have v2 : IntKind.i64.wrap (a2 - a4) = a2 - a4 := IntWalk.i64_in _ (by omega)
            have v3 : IntKind.i64.wrap ((mi : Int) - 1) = (mi : Int) - 1 := IntWalk.i64_in _ (by omega)
            have v4 : IntKind.i64.wrap ((i : Int) - 1) = (k : Int) := by rw [show (i : Int) - 1 = k by omega]; exact IntWalk.i64_in _ (by omega)
            have o3 : u4.ownBlock ≠ some b3 := fun e => by have := own_ge hown e; omega
            have o5 : u4.ownBlock ≠ some b5 := fun e => by have := own_ge hown e; omega
            have ob : u4.ownBlock ≠ some b := fun e => by have := own_ge hown e; omega
            have n3 := World.new_ne wr _ x1; have n5 := World.new_ne wr _ x3; have nb := World.new_ne wr _ hc2
            have z1 := b1.size
            have j1 : (0 : Int) < (mi : Int) := by omega
            have j2 : (mi : Int) - 1 < (mi : Int) := by omega
            have j3 : (0 : Int) ≤ (mi : Int) - 1 := by omega
            have j4 : 0 < mi := by omega
            have j5 : (1 : Int) ≤ (mi : Int) := by omega
            have j6 : 1 ≤ mi := by omega
            have i1 : (0 : Int) < (i : Int) := by omega
            have d0 : decide ((0 : Int) < (i : Int)) = true := decide_eq_true i1
            have i2 : (k : Int) < 5 := by omega
            have i3 : (0 : Int) ≤ (k : Int) := by omega
            have i4 : 0 < i := by omega
            clear hc3 hc5 ha2 ha4 hg hk hi0'
            go_wp2_with fail
            go_region_held3 (fun w' => w'.cell? ⟨b, off + i, none⟩ = some (.slice (some ⟨b3, off3, none⟩) mi c2) ∧ w'.cell? ⟨b, off + k, none⟩ = some (.slice (some ⟨b5, off5, none⟩) mi c4) ∧ w'.cell? ⟨b3, off3, none⟩ = some (.int .i64 a1) ∧ w'.cell? ⟨b5, off5, none⟩ = some (.int .i64 a3))
              (first
                | (simp [go_sem, *]; done)
                | (go_keep; done)
                | (refine ⟨?_, ?_, ?_, ?_⟩
                   · (rw [hgrow.cell_far _ (by simp; omega) (Ne.symm ob)]; first | assumption | (go_keep; done) | (simp [go_sem, *]; done))
                   · (rw [hgrow.cell_far _ (by simp; omega) (Ne.symm ob)]; first | assumption | (go_keep; done) | (simp [go_sem, *]; done))
                   · (rw [hgrow.cell_far _ (by simp; omega) (Ne.symm o3)]; first | assumption | (go_keep; done) | (simp [go_sem, *]; done))
                   · (rw [hgrow.cell_far _ (by simp; omega) (Ne.symm o5)]; first | assumption | (go_keep; done) | (simp [go_sem, *]; done))))
              ((refine step_append_lies _ (by rfl) _ _ _ (by rfl) w.heap.size 3 i0 (.int .i64 0) 1 8 Try.underlying25 hi0 hz0' hz1 hz2 rfl (by omega) u4 _ _ (by rfl) ((hown.alloc _).drew) ⟨wr.heap.size, 0, none⟩ 1 1 [.int .i64 (a1 - a3)] (by rfl) (by rfl) (World.news_of_block (cs := #[.int .i64 (a1 - a3)]) (t := 3) (fr := (0, 0)) (heap_alloc_new wr _)) (by simp [Value.oneCell']) (by omega) (by unfold maxLen; omega) (by omega) (by simp; omega) (wr.heap.size + 1) (by simp) ?_; intro gg cap w1 hown1 hgrow hat hlt1))
            have b9 : Below w.heap.size w w1 := (show Below w.heap.size w (wr.alloc (.cells #[.int .i64 (a1 - a3)] 3)).drew from (b1.alloc b1.size _).drew).grown hgrow (by simp; omega) (fun j hj => (own_ge hown hj).1)
            rw [← GS1.out] at hown1
            have q1 := (b9.cell (p := ⟨b, off + i, none⟩) hbB).trans HC2.out
            have q2 := (b9.cell (p := ⟨b, off + k, none⟩) hbB).trans HC4.out
            have q3 := (b9.cell (p := ⟨b3, off3 + (mi - 1), none⟩) hb3).trans X2.out
            have q4 := (b9.cell (p := ⟨b5, off5 + (mi - 1), none⟩) hb5).trans X4.out
            have m3 := World.new_ne w1 _ q3; have m5 := World.new_ne w1 _ q4; have mb := World.new_ne w1 _ q1
            have p3 : (Value.slice (some ⟨gg, 0, none⟩) (2 * k + 1) cap).ownBlock ≠ some b3 := fun e => by have := own_ge hown1 e; omega
            have p5 : (Value.slice (some ⟨gg, 0, none⟩) (2 * k + 1) cap).ownBlock ≠ some b5 := fun e => by have := own_ge hown1 e; omega
            have pb : (Value.slice (some ⟨gg, 0, none⟩) (2 * k + 1) cap).ownBlock ≠ some b := fun e => by have := own_ge hown1 e; omega
            have z9 := b9.size
            clear hown hgrow b1 hat x1 x3 hc2 hc4 n3 n5 nb o3 o5 ob v1
            go_wp2_with fail
            go_region_held3 (fun w' => w'.cell? ⟨b, off + i, none⟩ = some (.slice (some ⟨b3, off3, none⟩) mi c2) ∧ w'.cell? ⟨b, off + k, none⟩ = some (.slice (some ⟨b5, off5, none⟩) mi c4) ∧ w'.cell? ⟨b3, off3 + (mi - 1), none⟩ = some (.int .i64 a2) ∧ w'.cell? ⟨b5, off5 + (mi - 1), none⟩ = some (.int .i64 a4))
              (first
                | (simp [go_sem, *]; done)
                | (go_keep; done)
                | (refine ⟨?_, ?_, ?_, ?_⟩
                   · (rw [hgrow.cell_far _ (by simp; omega) (Ne.symm pb)]; first | assumption | (go_keep; done) | (simp [go_sem, *]; done))
                   · (rw [hgrow.cell_far _ (by simp; omega) (Ne.symm pb)]; first | assumption | (go_keep; done) | (simp [go_sem, *]; done))
                   · (rw [hgrow.cell_far _ (by simp; omega) (Ne.symm p3)]; first | assumption | (go_keep; done) | (simp [go_sem, *]; done))
                   · (rw [hgrow.cell_far _ (by simp; omega) (Ne.symm p5)]; first | assumption | (go_keep; done) | (simp [go_sem, *]; done))))
              ((refine step_append_lies _ (by rfl) _ _ _ (by rfl) w.heap.size 3 i0 (.int .i64 0) 1 8 Try.underlying25 hi0 hz0' hz1 hz2 rfl (by omega) (.slice (some ⟨gg, 0, none⟩) (2 * k + 1) cap) _ _ (by rfl) ((hown1.alloc _).drew) ⟨w1.heap.size, 0, none⟩ 1 1 [.int .i64 (a2 - a4)] (by rfl) (by rfl) (World.news_of_block (cs := #[.int .i64 (a2 - a4)]) (t := 3) (fr := (0, 0)) (heap_alloc_new w1 _)) (by simp [Value.oneCell']) (by omega) (by unfold maxLen; omega) (by omega) (by simp; omega) (w1.heap.size + 1) (by simp) ?_; intro gg2 cap2 w2 hown2 hgrow hat2 hlt2))
            all_goals
              have b10 : Below w.heap.size w w2 := (show Below w.heap.size w (w1.alloc (.cells #[.int .i64 (a2 - a4)] 3)).drew from (b9.alloc b9.size _).drew).grown hgrow (by simp; omega) (fun j hj => (own_ge hown1 hj).1)
              have B10 := Lib.hid b10
              have HO2 := Lib.hid hown2
              clear hown1 hgrow b9 hat2 q1 q2 q3 q4 b10 hown2
              go_wp2
              go_roundw
              case rel => exact ⟨i + 1, by omega, by go_num, G1.out, by (have e := HK.out; have h2 := GS2.out; rw [show 2 * i = 2 * k + 1 + 1 by omega] at h2; rw [show 2 * (i + 1 - 1) = 2 * k + 1 + 1 by omega, h2]; exact HO2.out), B10.out⟩
              case measure => simp [intOf]; omega
        · have E : Hid (evenB m ln = false) := by show _ = _; exact EV0.out i (by omega) (by rw [HMI.out]; omega)
          have hzm' : ((mi : Int) != (m0 : Int)) = true := by simp; omega
          clear hown ha2 hzm
          go_wp2
          go_ret
          exact ⟨ret_bool E.out.symm, b1⟩
      · obtain rfl : i = 5 := by omega
        change wr.ownsRow _ _ 1 u4 8 ((List.range 8).map _) at hown
        obtain ⟨A8, c8, rfl, ha8⟩ := own_arrI hown
        have E := Lib.hid (EV1.out hg)
        have GB : ∀ j : Nat, j < 8 → -2199023255552 ≤ gapF ln m0 j ∧ gapF ln m0 j ≤ 2199023255552 := fun j j1 => by
          have q1 := hg (j / 2) (by omega)
          have q2 := hg (j / 2 + 1) (by omega)
          have q3 := HB.out (j / 2) 0 (by omega) (by omega)
          have q4 := HB.out (j / 2 + 1) 0 (by omega) (by omega)
          have q5 := HB.out (j / 2) (m0 - 1) (by omega) (by omega)
          have q6 := HB.out (j / 2 + 1) (m0 - 1) (by omega) (by omega)
          unfold gapF
          split <;> omega
        have HGB := Lib.hid GB
        clear GB hg hown
        obtain ⟨b8, o8, rfl, hb8, hc8⟩ := ArrI.fn ha8 (by omega)
        have HC8 := Lib.hid fun (j : Nat) (hj : (j : Int) < 8) => hc8 j (by omega) (by omega)
        clear hc8 ha8
        go_wp2_with fail
        generalize wr = w5 at *
        go_loopw [6] (fun s wr => ∃ i : Nat, i ≤ 8 ∧ s = .int .i64 i ∧ (∀ j, j < i → (2 ≤ gapF ln m0 j ∧ gapF ln m0 j ≤ 64) ∧ ∀ k, k < 8 → gapF ln m0 j - gapF ln m0 k ≤ 2) ∧ ∃ nn, wr = w5.drewN nn) (fun s _ => 8 - (intOf s).toNat)
        case atStart => exact ⟨0, by omega, rfl, fun j hj => by omega, 0, rfl⟩
        case round =>
          obtain ⟨i, hi, rfl, hal, nn, hwr⟩ := hrel
          have HAL := Lib.hid hal
          have HC9 : Hid (∀ j : Nat, (j : Int) < 8 → wr.cell? ⟨b8, o8 + j, none⟩ = some (.int .i64 (gapF ln m0 j))) := by
            show ∀ _, _
            intro j hj
            have := HC8.out j hj
            rw [Int.toNat_natCast] at this
            rw [hwr]; exact this
          have HWR := Lib.hid hwr
          clear hwr hal
          by_cases il : (i : Int) < 8
          · have ci := HC9.out i il
            obtain ⟨gi1, gi2⟩ := HGB.out i (by omega)
            by_cases hlo : gapF ln m0 i < 2
            · have F : Hid (evenB m ln = false) := by show _ = _; rw [E.out]; exact Bool.eq_false_iff.2 fun h => by have := (evenV_iff.1 h) i (by omega); omega
              generalize gapF ln m0 i = gi at *
              go_wp2
              go_ret
              exact ⟨ret_bool F.out.symm, by rw [HWR.out]; exact below_drewN b1 _⟩
            by_cases hhi : 64 < gapF ln m0 i
            · have F : Hid (evenB m ln = false) := by show _ = _; rw [E.out]; exact Bool.eq_false_iff.2 fun h => by have := (evenV_iff.1 h) i (by omega); omega
              generalize gapF ln m0 i = gi at *
              go_wp2
              go_ret
              exact ⟨ret_bool F.out.symm, by rw [HWR.out]; exact below_drewN b1 _⟩
            have GI := Lib.hid (rfl : gapF ln m0 i = gapF ln m0 i)
            obtain ⟨gi, hgi⟩ : ∃ gi, gapF ln m0 i = gi := ⟨_, rfl⟩
            have HGI := Lib.hid hgi
            rw [hgi] at ci hlo hhi gi1 gi2
            clear hgi GI
            go_wp2_with fail
            generalize wr = w6 at *
            go_loopw [7] (fun s wr => ∃ k : Nat, k ≤ 8 ∧ s = .int .i64 k ∧ (∀ j, j < k → gi - gapF ln m0 j ≤ 2) ∧ ∃ nn, wr = w6.drewN nn) (fun s _ => 8 - (intOf s).toNat)
            case atStart => exact ⟨0, by omega, rfl, fun j hj => by omega, 0, rfl⟩
            case round =>
              obtain ⟨k, hk, rfl, hak, n2, hwr2⟩ := hrel
              have HAK := Lib.hid hak
              have HWR2 := Lib.hid hwr2
              by_cases kl : (k : Int) < 8
              · have ck : wr.cell? ⟨b8, o8 + k, none⟩ = some (.int .i64 (gapF ln m0 k)) := by rw [hwr2]; exact HC9.out k kl
                have ci2 : wr.cell? ⟨b8, o8 + i, none⟩ = some (.int .i64 gi) := by rw [hwr2]; exact ci
                clear hwr2 hak
                obtain ⟨gk1, gk2⟩ := HGB.out k (by omega)
                obtain ⟨gk, hgk⟩ : ∃ gk, gapF ln m0 k = gk := ⟨_, rfl⟩
                have HGK := Lib.hid hgk
                rw [hgk] at ck gk1 gk2
                clear hgk
                have v1 : IntKind.i64.wrap (gi - gk) = gi - gk := IntWalk.i64_in _ (by omega)
                by_cases hd : gi - gk ≤ 2
                · have dd : decide (2 < gi - gk) = false := decide_eq_false (by omega)
                  go_wp2_with fail
                  go_quiet (fail)
                  go_wp2
                  go_roundw
                  case rel =>
                    refine ⟨k + 1, by omega, by go_num, fun j hj => ?_, _, by rw [HWR2.out]; exact World.drewN_drewN _ _ _⟩
                    rcases Nat.lt_succ_iff_lt_or_eq.1 hj with h | rfl
                    · exact HAK.out j h
                    · rw [HGK.out]; omega
                  case measure => simp [intOf]; omega
                · have dd : decide (2 < gi - gk) = true := decide_eq_true (by omega)
                  have F : Hid (evenB m ln = false) := by
                    show _ = _
                    rw [E.out]
                    exact Bool.eq_false_iff.2 fun h => by
                      have := ((evenV_iff.1 h) i (by omega)).2 k (by omega)
                      rw [HGI.out, HGK.out] at this; omega
                  go_wp2_with fail
                  go_quiet (fail)
                  go_wp2
                  go_ret
                  exact ⟨ret_bool F.out.symm, by rw [HWR2.out, HWR.out]; exact below_drewN (below_drewN (below_drewN b1 _) _) _⟩
              · obtain rfl : k = 8 := by omega
                clear hak hwr2
                go_wp2_with fail
                go_roundw
                case rel =>
                  refine ⟨i + 1, by omega, by go_num, fun j hj => ?_, _, by rw [HWR2.out, HWR.out]; exact World.drewN_drewN _ _ _⟩
                  rcases Nat.lt_succ_iff_lt_or_eq.1 hj with h | rfl
                  · exact HAL.out j h
                  · rw [HGI.out]; exact ⟨by omega, HAK.out⟩
                case measure => simp [intOf]; omega
          · obtain rfl : i = 8 := by omega
            have F : Hid (evenB m ln = true) := by show _ = _; rw [E.out]; exact evenV_iff.2 HAL.out
            go_wp2
            go_ret
            exact ⟨ret_bool F.out.symm, by rw [HWR.out]; exact below_drewN b1 _⟩
end Go.Proofs.Ytdimlpcbbkokiaa
