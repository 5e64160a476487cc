/- Texts of mine in build order: T71. Conditions: each theorem's own. -/
import Derived.Test.YtdimlpcbbkokiaaGreatMStaveSmallx13
/- Walk: all small images, holes, gaps, limits (StaveSmall). -/
namespace Go.Proofs.YtdimlpcbbkokiaaGreat
open Go.RowKit Go.Shelf
set_option linter.unusedVariables false
attribute [local go_sem] Oper.semAt_some

theorem and_bit (x : Int) : bits BinOp.and IntKind.i64 x 1 = 0 ∨ bits BinOp.and IntKind.i64 x 1 = 1 := by
  have h : (BitVec.ofInt 64 x &&& BitVec.ofInt 64 1).toNat = (BitVec.ofInt 64 x).toNat % 2 := by
    rw [BitVec.toNat_and, show (BitVec.ofInt 64 1).toNat = 1 by decide, Nat.and_one_is_mod]
  show IntKind.i64.wrap ((BitVec.ofInt 64 x &&& BitVec.ofInt 64 1).toNat : Int) = 0 ∨ IntKind.i64.wrap ((BitVec.ofInt 64 x &&& BitVec.ofInt 64 1).toNat : Int) = 1
  rw [h]
  rcases (show (BitVec.ofInt 64 x).toNat % 2 = 0 ∨ (BitVec.ofInt 64 x).toNat % 2 = 1 by omega) with h | h <;> rw [h]
  · exact .inl (by decide)
  · exact .inr (by decide)
theorem xor_bit {v : Int} (h : v = 0 ∨ v = 1) : bits BinOp.xor IntKind.u8 v 1 = 1 - v := by rcases h with rfl | rfl <;> decide
/-- only 0 and 1 -/
def Z01 (q : Int → Int) : Prop := ∀ i, q i = 0 ∨ q i = 1
theorem Z01.isB {q : Int → Int} (h : Z01 q) : IsB q := fun i => by have := h i; omega
theorem Z01.upd {q : Int → Int} (h : Z01 q) {j v : Int} (hv : v = 0 ∨ v = 1) : Z01 (upd q j v) := fun i => by
  unfold Go.Proofs.YtdimlpcbbkokiaaGreat.upd
  split
  · exact hv
  · exact h i
theorem Z01.chk {q : Int → Int} (h : Z01 q) {W H : Int} {n : Nat} (h1 : 0 ≤ W) (h2 : W ≤ 640) (h3 : 0 ≤ H) (h4 : H ≤ 640) (hn : (n : Int) = W * H) : Go.Proofs.YtdimlpcbbkokiaaGreat.chk W H n q = 0 :=
  chk_mk h1 h2 h3 h4 hn fun i _ _ => by have := h i; omega
theorem z01_row (hole : Int) : Z01 (rowQ hole) := fun i => by unfold rowQ; split <;> simp
/-- a valid image of zeros and ones: its lines, the program's and the reference's -/
theorem trace01 (W H : Int) (A : Option Addr) (n c : Nat) (q : Int → Int) (w : World) (hq : Z01 q) (hA : ArrB w w.heap.size A n q) (hn : n ≤ maxLen) (h1 : 0 ≤ W) (h2 : W ≤ 640) (h3 : 0 ≤ H) (h4 : H ≤ 640) (hN : (n : Int) = W * H) :
    Calls Tryz.prog 4 #[.agg #[.int .i64 W, .int .i64 H, .slice A n c]] w (New w fun v w' => ∃ A' k c' ln, v = .tuple #[.slice A' k c', .int .i64 0] ∧ k ≤ 60 ∧ TL W H q k ln ∧ Lines w' w'.heap.size A' k (fun _ => W.toNat) ln) :=
  trace_tl W H A n c q w hA hn hq.isB (hq.chk h1 h2 h3 h4 hN)
theorem rtrace01 (W H : Int) (A : Option Addr) (n c : Nat) (q : Int → Int) (w : World) (hq : Z01 q) (hA : ArrB w w.heap.size A n q) (h1 : 0 ≤ W) (h2 : W ≤ 640) (h3 : 0 ≤ H) (h4 : H ≤ 640) (hN : (n : Int) = W * H) :
    Calls Tryz.prog 8 #[.agg #[.int .i64 W, .int .i64 H, .slice A n c]] w (New w fun v w' => ∃ A' k c' ln, v = .slice A' k c' ∧ k ≤ 60 ∧ TL W H q k ln ∧ Lines w' w'.heap.size A' k (fun _ => W.toNat) ln) :=
  rtrace_tl W H A n c q w hA (hq.chk h1 h2 h3 h4 hN)

theorem gauge44 (A : Option Addr) (c : Nat) (q : Int → Int) (w : World) (hq : Z01 q) (hA : ArrB w w.heap.size A 16 q) :
    Calls Tryz.prog 5 #[.agg #[.int .i64 4, .int .i64 4, .slice A 16 c]] w fun e w' => ∃ b g, e = .returned (.tuple #[.int .i64 b, .int .i64 g, .int .i64 0]) ∧ Mode (cntA ((rLs (fun x y => inkB ((4 : Nat) : Int) ((4 : Nat) : Int) q x y) 4 4).map dkA)) b ∧ Mode (cntA (ltL (rLs (fun x y => inkB ((4 : Nat) : Int) ((4 : Nat) : Int) q x y) 4 4) (rLs (fun x y => inkB ((4 : Nat) : Int) ((4 : Nat) : Int) q x y) 4 4).length)) g ∧ Below w.heap.size w w' :=
  gauge_ok 4 4 A 16 c q w hA (by omega) (by omega) (by decide) fun i _ _ => hq i
theorem rgauge44 (A : Option Addr) (c : Nat) (q : Int → Int) (w : World) (hq : Z01 q) (hA : ArrB w w.heap.size A 16 q) :
    Calls Tryz.prog 6 #[.agg #[.int .i64 4, .int .i64 4, .slice A 16 c]] w (New w fun v _ => ∃ b g, v = .tuple #[.int .i64 b, .int .i64 g] ∧ Mode (cntA ((rLs (fun x y => inkB ((4 : Nat) : Int) ((4 : Nat) : Int) q x y) 4 4).map dkA)) b ∧ Mode (cntA (ltL (rLs (fun x y => inkB ((4 : Nat) : Int) ((4 : Nat) : Int) q x y) 4 4) (rLs (fun x y => inkB ((4 : Nat) : Int) ((4 : Nat) : Int) q x y) 4 4).length)) g) :=
  rgauge_ok 4 4 A 16 c q w hA (by omega) (by omega) (by decide)

theorem six_groups {w : World} {B g gz : Nat} {q : Int → Int} (h : Six w B g 106) (hz : Blk w gz 5 (u8s 120 q)) (hq : Z01 q) (o K c o' K' c' : Nat) (h1 : o + K ≤ 6) (h2 : K ≤ c) (h3 : c ≤ 9223372036854775807) (h4 : o' + K' ≤ 6) (h5 : K' ≤ c') (h6 : c' ≤ 9223372036854775807) :
    Calls Tryz.prog 11 #[.slice (some ⟨g, o, none⟩) K c, .agg #[.int .i64 3, .int .i64 40, .slice (some ⟨gz, 0, none⟩) 120 120], .agg #[.slice (some ⟨g, o', none⟩) K' c']] w fun e w' => e = .returned (.bool true) ∧ Below w.heap.size w w' := by
  obtain ⟨ln, hL⟩ := h.lines (by omega) h1 h2 h3
  obtain ⟨ln', hL'⟩ := h.lines (by omega) h4 h5 h6
  exact staveGroups_any _ _ _ K c 120 120 K' c' 3 40 _ _ ln ln' q w hL (hz.arrB hz.lt) (by decide) (fun e => by cases e) hq.isB hL'
theorem awI6 : #[Value.int .i64 2, .int .i64 8, .int .i64 14, .int .i64 20, .int .i64 26, .int .i64 32] = i64s 6 (lit [2, 8, 14, 20, 26, 32]) := i64s_lit (l := [2, 8, 14, 20, 26, 32])
theorem lit6_bd (i j : Nat) (hi : i < 6) : -100 ≤ lit [2, 8, 14, 20, 26, 32] i ∧ lit [2, 8, 14, 20, 26, 32] i ≤ 100 := by
  rcases (show i = 0 ∨ i = 1 ∨ i = 2 ∨ i = 3 ∨ i = 4 ∨ i = 5 by omega) with rfl | rfl | rfl | rfl | rfl | rfl <;> decide

theorem Found.linesIn {B : Nat} {w : World} {m : Nat} {ln : Nat → Nat → Int} {k : Nat} {vo : Value} {v : Nat → Value} (h : Found B w m ln k vo v) (hm : m ≤ 1000) (hk : k ≤ 1000) (hl : ∀ i j, i < k → -1000 ≤ ln i j ∧ ln i j ≤ 1000) : ∃ A c, vo = .slice A k c ∧ LinesIn w A k c (fun _ => m) ln := by
  obtain ⟨A, c, e, hc, ha⟩ := own_arr h.row
  have hnc : (A = none → c = 0) ∧ c ≤ 9223372036854775807 := by
    rcases h.row.2 with ⟨h1, -⟩ | ⟨g, cap, cur, hv, -, -, -, hc2, -⟩
    · rw [e] at h1; cases h1; exact ⟨fun _ => rfl, by omega⟩
    · rw [e] at hv; cases hv; exact ⟨fun h => (by cases h), hc2⟩
  refine ⟨A, c, e, hnc.1, hc, ⟨v, Arr.congr ha fun i i0 i1 => ?_, fun i hi => ?_⟩, fun _ _ => by omega, hnc.2, by omega, fun i j hi => WalkArith.wf_i64 (by have := hl i j hi; omega)⟩
  · rw [List.getD_eq_getElem?_getD, List.getElem?_map, List.getElem?_range (by omega)]; rfl
  · obtain ⟨A', c', e', ha'⟩ := own_arrI (h.lines i hi)
    refine ⟨A', c', e', fun hn => ?_, ha'⟩
    rcases (h.lines i hi).2 with ⟨h1, -⟩ | ⟨g, cap, cur, hv, -, -, -, -, -⟩
    · rw [e'] at h1; cases h1; rfl
    · rw [e'] at hv; cases hv; cases hn
theorem awI5b : #[Value.int .i64 2, .int .i64 8, .int .i64 14, .int .i64 20, .int .i64 26] = i64s 5 (lit [2, 8, 14, 20, 26]) := i64s_lit (l := [2, 8, 14, 20, 26])
theorem lit5_bd (i j : Nat) (hi : i < 5) : -1000 ≤ lit [2, 8, 14, 20, 26] i ∧ lit [2, 8, 14, 20, 26] i ≤ 1000 := by
  rcases (show i = 0 ∨ i = 1 ∨ i = 2 ∨ i = 3 ∨ i = 4 by omega) with rfl | rfl | rfl | rfl | rfl <;> decide
theorem awD : #[Value.int .i64 (-1), .int .i64 0, .int .i64 1, .int .i64 13, .int .i64 14, .int .i64 30] = i64s 6 (lit [-1, 0, 1, 13, 14, 30]) := i64s_lit (l := [-1, 0, 1, 13, 14, 30])
theorem awN : #[Value.int .i64 0, .int .i64 1, .int .i64 638, .int .i64 639, .int .i64 640, .int .i64 1099511627776] = i64s 6 (lit [0, 1, 638, 639, 640, 1099511627776]) := i64s_lit (l := [0, 1, 638, 639, 640, 1099511627776])

/-- the five odd images -/
def odd5 (g1 : Nat) : Array Value := #[.int .i64 0, .int .i64 0, .slice none 0 0, .int .i64 4, .int .i64 0, .slice none 0 0, .int .i64 0, .int .i64 4, .slice none 0 0, .int .i64 1, .int .i64 1, .slice (some ⟨g1, 0, none⟩) 1 1, .int .i64 1, .int .i64 1, .slice (some ⟨g1 + 1, 0, none⟩) 1 1]
theorem odd5_at {w : World} {g1 : Nat} (h1 : Blk w g1 5 #[.int .u8 1]) (h2 : Blk w (g1 + 1) 5 #[.int .u8 3]) (j : Nat) (hj : j < 5) :
    ∃ W H A n c q, (odd5 g1)[j * 3]? = some (.int .i64 W) ∧ (odd5 g1)[j * 3 + 1]? = some (.int .i64 H) ∧ (odd5 g1)[j * 3 + 2]? = some (.slice A n c) ∧ ArrB w w.heap.size A n q ∧ n ≤ 1 ∧ IsB q ∧ (A = none → c = 0) := by
  have one : ∀ (v : Int), IsB (fun _ => v) → ∀ g, Blk w g 5 #[.int .u8 v] → ArrB w w.heap.size (some ⟨g, 0, none⟩) 1 (fun _ => v) := fun v _ g h _ => ⟨g, 0, rfl, h.lt, fun i i0 i1 => by
    obtain rfl : i = 0 := by omega
    rw [h.cell]; rfl⟩
  have B1 : IsB (fun _ => 1) := fun _ => (show (0 : Int) ≤ 1 ∧ (1 : Int) ≤ 255 by omega)
  have B3 : IsB (fun _ => 3) := fun _ => (show (0 : Int) ≤ 3 ∧ (3 : Int) ≤ 255 by omega)
  rcases (show j = 0 ∨ j = 1 ∨ j = 2 ∨ j = 3 ∨ j = 4 by omega) with rfl | rfl | rfl | rfl | rfl
  · exact ⟨0, 0, none, 0, 0, fun _ => 1, rfl, rfl, rfl, ArrB.nil, by omega, B1, fun _ => rfl⟩
  · exact ⟨4, 0, none, 0, 0, fun _ => 1, rfl, rfl, rfl, ArrB.nil, by omega, B1, fun _ => rfl⟩
  · exact ⟨0, 4, none, 0, 0, fun _ => 1, rfl, rfl, rfl, ArrB.nil, by omega, B1, fun _ => rfl⟩
  · exact ⟨1, 1, _, 1, 1, _, rfl, rfl, rfl, one 1 B1 _ h1, by omega, B1, fun h => by cases h⟩
  · exact ⟨1, 1, _, 1, 1, _, rfl, rfl, rfl, one 3 B3 _ h2, by omega, B3, fun h => by cases h⟩
theorem linesIn_none (w : World) : LinesIn w none 0 0 (fun _ => 0) (fun _ _ => 0) := ⟨fun _ => rfl, Nat.le_refl _, LinesZ.none _ _ _, fun i hi => by omega, by omega, by omega, fun i j hi => by omega⟩
theorem staves_one {w : World} {g : Nat} (h : Blk w g 40 #[.slice none 0 0]) : StavesZ w w.heap.size (some ⟨g, 0, none⟩) 1 (fun _ => 0) (fun _ _ => 0) (fun _ _ _ => 0) := fun i hi => by
  obtain rfl : i = 0 := by omega
  exact ⟨g, 0, none, 0, rfl, h.lt, by rw [h.cell]; rfl, LinesZ.none _ _ _⟩

set_option maxRecDepth 100000 in
set_option maxHeartbeats 8000000 in
theorem staveSmall_any (w : World) : Calls Tryz.prog 3 #[] w fun e w' => e = .returned (.bool true) ∧ Below w.heap.size w w' := by
  have AW := Lib.hid fun w' => awake3_any w'
  have hmk := makeB 16 (by omega) (by omega)
  rw [show (16 : Int).toNat = 16 from rfl] at hmk
  have hmk2 := makeB 120 (by omega) (by omega)
  rw [show (120 : Int).toNat = 120 from rfl] at hmk2
  have hmk3 := makeB 60 (by omega) (by omega)
  rw [show (60 : Int).toNat = 60 from rfl] at hmk3
  go_enter Tryz.func3, Tryz.ntmps3
  go_wp2_with fail
  go_loopw [28] (fun s wr => ∃ b : Int, 0 ≤ b ∧ b ≤ 65536 ∧ s = .int .i64 b ∧ Below w.heap.size w wr) (fun s _ => (65536 - intOf s).toNat)
  case atStart => exact ⟨0, by omega, by omega, rfl, Below.refl _ _⟩
  case round =>
    obtain ⟨b, hb0, hb, rfl, hB⟩ := hrel
    by_cases hlt : b < 65536
    · go_upto_region 4 with fail
      go_cut [37] (fun t wx => ∃ z, t = .bool z ∧ wx = wr)
      case first =>
        by_cases c1 : b % 7 = 0
        · go_wp2_with fail
          go_meet
          exact ⟨_, rfl, rfl⟩
        · have c1' : (b % 7 != 0) = true := by simp [c1]
          by_cases c2 : 4096 < b
          · go_wp2_with fail
            go_meet
            exact ⟨_, rfl, rfl⟩
          · go_wp2_with fail
            go_meet
            exact ⟨_, rfl, rfl⟩
      case rest =>
      obtain ⟨z, rfl, rfl⟩ := hcut
      have nx : IntKind.i64.wrap (b + 1) = b + 1 := IntWalk.i64_in _ (by omega)
      cases z with
      | true =>
        go_wp2_with fail
        go_roundw
        case rel => exact ⟨b + 1, by omega, by omega, rfl, hB⟩
        case measure => simp [intOf]; omega
      | false =>
        obtain ⟨gp, hgp⟩ : ∃ g, wc.heap.size = g := ⟨_, rfl⟩
        go_upto_region 6 with fail
        have k1 : Blk ((wc.alloc (.cells (u8s 16 fun _ => 0) 5)).alloc (.cells #[.int .i64 4, .int .i64 4, .slice (some ⟨gp, 0, none⟩) 16 16] 24)) gp 5 (u8s 16 fun _ => 0) := by rw [← hgp]; exact (Blk.new _ _ _).alloc _
        have k2 : Blk ((wc.alloc (.cells (u8s 16 fun _ => 0) 5)).alloc (.cells #[.int .i64 4, .int .i64 4, .slice (some ⟨gp, 0, none⟩) 16 16] 24)) (gp + 1) 24 #[.int .i64 4, .int .i64 4, .slice (some ⟨gp, 0, none⟩) 16 16] := Blk.new' (by simp [hgp]) _ _
        have b1 : Below gp wc ((wc.alloc (.cells (u8s 16 fun _ => 0) 5)).alloc (.cells #[.int .i64 4, .int .i64 4, .slice (some ⟨gp, 0, none⟩) 16 16] 24)) := by rw [← hgp]; (repeat (first | exact Below.refl _ _ | assumption | refine Below.drew ?_ | refine below_drewN ?_ _ | refine Below.alloc ?_ (by first | omega | (simp; done) | (simp; omega)) _ | refine Below.setCell ?_ (by first | omega | (simp; done) | (simp; omega)) _ | refine below_setRow ?_ (by first | omega | (simp; done) | (simp; omega)) _ ))
        generalize (wc.alloc (.cells (u8s 16 fun _ => 0) 5)).alloc (.cells #[.int .i64 4, .int .i64 4, .slice (some ⟨gp, 0, none⟩) 16 16] 24) = w1 at *
        have HB := Lib.hid hB
        clear hB
        go_wp2_with fail
        go_loopw [40] (fun s wr => ∃ (i : Nat) (q : Int → Int), i ≤ 16 ∧ s = .int .i64 i ∧ Z01 q ∧ Below gp wc wr ∧ Blk wr (gp + 1) 24 #[.int .i64 4, .int .i64 4, .slice (some ⟨gp, 0, none⟩) 16 16] ∧ Blk wr gp 5 (u8s 16 q)) (fun s _ => 16 - (intOf s).toNat)
        case atStart => exact ⟨0, _, by omega, rfl, fun _ => .inl rfl, b1, k2, k1⟩
        case round =>
          obtain ⟨i, q, hi, rfl, hq, b2, m2, m1⟩ := hrel
          clear k1 k2 b1
          obtain ⟨p1, p2, p3⟩ := m2.cells3
          have HQ := Lib.hid hq
          clear hq
          by_cases il : (i : Int) < 16
          · obtain ⟨D, hD⟩ : ∃ D, bits BinOp.and IntKind.i64 (b / 2 ^ i) 1 = D := ⟨_, rfl⟩
            have D01 : D = 0 ∨ D = 1 := hD ▸ and_bit _
            have wD : IntKind.u8.wrap D = D := by rcases D01 with h | h <;> subst h <;> rfl
            have HD := Lib.hid D01
            have i64' : (i : Int) ≤ 64 := by omega
            have hi0 : (0 : Int) ≤ (i : Int) := by omega
            have ho := m1.u8at hi0 il
            have hf := m1.frozen i
            have U := Lib.hid (m1.u8set i hi0 D)
            rw [Int.toNat_natCast] at ho
            clear D01
            go_upto_region 9 with fail
            go_still_tail 9, (by kernel_rfl)
            change wpList _ _ _ _ _ wr.drew
            replace ho : wr.drew.cell? ⟨gp, i, none⟩ = some (.int .u8 (q i)) := ho
            replace hf : wr.drew.frozen? ⟨gp, i, none⟩ = false := hf
            have U2 : Hid (Blk (wr.drew.setCell ⟨gp, (i : Int).toNat, none⟩ (.int .u8 D)) gp 5 (u8s 16 (upd q i D))) := Lib.hid ((m1.drew).u8set i hi0 D)
            rw [Int.toNat_natCast] at U2
            go_wp2
            go_roundw
            case rel => exact ⟨i + 1, _, by omega, by go_num, HQ.out.upd HD.out, (b2.drew).setCell (Nat.le_refl gp) _, m2.drew.far (p := ⟨gp, i, none⟩) (by show gp + 1 ≠ gp; omega) _, U2.out⟩
            case measure => simp [intOf]; omega
          · obtain rfl : i = 16 := by omega
            have hA1 := m1.arrB m1.lt
            have TR := Lib.hid fun w' hA' => trace01 4 4 (some ⟨gp, 0, none⟩) 16 16 q w' HQ.out hA' (by decide) (by omega) (by omega) (by omega) (by omega) (by omega)
            have RT := Lib.hid fun w' hA' => rtrace01 4 4 (some ⟨gp, 0, none⟩) 16 16 q w' HQ.out hA' (by omega) (by omega) (by omega) (by omega) (by omega)
            have GA := Lib.hid fun w' hA' => gauge44 (some ⟨gp, 0, none⟩) 16 q w' HQ.out hA'
            have RG := Lib.hid fun w' hA' => rgauge44 (some ⟨gp, 0, none⟩) 16 q w' HQ.out hA'
            go_wp2_with fail
            refine (TR.out _ hA1).mono ?_
            rintro e w2 ⟨_, rfl, ⟨A1, K1, c1, ln1, rfl, hK1, hT1, hL1⟩, hb2⟩
            have n2 := m2.below' hb2
            have n1 := m1.below' hb2
            have b3 := below_call b2 (hgp ▸ b2.size) hb2
            have HT1 := Lib.hid hT1
            clear p1 p2 p3 m2 m1 b2 hb2 hA1 hT1
            obtain ⟨p1, p2, p3⟩ := n2.cells3
            go_wp2_with fail
            refine (GA.out _ (n1.arrB n1.lt)).mono ?_
            rintro e w3 ⟨x1, y1, rfl, M1, M2, hb3⟩
            have n4 := n2.below' hb3
            have n3 := n1.below' hb3
            have b4 := below_call b3 (hgp ▸ b3.size) hb3
            have hL3 := hL1.below hb3
            have MM1 := Lib.hid M1; have MM2 := Lib.hid M2
            clear p1 p2 p3 n2 n1 b3 hb3 hL1 M1 M2
            obtain ⟨p1, p2, p3⟩ := n4.cells3
            go_wp2_with fail
            refine (RG.out _ (n3.arrB n3.lt)).mono ?_
            rintro e w4 ⟨_, rfl, ⟨x2, y2, rfl, M3, M4⟩, hb4⟩
            obtain rfl := MM1.out.uniq M3
            obtain rfl := MM2.out.uniq M4
            have n6 := n4.below' hb4
            have n5 := n3.below' hb4
            have b5 := below_call b4 (hgp ▸ b4.size) hb4
            have hL4 := hL3.below hb4
            have bxx : (x1 != x1) = false := by simp
            have byy : (y1 != y1) = false := by simp
            clear p1 p2 p3 n4 n3 b4 hb4 hL3 MM1 MM2 M3 M4
            obtain ⟨p1, p2, p3⟩ := n6.cells3
            go_wp2_with fail
            refine (RT.out _ (n5.arrB n5.lt)).mono ?_
            rintro e w5 ⟨_, rfl, ⟨A2, K2, c2, ln2, rfl, hK2, hT2, hL2⟩, hb5⟩
            obtain ⟨rfl, rfl⟩ := HT1.out.uniq (by omega) (by omega) (by omega) hT2
            have b6 := below_call b5 (hgp ▸ b5.size) hb5
            have hL5 := hL4.below hb5
            clear p1 p2 p3 n6 n5 b5 hb5 hL4 hT2
            have SL := Lib.hid (sameLists_any A1 A2 K1 K1 c1 c2 (fun _ => (4 : Int).toNat) (fun _ => (4 : Int).toNat) ln1 ln1 w5 hL5 hL2 (by unfold maxLen; omega) (by unfold maxLen; omega) (fun _ _ => by decide) (fun _ _ => by decide))
            have sLL : sameL K1 K1 (fun _ => (4 : Int).toNat) (fun _ => (4 : Int).toNat) ln1 ln1 = true := sameL_iff.2 ⟨rfl, fun _ _ => ⟨rfl, fun _ _ => rfl⟩⟩
            rw [sLL] at SL
            clear sLL
            go_wp2_with fail
            refine SL.out.mono ?_
            rintro e w6 ⟨rfl, nq2, rfl⟩
            have b7 := below_drewN b6 nq2
            go_wp2_with fail
            go_roundw
            case rel => exact ⟨b + 1, by omega, by omega, rfl, below_call HB.out HB.out.size (hgp ▸ b7)⟩
            case measure => simp [intOf]; omega
    · clear hmk hb0 hb
      go_wp2_with fail
      clear hlt
      go_loopw [93] (fun s wr => ∃ a : Int, 0 ≤ a ∧ a ≤ 16 ∧ s = .int .i64 a ∧ Below w.heap.size w wr) (fun s _ => (16 - intOf s).toNat)
      case atStart => exact ⟨0, by omega, by omega, rfl, hB⟩
      case round =>
        obtain ⟨hole, ha0, ha, rfl, hB1⟩ := hrel
        clear hB
        by_cases al : hole < 16
        · have na : IntKind.i64.wrap (hole + 1) = hole + 1 := IntWalk.i64_in _ (by omega)
          go_wp2_with fail
          go_loopw [96] (fun s wr => ∃ a : Int, 0 ≤ a ∧ a ≤ 16 ∧ s = .int .i64 a ∧ Below w.heap.size w wr) (fun s _ => (16 - intOf s).toNat)
          case atStart => exact ⟨0, by omega, by omega, rfl, hB1⟩
          case round =>
            obtain ⟨x, hx0, hx, rfl, hB2⟩ := hrel
            clear hB1
            by_cases xl : x < 16
            · have nx : IntKind.i64.wrap (x + 1) = x + 1 := IntWalk.i64_in _ (by omega)
              go_wp2_with fail
              go_loopw [99] (fun s wr => ∃ a : Int, 0 ≤ a ∧ a ≤ 5 ∧ s = .int .i64 a ∧ Below w.heap.size w wr) (fun s _ => (5 - intOf s).toNat)
              case atStart => exact ⟨0, by omega, by omega, rfl, hB2⟩
              case round =>
                obtain ⟨y, hy0, hy, rfl, hB3⟩ := hrel
                clear hB2
                by_cases yl : y < 5
                · have ny : IntKind.i64.wrap (y + 1) = y + 1 := IntWalk.i64_in _ (by omega)
                  have HB := Lib.hid hB3
                  clear hB3
                  go_wp2_with fail
                  refine (row_any hole _ ha0 al).mono ?_
                  rintro e w2 ⟨_, rfl, ⟨g, rfl, hg, kg⟩, hb2⟩
                  have kx := Blk.new w2 24 #[.int .i64 16, .int .i64 5, .slice (some ⟨g, 0, none⟩) 80 80]
                  have bx : Below w2.heap.size w2 (w2.alloc (.cells #[.int .i64 16, .int .i64 5, .slice (some ⟨g, 0, none⟩) 80 80] 24)) := (Below.refl _ _).alloc (Nat.le_refl _) _
                  have m1 := kg.below' bx
                  have b2 := below_call hb2 hb2.size bx
                  have zg := kg.lt
                  go_upto_region 27 with fail
                  generalize w2.alloc (.cells #[.int .i64 16, .int .i64 5, .slice (some ⟨g, 0, none⟩) 80 80] 24) = w3 at *
                  clear hb2 bx
                  generalize w2.heap.size = gx at *
                  obtain ⟨p1, p2, p3⟩ := kx.cells3
                  obtain ⟨J, hJ⟩ : ∃ J, y * 16 + x = J := ⟨_, rfl⟩
                  have v1 : IntKind.i64.wrap (y * 16) = y * 16 := IntWalk.i64_in _ (by omega)
                  have v2 : IntKind.i64.wrap (y * 16 + x) = J := (IntWalk.i64_in _ (by omega)).trans hJ
                  have J0 : 0 ≤ J := by omega
                  have J1 : J < 80 := by omega
                  have ho := m1.u8at (i := J) J0 J1
                  have hf := m1.frozen J.toNat
                  obtain ⟨D, hD⟩ : ∃ D, bits BinOp.xor IntKind.u8 (rowQ hole J) 1 = D := ⟨_, rfl⟩
                  have D01 : D = 0 ∨ D = 1 := by rw [← hD, xor_bit (z01_row hole J)]; have := z01_row hole J; omega
                  have U := Lib.hid (m1.u8set J J0 D)
                  have HZ : Hid (Z01 (upd (rowQ hole) J D)) := Lib.hid ((z01_row hole).upd D01)
                  generalize rowQ hole J = r at *
                  generalize upd (rowQ hole) J D = Q at *
                  have kx2 := kx.far (p := ⟨g, J.toNat, none⟩) (by show gx ≠ g; omega) (.int .u8 D)
                  have b3 := b2.setCell (p := ⟨g, J.toNat, none⟩) hg (.int .u8 D)
                  clear D01 hJ m1
                  go_upto_region 28 with fail
                  have m3 := U.out
                  generalize w3.setCell ⟨g, J.toNat, none⟩ (.int .u8 D) = w4 at *
                  clear p1 p2 p3 ho hf kx U hD
                  obtain ⟨p1, p2, p3⟩ := kx2.cells3
                  have TR := Lib.hid fun w' hA' => trace01 16 5 (some ⟨g, 0, none⟩) 80 80 Q w' HZ.out hA' (by decide) (by omega) (by omega) (by omega) (by omega) (by omega)
                  have RT := Lib.hid fun w' hA' => rtrace01 16 5 (some ⟨g, 0, none⟩) 80 80 Q w' HZ.out hA' (by omega) (by omega) (by omega) (by omega) (by omega)
                  go_wp2_with fail
                  refine (TR.out _ (m3.arrB m3.lt)).mono ?_
                  rintro e w5 ⟨_, rfl, ⟨A1, K1, c1, ln1, rfl, hK1, hT1, hL1⟩, hb5⟩
                  have b5 := below_call b3 b3.size hb5
                  have k5 := kx2.below' hb5
                  have m5 := m3.below' hb5
                  have HT1 := Lib.hid hT1
                  clear p1 p2 p3 hT1 b3 kx2 m3 hb5
                  obtain ⟨p1, p2, p3⟩ := k5.cells3
                  go_wp2_with fail
                  refine (RT.out _ (m5.arrB m5.lt)).mono ?_
                  rintro e w6 ⟨_, rfl, ⟨A2, K2, c2, ln2, rfl, hK2, hT2, hL2⟩, hb6⟩
                  obtain ⟨rfl, rfl⟩ := HT1.out.uniq (by omega) (by omega) (by omega) hT2
                  have b6 := below_call b5 b5.size hb6
                  have hL5 := hL1.below hb6
                  clear p1 p2 p3 k5 m5 b5 hb6 hL1 hT2
                  have SL := Lib.hid (sameLists_any A1 A2 K1 K1 c1 c2 (fun _ => (16 : Int).toNat) (fun _ => (16 : Int).toNat) ln1 ln1 w6 hL5 hL2 (by unfold maxLen; omega) (by unfold maxLen; omega) (fun _ _ => by decide) (fun _ _ => by decide))
                  have sLL : sameL K1 K1 (fun _ => (16 : Int).toNat) (fun _ => (16 : Int).toNat) ln1 ln1 = true := sameL_iff.2 ⟨rfl, fun _ _ => ⟨rfl, fun _ _ => rfl⟩⟩
                  rw [sLL] at SL
                  clear sLL
                  go_wp2_with fail
                  refine SL.out.mono ?_
                  rintro e w7 ⟨rfl, nq2, rfl⟩
                  have b7 := below_drewN b6 nq2
                  go_wp2_with fail
                  go_roundw
                  case rel => exact ⟨y + 1, by omega, by omega, rfl, below_call HB.out HB.out.size b7⟩
                  case measure => simp [intOf]; omega
                · clear hy0 hy
                  go_wp2_with fail
                  go_roundw
                  case rel => exact ⟨x + 1, by omega, by omega, rfl, hB3⟩
                  case measure => simp [intOf]; omega
            · clear hx0 hx
              go_wp2_with fail
              go_roundw
              case rel => exact ⟨hole + 1, by omega, by omega, rfl, hB2⟩
              case measure => simp [intOf]; omega
        · clear ha0 ha
          obtain ⟨gz, hgz⟩ : ∃ g, wr.heap.size = g := ⟨_, rfl⟩
          go_upto_region 35 with fail
          have k1 : Blk ((wr.alloc (.cells (u8s 120 fun _ => 0) 5)).alloc (.cells #[.int .i64 3, .int .i64 40, .slice (some ⟨gz, 0, none⟩) 120 120] 24)) gz 5 (u8s 120 fun _ => 0) := by rw [← hgz]; exact (Blk.new _ _ _).alloc _
          have k2 : Blk ((wr.alloc (.cells (u8s 120 fun _ => 0) 5)).alloc (.cells #[.int .i64 3, .int .i64 40, .slice (some ⟨gz, 0, none⟩) 120 120] 24)) (gz + 1) 24 #[.int .i64 3, .int .i64 40, .slice (some ⟨gz, 0, none⟩) 120 120] := Blk.new' (by simp [hgz]) _ _
          have b1 : Below w.heap.size w ((wr.alloc (.cells (u8s 120 fun _ => 0) 5)).alloc (.cells #[.int .i64 3, .int .i64 40, .slice (some ⟨gz, 0, none⟩) 120 120] 24)) := (hB1.alloc hB1.size _).alloc (by have := hB1.size; simp; omega) _
          generalize (wr.alloc (.cells (u8s 120 fun _ => 0) 5)).alloc (.cells #[.int .i64 3, .int .i64 40, .slice (some ⟨gz, 0, none⟩) 120 120] 24) = w1 at *
          have Z0 : Hid (Z01 fun _ => 0) := Lib.hid fun _ => .inl rfl
          have HB1 := Lib.hid b1
          clear hB1 b1 hgz al
          go_wp2_with fail
          go_loopw [133] (fun s wr => ∃ k : Int, 0 ≤ k ∧ k ≤ 147 ∧ s = .int .i64 k ∧ Below w1.heap.size w1 wr) (fun s _ => (147 - intOf s).toNat)
          case atStart => exact ⟨0, by omega, by omega, rfl, Below.refl _ _⟩
          case round =>
            obtain ⟨k, hk0, hk, rfl, hB2⟩ := hrel
            by_cases kl : k < 147
            · have nk : IntKind.i64.wrap (k + 1) = k + 1 := IntWalk.i64_in _ (by omega)
              obtain ⟨gl, hgl⟩ : ∃ g, wr.heap.size = g := ⟨_, rfl⟩
              go_wp2_with fail
              have kn := Blk.new wr 3 #[.int .i64 2, .int .i64 8, .int .i64 14, .int .i64 20, .int .i64 26, .int .i64 32]
              have bn : Below wr.heap.size wr (wr.alloc (.cells #[.int .i64 2, .int .i64 8, .int .i64 14, .int .i64 20, .int .i64 26, .int .i64 32] 3)) := (Below.refl _ _).alloc (Nat.le_refl _) _
              rw [hgl] at kn
              refine (flat_any 3 6 6 (some ⟨gl, 0, none⟩) (lit [2, 8, 14, 20, 26, 32]) _ (Blk.arrI (kn.to awI6) (kn.lt)) (by omega) (by omega)).mono ?_
              rintro e w2 ⟨_, rfl, ⟨vs, hF⟩, hb2⟩
              obtain ⟨g6, c6, rfl, hc6, hc7, hg6, hS⟩ := hF.six (M := 100) (by omega) lit6_bd
              have b2 := below_call (below_call hB2 hB2.size bn) (by have := hB2.size; simp; omega) hb2
              have zl : w1.heap.size ≤ gl := by rw [← hgl]; exact hB2.size
              simp only [World.size_alloc, hgl] at hg6 hS
              clear hF kn bn hb2 hB2 hgl
              go_upto_region 39 with fail
              obtain ⟨I, hI⟩ : ∃ I : Nat, 1 + k % 3 = (I : Int) := ⟨(1 + k % 3).toNat, by omega⟩
              have i1 : IntKind.i64.wrap (1 + k % 3) = (I : Int) := (IntWalk.i64_in _ (by omega)).trans hI
              obtain ⟨J, hJ⟩ : ∃ J : Nat, 2 + k % 3 = (J : Int) := ⟨(2 + k % 3).toNat, by omega⟩
              have j1 : IntKind.i64.wrap (2 + k % 3) = (J : Int) := (IntWalk.i64_in _ (by omega)).trans hJ
              have I5 : (I : Int) < 6 := by omega
              have J5 : (J : Int) < 6 := by omega
              obtain ⟨ga, ca, h1, hga, xs, ka, hxs⟩ := hS.at_ (i := I) (by omega)
              obtain ⟨y0, hy0, hy1, hy2⟩ := hxs 0 (by omega)
              have h2 : w2.cell? ⟨ga, 0, none⟩ = some (.int .i64 y0) := by rw [ka.cell]; exact hy0
              have h3 := ka.frozen 0
              obtain ⟨Y, hY⟩ : ∃ Y, y0 + (k / 3 % 7 - 3) = Y := ⟨_, rfl⟩
              have y1 : IntKind.i64.wrap (y0 + (k / 3 % 7 - 3)) = Y := (IntWalk.i64_in _ (by omega)).trans hY
              have S2 := Lib.hid (hS.set (M' := 103) (j := 0) (by omega) ka (y := Y) (by omega) (by omega))
              have b3 := b2.setCell (p := ⟨ga, 0, none⟩) (by show w1.heap.size ≤ ga; omega) (.int .i64 Y)
              have z6 := hS.lt
              clear hI hJ hS ka hxs hy0 b2
              go_upto_region 40 with fail
              have S3 := S2.out
              generalize w2.setCell ⟨ga, 0, none⟩ (.int .i64 Y) = w3 at *
              clear h1 h2 h3 S2 y1 hga i1 hY hy1 hy2
              obtain ⟨gb, cb, h1, hgb, ys, kb, hys⟩ := S3.at_ (i := J) (by omega)
              obtain ⟨x0, hx0, hx1, hx2⟩ := hys 2 (by omega)
              have h2 : w3.cell? ⟨gb, 2, none⟩ = some (.int .i64 x0) := by rw [kb.cell]; exact hx0
              have h3 := kb.frozen 2
              obtain ⟨X, hX⟩ : ∃ X, x0 + (k / 21 - 3) = X := ⟨_, rfl⟩
              have x1' : IntKind.i64.wrap (x0 + (k / 21 - 3)) = X := (IntWalk.i64_in _ (by omega)).trans hX
              have S4 := Lib.hid (S3.set (M' := 106) (j := 2) (by omega) kb (y := X) (by omega) (by omega))
              have b4 := b3.setCell (p := ⟨gb, 2, none⟩) (by show w1.heap.size ≤ gb; omega) (.int .i64 X)
              clear S3 kb hys hx0 b3
              go_upto_region 41 with fail
              have S5 := S4.out
              generalize w3.setCell ⟨gb, 2, none⟩ (.int .i64 X) = w4 at *
              clear h1 h2 h3 S4 x1' hgb j1 hX hx1 hx2
              have SG := Lib.hid fun w' (hb : Below w1.heap.size w1 w') (hS : Six w' (gl + 1) g6 106) o K c o' K' c' h1 h2 h3 h4 h5 h6 => six_groups hS ((k1.below' hb)) Z0.out o K c o' K' c' h1 h2 h3 h4 h5 h6
              have pp := k2.below' b4
              obtain ⟨p1, p2, p3⟩ := pp.cells3
              have hc5 : (5 : Int) ≤ (c6 : Int) := by omega
              have hc6' : (6 : Int) ≤ (c6 : Int) := by omega
              have hc0 : ¬ c6 = 0 := by omega
              have w5 : IntKind.i64.wrap 5 = 5 := by rfl
              have w6 : IntKind.i64.wrap 6 = 6 := by rfl
              have hc1 : ¬ c6 = 1 := by omega
              go_cut [185] (fun t wx => t = .bool false ∧ Below w1.heap.size w1 wx)
              case first =>
                rcases (show k % 2 = 0 ∨ k % 2 = 1 by omega) with hr | hr
                · have t1 : k.tmod 2 = 0 := by rw [Int.tmod_eq_emod_of_nonneg hk0]; exact hr
                  refine wp_region_held_drew (S := fun w' => w'.cell? ⟨gz + 1, 0, none⟩ = some (.int .i64 3) ∧ w'.cell? ⟨gz + 1, 1, none⟩ = some (.int .i64 40) ∧ w'.cell? ⟨gz + 1, 2, none⟩ = some (.slice (some ⟨gz, 0, none⟩) 120 120)) (by kernel_rfl) (by simp [go_sem, *]) (fun hHeld => ?_)
                  refine wpAnyH_take (i := 0) (oi := _) (v := ?_) (by simp only [List.getElem?_toArray, List.getElem?_cons_zero]; exact rfl) (by kernel_rfl) (by kernel_rfl) (by kernel_rfl) (by exact fun _ _ _ h => h) (Or.inl ⟨by rfl, ?_⟩) (by assumption) ?_
                  rotate_left 1
                  · intro w hSw
                    (try dsimp only at hSw)
                    go_simp
                    try with_reducible rfl
                  try simp only [Act.put, List.setIfInBounds_toArray, List.set_cons_zero, List.set_cons_succ]
                  refine wpAnyH_take (i := 1) (oi := _) (v := ?_) (by simp only [List.getElem?_toArray, List.getElem?_cons_zero, List.getElem?_cons_succ]; exact rfl) (by kernel_rfl) (by kernel_rfl) (by kernel_rfl) (by exact fun _ _ _ h => h) (Or.inl ⟨by rfl, ?_⟩) (by assumption) ?_
                  rotate_left 1
                  · intro w hSw
                    (try dsimp only at hSw)
                    go_simp
                    try with_reducible rfl
                  try simp only [Act.put, List.setIfInBounds_toArray, List.set_cons_zero, List.set_cons_succ]
                  refine wpAnyH_take (i := 2) (oi := _) (v := ?_) (by simp only [List.getElem?_toArray, List.getElem?_cons_zero, List.getElem?_cons_succ]; exact rfl) (by kernel_rfl) (by kernel_rfl) (by kernel_rfl) (by exact fun _ _ _ h => h) (Or.inl ⟨by rfl, ?_⟩) (by assumption) ?_
                  rotate_left 1
                  · intro w hSw
                    (try dsimp only at hSw)
                    go_simp
                    try with_reducible rfl
                  try simp only [Act.put, List.setIfInBounds_toArray, List.set_cons_zero, List.set_cons_succ]
                  refine wpAnyH_take (i := 3) (oi := _) (v := ?_) (by simp only [List.getElem?_toArray, List.getElem?_cons_zero, List.getElem?_cons_succ]; exact rfl) (by kernel_rfl) (by kernel_rfl) (by kernel_rfl) (by exact fun _ _ _ h => h) (Or.inl ⟨by rfl, ?_⟩) (by assumption) ?_
                  rotate_left 1
                  · intro w hSw
                    (try dsimp only at hSw)
                    go_simp
                    try with_reducible rfl
                  try simp only [Act.put, List.setIfInBounds_toArray, List.set_cons_zero, List.set_cons_succ]
                  refine wpAnyH_take (i := 4) (oi := _) (v := ?_) (by simp only [List.getElem?_toArray, List.getElem?_cons_zero, List.getElem?_cons_succ]; exact rfl) (by kernel_rfl) (by kernel_rfl) (by kernel_rfl) (by exact fun _ _ _ h => h) (Or.inl ⟨by rfl, ?_⟩) (by assumption) ?_
                  rotate_left 1
                  · intro w hSw
                    (try dsimp only at hSw)
                    go_simp
                    try with_reducible rfl
                  try simp only [Act.put, List.setIfInBounds_toArray, List.set_cons_zero, List.set_cons_succ]
                  refine wpAnyH_take (i := 5) (oi := _) (v := ?_) (by simp only [List.getElem?_toArray, List.getElem?_cons_zero, List.getElem?_cons_succ]; exact rfl) (by kernel_rfl) (by kernel_rfl) (by kernel_rfl) (by exact fun _ _ _ h => h) (Or.inl ⟨by rfl, ?_⟩) (by assumption) ?_
                  rotate_left 1
                  · intro w hSw
                    (try dsimp only at hSw)
                    go_simp
                    try with_reducible rfl
                  try simp only [Act.put, List.setIfInBounds_toArray, List.set_cons_zero, List.set_cons_succ]
                  refine wpAnyH_take (i := 6) (oi := _) (v := ?_) (by simp only [List.getElem?_toArray, List.getElem?_cons_zero, List.getElem?_cons_succ]; exact rfl) (by kernel_rfl) (by kernel_rfl) (by kernel_rfl) (by exact fun _ _ _ h => h) (Or.inl ⟨by rfl, ?_⟩) (by assumption) ?_
                  rotate_left 1
                  · intro w hSw
                    (try dsimp only at hSw)
                    go_simp
                    try with_reducible rfl
                  try simp only [Act.put, List.setIfInBounds_toArray, List.set_cons_zero, List.set_cons_succ]
                  refine wpAnyH_take (i := 7) (oi := _) (v := ?_) (by simp only [List.getElem?_toArray, List.getElem?_cons_zero, List.getElem?_cons_succ]; exact rfl) (by kernel_rfl) (by kernel_rfl) (by kernel_rfl) (by exact fun _ _ _ h => h) (Or.inl ⟨by rfl, ?_⟩) (by assumption) ?_
                  rotate_left 1
                  · intro w hSw
                    (try dsimp only at hSw)
                    go_simp
                    try with_reducible rfl
                  try simp only [Act.put, List.setIfInBounds_toArray, List.set_cons_zero, List.set_cons_succ]
                  refine wpAnyH_take (i := 8) (oi := _) (v := ?_) (by simp only [List.getElem?_toArray, List.getElem?_cons_zero, List.getElem?_cons_succ]; exact rfl) (by kernel_rfl) (by kernel_rfl) (by kernel_rfl) (by exact fun _ _ _ h => h) (Or.inl ⟨by rfl, ?_⟩) (by assumption) ?_
                  rotate_left 1
                  · intro w hSw
                    (try dsimp only at hSw)
                    go_simp
                    try with_reducible rfl
                  try simp only [Act.put, List.setIfInBounds_toArray, List.set_cons_zero, List.set_cons_succ]
                  refine wpAnyH_take (i := 9) (oi := _) (v := ?_) (by simp only [List.getElem?_toArray, List.getElem?_cons_zero, List.getElem?_cons_succ]; exact rfl) (by kernel_rfl) (by kernel_rfl) (by kernel_rfl) (by exact fun _ _ _ h => h) (Or.inl ⟨by rfl, ?_⟩) (by assumption) ?_
                  rotate_left 1
                  · intro w hSw
                    (try dsimp only at hSw)
                    go_simp
                    try with_reducible rfl
                  try simp only [Act.put, List.setIfInBounds_toArray, List.set_cons_zero, List.set_cons_succ]
                  refine wpAnyH_ready (rs := [10]) (by kernel_rfl) (by simp) ?_
                  refine AllReadyH.cons (o := _) (by simp only [List.getElem?_toArray, List.getElem?_cons_zero, List.getElem?_cons_succ]; exact rfl) (fun K' hK => ?_) AllReadyH.nil
                  go_simp
                  refine (SG.out _ b4.drew (show Six _ _ _ _ from S5) 0 6 c6 0 5 c6 (by omega) (by omega) hc7 (by omega) (by omega) (by omega)).mono ?_
                  rintro e w5 ⟨rfl, hb5⟩
                  have b5 := below_call b4.drew b4.drew.size hb5
                  have S6 : Six w5 (gl + 1) g6 106 := Six.below (show Six w4.drew _ _ _ from S5) hb5
                  have pp5 := (pp.drew).below' hb5
                  refine hK.out _ _ pp5.cells3 (fun hHeld => ?_)
                  clear hK K'
                  try simp only [Act.put, List.setIfInBounds_toArray, List.set_cons_zero, List.set_cons_succ]
                  refine wpAnyH_take (i := 11) (oi := _) (v := ?_) (by simp only [List.getElem?_toArray, List.getElem?_cons_zero, List.getElem?_cons_succ]; exact rfl) (by kernel_rfl) (by kernel_rfl) (by kernel_rfl) (by exact fun _ _ _ h => h) (Or.inl ⟨by rfl, ?_⟩) (by assumption) ?_
                  rotate_left 1
                  · intro w hSw
                    (try dsimp only at hSw)
                    go_simp
                    try with_reducible rfl
                  try simp only [Act.put, List.setIfInBounds_toArray, List.set_cons_zero, List.set_cons_succ]
                  refine wpAnyH_take (i := 12) (oi := _) (v := ?_) (by simp only [List.getElem?_toArray, List.getElem?_cons_zero, List.getElem?_cons_succ]; exact rfl) (by kernel_rfl) (by kernel_rfl) (by kernel_rfl) (by exact fun _ _ _ h => h) (Or.inl ⟨by rfl, ?_⟩) (by assumption) ?_
                  rotate_left 1
                  · intro w hSw
                    (try dsimp only at hSw)
                    go_simp
                    try with_reducible rfl
                  try simp only [Act.put, List.setIfInBounds_toArray, List.set_cons_zero, List.set_cons_succ]
                  refine wpAnyH_take (i := 13) (oi := _) (v := ?_) (by simp only [List.getElem?_toArray, List.getElem?_cons_zero, List.getElem?_cons_succ]; exact rfl) (by kernel_rfl) (by kernel_rfl) (by kernel_rfl) (by exact fun _ _ _ h => h) (Or.inl ⟨by rfl, ?_⟩) (by assumption) ?_
                  rotate_left 1
                  · intro w hSw
                    (try dsimp only at hSw)
                    go_simp
                    try with_reducible rfl
                  try simp only [Act.put, List.setIfInBounds_toArray, List.set_cons_zero, List.set_cons_succ]
                  refine wpAnyH_take (i := 14) (oi := _) (v := ?_) (by simp only [List.getElem?_toArray, List.getElem?_cons_zero, List.getElem?_cons_succ]; exact rfl) (by kernel_rfl) (by kernel_rfl) (by kernel_rfl) (by exact fun _ _ _ h => h) (Or.inl ⟨by rfl, ?_⟩) (by assumption) ?_
                  rotate_left 1
                  · intro w hSw
                    (try dsimp only at hSw)
                    go_simp
                    try with_reducible rfl
                  try simp only [Act.put, List.setIfInBounds_toArray, List.set_cons_zero, List.set_cons_succ]
                  refine wpAnyH_take (i := 15) (oi := _) (v := ?_) (by simp only [List.getElem?_toArray, List.getElem?_cons_zero, List.getElem?_cons_succ]; exact rfl) (by kernel_rfl) (by kernel_rfl) (by kernel_rfl) (by exact fun _ _ _ h => h) (Or.inl ⟨by rfl, ?_⟩) (by assumption) ?_
                  rotate_left 1
                  · intro w hSw
                    (try dsimp only at hSw)
                    go_simp
                    try with_reducible rfl
                  try simp only [Act.put, List.setIfInBounds_toArray, List.set_cons_zero, List.set_cons_succ]
                  refine wpAnyH_take (i := 16) (oi := _) (v := ?_) (by simp only [List.getElem?_toArray, List.getElem?_cons_zero, List.getElem?_cons_succ]; exact rfl) (by kernel_rfl) (by kernel_rfl) (by kernel_rfl) (by exact fun _ _ _ h => h) (Or.inl ⟨by rfl, ?_⟩) (by assumption) ?_
                  rotate_left 1
                  · intro w hSw
                    (try dsimp only at hSw)
                    go_simp
                    try with_reducible rfl
                  try simp only [Act.put, List.setIfInBounds_toArray, List.set_cons_zero, List.set_cons_succ]
                  refine wpAnyH_take (i := 17) (oi := _) (v := ?_) (by simp only [List.getElem?_toArray, List.getElem?_cons_zero, List.getElem?_cons_succ]; exact rfl) (by kernel_rfl) (by kernel_rfl) (by kernel_rfl) (by exact fun _ _ _ h => h) (Or.inl ⟨by rfl, ?_⟩) (by assumption) ?_
                  rotate_left 1
                  · intro w hSw
                    (try dsimp only at hSw)
                    go_simp
                    try with_reducible rfl
                  try simp only [Act.put, List.setIfInBounds_toArray, List.set_cons_zero, List.set_cons_succ]
                  refine wpAnyH_ready (rs := [18]) (by kernel_rfl) (by simp) ?_
                  refine AllReadyH.cons (o := _) (by simp only [List.getElem?_toArray, List.getElem?_cons_zero, List.getElem?_cons_succ]; exact rfl) (fun K' hK => ?_) AllReadyH.nil
                  go_simp
                  refine (SG.out _ b5 S6 0 5 c6 0 6 c6 (by omega) (by omega) hc7 (by omega) (by omega) hc7).mono ?_
                  rintro e w7 ⟨rfl, hb7⟩
                  have b7 := below_call b5 b5.size hb7
                  have pp7 := pp5.below' hb7
                  refine hK.out _ _ pp7.cells3 (fun hHeld => ?_)
                  clear hK K'
                  try simp only [Act.put, List.setIfInBounds_toArray, List.set_cons_zero, List.set_cons_succ]
                  refine wpAnyH_take (i := 19) (oi := _) (v := ?_) (by simp only [List.getElem?_toArray, List.getElem?_cons_zero, List.getElem?_cons_succ]; exact rfl) (by kernel_rfl) (by kernel_rfl) (by kernel_rfl) (by exact fun _ _ _ h => h) (Or.inl ⟨by rfl, ?_⟩) (by assumption) ?_
                  rotate_left 1
                  · intro w hSw
                    (try dsimp only at hSw)
                    go_simp
                    try with_reducible rfl
                  try simp only [Act.put, List.setIfInBounds_toArray, List.set_cons_zero, List.set_cons_succ]
                  refine wpAnyH_take (i := 20) (oi := _) (v := ?_) (by simp only [List.getElem?_toArray, List.getElem?_cons_zero, List.getElem?_cons_succ]; exact rfl) (by kernel_rfl) (by kernel_rfl) (by kernel_rfl) (by exact fun _ _ _ h => h) (Or.inl ⟨by rfl, ?_⟩) (by assumption) ?_
                  rotate_left 1
                  · intro w hSw
                    (try dsimp only at hSw)
                    go_simp
                    try with_reducible rfl
                  try simp only [Act.put, List.setIfInBounds_toArray, List.set_cons_zero, List.set_cons_succ]
                  refine wpAnyH_done (by kernel_rfl) ?_ _
                  go_wp2_with fail
                  go_meet
                  exact ⟨rfl, b7⟩
                · have t1 : k.tmod 2 = 1 := by rw [Int.tmod_eq_emod_of_nonneg hk0]; exact hr
                  refine wp_region_held_drew (S := fun w' => w'.cell? ⟨gz + 1, 0, none⟩ = some (.int .i64 3) ∧ w'.cell? ⟨gz + 1, 1, none⟩ = some (.int .i64 40) ∧ w'.cell? ⟨gz + 1, 2, none⟩ = some (.slice (some ⟨gz, 0, none⟩) 120 120)) (by kernel_rfl) (by simp [go_sem, *]) (fun hHeld => ?_)
                  refine wpAnyH_take (i := 0) (oi := _) (v := ?_) (by simp only [List.getElem?_toArray, List.getElem?_cons_zero]; exact rfl) (by kernel_rfl) (by kernel_rfl) (by kernel_rfl) (by exact fun _ _ _ h => h) (Or.inl ⟨by rfl, ?_⟩) (by assumption) ?_
                  rotate_left 1
                  · intro w hSw
                    (try dsimp only at hSw)
                    go_simp
                    try with_reducible rfl
                  try simp only [Act.put, List.setIfInBounds_toArray, List.set_cons_zero, List.set_cons_succ]
                  refine wpAnyH_take (i := 1) (oi := _) (v := ?_) (by simp only [List.getElem?_toArray, List.getElem?_cons_zero, List.getElem?_cons_succ]; exact rfl) (by kernel_rfl) (by kernel_rfl) (by kernel_rfl) (by exact fun _ _ _ h => h) (Or.inl ⟨by rfl, ?_⟩) (by assumption) ?_
                  rotate_left 1
                  · intro w hSw
                    (try dsimp only at hSw)
                    go_simp
                    try with_reducible rfl
                  try simp only [Act.put, List.setIfInBounds_toArray, List.set_cons_zero, List.set_cons_succ]
                  refine wpAnyH_take (i := 2) (oi := _) (v := ?_) (by simp only [List.getElem?_toArray, List.getElem?_cons_zero, List.getElem?_cons_succ]; exact rfl) (by kernel_rfl) (by kernel_rfl) (by kernel_rfl) (by exact fun _ _ _ h => h) (Or.inl ⟨by rfl, ?_⟩) (by assumption) ?_
                  rotate_left 1
                  · intro w hSw
                    (try dsimp only at hSw)
                    go_simp
                    try with_reducible rfl
                  try simp only [Act.put, List.setIfInBounds_toArray, List.set_cons_zero, List.set_cons_succ]
                  refine wpAnyH_take (i := 3) (oi := _) (v := ?_) (by simp only [List.getElem?_toArray, List.getElem?_cons_zero, List.getElem?_cons_succ]; exact rfl) (by kernel_rfl) (by kernel_rfl) (by kernel_rfl) (by exact fun _ _ _ h => h) (Or.inl ⟨by rfl, ?_⟩) (by assumption) ?_
                  rotate_left 1
                  · intro w hSw
                    (try dsimp only at hSw)
                    go_simp
                    try with_reducible rfl
                  try simp only [Act.put, List.setIfInBounds_toArray, List.set_cons_zero, List.set_cons_succ]
                  refine wpAnyH_take (i := 4) (oi := _) (v := ?_) (by simp only [List.getElem?_toArray, List.getElem?_cons_zero, List.getElem?_cons_succ]; exact rfl) (by kernel_rfl) (by kernel_rfl) (by kernel_rfl) (by exact fun _ _ _ h => h) (Or.inl ⟨by rfl, ?_⟩) (by assumption) ?_
                  rotate_left 1
                  · intro w hSw
                    (try dsimp only at hSw)
                    go_simp
                    try with_reducible rfl
                  try simp only [Act.put, List.setIfInBounds_toArray, List.set_cons_zero, List.set_cons_succ]
                  refine wpAnyH_take (i := 5) (oi := _) (v := ?_) (by simp only [List.getElem?_toArray, List.getElem?_cons_zero, List.getElem?_cons_succ]; exact rfl) (by kernel_rfl) (by kernel_rfl) (by kernel_rfl) (by exact fun _ _ _ h => h) (Or.inl ⟨by rfl, ?_⟩) (by assumption) ?_
                  rotate_left 1
                  · intro w hSw
                    (try dsimp only at hSw)
                    go_simp
                    try with_reducible rfl
                  try simp only [Act.put, List.setIfInBounds_toArray, List.set_cons_zero, List.set_cons_succ]
                  refine wpAnyH_take (i := 6) (oi := _) (v := ?_) (by simp only [List.getElem?_toArray, List.getElem?_cons_zero, List.getElem?_cons_succ]; exact rfl) (by kernel_rfl) (by kernel_rfl) (by kernel_rfl) (by exact fun _ _ _ h => h) (Or.inl ⟨by rfl, ?_⟩) (by assumption) ?_
                  rotate_left 1
                  · intro w hSw
                    (try dsimp only at hSw)
                    go_simp
                    try with_reducible rfl
                  try simp only [Act.put, List.setIfInBounds_toArray, List.set_cons_zero, List.set_cons_succ]
                  refine wpAnyH_take (i := 7) (oi := _) (v := ?_) (by simp only [List.getElem?_toArray, List.getElem?_cons_zero, List.getElem?_cons_succ]; exact rfl) (by kernel_rfl) (by kernel_rfl) (by kernel_rfl) (by exact fun _ _ _ h => h) (Or.inl ⟨by rfl, ?_⟩) (by assumption) ?_
                  rotate_left 1
                  · intro w hSw
                    (try dsimp only at hSw)
                    go_simp
                    try with_reducible rfl
                  try simp only [Act.put, List.setIfInBounds_toArray, List.set_cons_zero, List.set_cons_succ]
                  refine wpAnyH_take (i := 8) (oi := _) (v := ?_) (by simp only [List.getElem?_toArray, List.getElem?_cons_zero, List.getElem?_cons_succ]; exact rfl) (by kernel_rfl) (by kernel_rfl) (by kernel_rfl) (by exact fun _ _ _ h => h) (Or.inl ⟨by rfl, ?_⟩) (by assumption) ?_
                  rotate_left 1
                  · intro w hSw
                    (try dsimp only at hSw)
                    go_simp
                    try with_reducible rfl
                  try simp only [Act.put, List.setIfInBounds_toArray, List.set_cons_zero, List.set_cons_succ]
                  refine wpAnyH_take (i := 9) (oi := _) (v := ?_) (by simp only [List.getElem?_toArray, List.getElem?_cons_zero, List.getElem?_cons_succ]; exact rfl) (by kernel_rfl) (by kernel_rfl) (by kernel_rfl) (by exact fun _ _ _ h => h) (Or.inl ⟨by rfl, ?_⟩) (by assumption) ?_
                  rotate_left 1
                  · intro w hSw
                    (try dsimp only at hSw)
                    go_simp
                    try with_reducible rfl
                  try simp only [Act.put, List.setIfInBounds_toArray, List.set_cons_zero, List.set_cons_succ]
                  refine wpAnyH_ready (rs := [10]) (by kernel_rfl) (by simp) ?_
                  refine AllReadyH.cons (o := _) (by simp only [List.getElem?_toArray, List.getElem?_cons_zero, List.getElem?_cons_succ]; exact rfl) (fun K' hK => ?_) AllReadyH.nil
                  go_simp
                  refine (SG.out _ b4.drew (show Six _ _ _ _ from S5) 0 6 c6 1 5 (c6 - 1) (by omega) (by omega) hc7 (by omega) (by omega) (by omega)).mono ?_
                  rintro e w5 ⟨rfl, hb5⟩
                  have b5 := below_call b4.drew b4.drew.size hb5
                  have S6 : Six w5 (gl + 1) g6 106 := Six.below (show Six w4.drew _ _ _ from S5) hb5
                  have pp5 := (pp.drew).below' hb5
                  refine hK.out _ _ pp5.cells3 (fun hHeld => ?_)
                  clear hK K'
                  try simp only [Act.put, List.setIfInBounds_toArray, List.set_cons_zero, List.set_cons_succ]
                  refine wpAnyH_take (i := 11) (oi := _) (v := ?_) (by simp only [List.getElem?_toArray, List.getElem?_cons_zero, List.getElem?_cons_succ]; exact rfl) (by kernel_rfl) (by kernel_rfl) (by kernel_rfl) (by exact fun _ _ _ h => h) (Or.inl ⟨by rfl, ?_⟩) (by assumption) ?_
                  rotate_left 1
                  · intro w hSw
                    (try dsimp only at hSw)
                    go_simp
                    try with_reducible rfl
                  try simp only [Act.put, List.setIfInBounds_toArray, List.set_cons_zero, List.set_cons_succ]
                  refine wpAnyH_take (i := 12) (oi := _) (v := ?_) (by simp only [List.getElem?_toArray, List.getElem?_cons_zero, List.getElem?_cons_succ]; exact rfl) (by kernel_rfl) (by kernel_rfl) (by kernel_rfl) (by exact fun _ _ _ h => h) (Or.inl ⟨by rfl, ?_⟩) (by assumption) ?_
                  rotate_left 1
                  · intro w hSw
                    (try dsimp only at hSw)
                    go_simp
                    try with_reducible rfl
                  try simp only [Act.put, List.setIfInBounds_toArray, List.set_cons_zero, List.set_cons_succ]
                  refine wpAnyH_take (i := 13) (oi := _) (v := ?_) (by simp only [List.getElem?_toArray, List.getElem?_cons_zero, List.getElem?_cons_succ]; exact rfl) (by kernel_rfl) (by kernel_rfl) (by kernel_rfl) (by exact fun _ _ _ h => h) (Or.inl ⟨by rfl, ?_⟩) (by assumption) ?_
                  rotate_left 1
                  · intro w hSw
                    (try dsimp only at hSw)
                    go_simp
                    try with_reducible rfl
                  try simp only [Act.put, List.setIfInBounds_toArray, List.set_cons_zero, List.set_cons_succ]
                  refine wpAnyH_take (i := 14) (oi := _) (v := ?_) (by simp only [List.getElem?_toArray, List.getElem?_cons_zero, List.getElem?_cons_succ]; exact rfl) (by kernel_rfl) (by kernel_rfl) (by kernel_rfl) (by exact fun _ _ _ h => h) (Or.inl ⟨by rfl, ?_⟩) (by assumption) ?_
                  rotate_left 1
                  · intro w hSw
                    (try dsimp only at hSw)
                    go_simp
                    try with_reducible rfl
                  try simp only [Act.put, List.setIfInBounds_toArray, List.set_cons_zero, List.set_cons_succ]
                  refine wpAnyH_take (i := 15) (oi := _) (v := ?_) (by simp only [List.getElem?_toArray, List.getElem?_cons_zero, List.getElem?_cons_succ]; exact rfl) (by kernel_rfl) (by kernel_rfl) (by kernel_rfl) (by exact fun _ _ _ h => h) (Or.inl ⟨by rfl, ?_⟩) (by assumption) ?_
                  rotate_left 1
                  · intro w hSw
                    (try dsimp only at hSw)
                    go_simp
                    try with_reducible rfl
                  try simp only [Act.put, List.setIfInBounds_toArray, List.set_cons_zero, List.set_cons_succ]
                  refine wpAnyH_take (i := 16) (oi := _) (v := ?_) (by simp only [List.getElem?_toArray, List.getElem?_cons_zero, List.getElem?_cons_succ]; exact rfl) (by kernel_rfl) (by kernel_rfl) (by kernel_rfl) (by exact fun _ _ _ h => h) (Or.inl ⟨by rfl, ?_⟩) (by assumption) ?_
                  rotate_left 1
                  · intro w hSw
                    (try dsimp only at hSw)
                    go_simp
                    try with_reducible rfl
                  try simp only [Act.put, List.setIfInBounds_toArray, List.set_cons_zero, List.set_cons_succ]
                  refine wpAnyH_take (i := 17) (oi := _) (v := ?_) (by simp only [List.getElem?_toArray, List.getElem?_cons_zero, List.getElem?_cons_succ]; exact rfl) (by kernel_rfl) (by kernel_rfl) (by kernel_rfl) (by exact fun _ _ _ h => h) (Or.inl ⟨by rfl, ?_⟩) (by assumption) ?_
                  rotate_left 1
                  · intro w hSw
                    (try dsimp only at hSw)
                    go_simp
                    try with_reducible rfl
                  try simp only [Act.put, List.setIfInBounds_toArray, List.set_cons_zero, List.set_cons_succ]
                  refine wpAnyH_ready (rs := [18]) (by kernel_rfl) (by simp) ?_
                  refine AllReadyH.cons (o := _) (by simp only [List.getElem?_toArray, List.getElem?_cons_zero, List.getElem?_cons_succ]; exact rfl) (fun K' hK => ?_) AllReadyH.nil
                  go_simp
                  refine (SG.out _ b5 S6 0 5 c6 0 6 c6 (by omega) (by omega) hc7 (by omega) (by omega) hc7).mono ?_
                  rintro e w7 ⟨rfl, hb7⟩
                  have b7 := below_call b5 b5.size hb7
                  have pp7 := pp5.below' hb7
                  refine hK.out _ _ pp7.cells3 (fun hHeld => ?_)
                  clear hK K'
                  try simp only [Act.put, List.setIfInBounds_toArray, List.set_cons_zero, List.set_cons_succ]
                  refine wpAnyH_take (i := 19) (oi := _) (v := ?_) (by simp only [List.getElem?_toArray, List.getElem?_cons_zero, List.getElem?_cons_succ]; exact rfl) (by kernel_rfl) (by kernel_rfl) (by kernel_rfl) (by exact fun _ _ _ h => h) (Or.inl ⟨by rfl, ?_⟩) (by assumption) ?_
                  rotate_left 1
                  · intro w hSw
                    (try dsimp only at hSw)
                    go_simp
                    try with_reducible rfl
                  try simp only [Act.put, List.setIfInBounds_toArray, List.set_cons_zero, List.set_cons_succ]
                  refine wpAnyH_take (i := 20) (oi := _) (v := ?_) (by simp only [List.getElem?_toArray, List.getElem?_cons_zero, List.getElem?_cons_succ]; exact rfl) (by kernel_rfl) (by kernel_rfl) (by kernel_rfl) (by exact fun _ _ _ h => h) (Or.inl ⟨by rfl, ?_⟩) (by assumption) ?_
                  rotate_left 1
                  · intro w hSw
                    (try dsimp only at hSw)
                    go_simp
                    try with_reducible rfl
                  try simp only [Act.put, List.setIfInBounds_toArray, List.set_cons_zero, List.set_cons_succ]
                  refine wpAnyH_done (by kernel_rfl) ?_ _
                  go_wp2_with fail
                  go_meet
                  exact ⟨rfl, b7⟩
              case rest =>
              obtain ⟨rfl, b8⟩ := hcut
              clear S5 SG pp p1 p2 p3 hc5 hc6' hc0 hc1 w5 w6 b4
              go_wp2_with fail
              go_roundw
              case rel => exact ⟨k + 1, by omega, by omega, rfl, b8⟩
              case measure => simp [intOf]; omega
            · clear hk0 hk
              obtain ⟨gl, hgl⟩ : ∃ g, wr.heap.size = g := ⟨_, rfl⟩
              go_wp2_with fail
              have kn := Blk.new wr 3 #[.int .i64 2, .int .i64 8, .int .i64 14, .int .i64 20, .int .i64 26]
              have bn : Below wr.heap.size wr (wr.alloc (.cells #[.int .i64 2, .int .i64 8, .int .i64 14, .int .i64 20, .int .i64 26] 3)) := (Below.refl _ _).alloc (Nat.le_refl _) _
              rw [hgl] at kn
              refine (flat_any 3 5 5 (some ⟨gl, 0, none⟩) (lit [2, 8, 14, 20, 26]) _ (Blk.arrI (kn.to awI5b) (kn.lt)) (by omega) (by omega)).mono ?_
              rintro e w2 ⟨_, rfl, ⟨vs, hF⟩, hb2⟩
              obtain ⟨AL, cL, rfl, hLI⟩ := hF.linesIn (by omega) (by omega) lit5_bd
              have b2 := below_call (below_call hB2 hB2.size bn) (by have := hB2.size; simp; omega) hb2
              obtain ⟨gs, hgs⟩ : ∃ g, w2.heap.size = g := ⟨_, rfl⟩
              go_upto_region 45 with fail
              have ss := Blk.new w2 40 #[.slice AL 5 cL]
              have bs : Below w2.heap.size w2 (w2.alloc (.cells #[.slice AL 5 cL] 40)) := (Below.refl _ _).alloc (Nat.le_refl _) _
              have hL3 := hLI.to' bs
              have b3 := below_call b2 b2.size bs
              rw [hgs] at ss
              generalize w2.alloc (.cells #[.slice AL 5 cL] 40) = w3 at *
              have HB3 := Lib.hid b3
              have KZ := Lib.hid (k1.below' b3)
              have KP := Lib.hid (k2.below' b3)
              have KS := Lib.hid ss
              have HL3 := Lib.hid hL3
              have ST := Lib.hid fun (u d : Int) gm w' (hb : Below w3.heap.size w3 w') (hm : Blk w' gm 5 (u8s 60 fun _ => 0)) => strips_any 3 40 3 20 u d (some ⟨gz, 0, none⟩) (some ⟨gm, 0, none⟩) AL 120 120 60 60 5 cL (fun _ => 0) (fun _ => 0) (fun _ => 3) _ w' ((KZ.out.below' hb).arrB (KZ.out.below' hb).lt) (by omega) Z0.out.isB (fun e => by cases e) (hm.arrB hm.lt) (by omega) Z0.out.isB (fun e => by cases e) (HL3.out.to' hb)
              clear hF kn bn hb2 hB2 hgl b2 bs b3 hLI hL3 ss kl hgs
              go_wp2_with fail
              go_loopw [21] (fun s wr => ∃ u : Int, -1 ≤ u ∧ u ≤ 46 ∧ s = .int .i64 u ∧ Below w3.heap.size w3 wr) (fun s _ => (46 - intOf s).toNat)
              case atStart => exact ⟨-1, by omega, by omega, rfl, Below.refl _ _⟩
              case round =>
                obtain ⟨up, hu0, hu, rfl, hB4⟩ := hrel
                by_cases ul : up ≤ 45
                · have nu : IntKind.i64.wrap (up + 1) = up + 1 := IntWalk.i64_in _ (by omega)
                  obtain ⟨gd, hgd⟩ : ∃ g, wr.heap.size = g := ⟨_, rfl⟩
                  go_wp2_with fail
                  have kd := (Blk.new wr 3 #[.int .i64 (-1), .int .i64 0, .int .i64 1, .int .i64 13, .int .i64 14, .int .i64 30]).to awD
                  have b4 := hB4.alloc hB4.size (.cells #[.int .i64 (-1), .int .i64 0, .int .i64 1, .int .i64 13, .int .i64 14, .int .i64 30] 3)
                  rw [hgd] at kd
                  generalize wr.alloc (.cells #[.int .i64 (-1), .int .i64 0, .int .i64 1, .int .i64 13, .int .i64 14, .int .i64 30] 3) = w4 at *
                  clear hB4 hgd
                  go_loopw [196] (fun s wr => ∃ j : Nat, j ≤ 6 ∧ s = .int .i64 j ∧ Below w3.heap.size w3 wr ∧ Blk wr gd 3 (i64s 6 (lit [-1, 0, 1, 13, 14, 30]))) (fun s _ => 6 - (intOf s).toNat)
                  case atStart => exact ⟨0, by omega, rfl, b4, kd⟩
                  case round =>
                    obtain ⟨j, hj, rfl, bb, kd5⟩ := hrel
                    clear kd b4
                    by_cases jl : (j : Int) < 6
                    · have pp := KP.out.below' bb
                      have ss := KS.out.below' bb
                      obtain ⟨p1, p2, p3⟩ := pp.cells3
                      have p4 := ss.cells0
                      obtain ⟨dn, hdn⟩ : ∃ d, lit [-1, 0, 1, 13, 14, 30] (j : Int) = d := ⟨_, rfl⟩
                      have cd := kd5.i64at (i := (j : Int)) (by omega) jl
                      rw [Int.toNat_natCast, hdn] at cd
                      clear hdn
                      go_upto_region 51 with fail
                      refine wp_region_held_drew (S := fun w' => (w'.cell? ⟨gz + 1, 0, none⟩ = some (.int .i64 3) ∧ w'.cell? ⟨gz + 1, 1, none⟩ = some (.int .i64 40) ∧ w'.cell? ⟨gz + 1, 2, none⟩ = some (.slice (some ⟨gz, 0, none⟩) 120 120)) ∧ w'.cell? ⟨gs, 0, none⟩ = some (.slice AL 5 cL)) (by kernel_rfl) (by simp [go_sem, *]) (fun hHeld => ?_)
                      refine wpAnyH_take (i := 0) (oi := _) (v := ?_) (by simp only [List.getElem?_toArray, List.getElem?_cons_zero]; exact rfl) (by kernel_rfl) (by kernel_rfl) (by kernel_rfl) (by exact fun _ _ _ h => h) (Or.inl ⟨by rfl, ?_⟩) (by assumption) ?_
                      rotate_left 1
                      · intro w hSw
                        (try dsimp only at hSw)
                        go_simp
                        try with_reducible rfl
                      try simp only [Act.put, List.setIfInBounds_toArray, List.set_cons_zero, List.set_cons_succ]
                      refine wpAnyH_take (i := 3) (oi := _) (v := ?_) (by simp only [List.getElem?_toArray, List.getElem?_cons_zero, List.getElem?_cons_succ]; exact rfl) (by kernel_rfl) (by kernel_rfl) (by kernel_rfl) (by exact fun _ _ _ h => h) (Or.inl ⟨by rfl, ?_⟩) (by assumption) ?_
                      rotate_left 1
                      · intro w hSw
                        (try dsimp only at hSw)
                        go_simp
                        try with_reducible rfl
                      try simp only [Act.put, List.setIfInBounds_toArray, List.set_cons_zero, List.set_cons_succ]
                      refine wpAnyH_take (i := 4) (oi := _) (v := ?_) (by simp only [List.getElem?_toArray, List.getElem?_cons_zero, List.getElem?_cons_succ]; exact rfl) (by kernel_rfl) (by kernel_rfl) (by kernel_rfl) (by exact fun _ _ _ h => h) (Or.inl ⟨by rfl, ?_⟩) (by assumption) ?_
                      rotate_left 1
                      · intro w hSw
                        (try dsimp only at hSw)
                        go_simp
                        try with_reducible rfl
                      try simp only [Act.put, List.setIfInBounds_toArray, List.set_cons_zero, List.set_cons_succ]
                      refine wpAnyH_take (i := 5) (oi := _) (v := ?_) (by simp only [List.getElem?_toArray, List.getElem?_cons_zero, List.getElem?_cons_succ]; exact rfl) (by kernel_rfl) (by kernel_rfl) (by kernel_rfl) (by exact fun _ _ _ h => h) (Or.inl ⟨by rfl, ?_⟩) (by assumption) ?_
                      rotate_left 1
                      · intro w hSw
                        (try dsimp only at hSw)
                        go_simp
                        try with_reducible rfl
                      try simp only [Act.put, List.setIfInBounds_toArray, List.set_cons_zero, List.set_cons_succ]
                      refine wpAnyH_ready (rs := [1]) (by kernel_rfl) (by simp) ?_
                      refine AllReadyH.cons (o := _) (by simp only [List.getElem?_toArray, List.getElem?_cons_zero, List.getElem?_cons_succ]; exact rfl) (fun K' hK => ?_) AllReadyH.nil
                      go_simp
                      refine hK.out _ _ ⟨(pp.drew.alloc _).cells3, (ss.drew.alloc _).cells0⟩ (fun hHeld => ?_)
                      clear hK K'
                      try simp only [Act.put, List.setIfInBounds_toArray, List.set_cons_zero, List.set_cons_succ]
                      refine wpAnyH_take (i := 2) (oi := _) (v := ?_) (by simp only [List.getElem?_toArray, List.getElem?_cons_zero, List.getElem?_cons_succ]; exact rfl) (by kernel_rfl) (by kernel_rfl) (by kernel_rfl) (by exact fun _ _ _ h => h) (Or.inl ⟨by rfl, ?_⟩) (by assumption) ?_
                      rotate_left 1
                      · intro w hSw
                        (try dsimp only at hSw)
                        go_simp
                        try with_reducible rfl
                      try simp only [Act.put, List.setIfInBounds_toArray, List.set_cons_zero, List.set_cons_succ]
                      refine wpAnyH_ready (rs := [6]) (by kernel_rfl) (by simp) ?_
                      refine AllReadyH.cons (o := _) (by simp only [List.getElem?_toArray, List.getElem?_cons_zero, List.getElem?_cons_succ]; exact rfl) (fun K' hK => ?_) AllReadyH.nil
                      go_simp
                      refine (ST.out up dn _ _ (bb.drew.alloc (by have := bb.size; simpa using this) _) (Blk.new _ _ _)).mono ?_
                      rintro e w7 ⟨rfl, hb7⟩
                      have b7 := below_call (bb.drew.alloc (by have := bb.size; simpa using this) _) (by have := bb.size; simp; omega) hb7
                      have pp7 := (pp.drew.alloc _).below' hb7
                      have ss7 := (ss.drew.alloc _).below' hb7
                      have kd7 := (kd5.drew.alloc _).below' hb7
                      refine hK.out _ _ ⟨pp7.cells3, ss7.cells0⟩ (fun hHeld => ?_)
                      clear hK K'
                      try simp only [Act.put, List.setIfInBounds_toArray, List.set_cons_zero, List.set_cons_succ]
                      refine wpAnyH_take (i := 7) (oi := _) (v := ?_) (by simp only [List.getElem?_toArray, List.getElem?_cons_zero, List.getElem?_cons_succ]; exact rfl) (by kernel_rfl) (by kernel_rfl) (by kernel_rfl) (by exact fun _ _ _ h => h) (Or.inl ⟨by rfl, ?_⟩) (by assumption) ?_
                      rotate_left 1
                      · intro w hSw
                        (try dsimp only at hSw)
                        go_simp
                        try with_reducible rfl
                      try simp only [Act.put, List.setIfInBounds_toArray, List.set_cons_zero, List.set_cons_succ]
                      refine wpAnyH_done (by kernel_rfl) ?_ _
                      go_wp2_with fail
                      go_roundw
                      case rel => exact ⟨j + 1, by omega, by go_num, b7, kd7⟩
                      case measure => simp [intOf]; omega
                    · clear hj
                      go_wp2_with fail
                      go_roundw
                      case rel => exact ⟨up + 1, by omega, by omega, rfl, bb⟩
                      case measure => simp [intOf]; omega
                · clear hu0 hu
                  obtain ⟨gd, hgd⟩ : ∃ g, wr.heap.size = g := ⟨_, rfl⟩
                  go_wp2_with fail
                  have kd := (Blk.new wr 3 #[.int .i64 0, .int .i64 1, .int .i64 638, .int .i64 639, .int .i64 640, .int .i64 1099511627776]).to awN
                  have b4 := hB4.alloc hB4.size (.cells #[.int .i64 0, .int .i64 1, .int .i64 638, .int .i64 639, .int .i64 640, .int .i64 1099511627776] 3)
                  rw [hgd] at kd
                  generalize wr.alloc (.cells #[.int .i64 0, .int .i64 1, .int .i64 638, .int .i64 639, .int .i64 640, .int .i64 1099511627776] 3) = w4 at *
                  have SP := Lib.hid fun (u d : Int) w' (hb : Below w3.heap.size w3 w') => strips_any 3 40 3 40 u d (some ⟨gz, 0, none⟩) (some ⟨gz, 0, none⟩) AL 120 120 120 120 5 cL (fun _ => 0) (fun _ => 0) (fun _ => 3) _ w' ((KZ.out.below' hb).arrB (KZ.out.below' hb).lt) (by omega) Z0.out.isB (fun e => by cases e) ((KZ.out.below' hb).arrB (KZ.out.below' hb).lt) (by omega) Z0.out.isB (fun e => by cases e) (HL3.out.to' hb)
                  clear hB4 hgd ul ST hmk3
                  go_loopw [211] (fun s wr => ∃ j : Nat, j ≤ 6 ∧ s = .int .i64 j ∧ Below w3.heap.size w3 wr ∧ Blk wr gd 3 (i64s 6 (lit [0, 1, 638, 639, 640, 1099511627776]))) (fun s _ => 6 - (intOf s).toNat)
                  case atStart => exact ⟨0, by omega, rfl, b4, kd⟩
                  case round =>
                    obtain ⟨j, hj, rfl, bb, kd5⟩ := hrel
                    clear kd b4
                    by_cases jl : (j : Int) < 6
                    · have pp := KP.out.below' bb
                      have ss := KS.out.below' bb
                      obtain ⟨p1, p2, p3⟩ := pp.cells3
                      have p4 := ss.cells0
                      obtain ⟨dn, hdn⟩ : ∃ d, lit [0, 1, 638, 639, 640, 1099511627776] (j : Int) = d := ⟨_, rfl⟩
                      have cd := kd5.i64at (i := (j : Int)) (by omega) jl
                      rw [Int.toNat_natCast, hdn] at cd
                      clear hdn
                      go_wp2_with fail
                      refine (SP.out dn 1 _ bb).mono ?_
                      rintro e w5 ⟨rfl, hb5⟩
                      have b5 := below_call bb bb.size hb5
                      have pp5 := pp.below' hb5
                      have ss5 := ss.below' hb5
                      have kd6 := kd5.below' hb5
                      clear p1 p2 p3 p4 pp ss kd5 hb5 bb cd
                      obtain ⟨p1, p2, p3⟩ := pp5.cells3
                      have p4 := ss5.cells0
                      go_wp2_with fail
                      refine (SP.out 1 dn _ b5).mono ?_
                      rintro e w6 ⟨rfl, hb6⟩
                      have b6 := below_call b5 b5.size hb6
                      have pp6 := pp5.below' hb6
                      have ss6 := ss5.below' hb6
                      have kd7 := kd6.below' hb6
                      clear p1 p2 p3 p4 pp5 ss5 kd6 hb6 b5
                      obtain ⟨p1, p2, p3⟩ := pp6.cells3
                      have p4 := ss6.cells0
                      go_wp2_with fail
                      refine (SP.out dn dn _ b6).mono ?_
                      rintro e w7 ⟨rfl, hb7⟩
                      have b7 := below_call b6 b6.size hb7
                      have kd8 := kd7.below' hb7
                      clear p1 p2 p3 p4 pp6 ss6 kd7 hb7 b6
                      go_wp2_with fail
                      go_roundw
                      case rel => exact ⟨j + 1, by omega, by go_num, b7, kd8⟩
                      case measure => simp [intOf]; omega
                    · clear hj SP kd5
                      obtain ⟨g1, hg1⟩ : ∃ g, wr.heap.size = g := ⟨_, rfl⟩
                      have b9 := below_call HB1.out HB1.out.size (below_call HB3.out HB3.out.size bb)
                      clear HB1 HB3 KZ KP KS HL3 bb k1 k2
                      go_wp2_with fail
                      have e1 : Blk (((wr.alloc (.cells #[.int .u8 1] 5)).alloc (.cells #[.int .u8 3] 5)).alloc (.cells (odd5 g1) 24)) g1 5 #[.int .u8 1] := by rw [← hg1]; exact ((Blk.new _ _ _).alloc _).alloc _
                      have e2 : Blk (((wr.alloc (.cells #[.int .u8 1] 5)).alloc (.cells #[.int .u8 3] 5)).alloc (.cells (odd5 g1) 24)) (g1 + 1) 5 #[.int .u8 3] := (Blk.new' (by simp [hg1]) _ _).alloc _
                      have e3 : Blk (((wr.alloc (.cells #[.int .u8 1] 5)).alloc (.cells #[.int .u8 3] 5)).alloc (.cells (odd5 g1) 24)) (g1 + 1 + 1) 24 (odd5 g1) := Blk.new' (by simp [hg1]) _ _
                      have bZ : Below w.heap.size w (((wr.alloc (.cells #[.int .u8 1] 5)).alloc (.cells #[.int .u8 3] 5)).alloc (.cells (odd5 g1) 24)) := ((b9.alloc b9.size _).alloc (by have := b9.size; simp; omega) _).alloc (by have := b9.size; simp; omega) _
                      unfold odd5 at e1 e2 e3 bZ
                      generalize ((wr.alloc (.cells #[.int .u8 1] 5)).alloc (.cells #[.int .u8 3] 5)).alloc (.cells #[.int .i64 0, .int .i64 0, .slice none 0 0, .int .i64 4, .int .i64 0, .slice none 0 0, .int .i64 0, .int .i64 4, .slice none 0 0, .int .i64 1, .int .i64 1, .slice (some ⟨g1, 0, none⟩) 1 1, .int .i64 1, .int .i64 1, .slice (some ⟨g1 + 1, 0, none⟩) 1 1] 24) = w4 at *
                      have E3 : Hid (Blk w4 (g1 + 1 + 1) 24 (odd5 g1)) := Lib.hid e3
                      have FJ := Lib.hid fun j hj => odd5_at e1 e2 j hj
                      have BZ := Lib.hid bZ
                      clear e1 e2 e3 bZ b9 hg1 jl
                      go_loopw [248] (fun s wr => ∃ j : Nat, j ≤ 5 ∧ s = .int .i64 j ∧ Below w4.heap.size w4 wr) (fun s _ => 5 - (intOf s).toNat)
                      case atStart => exact ⟨0, by omega, rfl, Below.refl _ _⟩
                      case round =>
                        obtain ⟨j, hj, rfl, bb⟩ := hrel
                        by_cases jl : (j : Int) < 5
                        · obtain ⟨W, H, A, n, c, q, c0, c1, c2, hA, hn, hqB, hAc⟩ := FJ.out j (by omega)
                          have k3 := E3.out.below' bb
                          have d0 : wr.cell? ⟨g1 + 1 + 1, j * 3, none⟩ = some (.int .i64 W) := by rw [k3.cell]; exact c0
                          have d1 : wr.cell? ⟨g1 + 1 + 1, j * 3 + 1, none⟩ = some (.int .i64 H) := by rw [k3.cell]; exact c1
                          have d2 : wr.cell? ⟨g1 + 1 + 1, j * 3 + 2, none⟩ = some (.slice A n c) := by rw [k3.cell]; exact c2
                          have hA1 := hA.to bb
                          have HN1 := Lib.hid hn
                          have nm : n ≤ maxLen := by unfold maxLen; omega
                          obtain ⟨gi, hgi⟩ : ∃ g, wr.heap.size = g := ⟨_, rfl⟩
                          clear c0 c1 c2 hA k3 hn
                          go_upto_region 63 with fail
                          have kn := Blk.new wr 24 #[.int .i64 W, .int .i64 H, .slice A n c]
                          have bn := bb.alloc bb.size (.cells #[.int .i64 W, .int .i64 H, .slice A n c] 24)
                          have hA2 := hA1.alloc1 (.cells #[.int .i64 W, .int .i64 H, .slice A n c] 24)
                          rw [hgi] at kn
                          generalize wr.alloc (.cells #[.int .i64 W, .int .i64 H, .slice A n c] 24) = u0 at *
                          clear d0 d1 d2 hA1 hgi bb
                          obtain ⟨p1, p2, p3⟩ := kn.cells3
                          go_wp2_with fail
                          refine (stavePaths_any W H A none n c 0 0 q (fun _ => 0) _ hA2 nm hAc hqB Arr.nil (by decide)).mono ?_
                          rintro e u1 ⟨rfl, hb1⟩
                          have k1 := kn.below' hb1
                          have a1 := hA2.to hb1
                          have b1 := below_call bn bn.size hb1
                          clear p1 p2 p3 kn hA2 bn hb1
                          obtain ⟨p1, p2, p3⟩ := k1.cells3
                          obtain ⟨g2, hg2⟩ : ∃ g, u1.heap.size = g := ⟨_, rfl⟩
                          go_wp2_with fail
                          have kz := Blk.new u1 3 #[.int .i64 0]
                          have hz : ArrI (u1.alloc (.cells #[.int .i64 0] 3)) (u1.alloc (.cells #[.int .i64 0] 3)).heap.size (some ⟨g2, 0, none⟩) 1 (fun _ => 0) := fun _ => ⟨g2, 0, rfl, by rw [← hg2]; exact kz.lt, fun i i0 i1 => by
                            obtain rfl : i = 0 := by omega
                            rw [← hg2, kz.cell]; rfl⟩
                          refine (stavePaths_any W H A (some ⟨g2, 0, none⟩) n c 1 1 q (fun _ => 0) _ (a1.alloc1 _) nm hAc hqB hz (by decide)).mono ?_
                          rintro e u2 ⟨rfl, hb2⟩
                          have k2 := (k1.alloc (.cells #[.int .i64 0] 3)).below' hb2
                          have a2 := (a1.alloc1 (.cells #[.int .i64 0] 3)).to hb2
                          have b2 := below_call (b1.alloc b1.size (.cells #[.int .i64 0] 3)) (by have := b1.size; simp; omega) hb2
                          clear p1 p2 p3 k1 a1 b1 hb2 kz hz hg2
                          obtain ⟨p1, p2, p3⟩ := k2.cells3
                          go_wp2_with fail
                          refine (staveRuns_any W H 3 A none n c 0 0 q (fun _ => 0) (fun _ _ => 0) (fun _ _ _ => 0) _ a2 hqB hAc (fun i hi => by omega) (fun i hi => by omega) (fun i j hi => by omega)).mono ?_
                          rintro e u3 ⟨rfl, hb3⟩
                          have k3 := k2.below' hb3
                          have a3 := a2.to hb3
                          have b3 := below_call b2 b2.size hb3
                          clear p1 p2 p3 k2 a2 b2 hb3
                          obtain ⟨p1, p2, p3⟩ := k3.cells3
                          obtain ⟨g3, hg3⟩ : ∃ g, u3.heap.size = g := ⟨_, rfl⟩
                          go_wp2_with fail
                          have kz := Blk.new u3 40 #[.slice none 0 0]
                          have hz : StavesZ (u3.alloc (.cells #[.slice none 0 0] 40)) (u3.alloc (.cells #[.slice none 0 0] 40)).heap.size (some ⟨g3, 0, none⟩) 1 (fun _ => 0) (fun _ _ => 0) (fun _ _ _ => 0) := by rw [← hg3]; exact staves_one kz
                          refine (staveRuns_any W H 3 A (some ⟨g3, 0, none⟩) n c 1 1 q (fun _ => 0) (fun _ _ => 0) (fun _ _ _ => 0) _ (a3.alloc1 _) hqB hAc hz (fun i hi => by omega) (fun i j hi hj => by omega)).mono ?_
                          rintro e u4 ⟨rfl, hb4⟩
                          have k4 := (k3.alloc (.cells #[.slice none 0 0] 40)).below' hb4
                          have a4 := (a3.alloc1 (.cells #[.slice none 0 0] 40)).to hb4
                          have b4 := below_call (b3.alloc b3.size (.cells #[.slice none 0 0] 40)) (by have := b3.size; simp; omega) hb4
                          clear p1 p2 p3 k3 a3 b3 hb4 kz hz hg3
                          obtain ⟨p1, p2, p3⟩ := k4.cells3
                          go_wp2_with fail
                          refine (strips_any W H W H 0 0 A A none n c n c 0 0 q q (fun _ => 0) (fun _ _ => 0) _ a4 (by have := HN1.out; omega) hqB hAc a4 (by have := HN1.out; omega) hqB hAc (linesIn_none _)).mono ?_
                          rintro e u5 ⟨rfl, hb5⟩
                          have b5 := below_call b4 b4.size hb5
                          clear p1 p2 p3 k4 a4 b4 hb5
                          go_wp2_with fail
                          go_roundw
                          case rel => exact ⟨j + 1, by omega, by go_num, b5⟩
                          case measure => simp [intOf]; omega
                        · clear hj FJ E3
                          go_wp2_with fail
                          refine (AW.out _).mono ?_
                          rintro e u9 ⟨rfl, hb9⟩
                          have b9 := below_call (below_call BZ.out BZ.out.size bb) (Nat.le_trans BZ.out.size bb.size) hb9
                          go_wp2
                          go_ret
                          exact ⟨rfl, b9⟩
end Go.Proofs.YtdimlpcbbkokiaaGreat
