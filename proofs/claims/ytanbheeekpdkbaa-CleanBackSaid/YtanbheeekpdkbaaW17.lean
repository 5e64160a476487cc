/- Walks: the reference's full rows and its skew; the moves' contracts in one piece; clean.Drop. -/
import Derived.Test.YtanbheeekpdkbaaW16
import Derived.Test.YtanbheeekpdkbaaLib3
import Derived.Test.YtanbheeekpdkbaaW13
import Derived.Deep.DeepCutAuto
import Derived.Deep.Cut
namespace Go.Proofs.Ytanbheeekpdkbaa
open Go.RowKit
set_option linter.unusedVariables false

theorem ink_in {W H : Int} {p : Int → Int} {x y : Int} (h1 : 0 ≤ x) (h2 : x < W) (h3 : 0 ≤ y) (h4 : y < H) : inkB W H p x y = decide (p (y * W + x) = 1) := by
  unfold inkB; simp [h1, h2, h3, h4]
theorem fullS_eq {W H : Int} {n : Nat} {p : Int → Int} (h : chk W H n p = 0) (hB : IsB p) : fullR W p H.toNat = fullS W H n p := fullR_eq h hB _ (Nat.le_refl _)

set_option maxHeartbeats 1000000 in
theorem rfull_ok (W H : Int) (A : Option Addr) (n c : Nat) (p : Int → Int) (w : World) (hA : ArrB w w.heap.size A n p) (hB : IsB p) (hE : chk W H n p = 0) :
    Calls Try.prog 23 #[.agg #[.int .i64 W, .int .i64 H, .slice A n c]] w fun e w' => e = .returned (.int .i64 (fullS W H n p)) ∧ Below w.heap.size w w' := by
  have HF := Lib.hid (fullS_eq hE hB)
  obtain ⟨hW1, hW2, hH1, hH2, hnn, -⟩ := chk_ok hE
  have HNN := Lib.hid hnn
  clear hE hnn
  obtain ⟨Wn, rfl⟩ : ∃ Wn : Nat, W = Wn := ⟨W.toNat, by omega⟩
  obtain ⟨Hn, rfl⟩ : ∃ Hn : Nat, H = Hn := ⟨H.toNat, by omega⟩
  have HFN : Hid (fullR Wn p Hn = fullS Wn Hn n p) := by show _ = _; have := HF.out; rwa [Int.toNat_natCast] at this
  clear HF
  go_enter Try.func23, Try.ntmps23
  go_wp2_with fail
  go_loopw [3, 4] (fun m s wr => ∃ i : Nat, i ≤ Hn ∧ s = .int .i64 i ∧ m = .int .i64 (fullR Wn p i) ∧ Below w.heap.size w wr ∧ Blk wr w.heap.size 25 #[.int .i64 Wn, .int .i64 Hn, .slice A n c]) (fun _ s _ => Hn - (intOf s).toNat)
  case atStart => exact ⟨0, by omega, rfl, by unfold fullR; simp [sumN], by (repeat (first | exact Below.refl _ _ | assumption | refine Below.drew ?_ | refine below_drewN ?_ _ | refine Below.alloc ?_ (by first | omega | (simp; done) | (simp; omega)) _ | refine Below.setCell ?_ (by first | omega | (simp; done) | (simp; omega)) _ | refine below_setRow ?_ (by first | omega | (simp; done) | (simp; omega)) _ )), Blk.new _ _ _⟩
  case round =>
    obtain ⟨i, hi, rfl, rfl, b1, k1⟩ := hrel
    obtain ⟨p1, p2, p3⟩ := k1.cells3
    obtain ⟨fb1, fb2⟩ := fullR_bd Wn p i
    by_cases hlt : i < Hn
    · by_cases hW : 0 < Wn
      · have FY := Lib.hid (@fullR_yes Wn p i (by omega))
        have FN := Lib.hid (@fullR_no Wn p i (by omega))
        generalize fullR Wn p i = S at *
        go_wp2_with fail
        go_loopw [5, 6] (fun f s wr => ∃ x : Nat, x ≤ Wn ∧ s = .int .i64 x ∧ f = .bool (rowB x p (i * Wn)) ∧ Below w.heap.size w wr ∧ Blk wr w.heap.size 25 #[.int .i64 Wn, .int .i64 Hn, .slice A n c]) (fun _ s _ => Wn - (intOf s).toNat)
        case atStart => exact ⟨0, by omega, rfl, rfl, b1, k1⟩
        case round =>
          obtain ⟨x, hx, rfl, rfl, b2, k2⟩ := hrel
          clear p1 p2 p3 k1 b1
          obtain ⟨p1, p2, p3⟩ := k2.cells3
          by_cases hxl : x < Wn
          · have RS := Lib.hid (rowB_step p (i * Wn) x)
            cases hr : rowB x p (i * Wn)
            · have HR := Lib.hid hr; clear hr
              go_wp2
              go_roundw
              case rel => exact ⟨x + 1, by omega, by go_num, by rw [RS.out, HR.out]; rfl, b2, k2⟩
              case measure => simp [intOf]; omega
            · have HR := Lib.hid hr; clear hr
              have IK := Lib.hid (rink_any Wn Hn A n c p x i wr ((ArrB.below hA b2).more b2.size) hW2 hH2 HNN.out)
              rw [ink_in (by omega) (by omega) (by omega) (by omega)] at IK
              generalize hd : decide (p ((i : Int) * Wn + x) = 1) = d at IK
              have RS2 : Hid (rowB (x + 1) p (i * Wn) = d) := by show _ = _; rw [RS.out, HR.out, hd]; rfl
              clear RS hd
              go_wp2_with fail
              refine IK.out.mono ?_
              rintro e w2 ⟨rfl, hb2⟩
              have b3 := below_call b2 b2.size hb2
              have k3 := k2.below' hb2
              cases d <;> go_wp2
              all_goals
                go_roundw
                case rel => exact ⟨x + 1, by omega, by go_num, by rw [RS2.out], b3, k3⟩
                case measure => simp [intOf]; omega
          · obtain rfl : x = Wn := by omega
            rw [Int.toNat_natCast] at FY FN
            cases hr : rowB x p (i * x)
            · have HR := Lib.hid hr; clear hr
              go_wp2
              go_roundw
              case rel => exact ⟨i + 1, by omega, by go_num, by rw [FN.out HR.out], b2, k2⟩
              case measure => simp [intOf]; omega
            · have HR := Lib.hid hr; clear hr
              go_wp2
              go_roundw
              case rel => exact ⟨i + 1, by omega, by go_num, by rw [FY.out HR.out], b2, k2⟩
              case measure => simp [intOf]; omega
      · obtain rfl : Wn = 0 := by omega
        have hr : Hid (fullR (0 : Nat) p i = fullS (0 : Nat) Hn n p) := by show _ = _; rw [← HFN.out]; unfold fullR; simp
        go_wp2
        go_ret
        exact ⟨ret_int hr.out, by (repeat (first | exact Below.refl _ _ | assumption | refine Below.drew ?_ | refine below_drewN ?_ _ | refine Below.alloc ?_ (by first | omega | (simp; done) | (simp; omega)) _ | refine Below.setCell ?_ (by first | omega | (simp; done) | (simp; omega)) _ | refine below_setRow ?_ (by first | omega | (simp; done) | (simp; omega)) _ ))⟩
    · obtain rfl : i = Hn := by omega
      go_wp2
      go_ret
      exact ⟨ret_int HFN.out, by (repeat (first | exact Below.refl _ _ | assumption | refine Below.drew ?_ | refine below_drewN ?_ _ | refine Below.alloc ?_ (by first | omega | (simp; done) | (simp; omega)) _ | refine Below.setCell ?_ (by first | omega | (simp; done) | (simp; omega)) _ | refine below_setRow ?_ (by first | omega | (simp; done) | (simp; omega)) _ ))⟩

/-! ### the moves' contracts in one piece -/
def OutM (w w' : World) (E W H : Int) (N : Nat) (q : Int → Int) (v : Value) : Prop := ∃ A c, v = .tuple #[.agg #[.int .i64 W, .int .i64 H, .slice A N c], .int .i64 E] ∧ (∀ a, A = some a → w.heap.size ≤ a.block) ∧ ArrB w' w'.heap.size A N q
/-- the size that goes with an error E of a move -/
structure MSize (W H G E Wm Hm : Int) (N : Nat) : Prop where
  ok : E = 0 → Wm = W ∧ Hm = H + G ∧ (N : Int) = W * (H + G)
  bad : E ≠ 0 → Wm = 0 ∧ Hm = 0 ∧ N = 0
theorem msize_ex (W H G E : Int) (h : E = 0 → 0 ≤ W ∧ 0 ≤ H + G) : ∃ Wm Hm N, MSize W H G E Wm Hm N := by
  by_cases e : E = 0
  · obtain ⟨a, b⟩ := h e
    exact ⟨W, H + G, (W * (H + G)).toNat, fun _ => ⟨rfl, rfl, Int.toNat_of_nonneg (Int.mul_nonneg a b)⟩, fun h => absurd e h⟩
  · exact ⟨0, 0, 0, fun h => absurd h e, fun _ => ⟨rfl, rfl, rfl⟩⟩
theorem outM_bad {w w' : World} {E W H : Int} {N : Nat} {q : Int → Int} (hs : W = 0 ∧ H = 0 ∧ N = 0) : OutM w w' E W H N q (.tuple #[noImg, .int .i64 E]) := by
  obtain ⟨rfl, rfl, rfl⟩ := hs
  exact ⟨none, 0, rfl, fun _ h => by (cases h), ArrB.nil⟩

theorem skew_all (W H Wm Hm E : Int) (N : Nat) (A : Option Addr) (n c : Nat) (p : Int → Int) (k : Int) (w : World) (hA : ArrB w w.heap.size A n p) (hn : n ≤ maxLen) (hB : IsB p) (hE : movE W H n p k 1 = E) (hs : MSize W H (grt W k) E Wm Hm N) :
    Calls Try.prog 12 #[.agg #[.int .i64 W, .int .i64 H, .slice A n c], .int .i64 k] w (New w fun v w' => OutM w w' E Wm Hm N (movQ W H p k 1) v) := by
  by_cases e : E = 0
  · subst e
    obtain ⟨rfl, rfl, hN⟩ := hs.ok rfl
    obtain rfl : N = (Wm * (H + grt Wm k)).toNat := by omega
    refine (skew_ok Wm H _ A n c p k w hA hn hB hE rfl).mono ?_
    rintro _ w' ⟨_, rfl, ⟨_, rfl, ⟨g, rfl, hg, kg⟩⟩, hb⟩
    exact ⟨_, rfl, ⟨_, _, rfl, fun _ h => by (cases h; exact hg), kg.arrB kg.lt⟩, hb⟩
  · refine (skew_bad W H A n c p k E w hA hn hE e).mono ?_
    rintro _ w' ⟨rfl, hb⟩
    exact ⟨_, rfl, outM_bad (hs.bad e), hb⟩
theorem unskew_all (W H Wm Hm E : Int) (N : Nat) (A : Option Addr) (n c : Nat) (p : Int → Int) (k : Int) (w : World) (hA : ArrB w w.heap.size A n p) (hn : n ≤ maxLen) (hB : IsB p) (hE : movE W H n p k (-1) = E) (hs : MSize W H (-grt W k) E Wm Hm N) :
    Calls Try.prog 14 #[.agg #[.int .i64 W, .int .i64 H, .slice A n c], .int .i64 k] w (New w fun v w' => OutM w w' E Wm Hm N (movQ W H p k (-1)) v) := by
  by_cases e : E = 0
  · subst e
    obtain ⟨rfl, rfl, hN⟩ := hs.ok rfl
    obtain rfl : N = (Wm * (H + -grt Wm k)).toNat := by omega
    refine (unskew_ok Wm H (H + -grt Wm k) A n c p k w hA hn hB hE (by omega)).mono ?_
    rintro _ w' ⟨_, rfl, ⟨_, rfl, ⟨g, rfl, hg, kg⟩⟩, hb⟩
    exact ⟨_, rfl, ⟨_, _, rfl, fun _ h => by (cases h; exact hg), kg.arrB kg.lt⟩, hb⟩
  · refine (unskew_bad W H A n c p k E w hA hn hE e).mono ?_
    rintro _ w' ⟨rfl, hb⟩
    exact ⟨_, rfl, outM_bad (hs.bad e), hb⟩
theorem rskew_all (W H Wm Hm E : Int) (N : Nat) (A : Option Addr) (n c : Nat) (p : Int → Int) (k : Int) (w : World) (hA : ArrB w w.heap.size A n p) (hn : n ≤ maxLen) (hB : IsB p) (hE : movE W H n p k 1 = E) (hs : MSize W H (grt W k) E Wm Hm N) :
    Calls Try.prog 20 #[.agg #[.int .i64 W, .int .i64 H, .slice A n c], .int .i64 k] w (New w fun v w' => OutM w w' E Wm Hm N (movQ W H p k 1) v) := by
  by_cases e : E = 0
  · subst e
    obtain ⟨rfl, rfl, hN⟩ := hs.ok rfl
    refine (rskew_ok Wm H _ N A n c p k w hA hn hB hE rfl hN).mono ?_
    rintro _ w' ⟨_, rfl, ⟨_, rfl, ⟨g, rfl, hg, kg⟩⟩, hb⟩
    exact ⟨_, rfl, ⟨_, _, rfl, fun _ h => by (cases h; exact hg), (kg.arrB kg.lt).congr fun i h0 hi => movR_eq (movE_ok hE).1 hB h0 (by rw [← hN]; exact hi)⟩, hb⟩
  · refine (rskew_bad W H A n c p k E w hA hn hB hE e).mono ?_
    rintro _ w' ⟨rfl, hb⟩
    exact ⟨_, rfl, outM_bad (hs.bad e), hb⟩
theorem runskew_all (W H Wm Hm E : Int) (N : Nat) (A : Option Addr) (n c : Nat) (p : Int → Int) (k : Int) (w : World) (hA : ArrB w w.heap.size A n p) (hn : n ≤ maxLen) (hB : IsB p) (hE : movE W H n p k (-1) = E) (hs : MSize W H (-grt W k) E Wm Hm N) :
    Calls Try.prog 21 #[.agg #[.int .i64 W, .int .i64 H, .slice A n c], .int .i64 k] w (New w fun v w' => OutM w w' E Wm Hm N (movQ W H p k (-1)) v) := by
  by_cases e : E = 0
  · subst e
    obtain ⟨rfl, rfl, hN⟩ := hs.ok rfl
    refine (runskew_ok Wm H (H + -grt Wm k) N A n c p k w hA hn hB hE (by omega) hN).mono ?_
    rintro _ w' ⟨_, rfl, ⟨_, rfl, ⟨g, rfl, hg, kg⟩⟩, hb⟩
    exact ⟨_, rfl, ⟨_, _, rfl, fun _ h => by (cases h; exact hg), (kg.arrB kg.lt).congr fun i h0 hi => movR_eq (movE_ok hE).1 hB h0 (by rw [← hN]; exact hi)⟩, hb⟩
  · refine (runskew_bad W H A n c p k E w hA hn hB hE e).mono ?_
    rintro _ w' ⟨rfl, hb⟩
    exact ⟨_, rfl, outM_bad (hs.bad e), hb⟩
theorem movE_sides {W H : Int} {n : Nat} {p : Int → Int} {k way : Int} (h : movE W H n p k way = 0) : 0 ≤ W ∧ 0 ≤ H + way * grt W k :=
  ⟨(chk_ok (movE_ok h).1).1, (movE_ok h).2.2.2.1⟩

theorem L7_take (i : Nat) (h : i < 7) : L7.take (i + 1) = L7.take i ++ [lit L7 i] := by
  rcases (by omega : i = 0 ∨ i = 1 ∨ i = 2 ∨ i = 3 ∨ i = 4 ∨ i = 5 ∨ i = 6) with rfl | rfl | rfl | rfl | rfl | rfl | rfl <;> rfl
theorem chk_out {W H Wm Hm : Int} {N n : Nat} {p : Int → Int} {k : Int} (h : movE W H n p k (-1) = 0) (hs : MSize W H (-grt W k) 0 Wm Hm N) : chk Wm Hm N (movQ W H p k (-1)) = 0 := by
  obtain ⟨rfl, rfl, hN⟩ := hs.ok rfl
  have := chk_mov (h := H + -grt Wm k) h (by omega)
  rwa [show (Wm * (H + -grt Wm k)).toNat = N by omega] at this
theorem fsN_mv {W H Wm Hm : Int} {N n : Nat} {p : Int → Int} {k : Int} (h : movE W H n p k (-1) = 0) (hs : MSize W H (-grt W k) 0 Wm Hm N) : fsN W H n p k = fullS Wm Hm N (movQ W H p k (-1)) := by
  obtain ⟨rfl, rfl, hN⟩ := hs.ok rfl
  unfold fsN
  rw [if_pos h, show H - grt Wm k = H + -grt Wm k by omega, show (Wm * (H + -grt Wm k)).toNat = N by omega]

set_option maxRecDepth 100000 in
set_option maxHeartbeats 2000000 in
theorem rfindSkew_ok (W H : Int) (A : Option Addr) (n c : Nat) (p : Int → Int) (w : World) (hA : ArrB w w.heap.size A n p) (hn : n ≤ maxLen) (hB : IsB p) (hE : chk W H n p = 0) :
    Calls Try.prog 24 #[.agg #[.int .i64 W, .int .i64 H, .slice A n c]] w fun e w' => e = .returned (.int .i64 (findS W H n p)) ∧ Below w.heap.size w w' := by
  have FD : Hid (findS W H n p = (fsL (fsN W H n p) (L7.take 7)).1) := by show _ = _; rfl
  have cells : #[Value.int .i64 0, .int .i64 1, .int .i64 (-1), .int .i64 2, .int .i64 (-2), .int .i64 3, .int .i64 (-3)] = i64s 7 (lit L7) := i64s_lit (l := L7)
  have CS := Lib.hid cells; clear cells
  have HE := Lib.hid hE
  clear hE
  go_enter Try.func24, Try.ntmps24
  go_wp2_with fail
  have k0 : ∀ w', w' = (w.alloc (.cells #[.int .i64 W, .int .i64 H, .slice A n c] 25)).alloc (.cells #[Value.int .i64 0, .int .i64 1, .int .i64 (-1), .int .i64 2, .int .i64 (-2), .int .i64 3, .int .i64 (-3)] 3) →
      Below w.heap.size w w' ∧ Blk w' w.heap.size 25 #[.int .i64 W, .int .i64 H, .slice A n c] ∧ Blk w' (w.heap.size + 1) 3 (i64s 7 (lit L7)) := by
    rintro _ rfl
    exact ⟨by (repeat (first | exact Below.refl _ _ | assumption | refine Below.drew ?_ | refine below_drewN ?_ _ | refine Below.alloc ?_ (by first | omega | (simp; done) | (simp; omega)) _ | refine Below.setCell ?_ (by first | omega | (simp; done) | (simp; omega)) _ | refine below_setRow ?_ (by first | omega | (simp; done) | (simp; omega)) _ )), (Blk.new _ _ _).alloc _, (Blk.new' (by simp) _ _).to CS.out⟩
  replace k0 := k0 _ rfl
  generalize (w.alloc (.cells #[.int .i64 W, .int .i64 H, .slice A n c] 25)).alloc (.cells #[Value.int .i64 0, .int .i64 1, .int .i64 (-1), .int .i64 2, .int .i64 (-2), .int .i64 3, .int .i64 (-3)] 3) = w1 at *
  obtain ⟨b1, k1, k2⟩ := k0
  go_loopw [4, 5, 6] (fun o m s wr => ∃ i : Nat, i ≤ 7 ∧ s = .int .i64 i ∧ o = .int .i64 (fsL (fsN W H n p) (L7.take i)).1 ∧ m = .int .i64 (fsL (fsN W H n p) (L7.take i)).2 ∧ Below w.heap.size w wr ∧ Blk wr w.heap.size 25 #[.int .i64 W, .int .i64 H, .slice A n c] ∧ Blk wr (w.heap.size + 1) 3 (i64s 7 (lit L7))) (fun _ _ s _ => 7 - (intOf s).toNat)
  case atStart => exact ⟨0, by omega, rfl, rfl, rfl, b1, k1, k2⟩
  case round =>
    obtain ⟨i, hi, rfl, rfl, rfl, b2, k3, k4⟩ := hrel
    clear b1 k1 k2
    by_cases hlt : i < 7
    · have FS : Hid (fsL (fsN W H n p) (L7.take (i + 1)) = fsStep (fsN W H n p) (fsL (fsN W H n p) (L7.take i)) (lit L7 i)) := by show _ = _; rw [L7_take i hlt, fsL_snoc]
      have fb := fsL_bd (fsN_bd W H n p) (L7.take i)
      obtain ⟨fb1, fb2⟩ := fb
      generalize fsL (fsN W H n p) (L7.take i) = S at *
      obtain ⟨so, sm⟩ := S
      simp only at fb1 fb2
      have hk : -3 ≤ lit L7 i ∧ lit L7 i ≤ 3 := by
        rcases (by omega : i = 0 ∨ i = 1 ∨ i = 2 ∨ i = 3 ∨ i = 4 ∨ i = 5 ∨ i = 6) with rfl | rfl | rfl | rfl | rfl | rfl | rfl <;> decide
      obtain ⟨hk1, hk2⟩ := hk
      have q4 := k4.i64at (i := (i : Int)) (by omega) (by omega)
      rw [Int.toNat_natCast] at q4
      generalize hkk : lit L7 i = k at *
      have HKK := Lib.hid hkk; clear hkk
      obtain ⟨p1, p2, p3⟩ := k3.cells3
      have hi0 : (0 : Int) ≤ (i : Int) := by omega
      have hi7 : (i : Int) < 7 := by omega
      by_cases hM : movE W H n p k (-1) = 0
      · obtain ⟨Wm, Hm, N, ms⟩ := msize_ex W H (-grt W k) 0 (fun _ => by have := movE_sides hM; omega)
        have HC := Lib.hid (chk_out hM ms)
        have FM := Lib.hid (fsN_mv hM ms)
        have UN := Lib.hid fun w' hA' => runskew_all W H Wm Hm 0 N A n c p k w' hA' hn hB hM ms
        have K3 := Lib.hid k3; have K4 := Lib.hid k4; have B2 := Lib.hid b2
        have BQ := Lib.hid (isB_mov (W := W) (H := H) (k := k) (way := -1) hB)
        generalize movQ W H p k (-1) = q at *
        clear ms hM k3 k4 b2
        have Z3 := K3.out.lt; have Z4 := K4.out.lt
        go_upto_region 6 with fail
        go_cut [7, 8, 24] (fun f z e wx => ∃ B Aq cq, f = .pointer (some ⟨B, 0, none⟩) ∧ z = .int .i64 0 ∧ e = .int .i64 0 ∧ Below w.heap.size w wx ∧ Blk wx w.heap.size 25 #[.int .i64 W, .int .i64 H, .slice A n c] ∧ Blk wx (w.heap.size + 1) 3 (i64s 7 (lit L7)) ∧
          Blk wx B 25 #[.int .i64 Wm, .int .i64 Hm, .slice Aq N cq] ∧ ArrB wx wx.heap.size Aq N q)
        case first =>
          go_region_held3 (fun w' => w'.cell? ⟨w.heap.size, 0, none⟩ = some (.int .i64 W) ∧ w'.cell? ⟨w.heap.size, 1, none⟩ = some (.int .i64 H) ∧ w'.cell? ⟨w.heap.size, 2, none⟩ = some (.slice A n c) ∧ w'.cell? ⟨w.heap.size + 1, i, none⟩ = some (.int .i64 k))
            (simp [go_sem, *])
            (first
              | (go_at_call 21; refine (UN.out _ ((ArrB.below hA B2.out.drew).more B2.out.drew.size)).mono ?_; rintro e w6 ⟨_, rfl, ⟨Aq, cq, rfl, hge, aq⟩, hb6⟩
                 have k6 := K3.out.drew.below' hb6
                 have k7 := K4.out.drew.below' hb6
                 have q6 := k7.i64at (i := (i : Int)) hi0 hi7
                 rw [Int.toNat_natCast, HKK.out] at q6
                 have z6 := k6.lt
                 have z7 := k7.lt
                 have b6 := below_call B2.out.drew B2.out.drew.size hb6
                 obtain ⟨x1, x2, x3⟩ := k6.cells3)
              | (go_at_call 21; refine (UN.out _ ((ArrB.below hA (B2.out.alloc B2.out.size _).drew).more (B2.out.alloc B2.out.size _).drew.size)).mono ?_; rintro e w6 ⟨_, rfl, ⟨Aq, cq, rfl, hge, aq⟩, hb6⟩
                 have k6 := (K3.out.alloc _).drew.below' hb6
                 have k7 := (K4.out.alloc _).drew.below' hb6
                 have kb := (Blk.new _ _ _).drew.below' hb6
                 have q6 := k7.i64at (i := (i : Int)) hi0 hi7
                 rw [Int.toNat_natCast, HKK.out] at q6
                 have z6 := k6.lt
                 have z7 := k7.lt
                 have b6 := below_call (B2.out.alloc B2.out.size _).drew (B2.out.alloc B2.out.size _).drew.size hb6
                 obtain ⟨x1, x2, x3⟩ := k6.cells3
                 obtain ⟨y1, y2, y3⟩ := kb.cells3
                 obtain ⟨f1, f2, f3⟩ := kb.frozen3))

          · go_wp2_with fail
            go_meet
            exact ⟨_, _, _, rfl, rfl, rfl, by have := b6.size; (repeat (first | exact Below.refl _ _ | assumption | refine Below.drew ?_ | refine below_drewN ?_ _ | refine Below.alloc ?_ (by first | omega | (simp; done) | (simp; omega)) _ | refine Below.setCell ?_ (by first | omega | (simp; done) | (simp; omega)) _ | refine below_setRow ?_ (by first | omega | (simp; done) | (simp; omega)) _ )), k6.alloc _, k7.alloc _, Blk.new _ _ _, aq.to (by (repeat (first | exact Below.refl _ _ | assumption | refine Below.drew ?_ | refine below_drewN ?_ _ | refine Below.alloc ?_ (by first | omega | (simp; done) | (simp; omega)) _ | refine Below.setCell ?_ (by first | omega | (simp; done) | (simp; omega)) _ | refine below_setRow ?_ (by first | omega | (simp; done) | (simp; omega)) _ )))⟩
          · go_wp2_with fail
            go_meet
            have e6 : w.heap.size ≤ wr.heap.size := by omega
            exact ⟨_, _, _, rfl, rfl, rfl, below_fill3 b6 e6, k6.far3 (by omega), k7.far3 (by omega), kb.fill3, by
              rw [fill3_size]
              exact aq.far3 fun a e => by have := hge a e; simp at this; omega⟩
        case rest =>
          obtain ⟨B, Aq, cq, rfl, rfl, rfl, b3, k5, k6, kb, aq⟩ := hcut
          obtain ⟨y1, y2, y3⟩ := kb.cells3
          go_wp2_with fail
          have RF := Lib.hid fun w' hA' => rfull_ok Wm Hm Aq N cq q w' hA' BQ.out HC.out
          refine (RF.out _ aq).mono ?_
          rintro e w8 ⟨rfl, hb8⟩
          rw [← FM.out]
          have FM1 : Hid (fsStep (fsN W H n p) (so, sm) k = if sm < fsN W H n p k then (k, fsN W H n p k) else (so, sm)) := by show _ = _; rfl
          have FB := fsN_bd W H n p k
          obtain ⟨fc1, fc2⟩ := FB
          have b4 := below_call b3 b3.size hb8
          have k7 := k5.below' hb8
          have k8 := k6.below' hb8
          have kb := kb.below' hb8
          have aq := aq.to hb8
          have q8 := k8.i64at (i := (i : Int)) hi0 hi7
          rw [Int.toNat_natCast, HKK.out] at q8
          clear b3 k5 k6 hb8 y1 y2 y3
          obtain ⟨y1, y2, y3⟩ := kb.cells3
          have FM := Lib.hid FM.out.symm
          generalize hF : fsN W H n p k = F at *
          clear hF
          by_cases hs : sm < F
          · rw [if_pos hs] at FM1
            have FS2 : Hid (fsL (fsN W H n p) (L7.take (i + 1)) = (k, F)) := by show _ = _; rw [FS.out, FM1.out]
            go_wp2_with fail
            refine (RF.out _ aq).mono ?_
            rintro e w9 ⟨rfl, hb9⟩
            rw [FM.out]
            have b5 := below_call b4 b4.size hb9
            have k7 := k7.below' hb9
            have k8 := k8.below' hb9
            go_wp2
            go_roundw
            case rel => exact ⟨i + 1, by omega, by go_num, by rw [FS2.out], by rw [FS2.out], b5, k7, k8⟩
            case measure => simp [intOf]; omega
          · rw [if_neg hs] at FM1
            have FS2 : Hid (fsL (fsN W H n p) (L7.take (i + 1)) = (so, sm)) := by show _ = _; rw [FS.out, FM1.out]
            go_wp2
            go_roundw
            case rel => exact ⟨i + 1, by omega, by go_num, by rw [FS2.out], by rw [FS2.out], b4, k7, k8⟩
            case measure => simp [intOf]; omega
      · obtain ⟨Wm, Hm, N, ms⟩ := msize_ex W H (-grt W k) (movE W H n p k (-1)) (fun h => absurd h hM)
        obtain ⟨rfl, rfl, rfl⟩ := ms.bad hM
        have FM1 : Hid (fsN W H n p k = -1) := by show _ = _; unfold fsN; rw [if_neg hM]
        have FM2 : Hid (fsStep (fsN W H n p) (so, sm) k = if sm < fsN W H n p k then (k, fsN W H n p k) else (so, sm)) := by show _ = _; rfl
        have FS2 : Hid (fsL (fsN W H n p) (L7.take (i + 1)) = (so, sm)) := by show _ = _; rw [FS.out, FM2.out, FM1.out, if_neg (by omega)]
        have UN := Lib.hid fun z hz w' hA' => runskew_all W H 0 0 z 0 A n c p k w' hA' hn hB hz (hz ▸ ms)
        have hb : (movE W H n p k (-1) == 0) = false := by simp [hM]
        replace UN := Lib.hid (UN.out _ rfl)
        clear ms
        generalize movE W H n p k (-1) = E at *
        have HM := Lib.hid hM; clear hM
        have K3 := Lib.hid k3; have K4 := Lib.hid k4; have B2 := Lib.hid b2
        generalize movQ W H p k (-1) = q at *
        clear k3 k4 b2
        have Z3 := K3.out.lt; have Z4 := K4.out.lt
        go_upto_region 6 with fail
        go_cut [7, 8, 24] (fun f z e wx => ∃ B Aq cq, f = .pointer (some ⟨B, 0, none⟩) ∧ z = .int .i64 E ∧ e = .int .i64 E ∧ Below w.heap.size w wx ∧ Blk wx w.heap.size 25 #[.int .i64 W, .int .i64 H, .slice A n c] ∧ Blk wx (w.heap.size + 1) 3 (i64s 7 (lit L7)) ∧
          Blk wx B 25 #[.int .i64 0, .int .i64 0, .slice Aq 0 cq] ∧ ArrB wx wx.heap.size Aq 0 q)
        case first =>
          go_region_held3 (fun w' => w'.cell? ⟨w.heap.size, 0, none⟩ = some (.int .i64 W) ∧ w'.cell? ⟨w.heap.size, 1, none⟩ = some (.int .i64 H) ∧ w'.cell? ⟨w.heap.size, 2, none⟩ = some (.slice A n c) ∧ w'.cell? ⟨w.heap.size + 1, i, none⟩ = some (.int .i64 k))
            (simp [go_sem, *])
            (first
              | (go_at_call 21; refine (UN.out _ ((ArrB.below hA B2.out.drew).more B2.out.drew.size)).mono ?_; rintro e w6 ⟨_, rfl, ⟨Aq, cq, rfl, hge, aq⟩, hb6⟩
                 have k6 := K3.out.drew.below' hb6
                 have k7 := K4.out.drew.below' hb6
                 have q6 := k7.i64at (i := (i : Int)) hi0 hi7
                 rw [Int.toNat_natCast, HKK.out] at q6
                 have z6 := k6.lt
                 have z7 := k7.lt
                 have b6 := below_call B2.out.drew B2.out.drew.size hb6
                 obtain ⟨x1, x2, x3⟩ := k6.cells3)
              | (go_at_call 21; refine (UN.out _ ((ArrB.below hA (B2.out.alloc B2.out.size _).drew).more (B2.out.alloc B2.out.size _).drew.size)).mono ?_; rintro e w6 ⟨_, rfl, ⟨Aq, cq, rfl, hge, aq⟩, hb6⟩
                 have k6 := (K3.out.alloc _).drew.below' hb6
                 have k7 := (K4.out.alloc _).drew.below' hb6
                 have kb := (Blk.new _ _ _).drew.below' hb6
                 have q6 := k7.i64at (i := (i : Int)) hi0 hi7
                 rw [Int.toNat_natCast, HKK.out] at q6
                 have z6 := k6.lt
                 have z7 := k7.lt
                 have b6 := below_call (B2.out.alloc B2.out.size _).drew (B2.out.alloc B2.out.size _).drew.size hb6
                 obtain ⟨x1, x2, x3⟩ := k6.cells3
                 obtain ⟨y1, y2, y3⟩ := kb.cells3
                 obtain ⟨f1, f2, f3⟩ := kb.frozen3))

          · go_wp2_with fail
            go_meet
            exact ⟨_, _, _, rfl, rfl, rfl, by have := b6.size; (repeat (first | exact Below.refl _ _ | assumption | refine Below.drew ?_ | refine below_drewN ?_ _ | refine Below.alloc ?_ (by first | omega | (simp; done) | (simp; omega)) _ | refine Below.setCell ?_ (by first | omega | (simp; done) | (simp; omega)) _ | refine below_setRow ?_ (by first | omega | (simp; done) | (simp; omega)) _ )), k6.alloc _, k7.alloc _, Blk.new _ _ _, aq.to (by (repeat (first | exact Below.refl _ _ | assumption | refine Below.drew ?_ | refine below_drewN ?_ _ | refine Below.alloc ?_ (by first | omega | (simp; done) | (simp; omega)) _ | refine Below.setCell ?_ (by first | omega | (simp; done) | (simp; omega)) _ | refine below_setRow ?_ (by first | omega | (simp; done) | (simp; omega)) _ )))⟩
          · go_wp2_with fail
            go_meet
            have e6 : w.heap.size ≤ wr.heap.size := by omega
            exact ⟨_, _, _, rfl, rfl, rfl, below_fill3 b6 e6, k6.far3 (by omega), k7.far3 (by omega), kb.fill3, by
              rw [fill3_size]
              exact aq.far3 fun a e => by have := hge a e; simp at this; omega⟩
        case rest =>
          obtain ⟨B, Aq, cq, rfl, rfl, rfl, b3, k5, k6, kb, aq⟩ := hcut
          go_wp2
          go_roundw
          case rel => exact ⟨i + 1, by omega, by go_num, by rw [FS2.out], by rw [FS2.out], b3, k5, k6⟩
          case measure => simp [intOf]; omega
    · obtain rfl : i = 7 := by omega
      go_wp2
      go_ret
      exact ⟨ret_int FD.out.symm, b2⟩

/-! ### clean.Drop -/
theorem index640 (D : Array Value) (x : Int) (v : Value) (h0 : 0 ≤ x) (h : x < 640) (hat : D[x.toNat]? = some v) (w : World) : (Instr.index 78 (.agg D) (.int .i64 x)).run Try.prog w = .ok v w := by
  simp [Instr.index, run_underlying Try.underlying78, asIntOf, h0, h, go_sem, part, hat]
def dropBad (W k x : Int) : Bool := decide (W < 1 ∨ 640 < W ∨ k < -3 ∨ 3 < k ∨ x < 0 ∨ W ≤ x)
set_option maxRecDepth 100000 in
set_option maxHeartbeats 400000 in
theorem cdrop_ok (W k x : Int) (w : World) (h : dropBad W k x = false) :
    Calls Try.prog 18 #[.int .i64 W, .int .i64 k, .int .i64 x] w fun e w' => e = .returned (.tuple #[.int .i64 (dropI W k x), .int .i64 0]) ∧ Below w.heap.size w w' := by
  have h' : ¬ (W < 1 ∨ 640 < W ∨ k < -3 ∨ 3 < k ∨ x < 0 ∨ W ≤ x) := by simpa [dropBad] using h
  have h1 : 1 ≤ W := by omega
  have h2 : W ≤ 640 := by omega
  have h3 : -3 ≤ k := by omega
  have h4 : k ≤ 3 := by omega
  have h5 : 0 ≤ x := by omega
  have h6 : x < W := by omega
  clear h h'
  go_enter Try.func18, Try.ntmps18
  go_wp2_with fail
  refine (drops_any W k _ (by omega) h2 h3 h4).mono ?_
  rintro e w1 ⟨_, rfl, rfl, hb⟩
  generalize hD : i64s 640 (fun x => if x < W then dropI W k x else 0) = D at *
  have hsz : D.size = 640 := by rw [← hD, i64s_size]
  have hat : D[x.toNat]? = some (.int .i64 (dropI W k x)) := by rw [← hD, i64s_at h5 (by omega), if_pos h6]
  have ix := index640 D x _ h5 (by omega) hat
  clear hD hat hsz
  go_wp2
  go_ret2
  exact ⟨rfl, by simpa using hb⟩
set_option maxHeartbeats 400000 in
theorem cdrop_bad (W k x : Int) (w : World) (h : dropBad W k x = true) :
    Calls Try.prog 18 #[.int .i64 W, .int .i64 k, .int .i64 x] w fun e w' => e = .returned (.tuple #[.int .i64 0, .int .i64 1]) ∧ w = w' := by
  have h' : W < 1 ∨ 640 < W ∨ k < -3 ∨ 3 < k ∨ x < 0 ∨ W ≤ x := by simpa [dropBad] using h
  clear h
  rcases (by omega : W < 1 ∨ (¬ W < 1 ∧ 640 < W) ∨ (¬ W < 1 ∧ ¬ 640 < W ∧ k < -3) ∨ (¬ W < 1 ∧ ¬ 640 < W ∧ ¬ k < -3 ∧ 3 < k) ∨ (¬ W < 1 ∧ ¬ 640 < W ∧ ¬ k < -3 ∧ ¬ 3 < k ∧ x < 0) ∨ (¬ W < 1 ∧ ¬ 640 < W ∧ ¬ k < -3 ∧ ¬ 3 < k ∧ ¬ x < 0 ∧ W ≤ x)) with h | ⟨h, h1⟩ | ⟨h, h1, h2⟩ | ⟨h, h1, h2, h3⟩ | ⟨h, h1, h2, h3, h4⟩ | ⟨h, h1, h2, h3, h4, h5⟩
  all_goals
    clear h'
    go_enter Try.func18, Try.ntmps18
    go_wp2
    go_ret2
    exact ⟨rfl, rfl⟩
end Go.Proofs.Ytanbheeekpdkbaa
