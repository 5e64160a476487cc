/- Walk of the law CleanBack. -/
import Derived.Test.YtanbheeekpdkbaaW21
import Derived.Test.YtanbheeekpdkbaaW18
import Derived.Test.YtanbheeekpdkbaaQ4
import Derived.Test.YtanbheeekpdkbaaQ5
namespace Go.Proofs.Ytanbheeekpdkbaa
open Go.RowKit
set_option linter.unusedVariables false

set_option maxRecDepth 100000 in
set_option maxHeartbeats 4000000 in
theorem cleanBack_any (s t k0 : Int) (A : Option Addr) (n c : Nat) (r : Int → Int) (w : World) (hA : ArrB w w.heap.size A n r) (hn : n ≤ maxLen) (hr : IsB r) (hs : 0 ≤ s ∧ s ≤ 65535) (ht : 0 ≤ t ∧ t ≤ 255) (hk : 0 ≤ k0 ∧ k0 ≤ 255) :
    Calls Try.prog 6 #[.int .u16 s, .slice A n c, .int .u8 t, .int .u8 k0] w fun e w' => e = .returned (.bool true) ∧ Below w.heap.size w w' := by
  obtain ⟨hs0, hs1⟩ := hs
  obtain ⟨ht0, ht1⟩ := ht
  obtain ⟨hk0, hk1⟩ := hk
  have q1 : 0 ≤ s % 41 ∧ s % 41 ≤ 40 := by omega
  have q2 : 0 ≤ s / 41 % 31 ∧ s / 41 % 31 ≤ 30 := by omega
  obtain ⟨q11, q12⟩ := q1
  obtain ⟨q21, q22⟩ := q2
  obtain ⟨W, hW⟩ : ∃ W, s % 41 = W := ⟨_, rfl⟩
  obtain ⟨H, hH⟩ : ∃ H, s / 41 % 31 = H := ⟨_, rfl⟩
  rw [hW] at q11 q12; rw [hH] at q21 q22
  obtain ⟨m1, m2⟩ := mul_bd q11 q12 q21 q22
  obtain ⟨N, hN⟩ : ∃ N : Nat, (N : Int) = W * H := ⟨(W * H).toNat, by omega⟩
  have MD := Lib.hid (made_any s W H A n c r w hA hn hr hs0 hs1 hW hH N hN)
  clear hW hH
  have HN := Lib.hid hN; clear hN
  have hq01 := bitQ_01 n r
  go_enter Try.func6, Try.ntmps6
  go_wp2_with fail
  generalize bitQ n r = q at *
  refine MD.out.mono ?_
  rintro e w1 ⟨_, rfl, ⟨g, rfl, hg, kg⟩, hb1⟩
  have b1 : Below w.heap.size w w1 := hb1
  have z1 := hb1.size
  clear MD hb1
  have HQ := Lib.hid hq01; clear hq01
  go_wp2_with fail
  have tm : 1 ≤ 1 + t % 4 ∧ 1 + t % 4 ≤ 4 := by omega
  generalize 1 + t % 4 = m at *
  obtain ⟨tm1, tm2⟩ := tm
  clear ht0 ht1 hs0 hs1 hA hr hn
  have k1 : Blk (w1.alloc (.cells #[.int .i64 W, .int .i64 H, .slice (some ⟨g, 0, none⟩) N N] 25)) w1.heap.size 25 #[.int .i64 W, .int .i64 H, .slice (some ⟨g, 0, none⟩) N N] := Blk.new _ _ _
  have k2 := kg.alloc (.cells #[.int .i64 W, .int .i64 H, .slice (some ⟨g, 0, none⟩) N N] 25)
  have b2 : Below w.heap.size w (w1.alloc (.cells #[.int .i64 W, .int .i64 H, .slice (some ⟨g, 0, none⟩) N N] 25)) := by (repeat (first | exact Below.refl _ _ | assumption | refine Below.drew ?_ | refine below_drewN ?_ _ | refine Below.alloc ?_ (by first | omega | (simp; done) | (simp; omega)) _ | refine Below.setCell ?_ (by first | omega | (simp; done) | (simp; omega)) _ | refine below_setRow ?_ (by first | omega | (simp; done) | (simp; omega)) _ ))
  have hg9 : g ≠ w1.heap.size := by have := kg.lt; omega
  generalize w1.alloc (.cells #[.int .i64 W, .int .i64 H, .slice (some ⟨g, 0, none⟩) N N] 25) = w2 at *
  have hB9 : w.heap.size ≤ w1.heap.size := z1
  generalize w1.heap.size = B9 at *
  clear kg b1 z1 m1 m2
  have wm := mul_bd q11 q12 (by omega : 0 ≤ m) tm2
  obtain ⟨wm1, wm2⟩ := wm
  obtain ⟨wh1, wh2⟩ := mul_bd wm1 wm2 q21 q22
  have v1 : IntKind.i64.wrap (W * m) = W * m := IntWalk.i64_in _ (by omega)
  have v2 : IntKind.i64.wrap (W * m * H) = W * m * H := IntWalk.i64_in _ (by omega)
  obtain ⟨N2, hN2⟩ : ∃ N : Nat, (N : Int) = W * m * H := ⟨(W * m * H).toNat, by omega⟩
  have hmk := makeB (W * m * H) wh1 (by omega)
  rw [show (W * m * H).toNat = N2 by omega] at hmk
  have HN2 := Lib.hid hN2; clear hN2
  obtain ⟨p1, p2, p3⟩ := k1.cells3
  have Z1 := k1.lt
  go_upto_region 3 with fail
  go_cut [11] (fun f wx => ∃ B g2, f = .pointer (some ⟨B, 0, none⟩) ∧ Below w2.heap.size w2 wx ∧ w2.heap.size ≤ g2 ∧ g2 ≠ B ∧ w2.heap.size ≤ B ∧ Blk wx B 25 #[.int .i64 (W * m), .int .i64 H, .slice (some ⟨g2, 0, none⟩) N2 N2] ∧ Blk wx g2 5 (u8s N2 (fun _ => 0)))
  case first =>
    go_region_held3 (fun w' => w'.cell? ⟨B9, 0, none⟩ = some (.int .i64 W) ∧ w'.cell? ⟨B9, 1, none⟩ = some (.int .i64 H))
      (simp [go_sem, *]) (fail)
    all_goals
      go_wp2_with fail
      go_meet
    · exact ⟨w2.heap.size + 1, w2.heap.size, rfl, by (repeat (first | exact Below.refl _ _ | assumption | refine Below.drew ?_ | refine below_drewN ?_ _ | refine Below.alloc ?_ (by first | omega | (simp; done) | (simp; omega)) _ | refine Below.setCell ?_ (by first | omega | (simp; done) | (simp; omega)) _ | refine below_setRow ?_ (by first | omega | (simp; done) | (simp; omega)) _ )), by omega, by omega, by omega, (Blk.new' (by simp) _ _).drew, ((Blk.new _ _ _).alloc _).drew⟩
    · exact ⟨w2.heap.size, w2.heap.size + 1, rfl, by (repeat (first | exact Below.refl _ _ | assumption | refine Below.drew ?_ | refine below_drewN ?_ _ | refine Below.alloc ?_ (by first | omega | (simp; done) | (simp; omega)) _ | refine Below.setCell ?_ (by first | omega | (simp; done) | (simp; omega)) _ | refine below_setRow ?_ (by first | omega | (simp; done) | (simp; omega)) _ )), by omega, by omega, by omega, ((Blk.new _ _ _).alloc _).drew, (Blk.new' (by simp) _ _).drew⟩
  case rest =>
  obtain ⟨B, g2, rfl, hb2, hg2, hgB, hBB, kB, kg2⟩ := hcut
  have hzz := k1.lt; have hzg := k2.lt
  have c1 := k1.below' hb2
  have c2 := k2.below' hb2
  have bc := below_call b2 b2.size hb2
  have d1 : g2 ≠ B9 := by omega
  have d2 : g2 ≠ g := by omega
  have d3 : w.heap.size ≤ g2 := by omega
  have bs2 := b2.size
  have d3 : w.heap.size ≤ g2 := by omega
  clear hb2 k1 k2 b2 Z1 p1 p2 p3 hmk v1 v2 hg2 hBB hzz hzg bs2
  have hW2 : Hid (∀ x : Int, 0 ≤ x → x < W * m → 0 < W) := by
    intro x h0 h1
    rcases Int.lt_or_le 0 W with h | h
    · exact h
    · have : W = 0 := by omega
      subst this; simp at h1; omega
  generalize W * m = W2 at *
  obtain ⟨p1, p2, p3⟩ := kB.cells3
  go_wp2_with fail
  go_loopw [56] (fun s wr => ∃ y : Int, 0 ≤ y ∧ y ≤ H ∧ s = .int .i64 y ∧ Below w.heap.size w wr ∧ Blk wr B9 25 #[.int .i64 W, .int .i64 H, .slice (some ⟨g, 0, none⟩) N N] ∧ Blk wr g 5 (u8s N q) ∧ Blk wr B 25 #[.int .i64 W2, .int .i64 H, .slice (some ⟨g2, 0, none⟩) N2 N2] ∧ Blk wr g2 5 (u8s N2 (ras W2 (repQ W W2 q) y 0))) (fun s _ => (H - intOf s).toNat)
  case atStart => exact ⟨0, by omega, by omega, rfl, bc, c1, c2, kB, kg2.u8conv fun i h0 _ => (ras_start h0 wm1).symm⟩
  case round =>
    obtain ⟨y, hy0, hy, rfl, b3, k3, k4, k5, k6⟩ := hrel
    clear bc c1 c2 kB kg2 p1 p2 p3
    obtain ⟨p1, p2, p3⟩ := k5.cells3
    by_cases hyH : y < H
    · go_wp2_with fail
      go_loopw [61] (fun s wr => ∃ x : Int, 0 ≤ x ∧ x ≤ W2 ∧ s = .int .i64 x ∧ Below w.heap.size w wr ∧ Blk wr B9 25 #[.int .i64 W, .int .i64 H, .slice (some ⟨g, 0, none⟩) N N] ∧ Blk wr g 5 (u8s N q) ∧ Blk wr B 25 #[.int .i64 W2, .int .i64 H, .slice (some ⟨g2, 0, none⟩) N2 N2] ∧ Blk wr g2 5 (u8s N2 (ras W2 (repQ W W2 q) y x))) (fun s _ => (W2 - intOf s).toNat)
      case atStart => exact ⟨0, by omega, by omega, rfl, b3, k3, k4, k5, k6⟩
      case round =>
        obtain ⟨x, hx0, hx, rfl, b4, c3, c4, c5, c6⟩ := hrel
        clear b3 k3 k4 k5 k6 p1 p2 p3
        by_cases hxW : x < W2
        · have hWp := hW2.out x hx0 hxW
          obtain ⟨p1, p2, p3⟩ := c3.cells3
          obtain ⟨r1, r2, r3⟩ := c5.cells3
          obtain ⟨i1, i2, i3⟩ := idx_lt hx0 hxW hy0 hyH
          have x0 : 0 ≤ x % W := Int.emod_nonneg _ (by omega)
          have x1 : x % W < W := Int.emod_lt_of_pos _ hWp
          obtain ⟨j1, j2, j3⟩ := idx_lt x0 x1 hy0 hyH
          have i4 : y * W2 + x < (N2 : Int) := by rw [HN2.out, Int.mul_comm W2 H]; exact i2
          have j4 : y * W + x % W < (N : Int) := by rw [HN.out, Int.mul_comm W H]; exact j2
          have j5 : (N : Int) ≤ 1200 := by rw [HN.out]; exact Int.le_trans (mul_bd q11 q12 q21 q22).2 (by omega)
          have i5 : (N2 : Int) ≤ 4800 := by rw [HN2.out]; exact Int.le_trans wh2 (by omega)
          have pin := c4.u8at j1 j4
          have ho := c6.u8at i1 i4
          have hf := c6.frozen (y * W2 + x).toNat
          have v1 : IntKind.i64.wrap (y * W2) = y * W2 := IntWalk.i64_in _ (by omega)
          have v2 : IntKind.i64.wrap (y * W2 + x) = y * W2 + x := IntWalk.i64_in _ (by omega)
          have v3 : IntKind.i64.wrap (y * W) = y * W := IntWalk.i64_in _ (by omega)
          have v4 : IntKind.i64.wrap (y * W + x % W) = y * W + x % W := IntWalk.i64_in _ (by omega)
          have v5 : x.tmod W = x % W := Int.tmod_eq_emod_of_nonneg hx0
          have v6 : ¬ W = 0 := by omega
          have v7 : (W == 0) = false := by simp; omega
          have RS := Lib.hid (fun i => ras_set (f := repQ W W2 q) (y := y) hx0 hxW (repQ_at (W := W) (q := q) hx0 hxW).symm i)
          have U := Lib.hid (c6.u8set _ i1 (q (y * W + x % W)))
          go_wp2
          go_still_tail 22, (by kernel_rfl)
          change wpList _ _ _ _ _ wr.drew
          clear v1 v2 v3 v4 v5 v6 v7
          go_wp2
          go_roundw
          case rel =>
            exact ⟨x + 1, by omega, by omega, by go_num, by (repeat (first | exact Below.refl _ _ | assumption | refine Below.drew ?_ | refine below_drewN ?_ _ | refine Below.alloc ?_ (by first | omega | (simp; done) | (simp; omega)) _ | refine Below.setCell ?_ (by first | omega | (simp; done) | (simp; omega)) _ | refine below_setRow ?_ (by first | omega | (simp; done) | (simp; omega)) _ )), c3.far (by simp; omega) _, c4.far (by simp; omega) _, c5.far (by simp; omega) _, Blk.u8conv U.out fun i _ _ => RS.out i⟩
          case measure => simp [intOf]; omega
        · obtain rfl : x = W2 := by omega
          obtain ⟨r1, r2, r3⟩ := c5.cells3
          go_wp2
          go_roundw
          case rel => exact ⟨y + 1, by omega, by omega, by go_num, b4, c3, c4, c5, c6.u8conv fun i h0 hi => ras_row (h := H) wm1 h0 (by have := HN2.out; omega)⟩
          case measure => simp [intOf]; omega
    · obtain rfl : y = H := by omega
      have k7 := k6.u8conv fun i h0 hi => ras_end (h := y) (f := repQ W W2 q) wm1 h0 (by have := HN2.out; omega)
      clear k6 k3 k4
      have e1 : k0 % 7 - 3 ≤ 3 ∧ -3 ≤ k0 % 7 - 3 := by omega
      obtain ⟨e11, e12⟩ := e1
      have hQB : IsB (repQ W W2 q) := fun i => by have := HQ.out (i / W2 * W + i % W2 % W); unfold repQ; omega
      have hQ1 : ∀ i : Int, 0 ≤ i → i < N2 → repQ W W2 q i ≤ 1 := fun i _ _ => by have := HQ.out (i / W2 * W + i % W2 % W); unfold repQ; omega
      generalize repQ W W2 q = Q at *
      have hC := chk_mk wm1 (by omega) q21 (by omega) HN2.out hQ1
      obtain ⟨gb1, gb2⟩ := grt_bd wm1 (by omega : W2 ≤ 640) e12 e11
      have hM := movE_mk (way := 1) hC e12 e11 (by omega) (by omega)
      obtain ⟨Wa, Ha, Na, ma⟩ := msize_ex W2 y (grt W2 (k0 % 7 - 3)) 0 (fun _ => ⟨wm1, by omega⟩)
      have la : Na ≤ 409600 := msize_le (way := 1) hM (by simpa using ma)
      obtain ⟨rfl, rfl, hNa⟩ := ma.ok rfl
      have hQaB : IsB (movQ Wa y Q (k0 % 7 - 3) 1) := isB_mov hQB
      have hCa := chk_mov (h := y + grt Wa (k0 % 7 - 3)) hM (by omega)
      rw [show (Wa * (y + grt Wa (k0 % 7 - 3))).toNat = Na by omega] at hCa
      have hMb := movE_mk (way := -1) hCa e12 e11 (by omega) (by omega)
      have mb : MSize Wa (y + grt Wa (k0 % 7 - 3)) (-grt Wa (k0 % 7 - 3)) 0 Wa y N2 := ⟨fun _ => ⟨rfl, by omega, by rw [HN2.out]; congr 1; omega⟩, fun h => absurd rfl h⟩
      have MB := Lib.hid fun i h0 hi => mov_back (p := Q) HN2.out wm1 e12 e11 (by omega) rfl h0 hi (i := i)
      have CM := Lib.hid fun x h0 hx => colS_mov (p := Q) (n := N2) (m := Na) HN2.out hNa q21 e12 e11 (by omega) rfl h0 hx (x := x)
      have l2 : N2 ≤ 409600 := by have := HN2.out; omega
      have hNn : N2 ≤ maxLen := by unfold maxLen; omega
      have C1 := Lib.hid fun w' h' => skew_all Wa y Wa (y + grt Wa (k0 % 7 - 3)) 0 Na (some ⟨g2, 0, none⟩) N2 N2 Q (k0 % 7 - 3) w' h' (by unfold maxLen; omega) hQB hM ma
      have C2 := Lib.hid fun A' c' w' h' => unskew_all Wa (y + grt Wa (k0 % 7 - 3)) Wa y 0 N2 A' Na c' _ (k0 % 7 - 3) w' h' (by unfold maxLen; omega) hQaB hMb mb
      have C3 := Lib.hid fun w' h' => profile_ok Wa y (some ⟨g2, 0, none⟩) N2 N2 Q w' h' (by unfold maxLen; omega) hQB hC
      have C4 := Lib.hid fun A' c' w' h' => profile_ok Wa (y + grt Wa (k0 % 7 - 3)) A' Na c' _ w' h' (by unfold maxLen; omega) hQaB hCa
      have GT := Lib.hid (mxS_grt (W := Wa) (k := k0 % 7 - 3) wm1 e12 e11)
      have DK := Lib.hid fun (x : Int) => drop_step (W := Wa) (x := x) e12 e11
      have MU := Lib.hid fun i => @mxS_up Wa (k0 % 7 - 3) i
      have MN := Lib.hid fun i => @mxS_no Wa (k0 % 7 - 3) i
      have MX := Lib.hid fun i hi => mxS_bd (W := Wa) (k := k0 % 7 - 3) (by omega) e12 e11 i hi
      have DB := Lib.hid fun x h0 h1 => drop_bd (W := Wa) (k := k0 % 7 - 3) (x := x) (by omega) e12 e11 h0 h1
      have K0 := ((Kp.nil wr).addB k5).addA (k7.arrB k7.lt)
      have b0 := b3
      clear b3 k5 k7 hC hM ma mb hCa hMb hQ1 hQaB hQB hNa
      go_wp2_with fail
      generalize k0 % 7 - 3 = k at *
      have G0 : Hid (y + grt Wa k = y + grt Wa k) := by show _ = _; rfl
      generalize grt Wa k = gr at *
      generalize hQa : movQ Wa y Q k 1 = Qa at *
      generalize hQb : movQ Wa (y + gr) Qa k (-1) = Qb at *
      clear hQa hQb
      refine (C1.out _ (K0.a 0 rfl)).mono ?_
      rintro e v21 ⟨_, rfl, ⟨Ax, cx, rfl, hgx, ax⟩, hb21⟩
      have K21a := (K0.below hb21).addA ax
      have b21a := below_call b0 b0.size hb21
      have z21 := b21a.size
      have b21 : Below w.heap.size w (v21.alloc (.cells #[.int .i64 Wa, .int .i64 (y + gr), .slice Ax Na cx] 25)) := by (repeat (first | exact Below.refl _ _ | assumption | refine Below.drew ?_ | refine below_drewN ?_ _ | refine Below.alloc ?_ (by first | omega | (simp; done) | (simp; omega)) _ | refine Below.setCell ?_ (by first | omega | (simp; done) | (simp; omega)) _ | refine below_setRow ?_ (by first | omega | (simp; done) | (simp; omega)) _ ))
      have K21 := K21a.new 25 #[.int .i64 Wa, .int .i64 (y + gr), .slice Ax Na cx]
      clear K0 b0 K21a b21a hb21 ax hgx p1 p2 p3 z21 C1
      obtain ⟨p1, p2, p3⟩ := (K21.b 0 rfl).cells3
      go_wp2_with fail
      generalize v21.alloc (.cells #[.int .i64 Wa, .int .i64 (y + gr), .slice Ax Na cx] 25) = w21 at *
      refine (C2.out _ _ _ (K21.a 0 rfl)).mono ?_
      rintro e v22 ⟨_, rfl, ⟨Ay, cy, rfl, hgy, ay⟩, hb22⟩
      have K22a := (K21.below hb22).addA ay
      have b22a := below_call b21 b21.size hb22
      have z22 := b22a.size
      have b22 : Below w.heap.size w (v22.alloc (.cells #[.int .i64 Wa, .int .i64 y, .slice Ay N2 cy] 25)) := by (repeat (first | exact Below.refl _ _ | assumption | refine Below.drew ?_ | refine below_drewN ?_ _ | refine Below.alloc ?_ (by first | omega | (simp; done) | (simp; omega)) _ | refine Below.setCell ?_ (by first | omega | (simp; done) | (simp; omega)) _ | refine below_setRow ?_ (by first | omega | (simp; done) | (simp; omega)) _ ))
      have K22 := K22a.new 25 #[.int .i64 Wa, .int .i64 y, .slice Ay N2 cy]
      clear K21 b21 K22a b22a hb22 ay hgy p1 p2 p3 z22 C2
      obtain ⟨p1, p2, p3⟩ := (K22.b 2 rfl).cells3
      go_wp2_with fail
      generalize v22.alloc (.cells #[.int .i64 Wa, .int .i64 y, .slice Ay N2 cy] 25) = w22 at *
      refine (C3.out _ (K22.a 2 rfl)).mono ?_
      rintro e v23 ⟨_, rfl, ⟨r1, c1, rfl, hr1, hc1, -, -, kc1⟩, hb23⟩
      have K23 := (K22.below hb23).addB kc1
      have b23 := below_call b22 b22.size hb23
      clear K22 b22 hb23 hr1 hc1 kc1 p1 p2 p3 C3
      obtain ⟨p1, p2, p3⟩ := (K23.b 2 rfl).cells3
      go_wp2_with fail
      refine (C4.out _ _ _ (K23.a 1 rfl)).mono ?_
      rintro e v24 ⟨_, rfl, ⟨r2, c2, rfl, hr2, hc2, -, -, kc2⟩, hb24⟩
      have K24 := (K23.below hb24).addB kc2
      have b24 := below_call b23 b23.size hb24
      clear K23 b23 hb24 hr2 hc2 kc2 p1 p2 p3 C4
      obtain ⟨p1, p2, p3⟩ := (K24.b 2 rfl).cells3
      obtain ⟨r1, r2, r3⟩ := (K24.b 4 rfl).cells3
      go_wp2_with fail
      refine (sameInk_true Wa y Ay (some ⟨g2, 0, none⟩) N2 cy N2 Qb Q _ (K24.a 0 rfl) (K24.a 2 rfl) hNn MB.out).mono ?_
      rintro e v25 ⟨rfl, hb25⟩
      have K25 := K24.below hb25
      have b25 := below_call b24 b24.size hb25
      clear K24 b24 hb25 p1 p2 p3 r1 r2 r3 MB
      have EQ : sameI Wa.toNat Wa.toNat (colS Wa N2 Q) (colS Wa Na Qa) = true := sameI_iff.2 ⟨rfl, fun i h0 hi => (CM.out i h0 (by omega)).symm⟩
      have lW : Wa.toNat ≤ maxLen := by unfold maxLen; omega
      go_wp2_with fail
      refine (equalI_any (some ⟨c1, 0, none⟩) (some ⟨c2, 0, none⟩) Wa.toNat Wa.toNat Wa.toNat Wa.toNat _ _ _ ((K25.b 1 rfl).arrI (K25.b 1 rfl).lt) ((K25.b 0 rfl).arrI (K25.b 0 rfl).lt) lW lW).mono ?_
      rintro e v26 ⟨rfl, nq, rfl⟩
      rw [EQ]
      have hb26 : Below v25.heap.size v25 (v25.drewN nq) := drewN_below nq
      clear EQ CM lW
      have K26 := K25.below hb26
      have b26 := below_call b25 b25.size hb26
      clear K25 b25 hb26  
      generalize v25.drewN nq = v26 at *
      obtain ⟨p1, p2, p3⟩ := (K26.b 4 rfl).cells3
      obtain ⟨r1, r2, r3⟩ := (K26.b 3 rfl).cells3
      go_wp2_with fail
      have KK : Kp v26 [(B, 25, #[.int .i64 Wa, .int .i64 y, .slice (some ⟨g2, 0, none⟩) N2 N2]), (_, 25, #[.int .i64 Wa, .int .i64 (y + gr), .slice Ax Na cx])] [(some ⟨g2, 0, none⟩, N2, Q)] := (((Kp.nil _).addB (K26.b 3 rfl)).addB (K26.b 4 rfl)).addA (K26.a 2 rfl)
      clear K26
      generalize v21.heap.size = BX at *
      go_loopw [25, 144] (fun m s wr => ∃ i : Nat, (i : Int) ≤ Wa ∧ s = .int .i64 i ∧ m = .int .i64 (mxS Wa k i) ∧ Below w.heap.size w wr ∧ Kp wr [(B, 25, #[.int .i64 Wa, .int .i64 y, .slice (some ⟨g2, 0, none⟩) N2 N2]), (BX, 25, #[.int .i64 Wa, .int .i64 (y + gr), .slice Ax Na cx])] [(some ⟨g2, 0, none⟩, N2, Q)]) (fun _ s _ => (Wa - intOf s).toNat)
      case atStart => exact ⟨0, by omega, rfl, rfl, b26, KK⟩
      case round =>
        obtain ⟨i, hi, rfl, rfl, bL, KL⟩ := hrel
        clear KK b26 p1 p2 p3 r1 r2 r3
        obtain ⟨p1, p2, p3⟩ := (KL.b 0 rfl).cells3
        obtain ⟨M1, M2⟩ := MX.out i hi
        by_cases hlt : (i : Int) < Wa
        · obtain ⟨D1, D2⟩ := DB.out i (by omega) hlt
          have MUi := Lib.hid (MU.out i); have MNi := Lib.hid (MN.out i)
          have CD := Lib.hid fun w' => cdrop_ok Wa k i w' (by simp [dropBad]; omega)
          by_cases h0 : i = 0
          · have h0' : (i : Int) ≤ 0 := by omega
            generalize dropI Wa k i = D at *
            generalize mxS Wa k i = M at *
            clear h0
            by_cases hm : M ≤ D
            all_goals
              go_wp2_with fail
              refine (CD.out _).mono ?_
              rintro e u1 ⟨rfl, hb1⟩
              have K1 := KL.below hb1
              have b1 := below_call bL bL.size hb1
              clear KL bL hb1 p1 p2 p3
              go_wp2
              all_goals
                go_roundw
                case rel => exact ⟨i + 1, by omega, by go_num, by first | (rw [MUi.out hm]; done) | (rw [MUi.out hm]; congr 1; omega) | (rw [MNi.out hm]; done) | (rw [MNi.out hm]; congr 1; omega), b1, K1⟩
                case measure => simp [intOf]; omega
          · have h0' : (0 : Int) < i := by omega
            have CE := Lib.hid fun w' => cdrop_ok Wa k ((i : Int) - 1) w' (by simp [dropBad]; omega)
            have dk := DK.out i
            obtain ⟨⟨dk1, dk2⟩, dk3, dk4, dk5⟩ := dk
            obtain ⟨L1, L2⟩ := DB.out ((i : Int) - 1) (by omega) (by omega)
            have dk3 := Lib.hid dk3; have dk4 := Lib.hid dk4; have dk5 := Lib.hid dk5
            generalize dropI Wa k i = D at *
            generalize dropI Wa k ((i : Int) - 1) = L at *
            generalize mxS Wa k i = M at *
            clear h0
            rcases (by omega : 0 < k ∨ k < 0 ∨ k = 0) with hk | hk | hk
            · have d3 := dk3.out hk
              by_cases hm : M ≤ D
              all_goals
                go_wp2_with fail
                refine (CD.out _).mono ?_
                rintro e u1 ⟨rfl, hb1⟩
                have K1 := KL.below hb1
                have b1 := below_call bL bL.size hb1
                clear KL bL hb1 p1 p2 p3
                obtain ⟨p1, p2, p3⟩ := (K1.b 0 rfl).cells3
                go_wp2_with fail
                refine (CE.out _).mono ?_
                rintro e u2 ⟨rfl, hb2⟩
                have K2 := K1.below hb2
                have b2 := below_call b1 b1.size hb2
                clear K1 b1 hb2 p1 p2 p3
                go_wp2
                all_goals
                  go_roundw
                  case rel => exact ⟨i + 1, by omega, by go_num, by first | (rw [MUi.out hm]; done) | (rw [MUi.out hm]; congr 1; omega) | (rw [MNi.out hm]; done) | (rw [MNi.out hm]; congr 1; omega), b2, K2⟩
                  case measure => simp [intOf]; omega
            · have d3 := dk4.out hk
              by_cases hm : M ≤ D
              all_goals
                go_wp2_with fail
                refine (CD.out _).mono ?_
                rintro e u1 ⟨rfl, hb1⟩
                have K1 := KL.below hb1
                have b1 := below_call bL bL.size hb1
                clear KL bL hb1 p1 p2 p3
                obtain ⟨p1, p2, p3⟩ := (K1.b 0 rfl).cells3
                go_wp2_with fail
                refine (CE.out _).mono ?_
                rintro e u2 ⟨rfl, hb2⟩
                have K2 := K1.below hb2
                have b2 := below_call b1 b1.size hb2
                clear K1 b1 hb2 p1 p2 p3
                go_wp2
                all_goals
                  go_roundw
                  case rel => exact ⟨i + 1, by omega, by go_num, by first | (rw [MUi.out hm]; done) | (rw [MUi.out hm]; congr 1; omega) | (rw [MNi.out hm]; done) | (rw [MNi.out hm]; congr 1; omega), b2, K2⟩
                  case measure => simp [intOf]; omega
            · have d3 := dk5.out hk
              have hkb : (k == 0) = true := by simp [hk]
              have HK := Lib.hid hk; clear hk
              have hk2 : ¬ 0 < k := by have := HK.out; omega
              have hk3 : ¬ k < 0 := by have := HK.out; omega
              subst d3
              by_cases hm : M ≤ 0
              all_goals
                go_wp2_with fail
                refine (CD.out _).mono ?_
                rintro e u1 ⟨rfl, hb1⟩
                have K1 := KL.below hb1
                have b1 := below_call bL bL.size hb1
                clear KL bL hb1 p1 p2 p3
                obtain ⟨p1, p2, p3⟩ := (K1.b 0 rfl).cells3
                go_wp2_with fail
                refine (CE.out _).mono ?_
                rintro e u2 ⟨rfl, hb2⟩
                have K2 := K1.below hb2
                have b2 := below_call b1 b1.size hb2
                clear K1 b1 hb2 p1 p2 p3
                go_wp2
                all_goals
                  go_roundw
                  case rel => exact ⟨i + 1, by omega, by go_num, by first | (rw [MUi.out hm]; done) | (rw [MUi.out hm]; congr 1; omega) | (rw [MNi.out hm]; done) | (rw [MNi.out hm]; congr 1; omega), b2, K2⟩
                  case measure => simp [intOf]; omega
        · have e : mxS Wa k i = gr := by rw [← GT.out]; congr 1; omega
          rw [e]
          clear e
          obtain ⟨r1, r2, r3⟩ := (KL.b 1 rfl).cells3
          go_wp2_with fail
          refine (awake_any _).mono ?_
          rintro e u1 ⟨rfl, hb1⟩
          have b1 := below_call bL bL.size hb1
          go_wp2
          go_ret
          exact ⟨rfl, b1⟩
end Go.Proofs.Ytanbheeekpdkbaa
