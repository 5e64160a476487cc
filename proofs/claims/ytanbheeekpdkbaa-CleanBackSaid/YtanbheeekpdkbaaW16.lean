/- Walks: the reference's drops, and its two moves. -/
import Derived.Test.YtanbheeekpdkbaaW15
import Derived.Test.YtanbheeekpdkbaaQ2
import Derived.Deep.RegionHeld3
namespace Go.Proofs.Ytanbheeekpdkbaa
open Go.RowKit
set_option linter.unusedVariables false

set_option maxHeartbeats 400000 in
theorem rdrop_any (W k x : Int) (w : World) (h2 : W ≤ 640) (h3 : -3 ≤ k) (h4 : k ≤ 3) (h5 : 0 ≤ x) (h6 : x < W) :
    Calls Try.prog 19 #[.int .i64 W, .int .i64 k, .int .i64 x] w fun e w' => e = .returned (.int .i64 (dropI W k x)) ∧ w = w' := by
  by_cases hk : k < 0
  · obtain ⟨a1, a2⟩ := mul_bd (a := W - 1 - x) (b := -k) (m := 639) (n := 3) (by omega) (by omega) (by omega) (by omega)
    have hr : Hid (dropI W k x = (W - 1 - x) * (-k) / 64) := by show _ = _; unfold dropI; rw [if_pos hk]
    go_enter Try.func19, Try.ntmps19
    go_wp2
    go_ret
    exact ⟨ret_int hr.out.symm, rfl⟩
  · obtain ⟨a1, a2⟩ := mul_bd (a := x) (b := k) (m := 639) (n := 3) (by omega) (by omega) (by omega) (by omega)
    have hr : Hid (dropI W k x = x * k / 64) := by show _ = _; unfold dropI; rw [if_neg hk]
    go_enter Try.func19, Try.ntmps19
    go_wp2
    go_ret
    exact ⟨ret_int hr.out.symm, rfl⟩

set_option maxHeartbeats 400000 in
theorem rgreatest_any (W k : Int) (w : World) (h1 : 0 ≤ W) (h2 : W ≤ 640) (h3 : -3 ≤ k) (h4 : k ≤ 3) :
    Calls Try.prog 53 #[.int .i64 W, .int .i64 k] w fun e w' => e = .returned (.int .i64 (grt W k)) ∧ w = w' := by
  have hG := Lib.hid (mxS_grt (W := W) (k := k) h1 h3 h4)
  obtain ⟨N, hN⟩ : ∃ N : Nat, (N : Int) = W := ⟨W.toNat, by omega⟩
  have HN : Hid (W.toNat = N) := by show _ = _; omega
  go_enter Try.func53, Try.ntmps53
  go_wp2
  go_loop [5, 6] (fun m s => ∃ i : Nat, i ≤ N ∧ s = .int .i64 i ∧ m = .int .i64 (mxS W k i)) (fun _ s => N - (intOf s).toNat)
  case atStart => exact ⟨0, by omega, rfl, rfl⟩
  case round =>
    obtain ⟨i, hi, rfl, rfl⟩ := hrel
    obtain ⟨b1, b2⟩ := mxS_bd (W := W) h2 h3 h4 i (by omega)
    by_cases hlt : i < N
    · have MU := Lib.hid (@mxS_up W k i)
      have MN := Lib.hid (@mxS_no W k i)
      have DR := Lib.hid fun w' => rdrop_any W k i w' h2 h3 h4 (by omega) (by omega)
      obtain ⟨d1, d2⟩ := drop_bd (W := W) (k := k) (x := i) h2 h3 h4 (by omega) (by omega)
      generalize mxS W k i = M at *
      generalize dropI W k i = D at *
      by_cases hm : M ≤ D
      · go_wp2_with (go_at_call 19; refine (DR.out _).mono ?_; rintro e w' ⟨rfl, rfl⟩)
        go_round
        case rel => exact ⟨i + 1, by omega, by go_num, by rw [MU.out hm]; first | rfl | (congr 1; omega)⟩
        case measure => simp [intOf]; omega
      · go_wp2_with (go_at_call 19; refine (DR.out _).mono ?_; rintro e w' ⟨rfl, rfl⟩)
        go_round
        case rel => exact ⟨i + 1, by omega, by go_num, by rw [MN.out hm]; first | rfl | (congr 1; omega)⟩
        case measure => simp [intOf]; omega
    · obtain rfl : i = N := by omega
      go_wp2
      go_ret
      exact ⟨ret_int (by rw [← hG.out, HN.out]), rfl⟩

structure RmR (w wr : World) (W H h : Int) (N : Nat) (A : Option Addr) (n c g s8 : Nat) (p : Int → Int) (k way y x : Int) : Prop where
  bl : Below w.heap.size w wr
  k2 : Blk wr w.heap.size 25 #[.int .i64 W, .int .i64 H, .slice A n c]
  k4 : Blk wr (w.heap.size + 1) 25 #[.int .i64 0, .int .i64 0, .slice none 0 0]
  k8 : Blk wr s8 25 #[.int .i64 W, .int .i64 h, .slice (some ⟨g, 0, none⟩) N N]
  kg : Blk wr g 5 (u8s N (drawR W H p k way y x))
theorem RmR.keep {w wr wr' : World} {W H h : Int} {N : Nat} {A : Option Addr} {n c g s8 : Nat} {p : Int → Int} {k way y x : Int} (m : RmR w wr W H h N A n c g s8 p k way y x) (hb : Below wr.heap.size wr wr') : RmR w wr' W H h N A n c g s8 p k way y x :=
  ⟨m.bl.trans (hb.mono m.bl.size), m.k2.below' hb, m.k4.below' hb, m.k8.below' hb, m.kg.below' hb⟩
theorem RmR.drew {w wr : World} {W H h : Int} {N : Nat} {A : Option Addr} {n c g s8 : Nat} {p : Int → Int} {k way y x : Int} (m : RmR w wr W H h N A n c g s8 p k way y x) : RmR w wr.drew W H h N A n c g s8 p k way y x :=
  ⟨m.bl.drew, m.k2.drew, m.k4.drew, m.k8.drew, m.kg.drew⟩
theorem RmR.conv {w wr : World} {W H h : Int} {N : Nat} {A : Option Addr} {n c g s8 : Nat} {p : Int → Int} {k way y x y' x' : Int} (m : RmR w wr W H h N A n c g s8 p k way y x) (hc : ∀ i : Int, 0 ≤ i → i < N → drawR W H p k way y x i = drawR W H p k way y' x' i) : RmR w wr W H h N A n c g s8 p k way y' x' :=
  ⟨m.bl, m.k2, m.k4, m.k8, m.kg.u8conv hc⟩
theorem RmR.set {w wr wr' : World} {W H h : Int} {N : Nat} {A : Option Addr} {n c g s8 : Nat} {p : Int → Int} {k way y x : Int} (m : RmR w wr W H h N A n c g s8 p k way y x) (hg : w.heap.size + 2 ≤ g) (h8 : s8 ≠ g) (hb : wr.grownBy wr' (some g)) (hk : Blk wr' g 5 (u8s N (upd (drawR W H p k way y x) (y * W + x) 1)))
    (hc : ∀ i : Int, 0 ≤ i → i < N → upd (drawR W H p k way y x) (y * W + x) 1 i = drawR W H p k way y (x + 1) i) : RmR w wr' W H h N A n c g s8 p k way y (x + 1) :=
  ⟨⟨hb.os.trans m.bl.os, hb.tape.trans m.bl.tape, hb.output.trans m.bl.output, Nat.le_trans m.bl.size hb.size, fun j hj => (hb.block j (by have := m.bl.size; omega) (by simp; omega)).trans (m.bl.block j hj)⟩,
    m.k2.grown hb (by simp; omega), m.k4.grown hb (by simp; omega), m.k8.grown hb (by simp; omega), hk.u8conv hc⟩

set_option maxRecDepth 100000 in
set_option maxHeartbeats 1000000 in
theorem rskew_ok (W H h : Int) (N : Nat) (A : Option Addr) (n c : Nat) (p : Int → Int) (k : Int) (w : World) (hA : ArrB w w.heap.size A n p) (hn : n ≤ maxLen) (hB : IsB p)
    (hE : movE W H n p k 1 = 0) (hh : h = H + grt W k) (hN : (N : Int) = W * h) :
    Calls Try.prog 20 #[.agg #[.int .i64 W, .int .i64 H, .slice A n c], .int .i64 k] w
      (New w fun v w' => ∃ g, v = .tuple #[g, .int .i64 0] ∧ OutN w w' W h N (movR W H p k 1) g) := by
  subst hh
  obtain ⟨hc, hk1, hk2, hh1, hh2⟩ := movE_ok hE
  obtain ⟨hW1, hW2, hH1, hH2, hnn, -⟩ := chk_ok hc
  have e1 : H + 1 * grt W k = H + grt W k := by omega
  rw [e1] at hh1 hh2
  have HC := Lib.hid hc
  have HNN := Lib.hid hnn
  have HN := Lib.hid hN
  have GR := Lib.hid fun w' => rgreatest_any W k w' hW1 hW2 hk1 hk2
  obtain ⟨hg1, hg2⟩ := grt_bd hW1 hW2 hk1 hk2
  generalize grt W k = G at *
  clear hE hc hnn hN e1
  go_enter Try.func20, Try.ntmps20
  go_wp2_with fail
  refine (rcheck_any W H A n c p _ (hA.to (by (repeat (first | exact Below.refl _ _ | assumption | refine Below.drew ?_ | refine below_drewN ?_ _ | refine Below.alloc ?_ (by first | omega | (simp; done) | (simp; omega)) _ | refine Below.setCell ?_ (by first | omega | (simp; done) | (simp; omega)) _ | refine below_setRow ?_ (by first | omega | (simp; done) | (simp; omega)) _ )))) hn hB).mono ?_
  rintro e w1 ⟨rfl, hb1⟩
  rw [HC.out]
  have k3 : Blk w1 w.heap.size 25 #[.int .i64 W, .int .i64 H, .slice A n c] := ((Blk.new _ _ _).alloc _).below' hb1
  have k6 : Blk w1 (w.heap.size + 1) 25 #[.int .i64 0, .int .i64 0, .slice none 0 0] := (Blk.new' (by simp) _ _).below' hb1
  have z1 : w.heap.size + 2 ≤ w1.heap.size := by simpa using hb1.size
  have b1 : Below w.heap.size w w1 := below_call (by (repeat (first | exact Below.refl _ _ | assumption | refine Below.drew ?_ | refine below_drewN ?_ _ | refine Below.alloc ?_ (by first | omega | (simp; done) | (simp; omega)) _ | refine Below.setCell ?_ (by first | omega | (simp; done) | (simp; omega)) _ | refine below_setRow ?_ (by first | omega | (simp; done) | (simp; omega)) _ ))) (by simp; try omega) hb1
  clear hb1
  obtain ⟨p1, p2, p3⟩ := k3.cells3
  have hs : IntKind.i64.wrap (H + G) = H + G := IntWalk.i64_in _ (by omega)
  go_wp2_with fail
  go_quiet ((go_at_call 53; exact qcallN (GR.out _)))
  replace k3 := k3.drewN nq
  replace k6 := k6.drewN nq
  replace b1 := below_drewN b1 nq
  replace z1 : w.heap.size + 2 ≤ (w1.drewN nq).heap.size := z1
  have p1 := p1; have p2 := p2; have p3 := p3
  clear p1 p2 p3 hs
  generalize w1.drewN nq = w2 at *
  obtain ⟨p1, p2, p3⟩ := k3.cells3
  go_wp2_with fail
  refine (rnew_any W (H + G) N _ hW1 hW2 hh1 hh2 HN.out).mono ?_
  rintro e w3 ⟨_, rfl, ⟨g, rfl, hg, kg⟩, hb3⟩
  replace k3 := k3.below' hb3
  replace k6 := k6.below' hb3
  replace b1 := below_call b1 (by omega) hb3
  have z3 : w2.heap.size ≤ w3.heap.size := hb3.size
  have z4 := kg.lt
  clear hb3 p1 p2 p3
  obtain ⟨p1, p2, p3⟩ := k3.cells3
  have hg0 : w.heap.size + 2 ≤ g := by omega
  clear hg
  go_wp2_with fail
  have m : ∀ w', w' = w3.alloc (.cells #[.int .i64 W, .int .i64 (H + G), .slice (some ⟨g, 0, none⟩) N N] 25) → RmR w w' W H (H + G) N A n c g w3.heap.size p k 1 0 0 := by
    rintro _ rfl
    exact ⟨by (repeat (first | exact Below.refl _ _ | assumption | refine Below.drew ?_ | refine below_drewN ?_ _ | refine Below.alloc ?_ (by first | omega | (simp; done) | (simp; omega)) _ | refine Below.setCell ?_ (by first | omega | (simp; done) | (simp; omega)) _ | refine below_setRow ?_ (by first | omega | (simp; done) | (simp; omega)) _ )), k3.alloc _, k6.alloc _, Blk.new _ _ _, (kg.alloc _).u8conv fun j h0 _ => (drawR_start h0 hW1).symm⟩
  replace m := m _ rfl
  clear k3 k6 kg b1 p1 p2 p3 z1 z3
  generalize w3.alloc (.cells #[.int .i64 W, .int .i64 (H + G), .slice (some ⟨g, 0, none⟩) N N] 25) = w5 at *
  go_loopw [9] (fun i wr => ∃ y : Int, 0 ≤ y ∧ y ≤ H + G ∧ i = .int .i64 y ∧ RmR w wr W H (H + G) N A n c g w3.heap.size p k 1 y 0) (fun i _ => (H + G - intOf i).toNat)
  case atStart => exact ⟨0, by omega, by omega, rfl, m⟩
  case round =>
    obtain ⟨y, hy0, hy, rfl, m1⟩ := hrel
    clear m
    obtain ⟨p1, p2, p3⟩ := m1.k2.cells3
    by_cases hyH : y < H + G
    · go_wp2
      go_loopw [10] (fun i wr => ∃ x : Int, 0 ≤ x ∧ x ≤ W ∧ i = .int .i64 x ∧ RmR w wr W H (H + G) N A n c g w3.heap.size p k 1 y x) (fun i _ => (W - intOf i).toNat)
      case atStart => exact ⟨0, by omega, by omega, rfl, m1⟩
      case round =>
        obtain ⟨x, hx0, hx, rfl, m2⟩ := hrel
        clear m1 p1 p2 p3
        obtain ⟨p1, p2, p3⟩ := m2.k2.cells3
        by_cases hxW : x < W
        · obtain ⟨hd1, hd2⟩ := drop_bd (W := W) (k := k) (x := x) hW2 hk1 hk2 hx0 hxW
          have DR := Lib.hid fun w' => rdrop_any W k x w' hW2 hk1 hk2 hx0 hxW
          have DY := Lib.hid fun i => @drawR_yes W H p k 1 y x i hx0 hxW
          have DN := Lib.hid fun i => @drawR_no W H p k 1 y x i hx0 hxW
          have et : y - dropI W k x = y - 1 * dropI W k x := by omega
          have v1 : IntKind.i64.wrap (y - dropI W k x) = y - dropI W k x := IntWalk.i64_in _ (by omega)
          generalize dropI W k x = D at *
          have IK := Lib.hid fun w' hA' => rink_any W H A n c p x (y - D) w' hA' hW2 hH2 HNN.out
          rw [← et] at DY DN
          clear et
          have M2 := Lib.hid m2.drew
          cases hi : inkB W H p x (y - D)
          · have HI := Lib.hid hi
            rw [hi] at IK
            clear hi
            go_wp2_with fail
            go_region_held3 (fun w' => w'.cell? ⟨w.heap.size, 0, none⟩ = some (.int .i64 W) ∧ w'.cell? ⟨w.heap.size, 1, none⟩ = some (.int .i64 H) ∧ w'.cell? ⟨w.heap.size, 2, none⟩ = some (.slice A n c))
              (simp [go_sem, *])
              (first
                | (go_at_call 19; refine (DR.out _).mono ?_; rintro e w' ⟨rfl, rfl⟩)
                | (go_at_call 55; refine (IK.out _ ((ArrB.below hA M2.out.bl).more M2.out.bl.size)).mono ?_; rintro e w6 ⟨rfl, hb6⟩
                   have m6 := M2.out.keep hb6
                   obtain ⟨x1, x2, x3⟩ := m6.k2.cells3))
            go_wp2
            go_roundw
            case rel => exact ⟨x + 1, by omega, by omega, by go_num, m6.conv fun i _ _ => DN.out i HI.out⟩
            case measure => simp [intOf]; omega
          · have HI := Lib.hid hi
            rw [hi] at IK
            clear hi
            go_wp2_with fail
            go_region_held3 (fun w' => w'.cell? ⟨w.heap.size, 0, none⟩ = some (.int .i64 W) ∧ w'.cell? ⟨w.heap.size, 1, none⟩ = some (.int .i64 H) ∧ w'.cell? ⟨w.heap.size, 2, none⟩ = some (.slice A n c))
              (simp [go_sem, *])
              (first
                | (go_at_call 19; refine (DR.out _).mono ?_; rintro e w' ⟨rfl, rfl⟩)
                | (go_at_call 55; refine (IK.out _ ((ArrB.below hA M2.out.bl).more M2.out.bl.size)).mono ?_; rintro e w6 ⟨rfl, hb6⟩
                   have m6 := M2.out.keep hb6
                   obtain ⟨x1, x2, x3⟩ := m6.k2.cells3))
            obtain ⟨q1, q2, q3⟩ := m6.k8.cells3
            go_wp2_with fail
            refine (rset_any W (H + G) g N N 5 _ x y _ m6.kg hx0 hxW hy0 hyH hW2 hh2 HN.out).mono ?_
            rintro e w7 ⟨rfl, hk7, hb7⟩
            have m7 := m6.set hg0 (by omega) hb7 hk7 (fun i _ _ => DY.out i HI.out)
            go_wp2
            go_roundw
            case rel => exact ⟨x + 1, by omega, by omega, by go_num, m7⟩
            case measure => simp [intOf]; omega
        · obtain rfl : x = W := by omega
          go_wp2
          go_roundw
          case rel => exact ⟨y + 1, by omega, by omega, by go_num, m2.conv fun i h0 hi => drawR_row (h := H + G) hW1 h0 (by have := HN.out; omega)⟩
          case measure => simp [intOf]; omega
    · obtain rfl : y = H + G := by omega
      obtain ⟨q1, q2, q3⟩ := m1.k8.cells3
      obtain ⟨r1, r2, r3⟩ := m1.k4.cells3
      obtain ⟨f1, f2, f3⟩ := m1.k4.frozen3
      go_wp2
      refine bodyPost_ret (v := .tuple #[.agg #[.int .i64 W, .int .i64 (H + G), .slice (some ⟨g, 0, none⟩) N N], .int .i64 0]) (by simp [results, Try.results20, go_sem, r1, r2, r3]) rfl ?_
      refine ⟨_, rfl, ⟨_, rfl, OutN.mk (by omega) ?_⟩, by have := m1.bl; (repeat (first | exact Below.refl _ _ | assumption | refine Below.drew ?_ | refine below_drewN ?_ _ | refine Below.alloc ?_ (by first | omega | (simp; done) | (simp; omega)) _ | refine Below.setCell ?_ (by first | omega | (simp; done) | (simp; omega)) _ | refine below_setRow ?_ (by first | omega | (simp; done) | (simp; omega)) _ ))⟩
      exact (((m1.kg.u8conv fun i h0 hi => drawR_end (h := H + G) hW1 h0 (by have := HN.out; omega)).far (by simp; omega) _).far (by simp; omega) _).far (by simp; omega) _

set_option maxHeartbeats 1000000 in
theorem rskew_bad (W H : Int) (A : Option Addr) (n c : Nat) (p : Int → Int) (k z : Int) (w : World) (hA : ArrB w w.heap.size A n p) (hn : n ≤ maxLen) (hB : IsB p)
    (hE : movE W H n p k 1 = z) (hz : z ≠ 0) :
    Calls Try.prog 20 #[.agg #[.int .i64 W, .int .i64 H, .slice A n c], .int .i64 k] w
      fun e w' => e = .returned (.tuple #[noImg, .int .i64 z]) ∧ Below w.heap.size w w' := by
  have CK := Lib.hid fun w' hA' => rcheck_any W H A n c p w' hA' hn hB
  by_cases hc : chk W H n p = 0
  · obtain ⟨hW1, hW2, hH1, hH2, -, -⟩ := chk_ok hc
    rw [hc] at CK
    by_cases hk : k < -3 ∨ 3 < k
    · obtain rfl : (1 : Int) = z := by rw [← hE]; unfold movE; rw [hc]; simp [hk]
      clear hc hE
      go_enter Try.func20, Try.ntmps20
      go_wp2_with fail
      refine (CK.out _ (hA.to (by (repeat (first | exact Below.refl _ _ | assumption | refine Below.drew ?_ | refine below_drewN ?_ _ | refine Below.alloc ?_ (by first | omega | (simp; done) | (simp; omega)) _ | refine Below.setCell ?_ (by first | omega | (simp; done) | (simp; omega)) _ | refine below_setRow ?_ (by first | omega | (simp; done) | (simp; omega)) _ ))))).mono ?_
      rintro e w1 ⟨rfl, hb1⟩
      have k6 : Blk w1 (w.heap.size + 1) 25 #[.int .i64 0, .int .i64 0, .slice none 0 0] := (Blk.new' (by simp) _ _).below' hb1
      have b1 : Below w.heap.size w w1 := below_call (by (repeat (first | exact Below.refl _ _ | assumption | refine Below.drew ?_ | refine below_drewN ?_ _ | refine Below.alloc ?_ (by first | omega | (simp; done) | (simp; omega)) _ | refine Below.setCell ?_ (by first | omega | (simp; done) | (simp; omega)) _ | refine below_setRow ?_ (by first | omega | (simp; done) | (simp; omega)) _ ))) (by simp; try omega) hb1
      obtain ⟨r1, r2, r3⟩ := k6.cells3
      obtain ⟨f1, f2, f3⟩ := k6.frozen3
      clear hb1
      rcases hk with hk | hk
      all_goals
        go_wp2
        refine bodyPost_ret (v := .tuple #[noImg, .int .i64 1]) (by simp [results, Try.results20, go_sem, noImg, r1, r2, r3]) rfl ?_
        exact ⟨rfl, by (repeat (first | exact Below.refl _ _ | assumption | refine Below.drew ?_ | refine below_drewN ?_ _ | refine Below.alloc ?_ (by first | omega | (simp; done) | (simp; omega)) _ | refine Below.setCell ?_ (by first | omega | (simp; done) | (simp; omega)) _ | refine below_setRow ?_ (by first | omega | (simp; done) | (simp; omega)) _ ))⟩
    · have hk1 : -3 ≤ k := by omega
      have hk2 : k ≤ 3 := by omega
      obtain ⟨hg1, hg2⟩ := grt_bd hW1 hW2 hk1 hk2
      obtain ⟨rfl, hh⟩ : (2 : Int) = z ∧ 640 < H + grt W k := by
        rw [← hE]
        rw [← hE] at hz
        unfold movE at hz ⊢
        rw [hc] at hz ⊢
        simp only [ne_eq, not_true_eq_false, reduceIte, if_neg hk] at hz ⊢
        split at hz
        · rename_i h; rw [if_pos h]; omega
        · exact absurd rfl hz
      have GR := Lib.hid fun w' => rgreatest_any W k w' hW1 hW2 hk1 hk2
      generalize grt W k = G at *
      clear hc hE hk
      go_enter Try.func20, Try.ntmps20
      go_wp2_with fail
      refine (CK.out _ (hA.to (by (repeat (first | exact Below.refl _ _ | assumption | refine Below.drew ?_ | refine below_drewN ?_ _ | refine Below.alloc ?_ (by first | omega | (simp; done) | (simp; omega)) _ | refine Below.setCell ?_ (by first | omega | (simp; done) | (simp; omega)) _ | refine below_setRow ?_ (by first | omega | (simp; done) | (simp; omega)) _ ))))).mono ?_
      rintro e w1 ⟨rfl, hb1⟩
      have k3 : Blk w1 w.heap.size 25 #[.int .i64 W, .int .i64 H, .slice A n c] := ((Blk.new _ _ _).alloc _).below' hb1
      have k6 : Blk w1 (w.heap.size + 1) 25 #[.int .i64 0, .int .i64 0, .slice none 0 0] := (Blk.new' (by simp) _ _).below' hb1
      have b1 : Below w.heap.size w w1 := below_call (by (repeat (first | exact Below.refl _ _ | assumption | refine Below.drew ?_ | refine below_drewN ?_ _ | refine Below.alloc ?_ (by first | omega | (simp; done) | (simp; omega)) _ | refine Below.setCell ?_ (by first | omega | (simp; done) | (simp; omega)) _ | refine below_setRow ?_ (by first | omega | (simp; done) | (simp; omega)) _ ))) (by simp; try omega) hb1
      clear hb1
      obtain ⟨p1, p2, p3⟩ := k3.cells3
      have hs : IntKind.i64.wrap (H + G) = H + G := IntWalk.i64_in _ (by omega)
      go_wp2_with fail
      go_quiet ((go_at_call 53; exact qcallN (GR.out _)))
      replace k6 := k6.drewN nq
      replace b1 := below_drewN b1 nq
      have p1 := p1; have p2 := p2; have p3 := p3
      clear p1 p2 p3 hs k3
      generalize w1.drewN nq = w2 at *
      obtain ⟨r1, r2, r3⟩ := k6.cells3
      obtain ⟨f1, f2, f3⟩ := k6.frozen3
      go_wp2
      refine bodyPost_ret (v := .tuple #[noImg, .int .i64 2]) (by simp [results, Try.results20, go_sem, noImg, r1, r2, r3]) rfl ?_
      exact ⟨rfl, by (repeat (first | exact Below.refl _ _ | assumption | refine Below.drew ?_ | refine below_drewN ?_ _ | refine Below.alloc ?_ (by first | omega | (simp; done) | (simp; omega)) _ | refine Below.setCell ?_ (by first | omega | (simp; done) | (simp; omega)) _ | refine below_setRow ?_ (by first | omega | (simp; done) | (simp; omega)) _ ))⟩
  · obtain rfl : chk W H n p = z := by rw [← hE]; unfold movE; rw [if_pos hc]
    generalize chk W H n p = z at *
    clear hE hc
    go_enter Try.func20, Try.ntmps20
    go_wp2_with fail
    refine (CK.out _ (hA.to (by (repeat (first | exact Below.refl _ _ | assumption | refine Below.drew ?_ | refine below_drewN ?_ _ | refine Below.alloc ?_ (by first | omega | (simp; done) | (simp; omega)) _ | refine Below.setCell ?_ (by first | omega | (simp; done) | (simp; omega)) _ | refine below_setRow ?_ (by first | omega | (simp; done) | (simp; omega)) _ ))))).mono ?_
    rintro e w1 ⟨rfl, hb1⟩
    have k6 : Blk w1 (w.heap.size + 1) 25 #[.int .i64 0, .int .i64 0, .slice none 0 0] := (Blk.new' (by simp) _ _).below' hb1
    have b1 : Below w.heap.size w w1 := below_call (by (repeat (first | exact Below.refl _ _ | assumption | refine Below.drew ?_ | refine below_drewN ?_ _ | refine Below.alloc ?_ (by first | omega | (simp; done) | (simp; omega)) _ | refine Below.setCell ?_ (by first | omega | (simp; done) | (simp; omega)) _ | refine below_setRow ?_ (by first | omega | (simp; done) | (simp; omega)) _ ))) (by simp; try omega) hb1
    obtain ⟨r1, r2, r3⟩ := k6.cells3
    obtain ⟨f1, f2, f3⟩ := k6.frozen3
    clear hb1
    go_wp2
    refine bodyPost_ret (v := .tuple #[noImg, .int .i64 z]) (by simp [results, Try.results20, go_sem, noImg, r1, r2, r3]) rfl ?_
    exact ⟨rfl, by (repeat (first | exact Below.refl _ _ | assumption | refine Below.drew ?_ | refine below_drewN ?_ _ | refine Below.alloc ?_ (by first | omega | (simp; done) | (simp; omega)) _ | refine Below.setCell ?_ (by first | omega | (simp; done) | (simp; omega)) _ | refine below_setRow ?_ (by first | omega | (simp; done) | (simp; omega)) _ ))⟩

set_option maxRecDepth 100000 in
set_option maxHeartbeats 1000000 in
theorem runskew_ok (W H h : Int) (N : Nat) (A : Option Addr) (n c : Nat) (p : Int → Int) (k : Int) (w : World) (hA : ArrB w w.heap.size A n p) (hn : n ≤ maxLen) (hB : IsB p)
    (hE : movE W H n p k (-1) = 0) (hh : h = H - grt W k) (hN : (N : Int) = W * h) :
    Calls Try.prog 21 #[.agg #[.int .i64 W, .int .i64 H, .slice A n c], .int .i64 k] w
      (New w fun v w' => ∃ g, v = .tuple #[g, .int .i64 0] ∧ OutN w w' W h N (movR W H p k (-1)) g) := by
  subst hh
  obtain ⟨hc, hk1, hk2, hh1, hh2⟩ := movE_ok hE
  obtain ⟨hW1, hW2, hH1, hH2, hnn, -⟩ := chk_ok hc
  have e1 : H + -1 * grt W k = H - grt W k := by omega
  rw [e1] at hh1 hh2
  have HC := Lib.hid hc
  have HNN := Lib.hid hnn
  have HN := Lib.hid hN
  have GR := Lib.hid fun w' => rgreatest_any W k w' hW1 hW2 hk1 hk2
  obtain ⟨hg1, hg2⟩ := grt_bd hW1 hW2 hk1 hk2
  generalize grt W k = G at *
  clear hE hc hnn hN e1
  go_enter Try.func21, Try.ntmps21
  go_wp2_with fail
  refine (rcheck_any W H A n c p _ (hA.to (by (repeat (first | exact Below.refl _ _ | assumption | refine Below.drew ?_ | refine below_drewN ?_ _ | refine Below.alloc ?_ (by first | omega | (simp; done) | (simp; omega)) _ | refine Below.setCell ?_ (by first | omega | (simp; done) | (simp; omega)) _ | refine below_setRow ?_ (by first | omega | (simp; done) | (simp; omega)) _ )))) hn hB).mono ?_
  rintro e w1 ⟨rfl, hb1⟩
  rw [HC.out]
  have k3 : Blk w1 w.heap.size 25 #[.int .i64 W, .int .i64 H, .slice A n c] := ((Blk.new _ _ _).alloc _).below' hb1
  have k6 : Blk w1 (w.heap.size + 1) 25 #[.int .i64 0, .int .i64 0, .slice none 0 0] := (Blk.new' (by simp) _ _).below' hb1
  have z1 : w.heap.size + 2 ≤ w1.heap.size := by simpa using hb1.size
  have b1 : Below w.heap.size w w1 := below_call (by (repeat (first | exact Below.refl _ _ | assumption | refine Below.drew ?_ | refine below_drewN ?_ _ | refine Below.alloc ?_ (by first | omega | (simp; done) | (simp; omega)) _ | refine Below.setCell ?_ (by first | omega | (simp; done) | (simp; omega)) _ | refine below_setRow ?_ (by first | omega | (simp; done) | (simp; omega)) _ ))) (by simp; try omega) hb1
  clear hb1
  obtain ⟨p1, p2, p3⟩ := k3.cells3
  have hs : IntKind.i64.wrap (H - G) = H - G := IntWalk.i64_in _ (by omega)
  go_wp2_with fail
  go_quiet ((go_at_call 53; exact qcallN (GR.out _)))
  replace k3 := k3.drewN nq
  replace k6 := k6.drewN nq
  replace b1 := below_drewN b1 nq
  replace z1 : w.heap.size + 2 ≤ (w1.drewN nq).heap.size := z1
  have p1 := p1; have p2 := p2; have p3 := p3
  clear p1 p2 p3 hs
  generalize w1.drewN nq = w2 at *
  obtain ⟨p1, p2, p3⟩ := k3.cells3
  go_wp2_with fail
  refine (rnew_any W (H - G) N _ hW1 hW2 hh1 hh2 HN.out).mono ?_
  rintro e w3 ⟨_, rfl, ⟨g, rfl, hg, kg⟩, hb3⟩
  replace k3 := k3.below' hb3
  replace k6 := k6.below' hb3
  replace b1 := below_call b1 (by omega) hb3
  have z3 : w2.heap.size ≤ w3.heap.size := hb3.size
  have z4 := kg.lt
  clear hb3 p1 p2 p3
  obtain ⟨p1, p2, p3⟩ := k3.cells3
  have hg0 : w.heap.size + 2 ≤ g := by omega
  clear hg
  go_wp2_with fail
  have m : ∀ w', w' = w3.alloc (.cells #[.int .i64 W, .int .i64 (H - G), .slice (some ⟨g, 0, none⟩) N N] 25) → RmR w w' W H (H - G) N A n c g w3.heap.size p k (-1) 0 0 := by
    rintro _ rfl
    exact ⟨by (repeat (first | exact Below.refl _ _ | assumption | refine Below.drew ?_ | refine below_drewN ?_ _ | refine Below.alloc ?_ (by first | omega | (simp; done) | (simp; omega)) _ | refine Below.setCell ?_ (by first | omega | (simp; done) | (simp; omega)) _ | refine below_setRow ?_ (by first | omega | (simp; done) | (simp; omega)) _ )), k3.alloc _, k6.alloc _, Blk.new _ _ _, (kg.alloc _).u8conv fun j h0 _ => (drawR_start h0 hW1).symm⟩
  replace m := m _ rfl
  clear k3 k6 kg b1 p1 p2 p3 z1 z3
  generalize w3.alloc (.cells #[.int .i64 W, .int .i64 (H - G), .slice (some ⟨g, 0, none⟩) N N] 25) = w5 at *
  go_loopw [9] (fun i wr => ∃ y : Int, 0 ≤ y ∧ y ≤ H - G ∧ i = .int .i64 y ∧ RmR w wr W H (H - G) N A n c g w3.heap.size p k (-1) y 0) (fun i _ => (H - G - intOf i).toNat)
  case atStart => exact ⟨0, by omega, by omega, rfl, m⟩
  case round =>
    obtain ⟨y, hy0, hy, rfl, m1⟩ := hrel
    clear m
    obtain ⟨p1, p2, p3⟩ := m1.k2.cells3
    by_cases hyH : y < H - G
    · go_wp2
      go_loopw [10] (fun i wr => ∃ x : Int, 0 ≤ x ∧ x ≤ W ∧ i = .int .i64 x ∧ RmR w wr W H (H - G) N A n c g w3.heap.size p k (-1) y x) (fun i _ => (W - intOf i).toNat)
      case atStart => exact ⟨0, by omega, by omega, rfl, m1⟩
      case round =>
        obtain ⟨x, hx0, hx, rfl, m2⟩ := hrel
        clear m1 p1 p2 p3
        obtain ⟨p1, p2, p3⟩ := m2.k2.cells3
        by_cases hxW : x < W
        · obtain ⟨hd1, hd2⟩ := drop_bd (W := W) (k := k) (x := x) hW2 hk1 hk2 hx0 hxW
          have DR := Lib.hid fun w' => rdrop_any W k x w' hW2 hk1 hk2 hx0 hxW
          have DY := Lib.hid fun i => @drawR_yes W H p k (-1) y x i hx0 hxW
          have DN := Lib.hid fun i => @drawR_no W H p k (-1) y x i hx0 hxW
          have et : y + dropI W k x = y - -1 * dropI W k x := by omega
          have v1 : IntKind.i64.wrap (y + dropI W k x) = y + dropI W k x := IntWalk.i64_in _ (by omega)
          generalize dropI W k x = D at *
          have IK := Lib.hid fun w' hA' => rink_any W H A n c p x (y + D) w' hA' hW2 hH2 HNN.out
          rw [← et] at DY DN
          clear et
          have M2 := Lib.hid m2.drew
          cases hi : inkB W H p x (y + D)
          · have HI := Lib.hid hi
            rw [hi] at IK
            clear hi
            go_wp2_with fail
            go_region_held3 (fun w' => w'.cell? ⟨w.heap.size, 0, none⟩ = some (.int .i64 W) ∧ w'.cell? ⟨w.heap.size, 1, none⟩ = some (.int .i64 H) ∧ w'.cell? ⟨w.heap.size, 2, none⟩ = some (.slice A n c))
              (simp [go_sem, *])
              (first
                | (go_at_call 19; refine (DR.out _).mono ?_; rintro e w' ⟨rfl, rfl⟩)
                | (go_at_call 55; refine (IK.out _ ((ArrB.below hA M2.out.bl).more M2.out.bl.size)).mono ?_; rintro e w6 ⟨rfl, hb6⟩
                   have m6 := M2.out.keep hb6
                   obtain ⟨x1, x2, x3⟩ := m6.k2.cells3))
            go_wp2
            go_roundw
            case rel => exact ⟨x + 1, by omega, by omega, by go_num, m6.conv fun i _ _ => DN.out i HI.out⟩
            case measure => simp [intOf]; omega
          · have HI := Lib.hid hi
            rw [hi] at IK
            clear hi
            go_wp2_with fail
            go_region_held3 (fun w' => w'.cell? ⟨w.heap.size, 0, none⟩ = some (.int .i64 W) ∧ w'.cell? ⟨w.heap.size, 1, none⟩ = some (.int .i64 H) ∧ w'.cell? ⟨w.heap.size, 2, none⟩ = some (.slice A n c))
              (simp [go_sem, *])
              (first
                | (go_at_call 19; refine (DR.out _).mono ?_; rintro e w' ⟨rfl, rfl⟩)
                | (go_at_call 55; refine (IK.out _ ((ArrB.below hA M2.out.bl).more M2.out.bl.size)).mono ?_; rintro e w6 ⟨rfl, hb6⟩
                   have m6 := M2.out.keep hb6
                   obtain ⟨x1, x2, x3⟩ := m6.k2.cells3))
            obtain ⟨q1, q2, q3⟩ := m6.k8.cells3
            go_wp2_with fail
            refine (rset_any W (H - G) g N N 5 _ x y _ m6.kg hx0 hxW hy0 hyH hW2 hh2 HN.out).mono ?_
            rintro e w7 ⟨rfl, hk7, hb7⟩
            have m7 := m6.set hg0 (by omega) hb7 hk7 (fun i _ _ => DY.out i HI.out)
            go_wp2
            go_roundw
            case rel => exact ⟨x + 1, by omega, by omega, by go_num, m7⟩
            case measure => simp [intOf]; omega
        · obtain rfl : x = W := by omega
          go_wp2
          go_roundw
          case rel => exact ⟨y + 1, by omega, by omega, by go_num, m2.conv fun i h0 hi => drawR_row (h := H - G) hW1 h0 (by have := HN.out; omega)⟩
          case measure => simp [intOf]; omega
    · obtain rfl : y = H - G := by omega
      obtain ⟨q1, q2, q3⟩ := m1.k8.cells3
      obtain ⟨r1, r2, r3⟩ := m1.k4.cells3
      obtain ⟨f1, f2, f3⟩ := m1.k4.frozen3
      go_wp2
      refine bodyPost_ret (v := .tuple #[.agg #[.int .i64 W, .int .i64 (H - G), .slice (some ⟨g, 0, none⟩) N N], .int .i64 0]) (by simp [results, Try.results21, go_sem, r1, r2, r3]) rfl ?_
      refine ⟨_, rfl, ⟨_, rfl, OutN.mk (by omega) ?_⟩, by have := m1.bl; (repeat (first | exact Below.refl _ _ | assumption | refine Below.drew ?_ | refine below_drewN ?_ _ | refine Below.alloc ?_ (by first | omega | (simp; done) | (simp; omega)) _ | refine Below.setCell ?_ (by first | omega | (simp; done) | (simp; omega)) _ | refine below_setRow ?_ (by first | omega | (simp; done) | (simp; omega)) _ ))⟩
      exact (((m1.kg.u8conv fun i h0 hi => drawR_end (h := H - G) hW1 h0 (by have := HN.out; omega)).far (by simp; omega) _).far (by simp; omega) _).far (by simp; omega) _

set_option maxHeartbeats 1000000 in
theorem runskew_bad (W H : Int) (A : Option Addr) (n c : Nat) (p : Int → Int) (k z : Int) (w : World) (hA : ArrB w w.heap.size A n p) (hn : n ≤ maxLen) (hB : IsB p)
    (hE : movE W H n p k (-1) = z) (hz : z ≠ 0) :
    Calls Try.prog 21 #[.agg #[.int .i64 W, .int .i64 H, .slice A n c], .int .i64 k] w
      fun e w' => e = .returned (.tuple #[noImg, .int .i64 z]) ∧ Below w.heap.size w w' := by
  have CK := Lib.hid fun w' hA' => rcheck_any W H A n c p w' hA' hn hB
  by_cases hc : chk W H n p = 0
  · obtain ⟨hW1, hW2, hH1, hH2, -, -⟩ := chk_ok hc
    rw [hc] at CK
    by_cases hk : k < -3 ∨ 3 < k
    · obtain rfl : (1 : Int) = z := by rw [← hE]; unfold movE; rw [hc]; simp [hk]
      clear hc hE
      go_enter Try.func21, Try.ntmps21
      go_wp2_with fail
      refine (CK.out _ (hA.to (by (repeat (first | exact Below.refl _ _ | assumption | refine Below.drew ?_ | refine below_drewN ?_ _ | refine Below.alloc ?_ (by first | omega | (simp; done) | (simp; omega)) _ | refine Below.setCell ?_ (by first | omega | (simp; done) | (simp; omega)) _ | refine below_setRow ?_ (by first | omega | (simp; done) | (simp; omega)) _ ))))).mono ?_
      rintro e w1 ⟨rfl, hb1⟩
      have k6 : Blk w1 (w.heap.size + 1) 25 #[.int .i64 0, .int .i64 0, .slice none 0 0] := (Blk.new' (by simp) _ _).below' hb1
      have b1 : Below w.heap.size w w1 := below_call (by (repeat (first | exact Below.refl _ _ | assumption | refine Below.drew ?_ | refine below_drewN ?_ _ | refine Below.alloc ?_ (by first | omega | (simp; done) | (simp; omega)) _ | refine Below.setCell ?_ (by first | omega | (simp; done) | (simp; omega)) _ | refine below_setRow ?_ (by first | omega | (simp; done) | (simp; omega)) _ ))) (by simp; try omega) hb1
      obtain ⟨r1, r2, r3⟩ := k6.cells3
      obtain ⟨f1, f2, f3⟩ := k6.frozen3
      clear hb1
      rcases hk with hk | hk
      all_goals
        go_wp2
        refine bodyPost_ret (v := .tuple #[noImg, .int .i64 1]) (by simp [results, Try.results21, go_sem, noImg, r1, r2, r3]) rfl ?_
        exact ⟨rfl, by (repeat (first | exact Below.refl _ _ | assumption | refine Below.drew ?_ | refine below_drewN ?_ _ | refine Below.alloc ?_ (by first | omega | (simp; done) | (simp; omega)) _ | refine Below.setCell ?_ (by first | omega | (simp; done) | (simp; omega)) _ | refine below_setRow ?_ (by first | omega | (simp; done) | (simp; omega)) _ ))⟩
    · have hk1 : -3 ≤ k := by omega
      have hk2 : k ≤ 3 := by omega
      obtain ⟨hg1, hg2⟩ := grt_bd hW1 hW2 hk1 hk2
      obtain ⟨rfl, hh⟩ : (2 : Int) = z ∧ H - grt W k < 0 := by
        rw [← hE]
        rw [← hE] at hz
        unfold movE at hz ⊢
        rw [hc] at hz ⊢
        simp only [ne_eq, not_true_eq_false, reduceIte, if_neg hk] at hz ⊢
        split at hz
        · rename_i h; rw [if_pos h]; omega
        · exact absurd rfl hz
      have GR := Lib.hid fun w' => rgreatest_any W k w' hW1 hW2 hk1 hk2
      generalize grt W k = G at *
      clear hc hE hk
      go_enter Try.func21, Try.ntmps21
      go_wp2_with fail
      refine (CK.out _ (hA.to (by (repeat (first | exact Below.refl _ _ | assumption | refine Below.drew ?_ | refine below_drewN ?_ _ | refine Below.alloc ?_ (by first | omega | (simp; done) | (simp; omega)) _ | refine Below.setCell ?_ (by first | omega | (simp; done) | (simp; omega)) _ | refine below_setRow ?_ (by first | omega | (simp; done) | (simp; omega)) _ ))))).mono ?_
      rintro e w1 ⟨rfl, hb1⟩
      have k3 : Blk w1 w.heap.size 25 #[.int .i64 W, .int .i64 H, .slice A n c] := ((Blk.new _ _ _).alloc _).below' hb1
      have k6 : Blk w1 (w.heap.size + 1) 25 #[.int .i64 0, .int .i64 0, .slice none 0 0] := (Blk.new' (by simp) _ _).below' hb1
      have b1 : Below w.heap.size w w1 := below_call (by (repeat (first | exact Below.refl _ _ | assumption | refine Below.drew ?_ | refine below_drewN ?_ _ | refine Below.alloc ?_ (by first | omega | (simp; done) | (simp; omega)) _ | refine Below.setCell ?_ (by first | omega | (simp; done) | (simp; omega)) _ | refine below_setRow ?_ (by first | omega | (simp; done) | (simp; omega)) _ ))) (by simp; try omega) hb1
      clear hb1
      obtain ⟨p1, p2, p3⟩ := k3.cells3
      have hs : IntKind.i64.wrap (H - G) = H - G := IntWalk.i64_in _ (by omega)
      go_wp2_with fail
      go_quiet ((go_at_call 53; exact qcallN (GR.out _)))
      replace k6 := k6.drewN nq
      replace b1 := below_drewN b1 nq
      have p1 := p1; have p2 := p2; have p3 := p3
      clear p1 p2 p3 hs k3
      generalize w1.drewN nq = w2 at *
      obtain ⟨r1, r2, r3⟩ := k6.cells3
      obtain ⟨f1, f2, f3⟩ := k6.frozen3
      go_wp2
      refine bodyPost_ret (v := .tuple #[noImg, .int .i64 2]) (by simp [results, Try.results21, go_sem, noImg, r1, r2, r3]) rfl ?_
      exact ⟨rfl, by (repeat (first | exact Below.refl _ _ | assumption | refine Below.drew ?_ | refine below_drewN ?_ _ | refine Below.alloc ?_ (by first | omega | (simp; done) | (simp; omega)) _ | refine Below.setCell ?_ (by first | omega | (simp; done) | (simp; omega)) _ | refine below_setRow ?_ (by first | omega | (simp; done) | (simp; omega)) _ ))⟩
  · obtain rfl : chk W H n p = z := by rw [← hE]; unfold movE; rw [if_pos hc]
    generalize chk W H n p = z at *
    clear hE hc
    go_enter Try.func21, Try.ntmps21
    go_wp2_with fail
    refine (CK.out _ (hA.to (by (repeat (first | exact Below.refl _ _ | assumption | refine Below.drew ?_ | refine below_drewN ?_ _ | refine Below.alloc ?_ (by first | omega | (simp; done) | (simp; omega)) _ | refine Below.setCell ?_ (by first | omega | (simp; done) | (simp; omega)) _ | refine below_setRow ?_ (by first | omega | (simp; done) | (simp; omega)) _ ))))).mono ?_
    rintro e w1 ⟨rfl, hb1⟩
    have k6 : Blk w1 (w.heap.size + 1) 25 #[.int .i64 0, .int .i64 0, .slice none 0 0] := (Blk.new' (by simp) _ _).below' hb1
    have b1 : Below w.heap.size w w1 := below_call (by (repeat (first | exact Below.refl _ _ | assumption | refine Below.drew ?_ | refine below_drewN ?_ _ | refine Below.alloc ?_ (by first | omega | (simp; done) | (simp; omega)) _ | refine Below.setCell ?_ (by first | omega | (simp; done) | (simp; omega)) _ | refine below_setRow ?_ (by first | omega | (simp; done) | (simp; omega)) _ ))) (by simp; try omega) hb1
    obtain ⟨r1, r2, r3⟩ := k6.cells3
    obtain ⟨f1, f2, f3⟩ := k6.frozen3
    clear hb1
    go_wp2
    refine bodyPost_ret (v := .tuple #[noImg, .int .i64 z]) (by simp [results, Try.results21, go_sem, noImg, r1, r2, r3]) rfl ?_
    exact ⟨rfl, by (repeat (first | exact Below.refl _ _ | assumption | refine Below.drew ?_ | refine below_drewN ?_ _ | refine Below.alloc ?_ (by first | omega | (simp; done) | (simp; omega)) _ | refine Below.setCell ?_ (by first | omega | (simp; done) | (simp; omega)) _ | refine below_setRow ?_ (by first | omega | (simp; done) | (simp; omega)) _ ))⟩
end Go.Proofs.Ytanbheeekpdkbaa
