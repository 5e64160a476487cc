/- Texts of mine in build order: T45, T27, T28, S10, T35, T36, B1, T37. Conditions: each theorem's own. -/
import Derived.Test.YtdimlpcbbkokiaaMStaveBackx4
import Derived.StillTailTactics
import Derived.Deep.DeepCutAuto
import Derived.Deep.Cut
import Derived.Deep.CutBlock
import Derived.Deep.RegionHeld3
import Derived.Lib.LazyBuf
/- Walk: images with staves whose lines bend (custoslaw03.Wavy). -/
namespace Go.Proofs.Ytdimlpcbbkokiaa
open Go.RowKit Go.Shelf
set_option linter.unusedVariables false
attribute [local go_sem] Oper.semAt_some

/-- what Wavy returns -/
def WavyOut (w w' : World) (W H : Int) (N n : Nat) (L : Nat → Nat → Int) (v : Value) : Prop :=
  ∃ g Bs vo vs, v = .tuple #[.agg #[.int .i64 W, .int .i64 H, .slice (some ⟨g, 0, none⟩) N N], vo] ∧ w.heap.size ≤ g ∧ g < Bs ∧ Blk w' g 5 (u8s N (wvQ W L (5 * n) 0)) ∧ StOut Bs w' (fun _ => W.toNat) L ((List.range n).map (5 * ·)) vo vs
theorem min14 (n M : Nat) (h : (M : Int) = min (n : Int) 14) : M ≤ 14 ∧ M ≤ n ∧ min n 14 = M := by omega

set_option maxRecDepth 100000 in
set_option maxHeartbeats 8000000 in
theorem wavy_any (wd sv W low high H : Int) (A : Option Addr) (n c k M nn N : Nat) (p : Int → Int) (w : World) (hA : ArrB w w.heap.size A n p) (hn : n ≤ maxLen) (hnc : n ≤ c) (hB : IsB p) (hwd : 0 ≤ wd ∧ wd ≤ 255) (hsv : 0 ≤ sv ∧ sv ≤ 255)
    (hW : 40 + wd % 120 = W) (hk : W = (k : Int) + 1) (hM : (M : Int) = min (n : Int) 14) (hlow : minA (rsF p M) k = low) (hhigh : maxA (rsF p M) k = high) (hnn : 1 + sv % 3 = (nn : Int)) (hH : H = 5 + (high - low) + (nn : Int) * 24 + ((nn : Int) - 1) * 12 + 6) (hN : (N : Int) = W * H) :
    Calls Try.prog 41 #[.int .u8 wd, .int .u8 sv, .slice A n c] w (New w fun v w' => WavyOut w w' W H N nn (wvL low (rsF p M)) v) := by
  unfold maxLen at hn
  obtain ⟨hw1, hw2⟩ := hwd
  obtain ⟨hs1, hs2⟩ := hsv
  obtain ⟨hM14, hMn, -⟩ := min14 n M hM
  have hW0 : 40 ≤ W ∧ W ≤ 159 := by omega
  have hn3 : 1 ≤ nn ∧ nn ≤ 3 := by omega
  have hlo : -14 ≤ low ∧ low ≤ 14 := by
    obtain ⟨-, j, -, -, e⟩ := minAq_le (q := rsF p M) (minA := minA) (fun _ => rfl) (fun _ _ => rfl) k
    have := rsF_bd (p := p) M j
    rw [← hlow, e]; omega
  have hhi : low ≤ high ∧ high ≤ 14 := by
    obtain ⟨-, j, -, -, e⟩ := maxAq_ge (q := rsF p M) (maxA := maxA) (fun _ => rfl) (fun _ _ => rfl) k
    have h1 := rsF_bd (p := p) M j
    have h2 := (minAq_le (q := rsF p M) (minA := minA) (fun _ => rfl) (fun _ _ => rfl) k).1 0 (by omega) (by omega)
    have h3 := (maxAq_ge (q := rsF p M) (maxA := maxA) (fun _ => rfl) (fun _ _ => rfl) k).1 0 (by omega) (by omega)
    rw [hlow] at h2
    rw [hhigh] at h3
    rw [hhigh] at e
    omega
  have LR : Hid (∀ x : Int, 0 ≤ x → x < W → low ≤ rsF p M x ∧ rsF p M x ≤ high) := by
    show ∀ _, _
    intro x x0 x1
    have h2 := (minAq_le (q := rsF p M) (minA := minA) (fun _ => rfl) (fun _ _ => rfl) k).1 x x0 (by omega)
    have h3 := (maxAq_ge (q := rsF p M) (maxA := maxA) (fun _ => rfl) (fun _ _ => rfl) k).1 x x0 (by omega)
    rw [hlow] at h2
    rw [hhigh] at h3
    exact ⟨h2, h3⟩
  have hWn : W.toNat = k + 1 := by omega
  have hmkI := makeI W (by omega) (by omega)
  rw [hWn] at hmkI
  have HMK := Lib.hid hmkI
  have HM := Lib.hid hM; have HW := Lib.hid hW; have HK := Lib.hid hk; have HLO := Lib.hid hlow; have HHI := Lib.hid hhigh; have HNN := Lib.hid hnn; have HHH := Lib.hid hH; have HN := Lib.hid hN; have HWN := Lib.hid hWn
  clear hmkI hM hlow hhigh hnn hH hN hWn hk hW
  go_enter Try.func41, Try.ntmps41
  go_upto_region 1 with fail
  go_cut [8] (fun t wx => t = .int .i64 W ∧ wx = w.alloc (.cells #[.int .i64 0, .int .i64 0, .slice none 0 0] 24))
  case first =>
    go_wp2_with fail
    go_meet
    exact ⟨by rw [← HW.out], rfl⟩
  case rest =>
  obtain ⟨rfl, rfl⟩ := hcut
  have hmkI := HMK.out
  have z0 : w.heap.size < (w.alloc (.cells #[.int .i64 0, .int .i64 0, .slice none 0 0] 24)).heap.size := by simp
  have k0 : Blk (w.alloc (.cells #[.int .i64 0, .int .i64 0, .slice none 0 0] 24)) w.heap.size 24 #[.int .i64 0, .int .i64 0, .slice none 0 0] := Blk.new _ _ _
  have b0 : Below w.heap.size w (w.alloc (.cells #[.int .i64 0, .int .i64 0, .slice none 0 0] 24)) := by (repeat (first | exact Below.refl _ _ | assumption | refine Below.drew ?_ | refine below_drewN ?_ _ | refine Below.alloc ?_ (by first | omega | (simp; done) | (simp; omega)) _ | refine Below.setCell ?_ (by first | omega | (simp; done) | (simp; omega)) _ | refine below_setRow ?_ (by first | omega | (simp; done) | (simp; omega)) _ ))
  generalize w.alloc (.cells #[.int .i64 0, .int .i64 0, .slice none 0 0] 24) = w1 at *
  go_upto_region 4 with fail
  have kR : Blk (w1.alloc (.cells (i64s (k + 1) (fun _ => 0)) 3)) w1.heap.size 3 (i64s (k + 1) (fun _ => 0)) := Blk.new _ _ _
  have k0 := k0.alloc (.cells (i64s (k + 1) (fun _ => 0)) 3)
  have b0 : Below w.heap.size w (w1.alloc (.cells (i64s (k + 1) (fun _ => 0)) 3)) := b0.alloc (by omega) _
  clear hmkI
  generalize w1.alloc (.cells (i64s (k + 1) (fun _ => 0)) 3) = w2 at *
  generalize hgR : w1.heap.size = gR at *
  go_cut [36, 37, 38] (fun a b s wx => a = .slice A M c ∧ b = .int .i64 M ∧ s = .int .i64 0 ∧ wx = w2)
  case first =>
    have e1 : min (n : Int) 14 = (M : Int) := HM.out.symm
    have e2 : max (M : Int) 0 = (M : Int) := by omega
    have e3 : (M : Int) ≤ c := by omega
    go_wp2_with fail
    go_meet
    exact ⟨rfl, rfl, rfl, rfl⟩
  case rest =>
  obtain ⟨rfl, rfl, rfl, rfl⟩ := hcut
  have hA' : ArrB w w.heap.size A M p := fun h => by
    obtain ⟨b, off, e, hb, hc⟩ := hA (by omega)
    exact ⟨b, off, e, hb, fun i a b => hc i a (by omega)⟩
  clear hA
  go_upto_block 0 with fail
  go_cut [8] from 32 to 68 (fun t wx => t = .int .i64 W ∧ Below w.heap.size w wx ∧ Blk wx w.heap.size 24 #[.int .i64 0, .int .i64 0, .slice none 0 0] ∧ Blk wx gR 3 (i64s (k + 1) (rsF p M)))
  case first =>
    go_wp2
    go_loopw [10, 11, 38] (fun y x s wr => ∃ j : Nat, j ≤ M ∧ s = .int .i64 j ∧ y = .int .i64 (byF p j) ∧ x = .int .i64 (bxF p j) ∧ bxF p j < W ∧ Below w.heap.size w wr ∧ Blk wr w.heap.size 24 #[.int .i64 0, .int .i64 0, .slice none 0 0] ∧ Blk wr gR 3 (i64s (k + 1) (rsF p j))) (fun _ _ s _ => M - (intOf s).toNat)
    case atStart => exact ⟨0, by omega, rfl, rfl, rfl, by show (0 : Int) < W; omega, b0, k0, kR⟩
    case round =>
      obtain ⟨j, hj, rfl, rfl, rfl, hx, b1, t0, tR⟩ := hrel
      clear b0 k0 kR
      by_cases jl : (j : Int) < M
      · obtain ⟨bb, off, rfl, hbB, hcell⟩ := ArrB.at_ (ArrB.below hA' b1) (show (0 : Int) ≤ j by omega) jl
        rw [Int.toNat_natCast] at hcell
        obtain ⟨rb1, rb2⟩ := hB j
        have HX : Hid (bxF p (j + 1) = bxF p j + (8 + p j % 16)) := rfl
        have HY : Hid (byF p (j + 1) = byF p j + (p j / 16 % 3 - 1)) := rfl
        have hxlo := bxF_lo (p := p) j
        have hyb := byF_bd (p := p) j
        have ST := Lib.hid fun (i : Int) (hi : i < bxF p (j + 1)) => rsF_stop (p := p) (k := j) (m := M) hi (by omega)
        have AH := Lib.hid fun (i : Int) (hi : i < bxF p (j + 1)) => rsF_ahead (p := p) (k := j) hi
        have DR := Lib.hid fun (i : Int) (hi : bxF p (j + 1) ≤ i) => rsF_draw (p := p) (k := j) hi
        rw [HX.out] at ST AH DR
        rw [HY.out] at DR
        generalize bxF p j = X at *
        generalize byF p j = Y at *
        generalize p j = pv at *
        by_cases hge : W ≤ X + (8 + pv % 16)
        · have d1 : decide (W ≤ X + (8 + pv % 16)) = true := decide_eq_true hge
          have tR2 := tR.i64conv (r := rsF p M) fun i i0 i1 => (ST.out i (by have := HK.out; omega)).symm
          clear tR
          go_wp2_with fail
          go_meet
          exact ⟨rfl, b1, t0, tR2⟩
        · have d1 : decide (W ≤ X + (8 + pv % 16)) = false := decide_eq_false hge
          have hlt : X + (8 + pv % 16) < W := by omega
          have v1 : IntKind.i64.wrap (Y + (pv / 16 % 3 - 1)) = Y + (pv / 16 % 3 - 1) := IntWalk.i64_in _ (by omega)
          clear hge
          go_wp2_with fail
          have tR2 := tR.i64conv (r := fun t => if t < X + (8 + pv % 16) then rsF p (j + 1) t else rsF p j t) fun i i0 i1 => by
            show rsF p j i = if _ then _ else _
            split
            · rename_i h; exact (AH.out i h).symm
            · rfl
          clear tR v1
          generalize wr = w5 at *
          go_loopw [14] (fun s w9 => ∃ i : Int, X + (8 + pv % 16) ≤ i ∧ i ≤ W ∧ s = .int .i64 i ∧ Below w.heap.size w w9 ∧ Blk w9 w.heap.size 24 #[.int .i64 0, .int .i64 0, .slice none 0 0] ∧ Blk w9 gR 3 (i64s (k + 1) (fun t => if t < i then rsF p (j + 1) t else rsF p j t))) (fun s _ => (W - intOf s).toNat)
          case atStart => exact ⟨_, Int.le_refl _, by omega, rfl, b1, t0, tR2⟩
          case round =>
            obtain ⟨i, i0, iW, rfl, b2, u0, uR⟩ := hrel
            clear b1 t0 tR2
            by_cases il : i < W
            · have DI := Lib.hid (DR.out i i0)
              have g0 : (0 : Int) ≤ i := by omega
              have g1 : i < ((k + 1 : Nat) : Int) := by have := HK.out; omega
              have cR := uR.i64at g0 g1
              have fR := uR.frozen i.toNat
              have UR := Lib.hid (uR.i64set i g0 (Y + (pv / 16 % 3 - 1)))
              have hRz : gR ≠ w.heap.size := by omega
              have il2 : i < (k : Int) + 1 := by have := HK.out; omega
              go_wp2_with fail
              go_roundw
              case rel =>
                refine ⟨i + 1, by omega, by omega, by go_num, b2.setCell (by show w.heap.size ≤ gR; omega) _, u0.far (p := ⟨gR, i.toNat, none⟩) (fun e => hRz e.symm) _, UR.out.i64conv fun t _ _ => ?_⟩
                by_cases e : t = i
                · subst e
                  rw [upd_at, if_pos (by omega), DI.out]
                · rw [upd_ne e]
                  by_cases c1 : t < i
                  · rw [if_pos c1, if_pos (by omega)]
                  · rw [if_neg c1, if_neg (by omega)]
              case measure => simp [intOf]; omega
            · have uR2 := uR.i64conv (r := rsF p (j + 1)) fun t _ t1 => by rw [if_pos (by have := HK.out; omega)]
              clear uR
              go_wp2_with fail
              go_roundw
              case rel => exact ⟨j + 1, by omega, by go_num, by rw [HY.out], by rw [HX.out], by rw [HX.out]; omega, b2, u0, uR2⟩
              case measure => simp [intOf]; omega
      · obtain rfl : j = M := by omega
        go_wp2_with fail
        go_meet
        exact ⟨rfl, b1, t0, tR⟩
  case rest =>
  obtain ⟨rfl, b3, k3, kR3⟩ := hcut
  generalize wc = wz at *
  clear b0 k0 kR hA'
  have hkb : k ≤ 1000000 := by have := HK.out; omega
  have MN : Hid (Calls Try.prog 80 #[.slice (some ⟨gR, 0, none⟩) (k + 1) (k + 1)] wz fun e w' => e = .returned (.int .i64 (minA (rsF p M) k)) ∧ wz = w') := (min_any (some ⟨gR, 0, none⟩) k (k + 1) (rsF p M) wz (kR3.arrI kR3.lt) hkb).mono fun _ _ h => ⟨h.1, h.2.symm⟩
  have MX : Hid (Calls Try.prog 81 #[.slice (some ⟨gR, 0, none⟩) (k + 1) (k + 1)] wz fun e w' => e = .returned (.int .i64 (maxA (rsF p M) k)) ∧ wz = w') := (max_any (some ⟨gR, 0, none⟩) k (k + 1) (rsF p M) wz (kR3.arrI kR3.lt) hkb).mono fun _ _ h => ⟨h.1, h.2.symm⟩
  rw [HLO.out] at MN
  rw [HHI.out] at MX
  go_wp2_with fail
  refine MN.out.mono ?_
  rintro e w' ⟨rfl, rfl⟩
  go_wp2_with fail
  refine MX.out.mono ?_
  rintro e w' ⟨rfl, rfl⟩
  clear MN MX
  go_upto_region 16 with fail
  go_cut [17] (fun t wx => t = .int .i64 nn ∧ wx = wz)
  case first =>
    go_wp2_with fail
    go_meet
    exact ⟨by rw [← HNN.out], rfl⟩
  case rest =>
  obtain ⟨rfl, hwc⟩ := hcut
  obtain rfl : wz = wc := hwc.symm
  clear hwc
  go_upto_region 17 with fail
  go_cut [18] (fun s wx => s = .int .i64 H ∧ wx = wz)
  case first =>
    go_wp2_with fail
    go_meet
    exact ⟨by rw [← HHH.out], rfl⟩
  case rest =>
  obtain ⟨rfl, hwc⟩ := hcut
  obtain rfl : wz = wc := hwc.symm
  clear hwc
  have hH0 : 1 ≤ H ∧ H ≤ 640 := by have := HHH.out; omega
  have nb := area_bd (W := W) (H := H) (by omega) (by omega) (by omega) hH0.2
  have hmkB := makeB (W * H) nb.1 (by omega)
  rw [show (W * H).toNat = N by have := HN.out; omega] at hmkB
  have v1 : IntKind.i64.wrap (W * H) = W * H := IntWalk.i64_in _ (by omega)
  have kp : Blk ((wz.alloc (.cells (u8s N (fun _ => 0)) 5)).alloc (.cells #[.int .i64 W, .int .i64 H, .slice (some ⟨wz.heap.size, 0, none⟩) N N] 24)) wz.heap.size 5 (u8s N (wvQ W (wvL low (rsF p M)) (5 * 0) 0)) := ((Blk.new _ _ _).alloc _).u8conv fun i _ _ => (wvQ_start (by omega)).symm
  have kx : Blk ((wz.alloc (.cells (u8s N (fun _ => 0)) 5)).alloc (.cells #[.int .i64 W, .int .i64 H, .slice (some ⟨wz.heap.size, 0, none⟩) N N] 24)) (wz.heap.size + 1) 24 #[.int .i64 W, .int .i64 H, .slice (some ⟨wz.heap.size, 0, none⟩) N N] := Blk.new' (by simp) _ _
  have k4 := (k3.alloc (.cells (u8s N (fun _ => 0)) 5)).alloc (.cells #[.int .i64 W, .int .i64 H, .slice (some ⟨wz.heap.size, 0, none⟩) N N] 24)
  have kR4 := (kR3.alloc (.cells (u8s N (fun _ => 0)) 5)).alloc (.cells #[.int .i64 W, .int .i64 H, .slice (some ⟨wz.heap.size, 0, none⟩) N N] 24)
  have zb := b3.size
  have b4 : Below w.heap.size w ((wz.alloc (.cells (u8s N (fun _ => 0)) 5)).alloc (.cells #[.int .i64 W, .int .i64 H, .slice (some ⟨wz.heap.size, 0, none⟩) N N] 24)) := by (repeat (first | exact Below.refl _ _ | assumption | refine Below.drew ?_ | refine below_drewN ?_ _ | refine Below.alloc ?_ (by first | omega | (simp; done) | (simp; omega)) _ | refine Below.setCell ?_ (by first | omega | (simp; done) | (simp; omega)) _ | refine below_setRow ?_ (by first | omega | (simp; done) | (simp; omega)) _ ))
  have z3 := k3.lt
  have z4 := kR3.lt
  have zs : ((wz.alloc (.cells (u8s N (fun _ => 0)) 5)).alloc (.cells #[.int .i64 W, .int .i64 H, .slice (some ⟨wz.heap.size, 0, none⟩) N N] 24)).heap.size = wz.heap.size + 2 := by simp
  go_wp2_with fail
  clear hmkB v1 k3 kR3 b3
  generalize (wz.alloc (.cells (u8s N (fun _ => 0)) 5)).alloc (.cells #[.int .i64 W, .int .i64 H, .slice (some ⟨wz.heap.size, 0, none⟩) N N] 24) = w3 at *
  generalize hgp : wz.heap.size = gp at *
  obtain ⟨L, hL⟩ : ∃ L, wvL low (rsF p M) = L := ⟨_, rfl⟩
  have LV : Hid (∀ (i j x : Nat), j < 5 → L (5 * i + j) x = 5 - low + (i : Int) * 36 + 6 * (j : Int) + rsF p M x) := by
    show ∀ _, _
    intro i j x hj
    rw [← hL]; exact wvL_at low _ i j x hj
  rw [hL] at kp
  have HL := Lib.hid hL
  have KMAX : k + 1 ≤ maxLen := by unfold maxLen; omega
  have RB := Lib.hid fun (x : Int) => rsF_bd (p := p) M x
  obtain ⟨i0, hi0, hz0, hz1, hz2⟩ := info_parts infoInts
  obtain ⟨s0, hs0, hsz0, hsz1, hsz2⟩ := info_parts infoLines
  have hnn2 : (nn : Int) ≤ 3 := by omega
  go_loopw [20, 97] (fun vo s wr => ∃ (i : Nat) (vs : Nat → Value), i ≤ nn ∧ s = .int .i64 i ∧ Below w.heap.size w wr ∧ gp + 2 ≤ wr.heap.size ∧ Blk wr w.heap.size 24 #[.int .i64 0, .int .i64 0, .slice none 0 0] ∧ Blk wr gR 3 (i64s (k + 1) (rsF p M)) ∧ Blk wr (gp + 1) 24 #[.int .i64 W, .int .i64 H, .slice (some ⟨gp, 0, none⟩) N N] ∧ Blk wr gp 5 (u8s N (wvQ W L (5 * i) 0)) ∧ StOut (gp + 2) wr (fun _ => k + 1) L ((List.range i).map (5 * ·)) vo vs) (fun _ s _ => nn - (intOf s).toNat)
  case atStart => exact ⟨0, fun _ => default, by omega, rfl, b4, by omega, k4, kR4, kx, kp, StOut.nil _ _ _ _ _⟩
  case round =>
    obtain ⟨i, vs, hi, rfl, b5, hsz, t0, tR, tx, tp, hS⟩ := hrel
    clear b4 k4 kR4 kx kp
    obtain ⟨Ao, co, eo, -, -⟩ := own_arr hS.row
    rw [List.length_map, List.length_range] at eo
    subst eo
    by_cases il : (i : Int) < nn
    · have ks := Blk.new wr 54 #[.slice none 0 0]
      have bs : But wr.heap.size gp wr (wr.alloc (.cells #[.slice none 0 0] 54)) := (But.refl gp (Nat.le_refl _)).then ((Below.refl _ _).alloc (Nat.le_refl _) _)
      have tp2 := tp.alloc (.cells #[.slice none 0 0] 54)
      go_wp2_with fail
      generalize wr.alloc (.cells #[.slice none 0 0] 54) = w4 at *
      generalize wr = wo at *
      generalize hgs : wo.heap.size = gs at *
      go_loopw [100] (fun s w9 => ∃ (j : Nat) (v2 : Value) (v : Nat → Value), j ≤ 5 ∧ s = .int .i64 j ∧ But gs gp wo w9 ∧ Blk w9 gs 54 #[v2] ∧ FoundM gs w9 (fun _ => k + 1) (fun t => L (5 * i + t)) j v2 v ∧ Blk w9 gp 5 (u8s N (wvQ W L (5 * i + j) 0))) (fun s _ => 5 - (intOf s).toNat)
      case atStart => exact ⟨0, _, fun _ => default, by omega, rfl, bs, ks, FoundM.nil _ _ _ _ _, tp2⟩
      case round =>
        obtain ⟨j, v2, v, hj, rfl, bu, us, hF, up⟩ := hrel
        clear bs ks tp2
        have u0 := t0.but bu (by rw [← hgs]; exact t0.lt) (by omega)
        have uR := tR.but bu (by rw [← hgs]; exact tR.lt) (by omega)
        have ux := tx.but bu (by rw [← hgs]; exact tx.lt) (by omega)
        obtain ⟨A2, c2, rfl, -, -⟩ := own_arr hF.row
        have gsw : gs < wr.heap.size := us.lt
        by_cases jl : (j : Int) < 5
        · have hmkI := HMK.out
          have kl := Blk.new wr 3 (i64s (k + 1) (fun _ => 0))
          have bl : But wr.heap.size gp wr (wr.alloc (.cells (i64s (k + 1) (fun _ => 0)) 3)) := (But.refl gp (Nat.le_refl _)).then ((Below.refl _ _).alloc (Nat.le_refl _) _)
          have up2 := up.alloc (.cells (i64s (k + 1) (fun _ => 0)) 3)
          go_wp2_with fail
          clear hmkI
          generalize wr.alloc (.cells (i64s (k + 1) (fun _ => 0)) 3) = w7 at *
          generalize wr = wi at *
          generalize hgl : wi.heap.size = gl at *
          have kl2 := kl.i64conv (r := fun t => if t < ((0 : Nat) : Int) then L (5 * i + j) t.toNat else 0) fun t t0 _ => by rw [if_neg (by omega)]
          go_loopw [107] (fun s w9 => ∃ x : Nat, (x : Int) ≤ W ∧ s = .int .i64 x ∧ But gl gp wi w9 ∧ Blk w9 gl 3 (i64s (k + 1) (fun t => if t < (x : Int) then L (5 * i + j) t.toNat else 0)) ∧ Blk w9 gp 5 (u8s N (wvQ W L (5 * i + j) x))) (fun s _ => (W - intOf s).toNat)
          case atStart => exact ⟨0, by omega, rfl, bl, kl2, up2⟩
          case round =>
            obtain ⟨x, hx, rfl, bw, cl, cp⟩ := hrel
            clear bl kl kl2 up2
            have cR := uR.but bw (by rw [← hgl]; exact uR.lt) (by omega)
            have cx := ux.but bw (by rw [← hgl]; exact ux.lt) (by omega)
            have hxk : (x : Int) ≤ (k : Int) + 1 := by have := HK.out; omega
            by_cases xl : (x : Int) < W
            · have xk : (x : Int) < ((k + 1 : Nat) : Int) := by have := HK.out; omega
              have xk2 : (x : Int) < (k : Int) + 1 := by have := HK.out; omega
              have c1 := cR.i64at (show (0 : Int) ≤ x by omega) xk
              rw [Int.toNat_natCast] at c1
              have c2' := cl.i64at (show (0 : Int) ≤ x by omega) xk
              rw [Int.toNat_natCast] at c2'
              have f2 := cl.frozen x
              have LX := Lib.hid (LV.out i j x (by omega))
              obtain ⟨rb1, rb2⟩ := RB.out x
              have CL := Lib.hid (cl.i64set (x : Int) (by omega) (L (5 * i + j) x))
              have CP := Lib.hid fun t => wvQ_set (W := W) (L := L) (t := 5 * i + j) (x := (x : Int)) (i := t) (by omega) xl
              rw [Int.toNat_natCast] at CL CP
              obtain ⟨lr1, lr2⟩ := LR.out x (by omega) xl
              have hLb : 0 ≤ L (5 * i + j) x ∧ L (5 * i + j) x < H := by rw [LX.out, HHH.out]; omega
              obtain ⟨hl1, hl2⟩ := hLb
              rw [LX.out] at CL CP hl1 hl2
              generalize rsF p M x = rv at *
              have hgg : gl ≠ gp ∧ gl ≠ gR ∧ gl ≠ gp + 1 := by refine ⟨?_, ?_, ?_⟩ <;> omega
              obtain ⟨g1, g2, g3⟩ := hgg
              have C8 := Lib.hid (cp.far (p := ⟨gl, x, none⟩) (fun e => g1 e.symm) (.int .i64 (5 - low + (i : Int) * 36 + 6 * (j : Int) + rv)))
              have X8 := Lib.hid (cx.far (p := ⟨gl, x, none⟩) (fun e => g3 e.symm) (.int .i64 (5 - low + (i : Int) * 36 + 6 * (j : Int) + rv)))
              have B8 := Lib.hid (bw.then ((Below.refl gl wr).setCell (p := ⟨gl, x, none⟩) (Nat.le_refl gl) (.int .i64 (5 - low + (i : Int) * 36 + 6 * (j : Int) + rv))))
              clear cR cx cl cp bw
              go_upto_region 32 with fail
              generalize wr.setCell ⟨gl, x, none⟩ (.int .i64 (5 - low + (i : Int) * 36 + 6 * (j : Int) + rv)) = w8 at *
              clear c1 c2' f2
              have cl8 := CL.out
              have cp8 := C8.out
              have bw8 := B8.out
              obtain ⟨x1, x2, x3⟩ := X8.out.cells3
              have c2 := cl8.i64at (show (0 : Int) ≤ x by omega) xk
              rw [Int.toNat_natCast, show upd (fun t => if t < (x : Int) then L (5 * i + j) t.toNat else 0) (x : Int) (5 - low + (i : Int) * 36 + 6 * (j : Int) + rv) (x : Int) = (5 - low + (i : Int) * 36 + 6 * (j : Int) + rv) from upd_at _ _ _] at c2
              obtain ⟨j1, j2, j3⟩ := idx_lt (x := (x : Int)) (y := (5 - low + (i : Int) * 36 + 6 * (j : Int) + rv)) (W := W) (H := H) (by omega) xl hl1 hl2
              rw [Int.mul_comm H W] at j2
              have j4 : (5 - low + (i : Int) * 36 + 6 * (j : Int) + rv) * W + x < (N : Int) := by have := HN.out; omega
              have nbb := nb.2
              have v7 : IntKind.i64.wrap ((5 - low + (i : Int) * 36 + 6 * (j : Int) + rv) * W) = (5 - low + (i : Int) * 36 + 6 * (j : Int) + rv) * W := IntWalk.i64_in _ (by omega)
              have v8 : IntKind.i64.wrap ((5 - low + (i : Int) * 36 + 6 * (j : Int) + rv) * W + x) = (5 - low + (i : Int) * 36 + 6 * (j : Int) + rv) * W + x := IntWalk.i64_in _ (by omega)
              have cg := cp8.u8at j1 j4
              have fg := cp8.frozen ((5 - low + (i : Int) * 36 + 6 * (j : Int) + rv) * W + x).toNat
              have KS := Lib.hid (cp8.u8set ((5 - low + (i : Int) * 36 + 6 * (j : Int) + rv) * W + x) j1 1)
              go_wp2_with fail
              go_still_tail 11, (by kernel_rfl)
              change wpList _ _ _ _ _ w8.drew
              clear v7 v8
              go_wp2
              go_roundw
              case rel =>
                refine ⟨x + 1, by omega, by go_num, (bw8.then (Below.refl gl w8).drew).set _ _, cl8.drew.far (p := ⟨gp, ((5 - low + (i : Int) * 36 + 6 * (j : Int) + rv) * W + x).toNat, none⟩) g1 _ |>.i64conv fun t _ _ => ?_, Blk.u8conv (by simpa using KS.out.drew) fun t _ _ => by rw [Int.natCast_add]; exact CP.out t⟩
                by_cases e : t = (x : Int)
                · subst e
                  rw [upd_at, if_pos (by omega), Int.toNat_natCast, LX.out]
                · rw [upd_ne e]
                  by_cases h1 : t < (x : Int)
                  · rw [if_pos h1, if_pos (by omega)]
                  · rw [if_neg h1, if_neg (by omega)]
              case measure => simp [intOf]; omega
            · have ex : (x : Int) = W := by omega
              have cl2 := cl.i64conv (r := fun t => L (5 * i + j) t.toNat) fun t _ t1 => by rw [if_pos (by have := HK.out; omega)]
              have up2 := cp.u8conv (r := wvQ W L (5 * i + (j + 1)) 0) fun t _ _ => by rw [ex]; exact wvQ_line (by omega)
              have ownl := own_i64s cl2 (base := gs) (by omega) KMAX
              have F2 := hF.but bw hgl (show gp < gs by omega)
              have us2 := us.but bw (by omega) (by omega)
              have bu2 := bu.trans bw (show gs ≤ gl by omega)
              have q1 := us2.at0
              have q2 := us2.frozen 0
              have hzw : gs < wr.heap.size := us2.lt
              have n1 := World.new_ne wr _ q1
              have d9 : decide ((x : Int) < (k : Int) + 1) = false := decide_eq_false (by have := HK.out; omega)
              have d8 : ¬ ((x : Int) < (k : Int) + 1) := by have := HK.out; omega
              clear cl cp hF us bu bw u0 uR ux up cR cx ex
              go_wp2_with (at_builtin; refine wpList_append_own _ rfl (.tmp 139) (.tmp 141) 34 rfl gs 25 i0 (.slice none 0 0) 1 24 Try.underlying34 hi0 hz0 hz1 hz2 rfl (by decide) _ _ _ rfl (F2.row.alloc _) ⟨wr.heap.size, 0, none⟩ 1 1 [.slice (some ⟨gl, 0, none⟩) (k + 1) (k + 1)] rfl rfl ?c1 ?c2 ?c3 ?c4 ?c5 ?_)
              try case c1 => exact cell_one_new _ _ _
              try case c2 => simp [Value.oneCell']
              try case c3 => unfold maxLen; omega
              try case c4 => omega
              try case c5 => first | omega | (simp; done) | (simp; omega)
              intro v' w9 own9 hg9 _
              have F9 := (F2.alloc (.cells #[.slice (some ⟨gl, 0, none⟩) (k + 1) (k + 1)] 25)).snoc (ownl.alloc _) hg9 own9
              have b9 : Below gs wr w9 := ((Below.refl gs wr).alloc (by omega) (.cells #[.slice (some ⟨gl, 0, none⟩) (k + 1) (k + 1)] 25)).grown hg9 (by simp; omega) (fun t ht => (own_ge F2.row ht).1)
              have bu9 := bu2.then b9
              have us9 := (us2.alloc (.cells #[.slice (some ⟨gl, 0, none⟩) (k + 1) (k + 1)] 25)).grown hg9 (own_neB F2.row us2 (by decide))
              have up9 := (up2.alloc (.cells #[.slice (some ⟨gl, 0, none⟩) (k + 1) (k + 1)] 25)).grown hg9 (own_neB F2.row up2 (by decide))
              obtain ⟨A9, c9, rfl, -, -⟩ := own_arr own9
              have y1 := us9.at0
              have y2 := us9.frozen 0
              have B9 := Lib.hid (bu9.then ((Below.refl gs w9).setCell (p := ⟨gs, 0, none⟩) (Nat.le_refl gs) (.slice A9 (j + 1) c9)))
              have U9 := Lib.hid (us9.set_ 0 (.slice A9 (j + 1) c9))
              have FF9 : FoundM gs (w9.setCell ⟨gs, 0, none⟩ (.slice A9 (j + 1) c9)) (fun _ => k + 1) (fun t => L (5 * i + t)) (j + 1) (.slice A9 (j + 1) c9) (fun t => if t = j then .slice (some ⟨gl, 0, none⟩) (k + 1) (k + 1) else v t) :=
                ⟨own_far F9.row us9 (by decide) _ _, fun t ht => own_far (F9.lines t ht) us9 (by decide) _ _⟩
              have P9 := Lib.hid (up9.far (p := ⟨gs, 0, none⟩) (show gp ≠ gs by omega) (.slice A9 (j + 1) c9))
              clear own9 hg9 F2 us2 bu2 bu9 b9 us9 up9 up2 ownl cl2 q1 q2 F9
              go_wp2
              go_roundw
              case rel => exact ⟨j + 1, _, _, by omega, by go_num, B9.out, U9.out, FF9, P9.out⟩
              case measure => simp [intOf]; omega
        · obtain rfl : j = 5 := by omega
          have S2 := hS.but bu hgs (show gp < gp + 2 by omega)
          have R2 := S2.row
          rw [List.length_map, List.length_range] at R2
          have c0 := us.at0
          have bB : Below w.heap.size w wr := b5.trans (bu.to hgs (show w.heap.size ≤ gp by omega) (by omega))
          have hzw : gs < wr.heap.size := us.lt
          go_wp2_with (at_builtin; refine wpList_append_own _ rfl (.tmp 145) (.tmp 147) 56 rfl (gp + 2) 54 s0 (.agg #[.slice none 0 0]) 1 24 Try.underlying56 hs0 hsz0 hsz1 hsz2 rfl (by decide) _ _ _ rfl (R2.alloc _) ⟨wr.heap.size, 0, none⟩ 1 1 [.slice A2 5 c2] rfl rfl ?d1 ?d2 ?d3 ?d4 ?d5 ?_)
          try case d1 => exact cell_one_new _ _ _
          try case d2 => simp [Value.oneCell']
          try case d3 => unfold maxLen; omega
          try case d4 => omega
          try case d5 => first | omega | (simp; done) | (simp; omega)
          intro v' w9 own9 hg9 _
          have b9 : Below w.heap.size w w9 := (bB.alloc bB.size (.cells #[.slice A2 5 c2] 54)).grown hg9 (by simp; omega) (fun t ht => by have := (own_ge S2.row ht).1; omega)
          have S9 := (S2.below ((Below.refl _ _).alloc (Nat.le_refl _) (.cells #[.slice A2 5 c2] 54))).snoc (i := 5 * i) ((hF.base (show gp + 2 ≤ gs by omega)).alloc _) hg9 (by rw [List.length_map, List.length_range]; exact own9)
          have e0 := (u0.alloc (.cells #[.slice A2 5 c2] 54)).grown hg9 (own_neB S2.row u0 (by decide))
          have eR := (uR.alloc (.cells #[.slice A2 5 c2] 54)).grown hg9 (own_neB S2.row uR (by decide))
          have ex := (ux.alloc (.cells #[.slice A2 5 c2] 54)).grown hg9 (own_neB S2.row ux (by decide))
          have ep := (up.alloc (.cells #[.slice A2 5 c2] 54)).grown hg9 (own_neB S2.row up (by decide))
          have hz9 : gp + 2 ≤ w9.heap.size := by have := hg9.size; simp at this; omega
          obtain ⟨A9, c9, rfl, -, -⟩ := own_arr own9
          clear own9 hg9 S2 R2 hF us bu hS u0 uR ux up
          go_wp2
          go_roundw
          case rel => exact ⟨i + 1, _, by omega, by go_num, b9, hz9, e0, eR, ex, ep, by rw [range_snoc]; exact S9⟩
          case measure => simp [intOf]; omega
    · obtain rfl : i = nn := by omega
      obtain ⟨x1, x2, x3⟩ := tx.cells3
      obtain ⟨u1, u2, u3⟩ := t0.cells3
      obtain ⟨f1, f2, f3⟩ := t0.frozen3
      have k9 := ((t0.set_ 0 (.int .i64 W)).set_ 1 (.int .i64 H)).set_ 2 (.slice (some ⟨gp, 0, none⟩) N N)
      obtain ⟨s4, s5, s6⟩ := Blk.cells3 (a := .int .i64 W) (b := .int .i64 H) (c := .slice (some ⟨gp, 0, none⟩) N N) k9
      have S9 := hS
      have zz := b5.size
      go_wp2_with fail
      refine bodyPost_ret (v := .tuple #[.agg #[.int .i64 W, .int .i64 H, .slice (some ⟨gp, 0, none⟩) N N], .slice Ao i co]) (by simp [results, Try.results41, go_sem, s4, s5, s6]) rfl ?_
      refine ⟨_, rfl, ?_, by (repeat (first | exact Below.refl _ _ | assumption | refine Below.drew ?_ | refine below_drewN ?_ _ | refine Below.alloc ?_ (by first | omega | (simp; done) | (simp; omega)) _ | refine Below.setCell ?_ (by first | omega | (simp; done) | (simp; omega)) _ | refine below_setRow ?_ (by first | omega | (simp; done) | (simp; omega)) _ ))⟩
      have g1 : gp ≠ w.heap.size := by omega
      show WavyOut _ _ _ _ _ _ _ _
      try rw [HL.out]
      refine ⟨gp, gp + 2, _, vs, rfl, by omega, by omega, Blk.far (Blk.far (Blk.far tp (p := ⟨w.heap.size, 0, none⟩) g1 (.int .i64 W)) (p := ⟨w.heap.size, 1, none⟩) g1 (.int .i64 H)) (p := ⟨w.heap.size, 2, none⟩) g1 (.slice (some ⟨gp, 0, none⟩) N N), ?_⟩
      rw [HWN.out]
      exact ((S9.far t0 (show w.heap.size < gp + 2 by omega) 0 (.int .i64 W)).far (t0.set_ 0 (.int .i64 W)) (show w.heap.size < gp + 2 by omega) 1 (.int .i64 H)).far ((t0.set_ 0 (.int .i64 W)).set_ 1 (.int .i64 H)) (show w.heap.size < gp + 2 by omega) 2 (.slice (some ⟨gp, 0, none⟩) N N)
end Go.Proofs.Ytdimlpcbbkokiaa

/- Walks: whether a stave fits an image (stave.fits, stave.Check; the reference's Fits, Check). -/
namespace Go.Proofs.Ytdimlpcbbkokiaa
open Go.RowKit Go.Shelf
set_option linter.unusedVariables false
attribute [local go_sem] Oper.semAt_some

/-- five lines are paths of the image and lie one under the other -/
def StP (W H : Int) (K : Nat) (m : Nat → Nat) (ln : Nat → Nat → Int) : Prop :=
  K = 5 ∧ (∀ i, i < 5 → isPathB W H (m i) (fun j => ln i j.toNat) = true) ∧ ∀ i, i + 1 < 5 → ∀ x : Nat, (x : Int) < W → ln i x < ln (i + 1) x
def stFits (W H : Int) (K : Nat) (m : Nat → Nat) (ln : Nat → Nat → Int) : Bool :=
  decide (K = 5) && (((List.range 5).all fun i => isPathB W H (m i) fun j => ln i j.toNat) && (List.range 4).all fun i => (List.range W.toNat).all fun x => decide (ln i x < ln (i + 1) x))
theorem stFits_iff {W H : Int} {K : Nat} {m : Nat → Nat} {ln : Nat → Nat → Int} : stFits W H K m ln = true ↔ StP W H K m ln := by
  unfold stFits StP
  rw [Bool.and_eq_true, Bool.and_eq_true, decide_eq_true_iff, List.all_eq_true, List.all_eq_true]
  refine and_congr_right fun _ => and_congr ⟨fun h i hi => h i (List.mem_range.2 hi), fun h i hi => h i (List.mem_range.1 hi)⟩ ⟨fun h i hi x hx => ?_, fun h i hi => ?_⟩
  · have := List.all_eq_true.1 (h i (List.mem_range.2 (by omega))) x (List.mem_range.2 (by omega))
    simpa using this
  · rw [List.all_eq_true]
    intro x hx
    have := List.mem_range.1 hi
    have := List.mem_range.1 hx
    exact decide_eq_true (h i (by omega) x (by omega))
theorem stFits_no {W H : Int} {K : Nat} {m : Nat → Nat} {ln : Nat → Nat → Int} (h : ¬ StP W H K m ln) : stFits W H K m ln = false := Bool.eq_false_iff.2 fun e => h (stFits_iff.1 e)
theorem Blk.cells0 {w : World} {g : Nat} {t : TypeId} {a : Value} (h : Blk w g t #[a]) : w.cell? ⟨g, 0, none⟩ = some a := by rw [h.cell]; rfl

set_option maxRecDepth 100000 in
set_option maxHeartbeats 4000000 in
theorem fits_st (W H : Int) (A AL : Option Addr) (n c K cL : Nat) (m : Nat → Nat) (ln : Nat → Nat → Int) (w : World) (hW : W ≤ 640) (hH : H ≤ 640) (hL : Lines w w.heap.size AL K m ln) (hm : ∀ i, i < K → m i ≤ maxLen) :
    Calls Try.prog 78 #[.agg #[.int .i64 W, .int .i64 H, .slice A n c], .agg #[.slice AL K cL]] w fun e w' => e = .returned (.bool (stFits W H K m ln)) ∧ Below w.heap.size w w' := by
  have IP := Lib.hid fun i (hi : i < K) P d w' hP => isPath_any W H A P n c (m i) d (fun j => ln i j.toNat) w' hW hH hP (hm i hi)
  by_cases hK : K = 5
  · subst hK
    clear hm
    go_enter Try.func78, Try.ntmps78
    go_wp2_with fail
    have k1 : Blk ((w.alloc (.cells #[.int .i64 W, .int .i64 H, .slice A n c] 24)).alloc (.cells #[.slice AL 5 cL] 54)) w.heap.size 24 #[.int .i64 W, .int .i64 H, .slice A n c] := (Blk.new _ _ _).alloc _
    have k2 : Blk ((w.alloc (.cells #[.int .i64 W, .int .i64 H, .slice A n c] 24)).alloc (.cells #[.slice AL 5 cL] 54)) (w.heap.size + 1) 54 #[.slice AL 5 cL] := Blk.new' (by simp) _ _
    have b1 : Below w.heap.size w ((w.alloc (.cells #[.int .i64 W, .int .i64 H, .slice A n c] 24)).alloc (.cells #[.slice AL 5 cL] 54)) := by (repeat (first | exact Below.refl _ _ | assumption | refine Below.drew ?_ | refine below_drewN ?_ _ | refine Below.alloc ?_ (by first | omega | (simp; done) | (simp; omega)) _ | refine Below.setCell ?_ (by first | omega | (simp; done) | (simp; omega)) _ | refine below_setRow ?_ (by first | omega | (simp; done) | (simp; omega)) _ ))
    generalize (w.alloc (.cells #[.int .i64 W, .int .i64 H, .slice A n c] 24)).alloc (.cells #[.slice AL 5 cL] 54) = w1 at *
    go_loopw [15] (fun s wr => ∃ i : Nat, i ≤ 5 ∧ s = .int .i64 i ∧ (∀ j, j < i → isPathB W H (m j) (fun t => ln j t.toNat) = true) ∧ (∀ j, j + 1 < i → ∀ x : Nat, (x : Int) < W → ln j x < ln (j + 1) x) ∧ Below w.heap.size w wr ∧ Blk wr w.heap.size 24 #[.int .i64 W, .int .i64 H, .slice A n c] ∧ Blk wr (w.heap.size + 1) 54 #[.slice AL 5 cL]) (fun s _ => 5 - (intOf s).toNat)
    case atStart => exact ⟨0, by omega, rfl, fun j hj => by omega, fun j hj => by omega, b1, k1, k2⟩
    case round =>
      obtain ⟨i, hi, rfl, hp, ho, b2, q1, q2⟩ := hrel
      clear b1 k1 k2
      obtain ⟨p1, p2, p3⟩ := q1.cells3
      have r1 := q2.cells0
      have HP := Lib.hid hp; have HO := Lib.hid ho
      clear hp ho
      by_cases hlt : (i : Int) < 5
      · obtain ⟨bA, oA, A1, c1, rfl, hbA, hcA, haA⟩ := hL.at_ (i := i) (by omega)
        have hc1 := (b2.cell (p := ⟨bA, oA + i, none⟩) hbA).trans hcA
        have ha1 := (haA.below b2).more b2.size
        have IPi := Lib.hid fun w' hP => IP.out i (by omega) A1 c1 w' hP
        cases hpi : isPathB W H (m i) (fun t => ln i t.toNat) with
        | false =>
          have hr : Hid (stFits W H 5 m ln = false) := by
            show _ = _
            exact stFits_no fun h => by have := h.2.1 i (by omega); rw [hpi] at this; cases this
          rw [hpi] at IPi
          clear hpi hcA
          go_wp2_with fail
          refine (IPi.out _ ha1).mono ?_
          rintro e w3 ⟨rfl, hb3⟩
          have b3 := below_call b2 b2.size hb3
          go_wp2
          go_ret
          exact ⟨ret_bool hr.out.symm, b3⟩
        | true =>
          rw [hpi] at IPi
          have HPI := Lib.hid hpi
          obtain ⟨⟨g1, g2, g3⟩, g4⟩ := isPathB_iff.1 hpi
          have BD := Lib.hid fun (x : Nat) (hx : (x : Int) < (m i : Int)) => (stepB_iff.1 (g4 x (by omega) hx))
          clear hpi g4 hcA
          go_wp2_with fail
          refine (IPi.out _ ha1).mono ?_
          rintro e w3 ⟨rfl, hb3⟩
          have b3 := below_call b2 b2.size hb3
          have q3 := q1.below' hb3
          have q4 := q2.below' hb3
          have ha3 := ha1.to hb3
          clear b2 q1 q2 hb3 p1 p2 p3 r1 ha1 hc1
          obtain ⟨p1, p2, p3⟩ := q3.cells3
          have r1 := q4.cells0
          go_wp2_with fail
          generalize hmi : m i = Mi at *
          have HMI := Lib.hid hmi
          clear hmi
          go_loopw [26] (fun s wr => ∃ x : Nat, x ≤ Mi ∧ s = .int .i64 x ∧ (∀ k, i = k + 1 → ∀ t : Nat, t < x → ln k t < ln i t) ∧ ∃ nn, wr = w3.drewN nn) (fun s _ => Mi - (intOf s).toNat)
          case atStart => exact ⟨0, by omega, rfl, fun k hk t ht => by omega, 0, rfl⟩
          case round =>
            obtain ⟨x, hx, rfl, hlx, nn, hwr⟩ := hrel
            have b4 : Below w.heap.size w wr := by rw [hwr]; exact below_drewN b3 nn
            have q5 : Blk wr w.heap.size 24 #[.int .i64 W, .int .i64 H, .slice A n c] := by rw [hwr]; exact q3.drewN nn
            have q6 : Blk wr (w.heap.size + 1) 54 #[.slice (some ⟨bA, oA, none⟩) 5 cL] := by rw [hwr]; exact q4.drewN nn
            have ha4 : ArrI wr wr.heap.size A1 Mi (fun t => ln i t.toNat) := by rw [hwr]; exact ha3
            have HWR := Lib.hid hwr
            have HLX := Lib.hid hlx
            clear hwr hlx p1 p2 p3 r1
            obtain ⟨p1, p2, p3⟩ := q5.cells3
            have r1 := q6.cells0
            by_cases xl : (x : Int) < Mi
            · by_cases i0 : i = 0
              · have d0 : decide ((0 : Int) < (i : Int)) = false := decide_eq_false (by omega)
                have d0' : decide (0 < i) = false := decide_eq_false (by omega)
                have HI0 := Lib.hid i0
                clear i0
                go_wp2_with fail
                go_quiet (fail)
                go_wp2
                go_roundw
                case rel => exact ⟨x + 1, by omega, by go_num, fun k hk => by have := HI0.out; omega, _, by rw [HWR.out]; exact World.drewN_drewN _ _ _⟩
                case measure => simp [intOf]; omega
              · obtain ⟨k, hk⟩ : ∃ k, i = k + 1 := ⟨i - 1, by omega⟩
                obtain ⟨bB, oB, A2, c2, eB, hbB, hcB, haB⟩ := hL.at_ (i := k) (by omega)
                cases eB
                have hc2 := (b4.cell (p := ⟨bA, oA + k, none⟩) hbA).trans hcB
                have ha5 := (haB.below b4).more b4.size
                obtain ⟨⟨j1, j2, j3⟩, -⟩ := isPathB_iff.1 (HP.out k (by omega))
                obtain ⟨b1', o1', e1', -, hx1⟩ := ArrI.at_ ha4 (i := (x : Int)) (by omega) xl
                obtain ⟨b2', o2', e2', -, hx2⟩ := ArrI.at_ ha5 (i := (x : Int)) (by omega) (by omega)
                subst e1'
                subst e2'
                rw [Int.toNat_natCast] at hx1 hx2
                have d0 : decide ((0 : Int) < (i : Int)) = true := decide_eq_true (by omega)
                have d0' : decide (0 < i) = true := decide_eq_true (by omega)
                have d0p : 0 < i := by omega
                have v1 : IntKind.i64.wrap ((i : Int) - 1) = (k : Int) := by rw [show (i : Int) - 1 = k by omega]; exact IntWalk.i64_in _ (by omega)
                have k5 : (k : Int) < 5 := by omega
                have k0 : (0 : Int) ≤ (k : Int) := by omega
                have xm : (x : Int) < (m k : Int) := by omega
                have HKE := Lib.hid hk
                have HMK := Lib.hid j3
                by_cases hle : ln i x ≤ ln k x
                · have hr : Hid (stFits W H 5 m ln = false) := by
                    show _ = _
                    exact stFits_no fun h => by
                      have h1 := h.2.2 k (by have := HKE.out; omega) x (by omega)
                      rw [← HKE.out] at h1; omega
                  have dl : decide (ln i x ≤ ln k x) = true := decide_eq_true hle
                  clear hk hcB
                  generalize ln i x = va at *
                  generalize ln k x = vb at *
                  go_wp2_with fail
                  go_quiet (fail)
                  go_wp2
                  go_ret
                  exact ⟨ret_bool hr.out.symm, below_drewN b4 _⟩
                · have hll : Hid (ln k x < ln i x) := by show _ < _; omega
                  have dl : decide (ln i x ≤ ln k x) = false := decide_eq_false hle
                  clear hk hcB
                  generalize hva : ln i x = va at *
                  generalize hvb : ln k x = vb at *
                  have HVA := Lib.hid hva; have HVB := Lib.hid hvb
                  clear hva hvb
                  go_wp2_with fail
                  go_quiet (fail)
                  go_wp2
                  go_roundw
                  case rel =>
                    refine ⟨x + 1, by omega, by go_num, fun k' hk' t ht => ?_, _, by rw [HWR.out]; exact World.drewN_drewN _ _ _⟩
                    rcases Nat.lt_succ_iff_lt_or_eq.1 ht with h | rfl
                    · exact HLX.out k' hk' t h
                    · obtain rfl : k = k' := by have := HKE.out; omega
                      rw [HVA.out, HVB.out]; exact hll.out
                  case measure => simp [intOf]; omega
            · obtain rfl : Mi = x := by omega
              go_wp2_with fail
              go_roundw
              case rel =>
                refine ⟨i + 1, by omega, by go_num, fun j hj => ?_, fun j hj x hx => ?_, b4, q5, q6⟩
                · rcases Nat.lt_succ_iff_lt_or_eq.1 hj with h | rfl
                  · exact HP.out j h
                  · exact HMI.out ▸ HPI.out
                · by_cases h : j + 1 < i
                  · exact HO.out j h x hx
                  · obtain rfl : i = j + 1 := by omega
                    exact HLX.out j rfl x (by omega)
              case measure => simp [intOf]; omega
      · obtain rfl : i = 5 := by omega
        have hr : Hid (stFits W H 5 m ln = true) := by show _ = _; exact stFits_iff.2 ⟨rfl, HP.out, HO.out⟩
        go_wp2
        go_ret
        exact ⟨ret_bool hr.out.symm, b2⟩
  · have hr : Hid (stFits W H K m ln = false) := by show _ = _; exact stFits_no fun h => hK h.1
    have hb : ((K : Int) != 5) = true := by simp; omega
    clear hK
    go_enter Try.func78, Try.ntmps78
    go_wp2
    go_ret
    exact ⟨ret_bool hr.out.symm, by (repeat (first | exact Below.refl _ _ | assumption | refine Below.drew ?_ | refine below_drewN ?_ _ | refine Below.alloc ?_ (by first | omega | (simp; done) | (simp; omega)) _ | refine Below.setCell ?_ (by first | omega | (simp; done) | (simp; omega)) _ | refine below_setRow ?_ (by first | omega | (simp; done) | (simp; omega)) _ ))⟩
end Go.Proofs.Ytdimlpcbbkokiaa

/- Walks: the reference's Fits; the checks of a stave, the program's and the reference's. -/
namespace Go.Proofs.Ytdimlpcbbkokiaa
open Go.RowKit Go.Shelf
set_option linter.unusedVariables false
attribute [local go_sem] Oper.semAt_some

set_option maxRecDepth 100000 in
set_option maxHeartbeats 4000000 in
theorem rfits_st (W H : Int) (A AL : Option Addr) (n c K cL : Nat) (m : Nat → Nat) (ln : Nat → Nat → Int) (w : World) (hW0 : 0 ≤ W) (hH0 : 0 ≤ H) (hW : W ≤ 640) (hH : H ≤ 640) (hL : Lines w w.heap.size AL K m ln) (hm : ∀ i, i < K → m i ≤ maxLen) :
    Calls Try.prog 79 #[.agg #[.int .i64 W, .int .i64 H, .slice A n c], .agg #[.slice AL K cL]] w fun e w' => e = .returned (.bool (stFits W H K m ln)) ∧ Below w.heap.size w w' := by
  have IP := Lib.hid fun i (hi : i < K) P d w' hP => risPath_any W H A P n c (m i) d (fun j => ln i j.toNat) w' hW0 hH0 hW hH hP (hm i hi)
  by_cases hK : K = 5
  · subst hK
    clear hm
    go_enter Try.func79, Try.ntmps79
    go_wp2_with fail
    have k1 : Blk ((w.alloc (.cells #[.int .i64 W, .int .i64 H, .slice A n c] 24)).alloc (.cells #[.slice AL 5 cL] 54)) w.heap.size 24 #[.int .i64 W, .int .i64 H, .slice A n c] := (Blk.new _ _ _).alloc _
    have k2 : Blk ((w.alloc (.cells #[.int .i64 W, .int .i64 H, .slice A n c] 24)).alloc (.cells #[.slice AL 5 cL] 54)) (w.heap.size + 1) 54 #[.slice AL 5 cL] := Blk.new' (by simp) _ _
    have b1 : Below w.heap.size w ((w.alloc (.cells #[.int .i64 W, .int .i64 H, .slice A n c] 24)).alloc (.cells #[.slice AL 5 cL] 54)) := by (repeat (first | exact Below.refl _ _ | assumption | refine Below.drew ?_ | refine below_drewN ?_ _ | refine Below.alloc ?_ (by first | omega | (simp; done) | (simp; omega)) _ | refine Below.setCell ?_ (by first | omega | (simp; done) | (simp; omega)) _ | refine below_setRow ?_ (by first | omega | (simp; done) | (simp; omega)) _ ))
    generalize (w.alloc (.cells #[.int .i64 W, .int .i64 H, .slice A n c] 24)).alloc (.cells #[.slice AL 5 cL] 54) = w1 at *
    go_loopw [5] (fun s wr => ∃ i : Nat, i ≤ 5 ∧ s = .int .i64 i ∧ (∀ j, j < i → isPathB W H (m j) (fun t => ln j t.toNat) = true) ∧ Below w.heap.size w wr ∧ Blk wr w.heap.size 24 #[.int .i64 W, .int .i64 H, .slice A n c] ∧ Blk wr (w.heap.size + 1) 54 #[.slice AL 5 cL]) (fun s _ => 5 - (intOf s).toNat)
    case atStart => exact ⟨0, by omega, rfl, fun j hj => by omega, b1, k1, k2⟩
    case round =>
      obtain ⟨i, hi, rfl, hp, b2, q1, q2⟩ := hrel
      clear b1 k1 k2
      obtain ⟨p1, p2, p3⟩ := q1.cells3
      have r1 := q2.cells0
      have HP := Lib.hid hp
      clear hp
      by_cases hlt : (i : Int) < 5
      · obtain ⟨bA, oA, A1, c1, rfl, hbA, hcA, haA⟩ := hL.at_ (i := i) (by omega)
        have hc1 := (b2.cell (p := ⟨bA, oA + i, none⟩) hbA).trans hcA
        have B2 := Lib.hid b2; have Q1 := Lib.hid q1; have Q2 := Lib.hid q2
        have HA1 := Lib.hid ((haA.below b2).more b2.size)
        have IPi := Lib.hid fun w' hP => IP.out i (by omega) A1 c1 w' hP
        clear hcA haA b2 q1 q2
        have zz := B2.out.size
        cases hpi : isPathB W H (m i) (fun t => ln i t.toNat) with
        | false =>
          have hr : Hid (stFits W H 5 m ln = false) := by
            show _ = _
            exact stFits_no fun h => by have := h.2.1 i (by omega); rw [hpi] at this; cases this
          rw [hpi] at IPi
          clear hpi
          go_wp2_with fail
          go_region_held3 (fun w' => w'.cell? ⟨w.heap.size, 0, none⟩ = some (.int .i64 W) ∧ w'.cell? ⟨w.heap.size, 1, none⟩ = some (.int .i64 H) ∧ w'.cell? ⟨w.heap.size, 2, none⟩ = some (.slice A n c) ∧ w'.cell? ⟨w.heap.size + 1, 0, none⟩ = some (.slice (some ⟨bA, oA, none⟩) 5 cL) ∧ w'.cell? ⟨bA, oA + i, none⟩ = some (.slice A1 (m i) c1))
            (simp [go_sem, *])
            ((go_at_call 61
              refine (IPi.out _ (show ArrI wr.drew wr.drew.heap.size _ _ _ from HA1.out)).mono ?_
              rintro e w3 ⟨rfl, hb3⟩
              have b3 := below_call B2.out.drew B2.out.drew.size hb3
              have q3 := Q1.out.drew.below' hb3
              have q4 := Q2.out.drew.below' hb3
              obtain ⟨x1, x2, x3⟩ := q3.cells3
              have x4 := q4.cells0
              have x5 : w3.cell? ⟨bA, oA + i, none⟩ = some (.slice A1 (m i) c1) := (hb3.cell (p := ⟨bA, oA + i, none⟩) (by show bA < _; have := B2.out.drew.size; omega)).trans hc1))
          go_wp2
          go_ret
          exact ⟨ret_bool hr.out.symm, b3⟩
        | true =>
          rw [hpi] at IPi
          have HPI := Lib.hid hpi
          clear hpi
          go_wp2_with fail
          go_region_held3 (fun w' => w'.cell? ⟨w.heap.size, 0, none⟩ = some (.int .i64 W) ∧ w'.cell? ⟨w.heap.size, 1, none⟩ = some (.int .i64 H) ∧ w'.cell? ⟨w.heap.size, 2, none⟩ = some (.slice A n c) ∧ w'.cell? ⟨w.heap.size + 1, 0, none⟩ = some (.slice (some ⟨bA, oA, none⟩) 5 cL) ∧ w'.cell? ⟨bA, oA + i, none⟩ = some (.slice A1 (m i) c1))
            (simp [go_sem, *])
            ((go_at_call 61
              refine (IPi.out _ (show ArrI wr.drew wr.drew.heap.size _ _ _ from HA1.out)).mono ?_
              rintro e w3 ⟨rfl, hb3⟩
              have b3 := below_call B2.out.drew B2.out.drew.size hb3
              have q3 := Q1.out.drew.below' hb3
              have q4 := Q2.out.drew.below' hb3
              obtain ⟨x1, x2, x3⟩ := q3.cells3
              have x4 := q4.cells0
              have x5 : w3.cell? ⟨bA, oA + i, none⟩ = some (.slice A1 (m i) c1) := (hb3.cell (p := ⟨bA, oA + i, none⟩) (by show bA < _; have := B2.out.drew.size; omega)).trans hc1))
          go_wp2_with fail
          go_roundw
          case rel =>
            refine ⟨i + 1, by omega, by go_num, fun j hj => ?_, b3, q3, q4⟩
            rcases Nat.lt_succ_iff_lt_or_eq.1 hj with h | rfl
            · exact HP.out j h
            · exact HPI.out
          case measure => simp [intOf]; omega
      · obtain rfl : i = 5 := by omega
        have MW : ∀ j, j < 5 → (m j : Int) = W := fun j hj => (isPathB_iff.1 (HP.out j hj)).1.2.2
        have HMW := Lib.hid MW
        clear MW
        go_wp2_with fail
        generalize wr = w2 at *
        go_loopw [6] (fun s wr => ∃ x : Nat, (x : Int) ≤ W ∧ s = .int .i64 x ∧ (∀ t : Nat, t < x → ∀ j, j + 1 < 5 → ln j t < ln (j + 1) t) ∧ ∃ nn, wr = w2.drewN nn) (fun s _ => (W - intOf s).toNat)
        case atStart => exact ⟨0, by omega, rfl, fun t ht => by omega, 0, rfl⟩
        case round =>
          obtain ⟨x, hx, rfl, hlx, nn, hwr⟩ := hrel
          have b4 : Below w.heap.size w wr := by rw [hwr]; exact below_drewN b2 nn
          have q5 : Blk wr w.heap.size 24 #[.int .i64 W, .int .i64 H, .slice A n c] := by rw [hwr]; exact q1.drewN nn
          have q6 : Blk wr (w.heap.size + 1) 54 #[.slice AL 5 cL] := by rw [hwr]; exact q2.drewN nn
          have HWR := Lib.hid hwr
          have HLX := Lib.hid hlx
          clear hwr hlx p1 p2 p3 r1
          obtain ⟨p1, p2, p3⟩ := q5.cells3
          have r1 := q6.cells0
          by_cases xl : (x : Int) < W
          · go_wp2_with fail
            generalize wr = w4 at *
            go_loopw [7] (fun s wr => ∃ i : Nat, 1 ≤ i ∧ i ≤ 5 ∧ s = .int .i64 i ∧ (∀ j, j + 1 < i → ln j x < ln (j + 1) x) ∧ ∃ nn, wr = w4.drewN nn) (fun s _ => 5 - (intOf s).toNat)
            case atStart => exact ⟨1, by omega, by omega, rfl, fun j hj => by omega, 0, rfl⟩
            case round =>
              obtain ⟨i, i1, i5, rfl, hli, n2, hwr2⟩ := hrel
              have b6 : Below w.heap.size w wr := by rw [hwr2]; exact below_drewN b4 n2
              have q7 : Blk wr w.heap.size 24 #[.int .i64 W, .int .i64 H, .slice A n c] := by rw [hwr2]; exact q5.drewN n2
              have q8 : Blk wr (w.heap.size + 1) 54 #[.slice AL 5 cL] := by rw [hwr2]; exact q6.drewN n2
              have HWR2 := Lib.hid hwr2
              have HLI := Lib.hid hli
              clear hwr2 hli p1 p2 p3 r1
              obtain ⟨p1, p2, p3⟩ := q7.cells3
              have r1 := q8.cells0
              by_cases il : (i : Int) < 5
              · obtain ⟨k, hk⟩ : ∃ k, i = k + 1 := ⟨i - 1, by omega⟩
                obtain ⟨bA, oA, A1, c1, rfl, hbA, hcA, haA⟩ := hL.at_ (i := i) (by omega)
                obtain ⟨bB, oB, A2, c2, eB, hbB, hcB, haB⟩ := hL.at_ (i := k) (by omega)
                cases eB
                have hc1 := (b6.cell (p := ⟨bA, oA + i, none⟩) hbA).trans hcA
                have hc2 := (b6.cell (p := ⟨bA, oA + k, none⟩) hbA).trans hcB
                have j1 := HMW.out i (by omega)
                have j2 := HMW.out k (by omega)
                obtain ⟨b1', o1', e1', -, hx1⟩ := ArrI.at_ ((haA.below b6).more b6.size) (i := (x : Int)) (by omega) (by omega)
                obtain ⟨b2', o2', e2', -, hx2⟩ := ArrI.at_ ((haB.below b6).more b6.size) (i := (x : Int)) (by omega) (by omega)
                subst e1'
                subst e2'
                rw [Int.toNat_natCast] at hx1 hx2
                have v1 : IntKind.i64.wrap ((i : Int) - 1) = (k : Int) := by rw [show (i : Int) - 1 = k by omega]; exact IntWalk.i64_in _ (by omega)
                have k5 : (k : Int) < 5 := by omega
                have k0 : (0 : Int) ≤ (k : Int) := by omega
                have xm1 : (x : Int) < (m i : Int) := by omega
                have xm2 : (x : Int) < (m k : Int) := by omega
                have HKE := Lib.hid hk
                by_cases hle : ln i x ≤ ln k x
                · have hr : Hid (stFits W H 5 m ln = false) := by
                    show _ = _
                    exact stFits_no fun h => by
                      have h1 := h.2.2 k (by have := HKE.out; omega) x xl
                      rw [← HKE.out] at h1; omega
                  have dl : decide (ln i x ≤ ln k x) = true := decide_eq_true hle
                  clear hk hcA hcB j1 j2
                  generalize ln i x = va at *
                  generalize ln k x = vb at *
                  go_wp2_with fail
                  go_quiet (fail)
                  go_wp2
                  go_ret
                  exact ⟨ret_bool hr.out.symm, below_drewN b6 _⟩
                · have hll : Hid (ln k x < ln i x) := by show _ < _; omega
                  have dl : decide (ln i x ≤ ln k x) = false := decide_eq_false hle
                  clear hk hcA hcB j1 j2
                  generalize hva : ln i x = va at *
                  generalize hvb : ln k x = vb at *
                  have HVA := Lib.hid hva; have HVB := Lib.hid hvb
                  clear hva hvb
                  go_wp2_with fail
                  go_quiet (fail)
                  go_wp2
                  go_roundw
                  case rel =>
                    refine ⟨i + 1, by omega, by omega, by go_num, fun j hj => ?_, _, by rw [HWR2.out]; exact World.drewN_drewN _ _ _⟩
                    by_cases h : j + 1 < i
                    · exact HLI.out j h
                    · obtain rfl : k = j := by have := HKE.out; omega
                      rw [← HKE.out, HVA.out, HVB.out]; exact hll.out
                  case measure => simp [intOf]; omega
              · obtain rfl : i = 5 := by omega
                go_wp2_with fail
                go_roundw
                case rel =>
                  refine ⟨x + 1, by omega, by go_num, fun t ht j hj => ?_, _, by rw [HWR2.out, HWR.out]; exact World.drewN_drewN _ _ _⟩
                  rcases Nat.lt_succ_iff_lt_or_eq.1 ht with h | rfl
                  · exact HLX.out t h j hj
                  · exact HLI.out j hj
                case measure => simp [intOf]; omega
          · have hr : Hid (stFits W H 5 m ln = true) := by show _ = _; exact stFits_iff.2 ⟨rfl, HP.out, fun i hi t ht => HLX.out t (by omega) i hi⟩
            go_wp2
            go_ret
            exact ⟨ret_bool hr.out.symm, b4⟩
  · have hr : Hid (stFits W H K m ln = false) := by show _ = _; exact stFits_no fun h => hK h.1
    have hb : ((K : Int) != 5) = true := by simp; omega
    clear hK
    go_enter Try.func79, Try.ntmps79
    go_wp2
    go_ret
    exact ⟨ret_bool hr.out.symm, by (repeat (first | exact Below.refl _ _ | assumption | refine Below.drew ?_ | refine below_drewN ?_ _ | refine Below.alloc ?_ (by first | omega | (simp; done) | (simp; omega)) _ | refine Below.setCell ?_ (by first | omega | (simp; done) | (simp; omega)) _ | refine below_setRow ?_ (by first | omega | (simp; done) | (simp; omega)) _ ))⟩

/-- the error of a stave's check -/
def stChk (W H : Int) (n : Nat) (p : Int → Int) (K : Nat) (m : Nat → Nat) (ln : Nat → Nat → Int) : Int := if chk W H n p ≠ 0 then chk W H n p else if stFits W H K m ln = true then 0 else 10
set_option maxHeartbeats 1000000 in
theorem check_st (W H : Int) (A AL : Option Addr) (n c K cL : Nat) (p : Int → Int) (m : Nat → Nat) (ln : Nat → Nat → Int) (E : Int) (w : World) (hA : ArrB w w.heap.size A n p) (hn : n ≤ maxLen) (hL : Lines w w.heap.size AL K m ln) (hm : ∀ i, i < K → m i ≤ maxLen) (hE : stChk W H n p K m ln = E) :
    Calls Try.prog 38 #[.agg #[.int .i64 W, .int .i64 H, .slice A n c], .agg #[.slice AL K cL]] w fun e w' => e = .returned (.int .i64 E) ∧ Below w.heap.size w w' := by
  have CK := Lib.hid fun w' hA' => check_any W H A n c p w' hA' hn
  have k1 : Blk ((w.alloc (.cells #[.int .i64 W, .int .i64 H, .slice A n c] 24)).alloc (.cells #[.slice AL K cL] 54)) w.heap.size 24 #[.int .i64 W, .int .i64 H, .slice A n c] := (Blk.new _ _ _).alloc _
  have k2 : Blk ((w.alloc (.cells #[.int .i64 W, .int .i64 H, .slice A n c] 24)).alloc (.cells #[.slice AL K cL] 54)) (w.heap.size + 1) 54 #[.slice AL K cL] := Blk.new' (by simp) _ _
  have b1 : Below w.heap.size w ((w.alloc (.cells #[.int .i64 W, .int .i64 H, .slice A n c] 24)).alloc (.cells #[.slice AL K cL] 54)) := by (repeat (first | exact Below.refl _ _ | assumption | refine Below.drew ?_ | refine below_drewN ?_ _ | refine Below.alloc ?_ (by first | omega | (simp; done) | (simp; omega)) _ | refine Below.setCell ?_ (by first | omega | (simp; done) | (simp; omega)) _ | refine below_setRow ?_ (by first | omega | (simp; done) | (simp; omega)) _ ))
  by_cases hc : chk W H n p = 0
  · obtain ⟨hW1, hW2, hH1, hH2, -, -⟩ := chk_ok hc
    have FT := Lib.hid fun w' hL' => fits_st W H A AL n c K cL m ln w' hW2 hH2 hL' hm
    have hE2 : (if stFits W H K m ln = true then (0 : Int) else 10) = E := by rw [← hE]; unfold stChk; rw [if_neg (show ¬ chk W H n p ≠ 0 from fun h => h hc)]
    rw [hc] at CK
    clear hc hE
    cases hs : stFits W H K m ln with
    | true =>
      rw [hs] at FT hE2
      rw [if_pos rfl] at hE2
      subst hE2
      clear hs
      go_enter Try.func38, Try.ntmps38
      go_wp2_with fail
      generalize (w.alloc (.cells #[.int .i64 W, .int .i64 H, .slice A n c] 24)).alloc (.cells #[.slice AL K cL] 54) = w1 at *
      refine (CK.out _ (hA.to b1)).mono ?_
      rintro e w2 ⟨rfl, hb2⟩
      have b2 := below_call b1 b1.size hb2
      obtain ⟨p1, p2, p3⟩ := (k1.below' hb2).cells3
      have r1 := (k2.below' hb2).cells0
      go_wp2_with fail
      refine (FT.out _ (hL.below b2)).mono ?_
      rintro e w3 ⟨rfl, hb3⟩
      have b3 := below_call b2 b2.size hb3
      go_wp2
      go_ret
      exact ⟨rfl, b3⟩
    | false =>
      rw [hs] at FT hE2
      rw [if_neg (by simp)] at hE2
      subst hE2
      clear hs
      go_enter Try.func38, Try.ntmps38
      go_wp2_with fail
      generalize (w.alloc (.cells #[.int .i64 W, .int .i64 H, .slice A n c] 24)).alloc (.cells #[.slice AL K cL] 54) = w1 at *
      refine (CK.out _ (hA.to b1)).mono ?_
      rintro e w2 ⟨rfl, hb2⟩
      have b2 := below_call b1 b1.size hb2
      obtain ⟨p1, p2, p3⟩ := (k1.below' hb2).cells3
      have r1 := (k2.below' hb2).cells0
      go_wp2_with fail
      refine (FT.out _ (hL.below b2)).mono ?_
      rintro e w3 ⟨rfl, hb3⟩
      have b3 := below_call b2 b2.size hb3
      go_wp2
      go_ret
      exact ⟨rfl, b3⟩
  · have hz : chk W H n p = E := by rw [← hE]; unfold stChk; rw [if_pos hc]
    have hb : (E != 0) = true := by rw [← hz]; simp [hc]
    have hne : ¬ E = 0 := by rw [← hz]; exact hc
    rw [hz] at CK
    have HE := Lib.hid hne
    clear hc hE hz hne
    go_enter Try.func38, Try.ntmps38
    go_wp2_with fail
    generalize (w.alloc (.cells #[.int .i64 W, .int .i64 H, .slice A n c] 24)).alloc (.cells #[.slice AL K cL] 54) = w1 at *
    refine (CK.out _ (hA.to b1)).mono ?_
    rintro e w2 ⟨rfl, hb2⟩
    have b2 := below_call b1 b1.size hb2
    go_wp2
    go_ret
    exact ⟨rfl, b2⟩
set_option maxHeartbeats 1000000 in
theorem rcheck_st (W H : Int) (A AL : Option Addr) (n c K cL : Nat) (p : Int → Int) (m : Nat → Nat) (ln : Nat → Nat → Int) (E : Int) (w : World) (hA : ArrB w w.heap.size A n p) (hn : n ≤ maxLen) (hB : IsB p) (hL : Lines w w.heap.size AL K m ln) (hm : ∀ i, i < K → m i ≤ maxLen) (hE : stChk W H n p K m ln = E) :
    Calls Try.prog 39 #[.agg #[.int .i64 W, .int .i64 H, .slice A n c], .agg #[.slice AL K cL]] w fun e w' => e = .returned (.int .i64 E) ∧ Below w.heap.size w w' := by
  have CK := Lib.hid fun w' hA' => rcheck_any W H A n c p w' hA' hn hB
  have k1 : Blk ((w.alloc (.cells #[.int .i64 W, .int .i64 H, .slice A n c] 24)).alloc (.cells #[.slice AL K cL] 54)) w.heap.size 24 #[.int .i64 W, .int .i64 H, .slice A n c] := (Blk.new _ _ _).alloc _
  have k2 : Blk ((w.alloc (.cells #[.int .i64 W, .int .i64 H, .slice A n c] 24)).alloc (.cells #[.slice AL K cL] 54)) (w.heap.size + 1) 54 #[.slice AL K cL] := Blk.new' (by simp) _ _
  have b1 : Below w.heap.size w ((w.alloc (.cells #[.int .i64 W, .int .i64 H, .slice A n c] 24)).alloc (.cells #[.slice AL K cL] 54)) := by (repeat (first | exact Below.refl _ _ | assumption | refine Below.drew ?_ | refine below_drewN ?_ _ | refine Below.alloc ?_ (by first | omega | (simp; done) | (simp; omega)) _ | refine Below.setCell ?_ (by first | omega | (simp; done) | (simp; omega)) _ | refine below_setRow ?_ (by first | omega | (simp; done) | (simp; omega)) _ ))
  by_cases hc : chk W H n p = 0
  · obtain ⟨hW1, hW2, hH1, hH2, -, -⟩ := chk_ok hc
    have FT := Lib.hid fun w' hL' => rfits_st W H A AL n c K cL m ln w' hW1 hH1 hW2 hH2 hL' hm
    have hE2 : (if stFits W H K m ln = true then (0 : Int) else 10) = E := by rw [← hE]; unfold stChk; rw [if_neg (show ¬ chk W H n p ≠ 0 from fun h => h hc)]
    rw [hc] at CK
    clear hc hE
    cases hs : stFits W H K m ln with
    | true =>
      rw [hs] at FT hE2
      rw [if_pos rfl] at hE2
      subst hE2
      clear hs
      go_enter Try.func39, Try.ntmps39
      go_wp2_with fail
      generalize (w.alloc (.cells #[.int .i64 W, .int .i64 H, .slice A n c] 24)).alloc (.cells #[.slice AL K cL] 54) = w1 at *
      refine (CK.out _ (hA.to b1)).mono ?_
      rintro e w2 ⟨rfl, hb2⟩
      have b2 := below_call b1 b1.size hb2
      obtain ⟨p1, p2, p3⟩ := (k1.below' hb2).cells3
      have r1 := (k2.below' hb2).cells0
      go_wp2_with fail
      refine (FT.out _ (hL.below b2)).mono ?_
      rintro e w3 ⟨rfl, hb3⟩
      have b3 := below_call b2 b2.size hb3
      go_wp2
      go_ret
      exact ⟨rfl, b3⟩
    | false =>
      rw [hs] at FT hE2
      rw [if_neg (by simp)] at hE2
      subst hE2
      clear hs
      go_enter Try.func39, Try.ntmps39
      go_wp2_with fail
      generalize (w.alloc (.cells #[.int .i64 W, .int .i64 H, .slice A n c] 24)).alloc (.cells #[.slice AL K cL] 54) = w1 at *
      refine (CK.out _ (hA.to b1)).mono ?_
      rintro e w2 ⟨rfl, hb2⟩
      have b2 := below_call b1 b1.size hb2
      obtain ⟨p1, p2, p3⟩ := (k1.below' hb2).cells3
      have r1 := (k2.below' hb2).cells0
      go_wp2_with fail
      refine (FT.out _ (hL.below b2)).mono ?_
      rintro e w3 ⟨rfl, hb3⟩
      have b3 := below_call b2 b2.size hb3
      go_wp2
      go_ret
      exact ⟨rfl, b3⟩
  · have hz : chk W H n p = E := by rw [← hE]; unfold stChk; rw [if_pos hc]
    have hb : (E != 0) = true := by rw [← hz]; simp [hc]
    have hne : ¬ E = 0 := by rw [← hz]; exact hc
    rw [hz] at CK
    have HE := Lib.hid hne
    clear hc hE hz hne
    go_enter Try.func39, Try.ntmps39
    go_wp2_with fail
    generalize (w.alloc (.cells #[.int .i64 W, .int .i64 H, .slice A n c] 24)).alloc (.cells #[.slice AL K cL] 54) = w1 at *
    refine (CK.out _ (hA.to b1)).mono ?_
    rintro e w2 ⟨rfl, hb2⟩
    have b2 := below_call b1 b1.size hb2
    go_wp2
    go_ret
    exact ⟨rfl, b2⟩
end Go.Proofs.Ytdimlpcbbkokiaa

/- Plain: a strip that is cut out along a line, filled column by column or row by row; a strip that is put back. No program in sight. -/
namespace Go.Proofs.Ytdimlpcbbkokiaa
open Go.RowKit
set_option linter.unusedVariables false
/-- the strip: row y of column x is row 'l x - up + y' of the image, paper beside the image -/
def recQ (W H : Int) (p : Int → Int) (l : Nat → Int) (up : Int) : Int → Int := fun i =>
  if 0 ≤ l (i % W).toNat - up + i / W ∧ l (i % W).toNat - up + i / W < H then p ((l (i % W).toNat - up + i / W) * W + i % W) else 0
/-- the image with a strip of h rows put back -/
def resQ (W H h : Int) (p q : Int → Int) (l : Nat → Int) (up : Int) : Int → Int := fun i =>
  if 0 ≤ i / W - l (i % W).toNat + up ∧ i / W - l (i % W).toNat + up < h then q ((i / W - l (i % W).toNat + up) * W + i % W) else p i
/-- filled column by column: the columns before x, and column x above row y -/
def byCol (W : Int) (q z : Int → Int) (x y : Int) : Int → Int := fun i => if i % W < x ∨ (i % W = x ∧ i / W < y) then q i else z i
/-- filled row by row: the rows above y, and row y before column x -/
def byRow (W : Int) (q z : Int → Int) (y x : Int) : Int → Int := fun i => if i / W < y ∨ (i / W = y ∧ i % W < x) then q i else z i
section
variable {W h : Int} {q z : Int → Int} {x y i : Int}
theorem byCol_zero (hW : 0 < W) (h0 : 0 ≤ i) : byCol W q z 0 0 i = z i := by
  unfold byCol
  have h1 : 0 ≤ i % W := Int.emod_nonneg _ (by omega)
  have h2 : 0 ≤ i / W := Int.ediv_nonneg h0 (by omega)
  rw [if_neg (by omega)]
theorem byCol_end (hW : 0 < W) : byCol W q z W 0 i = q i := by
  unfold byCol
  have h1 : i % W < W := Int.emod_lt_of_pos _ hW
  rw [if_pos (by omega)]
theorem byCol_col (hW : 0 < W) (h0 : 0 ≤ i) (hi : i < W * h) : byCol W q z x h i = byCol W q z (x + 1) 0 i := by
  have h1 : i / W < h := Int.ediv_lt_of_lt_mul hW (by rw [Int.mul_comm]; exact hi)
  have h2 : 0 ≤ i / W := Int.ediv_nonneg h0 (by omega)
  unfold byCol
  by_cases c : i % W < x ∨ (i % W = x ∧ i / W < h)
  · rw [if_pos c, if_pos (by omega)]
  · rw [if_neg c, if_neg (by omega)]
theorem byCol_set (x0 : 0 ≤ x) (x1 : x < W) : upd (byCol W q z x y) (y * W + x) (q (y * W + x)) i = byCol W q z x (y + 1) i := by
  have a := idx_mod (y := y) x0 x1
  have b := idx_div (y := y) x0 x1
  unfold upd byCol
  by_cases e : i = y * W + x
  · subst e
    rw [if_pos rfl, a, b, if_pos (.inr ⟨rfl, by omega⟩)]
  · rw [if_neg e]
    have hne : i % W = x → i / W ≠ y := fun h3 h4 => e (by
      have := Int.emod_add_mul_ediv i W
      rw [h3, h4, Int.mul_comm] at this; omega)
    by_cases c : i % W < x ∨ (i % W = x ∧ i / W < y)
    · rw [if_pos c, if_pos (by omega)]
    · rw [if_neg c, if_neg (by omega)]
theorem byCol_skip (x0 : 0 ≤ x) (x1 : x < W) (hq : q (y * W + x) = z (y * W + x)) : byCol W q z x y i = byCol W q z x (y + 1) i := by
  have a := idx_mod (y := y) x0 x1
  have b := idx_div (y := y) x0 x1
  unfold byCol
  by_cases e : i = y * W + x
  · subst e
    rw [a, b, if_neg (by omega), if_pos (.inr ⟨rfl, by omega⟩), hq]
  · have hne : i % W = x → i / W ≠ y := fun h3 h4 => e (by
      have := Int.emod_add_mul_ediv i W
      rw [h3, h4, Int.mul_comm] at this; omega)
    by_cases c : i % W < x ∨ (i % W = x ∧ i / W < y)
    · rw [if_pos c, if_pos (by omega)]
    · rw [if_neg c, if_neg (by omega)]
theorem byRow_zero (hW : 0 < W) (h0 : 0 ≤ i) : byRow W q z 0 0 i = z i := by
  unfold byRow
  have h1 : 0 ≤ i % W := Int.emod_nonneg _ (by omega)
  have h2 : 0 ≤ i / W := Int.ediv_nonneg h0 (by omega)
  rw [if_neg (by omega)]
theorem byRow_end (hW : 0 < W) (hi : i < W * h) : byRow W q z h 0 i = q i := by
  have h1 : i / W < h := Int.ediv_lt_of_lt_mul hW (by rw [Int.mul_comm]; exact hi)
  unfold byRow
  rw [if_pos (by omega)]
theorem byRow_row (hW : 0 < W) : byRow W q z y W i = byRow W q z (y + 1) 0 i := by
  have h1 : i % W < W := Int.emod_lt_of_pos _ hW
  have h2 : 0 ≤ i % W := Int.emod_nonneg _ (by omega)
  unfold byRow
  by_cases c : i / W < y ∨ (i / W = y ∧ i % W < W)
  · rw [if_pos c, if_pos (by omega)]
  · rw [if_neg c, if_neg (by omega)]
theorem byRow_set (x0 : 0 ≤ x) (x1 : x < W) : upd (byRow W q z y x) (y * W + x) (q (y * W + x)) i = byRow W q z y (x + 1) i := by
  have a := idx_mod (y := y) x0 x1
  have b := idx_div (y := y) x0 x1
  unfold upd byRow
  by_cases e : i = y * W + x
  · subst e
    rw [if_pos rfl, a, b, if_pos (.inr ⟨rfl, by omega⟩)]
  · rw [if_neg e]
    have hne : i % W = x → i / W ≠ y := fun h3 h4 => e (by
      have := Int.emod_add_mul_ediv i W
      rw [h3, h4, Int.mul_comm] at this; omega)
    by_cases c : i / W < y ∨ (i / W = y ∧ i % W < x)
    · rw [if_pos c, if_pos (by omega)]
    · rw [if_neg c, if_neg (by omega)]
theorem byRow_skip (x0 : 0 ≤ x) (x1 : x < W) (hq : q (y * W + x) = z (y * W + x)) : byRow W q z y x i = byRow W q z y (x + 1) i := by
  have a := idx_mod (y := y) x0 x1
  have b := idx_div (y := y) x0 x1
  unfold byRow
  by_cases e : i = y * W + x
  · subst e
    rw [a, b, if_neg (by omega), if_pos (.inr ⟨rfl, by omega⟩), hq]
  · have hne : i % W = x → i / W ≠ y := fun h3 h4 => e (by
      have := Int.emod_add_mul_ediv i W
      rw [h3, h4, Int.mul_comm] at this; omega)
    by_cases c : i / W < y ∨ (i / W = y ∧ i % W < x)
    · rw [if_pos c, if_pos (by omega)]
    · rw [if_neg c, if_neg (by omega)]
end
end Go.Proofs.Ytdimlpcbbkokiaa

/- Walk: a strip cut out along a stave (stave.Rectify), where it is refused. -/
namespace Go.Proofs.Ytdimlpcbbkokiaa
open Go.RowKit Go.Shelf
set_option linter.unusedVariables false
attribute [local go_sem] Oper.semAt_some

set_option maxHeartbeats 1000000 in
theorem rectify_chk (W H : Int) (A AL : Option Addr) (n c K cL : Nat) (p : Int → Int) (m : Nat → Nat) (ln : Nat → Nat → Int) (up down z : Int) (w : World) (hA : ArrB w w.heap.size A n p) (hn : n ≤ maxLen) (hL : Lines w w.heap.size AL K m ln) (hm : ∀ i, i < K → m i ≤ maxLen) (hz : stChk W H n p K m ln = z) (h0 : z ≠ 0) :
    Calls Try.prog 44 #[.agg #[.int .i64 W, .int .i64 H, .slice A n c], .agg #[.slice AL K cL], .int .i64 up, .int .i64 down] w fun e w' => e = .returned (.tuple #[noImg, .int .i64 z]) ∧ Below w.heap.size w w' := by
  have CK := Lib.hid fun w' hA' hL' => check_st W H A AL n c K cL p m ln z w' hA' hn hL' hm hz
  have b1 : Below w.heap.size w (((w.alloc (.cells #[.int .i64 W, .int .i64 H, .slice A n c] 24)).alloc (.cells #[.slice AL K cL] 54)).alloc (.cells #[.int .i64 0, .int .i64 0, .slice none 0 0] 24)) := by (repeat (first | exact Below.refl _ _ | assumption | refine Below.drew ?_ | refine below_drewN ?_ _ | refine Below.alloc ?_ (by first | omega | (simp; done) | (simp; omega)) _ | refine Below.setCell ?_ (by first | omega | (simp; done) | (simp; omega)) _ | refine below_setRow ?_ (by first | omega | (simp; done) | (simp; omega)) _ ))
  have k3 : Blk (((w.alloc (.cells #[.int .i64 W, .int .i64 H, .slice A n c] 24)).alloc (.cells #[.slice AL K cL] 54)).alloc (.cells #[.int .i64 0, .int .i64 0, .slice none 0 0] 24)) (w.heap.size + 1 + 1) 24 #[.int .i64 0, .int .i64 0, .slice none 0 0] := Blk.new' (by simp) _ _
  have k1 : Blk (((w.alloc (.cells #[.int .i64 W, .int .i64 H, .slice A n c] 24)).alloc (.cells #[.slice AL K cL] 54)).alloc (.cells #[.int .i64 0, .int .i64 0, .slice none 0 0] 24)) w.heap.size 24 #[.int .i64 W, .int .i64 H, .slice A n c] := ((Blk.new _ _ _).alloc _).alloc _
  have k2 : Blk (((w.alloc (.cells #[.int .i64 W, .int .i64 H, .slice A n c] 24)).alloc (.cells #[.slice AL K cL] 54)).alloc (.cells #[.int .i64 0, .int .i64 0, .slice none 0 0] 24)) (w.heap.size + 1) 54 #[.slice AL K cL] := (Blk.new' (by simp) _ _).alloc _
  have hb : (z != 0) = true := by simp [h0]
  have HZ := Lib.hid h0
  clear h0 hz
  go_enter Try.func44, Try.ntmps44
  go_wp2_with fail
  generalize ((w.alloc (.cells #[.int .i64 W, .int .i64 H, .slice A n c] 24)).alloc (.cells #[.slice AL K cL] 54)).alloc (.cells #[.int .i64 0, .int .i64 0, .slice none 0 0] 24) = w1 at *
  refine (CK.out _ (hA.to b1) (hL.below b1)).mono ?_
  rintro e w2 ⟨rfl, hb2⟩
  have b2 := below_call b1 b1.size hb2
  have k4 := k3.below' hb2
  obtain ⟨r1, r2, r3⟩ := k4.cells3
  obtain ⟨f1, f2, f3⟩ := k4.frozen3
  have k5 := ((k4.set_ 0 (.int .i64 0)).set_ 1 (.int .i64 0)).set_ 2 (.slice none 0 0)
  obtain ⟨s1, s2, s3⟩ := Blk.cells3 (a := .int .i64 0) (b := .int .i64 0) (c := .slice none 0 0) k5
  go_wp2
  refine bodyPost_ret (v := .tuple #[noImg, .int .i64 z]) (by simp [results, Try.results44, go_sem, noImg, s1, s2, s3]) rfl ?_
  exact ⟨rfl, by (repeat (first | with_reducible exact Below.refl _ _ | with_reducible assumption | with_reducible refine Below.drew ?_ | (with_reducible refine below_alloc' ?_ ?_; focus (first | omega | (simp; done) | (simp; omega))) | (with_reducible refine below_fill3' ?_ ?_; focus omega) | (with_reducible refine below_setCell' ?_ ?_; focus (first | omega | (simp; done) | (simp; omega))) | (with_reducible apply below_call'; (focus (with_reducible assumption)); (focus (first | omega | (simp; done) | (simp; omega))))))⟩
set_option maxHeartbeats 1000000 in
theorem rectify_arg (W H : Int) (A AL : Option Addr) (n c K cL : Nat) (p : Int → Int) (m : Nat → Nat) (ln : Nat → Nat → Int) (up down : Int) (w : World) (hA : ArrB w w.heap.size A n p) (hn : n ≤ maxLen) (hL : Lines w w.heap.size AL K m ln) (hm : ∀ i, i < K → m i ≤ maxLen) (hz : stChk W H n p K m ln = 0) (h0 : up < 0 ∨ down < 0) :
    Calls Try.prog 44 #[.agg #[.int .i64 W, .int .i64 H, .slice A n c], .agg #[.slice AL K cL], .int .i64 up, .int .i64 down] w fun e w' => e = .returned (.tuple #[noImg, .int .i64 1]) ∧ Below w.heap.size w w' := by
  have CK := Lib.hid fun w' hA' hL' => check_st W H A AL n c K cL p m ln 0 w' hA' hn hL' hm hz
  have b1 : Below w.heap.size w (((w.alloc (.cells #[.int .i64 W, .int .i64 H, .slice A n c] 24)).alloc (.cells #[.slice AL K cL] 54)).alloc (.cells #[.int .i64 0, .int .i64 0, .slice none 0 0] 24)) := by (repeat (first | exact Below.refl _ _ | assumption | refine Below.drew ?_ | refine below_drewN ?_ _ | refine Below.alloc ?_ (by first | omega | (simp; done) | (simp; omega)) _ | refine Below.setCell ?_ (by first | omega | (simp; done) | (simp; omega)) _ | refine below_setRow ?_ (by first | omega | (simp; done) | (simp; omega)) _ ))
  have k3 : Blk (((w.alloc (.cells #[.int .i64 W, .int .i64 H, .slice A n c] 24)).alloc (.cells #[.slice AL K cL] 54)).alloc (.cells #[.int .i64 0, .int .i64 0, .slice none 0 0] 24)) (w.heap.size + 1 + 1) 24 #[.int .i64 0, .int .i64 0, .slice none 0 0] := Blk.new' (by simp) _ _
  have k1 : Blk (((w.alloc (.cells #[.int .i64 W, .int .i64 H, .slice A n c] 24)).alloc (.cells #[.slice AL K cL] 54)).alloc (.cells #[.int .i64 0, .int .i64 0, .slice none 0 0] 24)) w.heap.size 24 #[.int .i64 W, .int .i64 H, .slice A n c] := ((Blk.new _ _ _).alloc _).alloc _
  have k2 : Blk (((w.alloc (.cells #[.int .i64 W, .int .i64 H, .slice A n c] 24)).alloc (.cells #[.slice AL K cL] 54)).alloc (.cells #[.int .i64 0, .int .i64 0, .slice none 0 0] 24)) (w.heap.size + 1) 54 #[.slice AL K cL] := (Blk.new' (by simp) _ _).alloc _
  obtain ⟨mn, h1, h2, h3⟩ : ∃ mn : Int, min up down = mn ∧ (if down < up then down else up) = mn ∧ mn < 0 := ⟨min up down, rfl, by split <;> omega, by omega⟩
  clear h0 hz
  go_enter Try.func44, Try.ntmps44
  go_wp2_with fail
  generalize ((w.alloc (.cells #[.int .i64 W, .int .i64 H, .slice A n c] 24)).alloc (.cells #[.slice AL K cL] 54)).alloc (.cells #[.int .i64 0, .int .i64 0, .slice none 0 0] 24) = w1 at *
  refine (CK.out _ (hA.to b1) (hL.below b1)).mono ?_
  rintro e w2 ⟨rfl, hb2⟩
  have b2 := below_call b1 b1.size hb2
  have k4 := k3.below' hb2
  obtain ⟨r1, r2, r3⟩ := k4.cells3
  obtain ⟨f1, f2, f3⟩ := k4.frozen3
  have k5 := ((k4.set_ 0 (.int .i64 0)).set_ 1 (.int .i64 0)).set_ 2 (.slice none 0 0)
  obtain ⟨s1, s2, s3⟩ := Blk.cells3 (a := .int .i64 0) (b := .int .i64 0) (c := .slice none 0 0) k5
  obtain ⟨p1, p2, p3⟩ := (k1.below' hb2).cells3
  have p4 := (k2.below' hb2).cells0
  go_wp2
  refine bodyPost_ret (v := .tuple #[noImg, .int .i64 1]) (by simp [results, Try.results44, go_sem, noImg, s1, s2, s3]) rfl ?_
  exact ⟨rfl, by (repeat (first | with_reducible exact Below.refl _ _ | with_reducible assumption | with_reducible refine Below.drew ?_ | (with_reducible refine below_alloc' ?_ ?_; focus (first | omega | (simp; done) | (simp; omega))) | (with_reducible refine below_fill3' ?_ ?_; focus omega) | (with_reducible refine below_setCell' ?_ ?_; focus (first | omega | (simp; done) | (simp; omega))) | (with_reducible apply below_call'; (focus (with_reducible assumption)); (focus (first | omega | (simp; done) | (simp; omega))))))⟩
set_option maxHeartbeats 1000000 in
theorem rectify_size1 (W H : Int) (A AL : Option Addr) (n c K cL : Nat) (p : Int → Int) (m : Nat → Nat) (ln : Nat → Nat → Int) (up down : Int) (w : World) (hA : ArrB w w.heap.size A n p) (hn : n ≤ maxLen) (hL : Lines w w.heap.size AL K m ln) (hm : ∀ i, i < K → m i ≤ maxLen) (hz : stChk W H n p K m ln = 0) (u0 : 0 ≤ up) (d0 : 0 ≤ down) (h0 : 640 ≤ up ∨ 640 ≤ down) :
    Calls Try.prog 44 #[.agg #[.int .i64 W, .int .i64 H, .slice A n c], .agg #[.slice AL K cL], .int .i64 up, .int .i64 down] w fun e w' => e = .returned (.tuple #[noImg, .int .i64 2]) ∧ Below w.heap.size w w' := by
  have CK := Lib.hid fun w' hA' hL' => check_st W H A AL n c K cL p m ln 0 w' hA' hn hL' hm hz
  have b1 : Below w.heap.size w (((w.alloc (.cells #[.int .i64 W, .int .i64 H, .slice A n c] 24)).alloc (.cells #[.slice AL K cL] 54)).alloc (.cells #[.int .i64 0, .int .i64 0, .slice none 0 0] 24)) := by (repeat (first | exact Below.refl _ _ | assumption | refine Below.drew ?_ | refine below_drewN ?_ _ | refine Below.alloc ?_ (by first | omega | (simp; done) | (simp; omega)) _ | refine Below.setCell ?_ (by first | omega | (simp; done) | (simp; omega)) _ | refine below_setRow ?_ (by first | omega | (simp; done) | (simp; omega)) _ ))
  have k3 : Blk (((w.alloc (.cells #[.int .i64 W, .int .i64 H, .slice A n c] 24)).alloc (.cells #[.slice AL K cL] 54)).alloc (.cells #[.int .i64 0, .int .i64 0, .slice none 0 0] 24)) (w.heap.size + 1 + 1) 24 #[.int .i64 0, .int .i64 0, .slice none 0 0] := Blk.new' (by simp) _ _
  have k1 : Blk (((w.alloc (.cells #[.int .i64 W, .int .i64 H, .slice A n c] 24)).alloc (.cells #[.slice AL K cL] 54)).alloc (.cells #[.int .i64 0, .int .i64 0, .slice none 0 0] 24)) w.heap.size 24 #[.int .i64 W, .int .i64 H, .slice A n c] := ((Blk.new _ _ _).alloc _).alloc _
  have k2 : Blk (((w.alloc (.cells #[.int .i64 W, .int .i64 H, .slice A n c] 24)).alloc (.cells #[.slice AL K cL] 54)).alloc (.cells #[.int .i64 0, .int .i64 0, .slice none 0 0] 24)) (w.heap.size + 1) 54 #[.slice AL K cL] := (Blk.new' (by simp) _ _).alloc _
  obtain ⟨mn, h1, h2, h3⟩ : ∃ mn : Int, min up down = mn ∧ (if down < up then down else up) = mn ∧ ¬ mn < 0 := ⟨min up down, rfl, by split <;> omega, by omega⟩
  clear hz
  by_cases hu : 640 ≤ up
  · clear h0
    go_enter Try.func44, Try.ntmps44
    go_wp2_with fail
    generalize ((w.alloc (.cells #[.int .i64 W, .int .i64 H, .slice A n c] 24)).alloc (.cells #[.slice AL K cL] 54)).alloc (.cells #[.int .i64 0, .int .i64 0, .slice none 0 0] 24) = w1 at *
    refine (CK.out _ (hA.to b1) (hL.below b1)).mono ?_
    rintro e w2 ⟨rfl, hb2⟩
    have b2 := below_call b1 b1.size hb2
    have k4 := k3.below' hb2
    obtain ⟨r1, r2, r3⟩ := k4.cells3
    obtain ⟨f1, f2, f3⟩ := k4.frozen3
    have k5 := ((k4.set_ 0 (.int .i64 0)).set_ 1 (.int .i64 0)).set_ 2 (.slice none 0 0)
    obtain ⟨s1, s2, s3⟩ := Blk.cells3 (a := .int .i64 0) (b := .int .i64 0) (c := .slice none 0 0) k5
    go_wp2
    refine bodyPost_ret (v := .tuple #[noImg, .int .i64 2]) (by simp [results, Try.results44, go_sem, noImg, s1, s2, s3]) rfl ?_
    exact ⟨rfl, by (repeat (first | with_reducible exact Below.refl _ _ | with_reducible assumption | with_reducible refine Below.drew ?_ | (with_reducible refine below_alloc' ?_ ?_; focus (first | omega | (simp; done) | (simp; omega))) | (with_reducible refine below_fill3' ?_ ?_; focus omega) | (with_reducible refine below_setCell' ?_ ?_; focus (first | omega | (simp; done) | (simp; omega))) | (with_reducible apply below_call'; (focus (with_reducible assumption)); (focus (first | omega | (simp; done) | (simp; omega))))))⟩
  · have hd : 640 ≤ down := by omega
    clear h0
    go_enter Try.func44, Try.ntmps44
    go_wp2_with fail
    generalize ((w.alloc (.cells #[.int .i64 W, .int .i64 H, .slice A n c] 24)).alloc (.cells #[.slice AL K cL] 54)).alloc (.cells #[.int .i64 0, .int .i64 0, .slice none 0 0] 24) = w1 at *
    refine (CK.out _ (hA.to b1) (hL.below b1)).mono ?_
    rintro e w2 ⟨rfl, hb2⟩
    have b2 := below_call b1 b1.size hb2
    have k4 := k3.below' hb2
    obtain ⟨r1, r2, r3⟩ := k4.cells3
    obtain ⟨f1, f2, f3⟩ := k4.frozen3
    have k5 := ((k4.set_ 0 (.int .i64 0)).set_ 1 (.int .i64 0)).set_ 2 (.slice none 0 0)
    obtain ⟨s1, s2, s3⟩ := Blk.cells3 (a := .int .i64 0) (b := .int .i64 0) (c := .slice none 0 0) k5
    go_wp2
    refine bodyPost_ret (v := .tuple #[noImg, .int .i64 2]) (by simp [results, Try.results44, go_sem, noImg, s1, s2, s3]) rfl ?_
    exact ⟨rfl, by (repeat (first | with_reducible exact Below.refl _ _ | with_reducible assumption | with_reducible refine Below.drew ?_ | (with_reducible refine below_alloc' ?_ ?_; focus (first | omega | (simp; done) | (simp; omega))) | (with_reducible refine below_fill3' ?_ ?_; focus omega) | (with_reducible refine below_setCell' ?_ ?_; focus (first | omega | (simp; done) | (simp; omega))) | (with_reducible apply below_call'; (focus (with_reducible assumption)); (focus (first | omega | (simp; done) | (simp; omega))))))⟩
set_option maxHeartbeats 1000000 in
theorem rectify_size2 (W H : Int) (A AL : Option Addr) (n c K cL : Nat) (p : Int → Int) (m : Nat → Nat) (ln : Nat → Nat → Int) (up down : Int) (w : World) (hA : ArrB w w.heap.size A n p) (hn : n ≤ maxLen) (hL : Lines w w.heap.size AL K m ln) (hm : ∀ i, i < K → m i ≤ maxLen) (hz : stChk W H n p K m ln = 0) (u0 : 0 ≤ up) (d0 : 0 ≤ down) (u1 : up < 640) (d1 : down < 640) (h0 : 640 < up + down + 1) :
    Calls Try.prog 44 #[.agg #[.int .i64 W, .int .i64 H, .slice A n c], .agg #[.slice AL K cL], .int .i64 up, .int .i64 down] w fun e w' => e = .returned (.tuple #[noImg, .int .i64 2]) ∧ Below w.heap.size w w' := by
  have CK := Lib.hid fun w' hA' hL' => check_st W H A AL n c K cL p m ln 0 w' hA' hn hL' hm hz
  have b1 : Below w.heap.size w (((w.alloc (.cells #[.int .i64 W, .int .i64 H, .slice A n c] 24)).alloc (.cells #[.slice AL K cL] 54)).alloc (.cells #[.int .i64 0, .int .i64 0, .slice none 0 0] 24)) := by (repeat (first | exact Below.refl _ _ | assumption | refine Below.drew ?_ | refine below_drewN ?_ _ | refine Below.alloc ?_ (by first | omega | (simp; done) | (simp; omega)) _ | refine Below.setCell ?_ (by first | omega | (simp; done) | (simp; omega)) _ | refine below_setRow ?_ (by first | omega | (simp; done) | (simp; omega)) _ ))
  have k3 : Blk (((w.alloc (.cells #[.int .i64 W, .int .i64 H, .slice A n c] 24)).alloc (.cells #[.slice AL K cL] 54)).alloc (.cells #[.int .i64 0, .int .i64 0, .slice none 0 0] 24)) (w.heap.size + 1 + 1) 24 #[.int .i64 0, .int .i64 0, .slice none 0 0] := Blk.new' (by simp) _ _
  have k1 : Blk (((w.alloc (.cells #[.int .i64 W, .int .i64 H, .slice A n c] 24)).alloc (.cells #[.slice AL K cL] 54)).alloc (.cells #[.int .i64 0, .int .i64 0, .slice none 0 0] 24)) w.heap.size 24 #[.int .i64 W, .int .i64 H, .slice A n c] := ((Blk.new _ _ _).alloc _).alloc _
  have k2 : Blk (((w.alloc (.cells #[.int .i64 W, .int .i64 H, .slice A n c] 24)).alloc (.cells #[.slice AL K cL] 54)).alloc (.cells #[.int .i64 0, .int .i64 0, .slice none 0 0] 24)) (w.heap.size + 1) 54 #[.slice AL K cL] := (Blk.new' (by simp) _ _).alloc _
  obtain ⟨mn, h1, h2, h3⟩ : ∃ mn : Int, min up down = mn ∧ (if down < up then down else up) = mn ∧ ¬ mn < 0 := ⟨min up down, rfl, by split <;> omega, by omega⟩
  have v1 : IntKind.i64.wrap (up + down) = up + down := IntWalk.i64_in _ (by omega)
  have v2 : IntKind.i64.wrap (up + down + 1) = up + down + 1 := IntWalk.i64_in _ (by omega)
  have NB := Lib.hid fun w' => new_bad W (up + down + 1) w' (newE_bad.2 (.inr (.inr (.inr h0))))
  unfold noImg at NB
  clear h0 hz
  go_enter Try.func44, Try.ntmps44
  go_wp2_with fail
  generalize ((w.alloc (.cells #[.int .i64 W, .int .i64 H, .slice A n c] 24)).alloc (.cells #[.slice AL K cL] 54)).alloc (.cells #[.int .i64 0, .int .i64 0, .slice none 0 0] 24) = w1 at *
  refine (CK.out _ (hA.to b1) (hL.below b1)).mono ?_
  rintro e w2 ⟨rfl, hb2⟩
  have b2 := below_call b1 b1.size hb2
  have k4 := k3.below' hb2
  obtain ⟨r1, r2, r3⟩ := k4.cells3
  obtain ⟨p1, p2, p3⟩ := (k1.below' hb2).cells3
  have p4 := (k2.below' hb2).cells0
  go_wp2_with fail
  refine (NB.out _).mono ?_
  rintro e w3 ⟨rfl, hb3⟩
  have b3 := below_call b2 b2.size hb3
  have b4 : Below w.heap.size w (w3.alloc (.cells #[.int .i64 0, .int .i64 0, .slice none 0 0] 24)) := b3.alloc b3.size _
  have k6 := (k4.below' hb3).alloc (.cells #[.int .i64 0, .int .i64 0, .slice none 0 0] 24)
  obtain ⟨g1, g2, g3⟩ := k6.cells3
  obtain ⟨f1, f2, f3⟩ := k6.frozen3
  have k5 := ((k6.set_ 0 (.int .i64 0)).set_ 1 (.int .i64 0)).set_ 2 (.slice none 0 0)
  obtain ⟨s1, s2, s3⟩ := Blk.cells3 (a := .int .i64 0) (b := .int .i64 0) (c := .slice none 0 0) k5
  clear r1 r2 r3 p1 p2 p3 p4
  go_wp2
  refine bodyPost_ret (v := .tuple #[noImg, .int .i64 2]) (by simp [results, Try.results44, go_sem, noImg, s1, s2, s3]) rfl ?_
  exact ⟨rfl, by (repeat (first | with_reducible exact Below.refl _ _ | with_reducible assumption | with_reducible refine Below.drew ?_ | (with_reducible refine below_alloc' ?_ ?_; focus (first | omega | (simp; done) | (simp; omega))) | (with_reducible refine below_fill3' ?_ ?_; focus omega) | (with_reducible refine below_setCell' ?_ ?_; focus (first | omega | (simp; done) | (simp; omega))) | (with_reducible apply below_call'; (focus (with_reducible assumption)); (focus (first | omega | (simp; done) | (simp; omega))))))⟩
end Go.Proofs.Ytdimlpcbbkokiaa

/- Walk: a strip cut out along a stave (stave.Rectify), where it is made. -/
namespace Go.Proofs.Ytdimlpcbbkokiaa
open Go.RowKit Go.Shelf
set_option linter.unusedVariables false
attribute [local go_sem] Oper.semAt_some

set_option maxRecDepth 100000 in
set_option maxHeartbeats 4000000 in
theorem rectify_ok (W H : Int) (A AL : Option Addr) (n c K cL N : Nat) (p : Int → Int) (m : Nat → Nat) (ln : Nat → Nat → Int) (up down h : Int) (w : World) (hA : ArrB w w.heap.size A n p) (hn : n ≤ maxLen) (hB : IsB p) (hL : Lines w w.heap.size AL K m ln) (hm : ∀ i, i < K → m i ≤ maxLen) (hz : stChk W H n p K m ln = 0) (hE : chk W H n p = 0) (hP : StP W H K m ln)
    (u0 : 0 ≤ up) (d0 : 0 ≤ down) (hh : h = up + down + 1) (hle : h ≤ 640) (hN : (N : Int) = W * h) :
    Calls Try.prog 44 #[.agg #[.int .i64 W, .int .i64 H, .slice A n c], .agg #[.slice AL K cL], .int .i64 up, .int .i64 down] w (New w fun v w' => ∃ g, v = .tuple #[g, .int .i64 0] ∧ OutN w w' W h N (recQ W H p (ln 4) up) g) := by
  obtain ⟨hW1, hW2, hH1, hH2, hnn, hpx⟩ := chk_ok hE
  obtain ⟨rfl, hpath, -⟩ := hP
  obtain ⟨⟨W1, H1, m4⟩, hst⟩ := isPathB_iff.1 (hpath 4 (by omega))
  have PB := Lib.hid fun (x : Nat) (hx : (x : Int) < m 4) => stepB_iff.1 (hst x (by omega) hx)
  have wh := area_bd (W := W) (H := h) (by omega) hW2 (by omega) hle
  have CK := Lib.hid fun w' hA' hL' => check_st W H A AL n c 5 cL p m ln 0 w' hA' hn hL' hm hz
  have NO := Lib.hid fun w' => new_ok W h w' (by omega) hW2 (by omega) hle
  have hN2 : (W * h).toNat = N := by omega
  have b1 : Below w.heap.size w (((w.alloc (.cells #[.int .i64 W, .int .i64 H, .slice A n c] 24)).alloc (.cells #[.slice AL 5 cL] 54)).alloc (.cells #[.int .i64 0, .int .i64 0, .slice none 0 0] 24)) := by (repeat (first | exact Below.refl _ _ | assumption | refine Below.drew ?_ | refine below_drewN ?_ _ | refine Below.alloc ?_ (by first | omega | (simp; done) | (simp; omega)) _ | refine Below.setCell ?_ (by first | omega | (simp; done) | (simp; omega)) _ | refine below_setRow ?_ (by first | omega | (simp; done) | (simp; omega)) _ ))
  have k3 : Blk (((w.alloc (.cells #[.int .i64 W, .int .i64 H, .slice A n c] 24)).alloc (.cells #[.slice AL 5 cL] 54)).alloc (.cells #[.int .i64 0, .int .i64 0, .slice none 0 0] 24)) (w.heap.size + 1 + 1) 24 #[.int .i64 0, .int .i64 0, .slice none 0 0] := Blk.new' (by simp) _ _
  have k1 : Blk (((w.alloc (.cells #[.int .i64 W, .int .i64 H, .slice A n c] 24)).alloc (.cells #[.slice AL 5 cL] 54)).alloc (.cells #[.int .i64 0, .int .i64 0, .slice none 0 0] 24)) w.heap.size 24 #[.int .i64 W, .int .i64 H, .slice A n c] := ((Blk.new _ _ _).alloc _).alloc _
  have k2 : Blk (((w.alloc (.cells #[.int .i64 W, .int .i64 H, .slice A n c] 24)).alloc (.cells #[.slice AL 5 cL] 54)).alloc (.cells #[.int .i64 0, .int .i64 0, .slice none 0 0] 24)) (w.heap.size + 1) 54 #[.slice AL 5 cL] := (Blk.new' (by simp) _ _).alloc _
  obtain ⟨mn, h1, h2, h3⟩ : ∃ mn : Int, min up down = mn ∧ (if down < up then down else up) = mn ∧ ¬ mn < 0 := ⟨min up down, rfl, by split <;> omega, by omega⟩
  have e1 : up < 640 := by omega
  have e2 : down < 640 := by omega
  have v1 : IntKind.i64.wrap (up + down) = up + down := IntWalk.i64_in _ (by omega)
  have v2 : IntKind.i64.wrap (up + down + 1) = h := by rw [← hh]; exact IntWalk.i64_in _ (by omega)
  have hpos : 1 ≤ h := by omega
  have HHH := Lib.hid hh; have HNN := Lib.hid hnn; have HN := Lib.hid hN; have HM4 := Lib.hid m4
  have HNB : (N : Int) ≤ 409600 := by omega
  clear hz hE hpath hst hh hnn hN hpx
  go_enter Try.func44, Try.ntmps44
  go_wp2_with fail
  generalize ((w.alloc (.cells #[.int .i64 W, .int .i64 H, .slice A n c] 24)).alloc (.cells #[.slice AL 5 cL] 54)).alloc (.cells #[.int .i64 0, .int .i64 0, .slice none 0 0] 24) = w1 at *
  refine (CK.out _ (hA.to b1) (hL.below b1)).mono ?_
  rintro e w2 ⟨rfl, hb2⟩
  have b2 := below_call b1 b1.size hb2
  have q1 := k1.below' hb2
  have q2 := k2.below' hb2
  have q3 := k3.below' hb2
  obtain ⟨p1, p2, p3⟩ := q1.cells3
  have p4 := q2.cells0
  clear b1 k1 k2 k3 hb2
  go_wp2_with fail
  refine (NO.out _).mono ?_
  rintro e w3 ⟨_, rfl, ⟨_, rfl, gp, rfl, hgp, kp⟩, hb3⟩
  rw [hN2] at kp ⊢
  have b3 := below_call b2 b2.size hb3
  obtain ⟨bA, oA, A4, c4, rfl, hbA, hcA, haA⟩ := hL.at_ (i := 4) (by omega)
  obtain ⟨b4, o4, rfl, hb4, hc4⟩ := ArrI.fn haA (by omega)
  have HC4 := Lib.hid hc4
  have z1 : w.heap.size + 1 + 1 < w2.heap.size := q3.lt
  have z2 := kp.lt
  have z3 := hb3.size
  obtain ⟨Q, hQ⟩ : ∃ Q, Q = recQ W H p (ln 4) up := ⟨_, rfl⟩
  have HQ := Lib.hid hQ
  have b5 : Below w.heap.size w (w3.alloc (.cells #[.int .i64 W, .int .i64 h, .slice (some ⟨gp, 0, none⟩) N N] 24)) := b3.alloc b3.size _
  have s1 := (q1.below' hb3).alloc (.cells #[.int .i64 W, .int .i64 h, .slice (some ⟨gp, 0, none⟩) N N] 24)
  have s2 := (q2.below' hb3).alloc (.cells #[.int .i64 W, .int .i64 h, .slice (some ⟨gp, 0, none⟩) N N] 24)
  have s3 := (q3.below' hb3).alloc (.cells #[.int .i64 W, .int .i64 h, .slice (some ⟨gp, 0, none⟩) N N] 24)
  have sx := Blk.new w3 24 #[.int .i64 W, .int .i64 h, .slice (some ⟨gp, 0, none⟩) N N]
  have sp : Blk (w3.alloc (.cells #[.int .i64 W, .int .i64 h, .slice (some ⟨gp, 0, none⟩) N N] 24)) gp 5 (u8s N (byCol W Q (fun _ => 0) (0 : Nat) (0 : Nat))) := (kp.alloc _).u8conv fun i i0 _ => (byCol_zero (W := W) (q := Q) (z := fun _ => 0) (by omega) i0).symm
  have r4 := s2.cells0
  have r5 := (b5.cell (p := ⟨bA, oA + 4, none⟩) hbA).trans hcA
  obtain ⟨r1, r2, r3⟩ := s1.cells3
  obtain ⟨rx1, rx2, rx3⟩ := sx.cells3
  clear hQ q1 q2 q3 kp hb3 b2 b3 p1 p2 p3 p4 hc4 CK NO h1 h2 h3 v1 v2
  go_wp2_with fail
  generalize w3.alloc (.cells #[.int .i64 W, .int .i64 h, .slice (some ⟨gp, 0, none⟩) N N] 24) = w5 at *
  generalize w3.heap.size = gx at *
  generalize hm4 : m 4 = M at *
  go_loopw [55] (fun s wr => ∃ x : Nat, x ≤ M ∧ s = .int .i64 x ∧ Below w.heap.size w wr ∧ Blk wr w.heap.size 24 #[.int .i64 W, .int .i64 H, .slice A n c] ∧ Blk wr (w.heap.size + 1 + 1) 24 #[.int .i64 0, .int .i64 0, .slice none 0 0] ∧ Blk wr gx 24 #[.int .i64 W, .int .i64 h, .slice (some ⟨gp, 0, none⟩) N N] ∧ Blk wr gp 5 (u8s N (byCol W Q (fun _ => 0) x (0 : Nat)))) (fun s _ => M - (intOf s).toNat)
  case atStart => exact ⟨0, by omega, rfl, b5, s1, s3, sx, sp⟩
  case round =>
    obtain ⟨x, hx, rfl, b6, t1, t3, tx, tp⟩ := hrel
    clear r1 r2 r3 r4 r5 rx1 rx2 rx3 b5 s1 s2 s3 sx sp
    obtain ⟨r1, r2, r3⟩ := t1.cells3
    obtain ⟨rx1, rx2, rx3⟩ := tx.cells3
    by_cases xl : (x : Int) < M
    · have xW : (x : Int) < W := by have := HM4.out; omega
      have lx := HC4.out x (by omega) xl
      rw [Int.toNat_natCast] at lx
      have cx := (b6.cell (p := ⟨b4, o4 + x, none⟩) hb4).trans lx
      obtain ⟨pb1, pb2, -⟩ := PB.out x xl
      rw [Int.toNat_natCast] at pb1 pb2
      generalize hlx : ln 4 x = l at *
      have HLX := Lib.hid hlx
      clear lx hlx
      go_wp2_with fail
      go_loopw [62] (fun s wr => ∃ y : Nat, (y : Int) ≤ h ∧ s = .int .i64 y ∧ Below w.heap.size w wr ∧ Blk wr w.heap.size 24 #[.int .i64 W, .int .i64 H, .slice A n c] ∧ Blk wr (w.heap.size + 1 + 1) 24 #[.int .i64 0, .int .i64 0, .slice none 0 0] ∧ Blk wr gx 24 #[.int .i64 W, .int .i64 h, .slice (some ⟨gp, 0, none⟩) N N] ∧ Blk wr gp 5 (u8s N (byCol W Q (fun _ => 0) x y))) (fun s _ => (h - intOf s).toNat)
      case atStart => exact ⟨0, by omega, rfl, b6, t1, t3, tx, tp⟩
      case round =>
        obtain ⟨y, hy, rfl, b7, a1, a3, ax, ap⟩ := hrel
        clear r1 r2 r3 rx1 rx2 rx3 b6 t1 t3 tx tp cx
        obtain ⟨r1, r2, r3⟩ := a1.cells3
        obtain ⟨rx1, rx2, rx3⟩ := ax.cells3
        by_cases yl : (y : Int) < h
        · have v3 : IntKind.i64.wrap (l - up) = l - up := IntWalk.i64_in _ (by omega)
          have v4 : IntKind.i64.wrap (l - up + y) = l - up + y := IntWalk.i64_in _ (by omega)
          have QV : Hid (Q (y * W + x) = if 0 ≤ l - up + y ∧ l - up + y < H then p ((l - up + y) * W + x) else 0) := by
            show _ = _
            rw [HQ.out]; unfold recQ
            rw [idx_mod (by omega) xW, idx_div (by omega) xW, Int.toNat_natCast, HLX.out]
          by_cases hin : 0 ≤ (l - up + (y : Int)) ∧ (l - up + (y : Int)) < H
          · obtain ⟨hi1, hi2⟩ := hin
            have d1 : decide (0 ≤ (l - up + (y : Int))) = true := decide_eq_true hi1
            have d2 : decide ((l - up + (y : Int)) < H) = true := decide_eq_true hi2
            rw [if_pos ⟨hi1, hi2⟩] at QV
            obtain ⟨i1, i2, i3⟩ := idx_lt (x := (x : Int)) (y := (l - up + (y : Int))) (W := W) (H := H) (by omega) xW hi1 hi2
            rw [Int.mul_comm H W] at i2
            obtain ⟨j1, j2, j3⟩ := idx_lt (x := (x : Int)) (y := (y : Int)) (W := W) (H := h) (by omega) xW (by omega) yl
            rw [Int.mul_comm h W] at j2
            have i4 : (l - up + (y : Int)) * W + x < (n : Int) := by have := HNN.out; omega
            have j4 : (y : Int) * W + x < (N : Int) := by have := HN.out; omega
            have nb := (area_bd hW1 hW2 hH1 hH2).2
            have v5 : IntKind.i64.wrap ((l - up + (y : Int)) * W) = (l - up + (y : Int)) * W := IntWalk.i64_in _ (by omega)
            have v6 : IntKind.i64.wrap ((l - up + (y : Int)) * W + x) = (l - up + (y : Int)) * W + x := IntWalk.i64_in _ (by omega)
            have v7 : IntKind.i64.wrap ((y : Int) * W) = (y : Int) * W := IntWalk.i64_in _ (by omega)
            have v8 : IntKind.i64.wrap ((y : Int) * W + x) = (y : Int) * W + x := IntWalk.i64_in _ (by omega)
            obtain ⟨bi, oi, rfl, hbi, hci⟩ := ArrB.at_ (ArrB.below hA b7) i1 i4
            have cg := ap.u8at j1 j4
            have fg := ap.frozen ((y : Int) * W + x).toNat
            have KS := Lib.hid (ap.u8set ((y : Int) * W + x) j1 (p ((l - up + (y : Int)) * W + x)))
            have g1 : gp ≠ w.heap.size := by omega
            have BS := Lib.hid (fun i => byCol_set (q := Q) (z := fun _ => 0) (y := (y : Int)) (i := i) (by omega : (0 : Int) ≤ x) xW)
            generalize hpv : p ((l - up + (y : Int)) * W + x) = pv at *
            have HPV := Lib.hid hpv
            clear hpv
            go_wp2_with fail
            go_still_tail 19, (by kernel_rfl)
            change wpList _ _ _ _ _ wr.drew
            clear v5 v6 v7 v8
            go_wp2
            go_roundw
            case rel => exact ⟨y + 1, by omega, by go_num, by (repeat (first | exact Below.refl _ _ | assumption | refine Below.drew ?_ | refine below_drewN ?_ _ | refine Below.alloc ?_ (by first | omega | (simp; done) | (simp; omega)) _ | refine Below.setCell ?_ (by first | omega | (simp; done) | (simp; omega)) _ | refine below_setRow ?_ (by first | omega | (simp; done) | (simp; omega)) _ )), a1.drew.far (p := ⟨gp, ((y : Int) * W + x).toNat, none⟩) (fun e => g1 e.symm) _, a3.drew.far (p := ⟨gp, ((y : Int) * W + x).toNat, none⟩) (by show w.heap.size + 1 + 1 ≠ gp; omega) _, ax.drew.far (p := ⟨gp, ((y : Int) * W + x).toNat, none⟩) (by show gx ≠ gp; omega) _, Blk.u8conv (by simpa using KS.out.drew) fun i _ _ => by have h := BS.out i; rw [QV.out] at h; rw [Int.natCast_add]; exact h⟩
            case measure => simp [intOf]; omega
          · rw [if_neg hin] at QV
            have SK := Lib.hid (fun i => byCol_skip (q := Q) (z := fun _ => 0) (y := (y : Int)) (i := i) (by omega : (0 : Int) ≤ x) xW QV.out)
            by_cases h0 : 0 ≤ (l - up + (y : Int))
            · have hh2 : ¬ (l - up + (y : Int)) < H := fun h3 => hin ⟨h0, h3⟩
              have d1 : decide (0 ≤ (l - up + (y : Int))) = true := decide_eq_true h0
              have d2 : decide ((l - up + (y : Int)) < H) = false := decide_eq_false hh2
              clear hin
              go_wp2_with fail
              go_roundw
              case rel => exact ⟨y + 1, by omega, by go_num, b7, a1, a3, ax, ap.u8conv fun i _ _ => SK.out i⟩
              case measure => simp [intOf]; omega
            · have d1 : decide (0 ≤ (l - up + (y : Int))) = false := decide_eq_false h0
              clear hin
              go_wp2_with fail
              go_roundw
              case rel => exact ⟨y + 1, by omega, by go_num, b7, a1, a3, ax, ap.u8conv fun i _ _ => SK.out i⟩
              case measure => simp [intOf]; omega
        · have ey : (y : Int) = h := by omega
          have ap2 := ap.u8conv (r := byCol W Q (fun _ => 0) ((x : Int) + 1) (0 : Nat)) fun i i0 i1 => by rw [ey]; exact byCol_col (by omega) i0 (by have := HN.out; omega)
          clear ap ey
          go_wp2_with fail
          go_roundw
          case rel => exact ⟨x + 1, by omega, by go_num, b7, a1, a3, ax, ap2⟩
          case measure => simp [intOf]; omega
    · obtain rfl : x = M := by omega
      obtain ⟨f1, f2, f3⟩ := t3.frozen3
      obtain ⟨y1, y2, y3⟩ := t3.cells3
      have k5 := ((t3.set_ 0 (.int .i64 W)).set_ 1 (.int .i64 h)).set_ 2 (.slice (some ⟨gp, 0, none⟩) N N)
      obtain ⟨s1, s2, s3⟩ := Blk.cells3 (a := .int .i64 W) (b := .int .i64 h) (c := .slice (some ⟨gp, 0, none⟩) N N) k5
      go_wp2_with fail
      refine bodyPost_ret (v := .tuple #[.agg #[.int .i64 W, .int .i64 h, .slice (some ⟨gp, 0, none⟩) N N], .int .i64 0]) (by simp [results, Try.results44, go_sem, s1, s2, s3]) rfl ?_
      refine ⟨_, rfl, ⟨_, rfl, ?_⟩, by (repeat (first | exact Below.refl _ _ | assumption | refine Below.drew ?_ | refine below_drewN ?_ _ | refine Below.alloc ?_ (by first | omega | (simp; done) | (simp; omega)) _ | refine Below.setCell ?_ (by first | omega | (simp; done) | (simp; omega)) _ | refine below_setRow ?_ (by first | omega | (simp; done) | (simp; omega)) _ ))⟩
      rw [← HQ.out]
      have g1 : gp ≠ w.heap.size + 1 + 1 := by omega
      refine OutN.mk (by omega) (Blk.far (Blk.far (Blk.far (tp.u8conv fun i _ _ => ?_) g1 _) g1 _) g1 _)
      rw [HM4.out]
      exact byCol_end (by omega)
end Go.Proofs.Ytdimlpcbbkokiaa

/- Memory: a block of bytes of which the first cells are known; bytes.Clone. -/
namespace Go.Proofs.Ytdimlpcbbkokiaa
open Go.RowKit
set_option linter.unusedVariables false

/-- block g holds bytes, the first n of which are q -/
def ArrO (w : World) (g n : Nat) (q : Int → Int) : Prop := ∃ cs, Blk w g 5 cs ∧ ∀ i : Int, 0 ≤ i → i < n → cs[i.toNat]? = some (.int .u8 (q i))
section
variable {w w' : World} {g n : Nat} {q r : Int → Int}
theorem ArrO.lt (h : ArrO w g n q) : g < w.heap.size := by obtain ⟨cs, hb, -⟩ := h; exact hb.lt
theorem ArrO.cell (h : ArrO w g n q) {i : Int} (h0 : 0 ≤ i) (hi : i < n) : w.cell? ⟨g, i.toNat, none⟩ = some (.int .u8 (q i)) := by obtain ⟨cs, hb, hc⟩ := h; rw [hb.cell, hc i h0 hi]
theorem ArrO.frozen (h : ArrO w g n q) (i : Nat) : w.frozen? ⟨g, i, none⟩ = false := by obtain ⟨cs, hb, -⟩ := h; exact hb.frozen i
theorem ArrO.move (h : ArrO w g n q) (e : w'.heap[g]? = w.heap[g]?) : ArrO w' g n q := by obtain ⟨cs, hb, hc⟩ := h; exact ⟨cs, hb.move e, hc⟩
theorem ArrO.drew (h : ArrO w g n q) : ArrO w.drew g n q := h.move rfl
theorem ArrO.alloc (h : ArrO w g n q) (o : Obj) : ArrO (w.alloc o) g n q := h.move (Below.heap_alloc w o g h.lt)
theorem ArrO.far (h : ArrO w g n q) {p : Addr} (hp : g ≠ p.block) (u : Value) : ArrO (w.setCell p u) g n q := h.move (heap_setCell_other w p g u hp)
theorem ArrO.below (h : ArrO w g n q) (hb : Below w.heap.size w w') : ArrO w' g n q := h.move (hb.block g h.lt)
theorem ArrO.conv (h : ArrO w g n q) (he : ∀ i : Int, 0 ≤ i → i < n → q i = r i) : ArrO w g n r := by
  obtain ⟨cs, hb, hc⟩ := h; exact ⟨cs, hb, fun i a b => by rw [hc i a b, he i a b]⟩
theorem ArrO.set (h : ArrO w g n q) (i : Int) (h0 : 0 ≤ i) (hi : i < n) (v : Int) : ArrO (w.setCell ⟨g, i.toNat, none⟩ (.int .u8 v)) g n (upd q i v) := by
  obtain ⟨cs, hb, hc⟩ := h
  refine ⟨cs.setIfInBounds i.toNat (.int .u8 v), hb.set_ _ _, fun j j0 j1 => ?_⟩
  rw [Array.getElem?_setIfInBounds]
  have hs : i.toNat < cs.size := (Array.getElem?_eq_some_iff.1 (hc i h0 hi)).1
  by_cases e : i.toNat = j.toNat
  · have e' : j = i := by omega
    subst e'
    rw [if_pos rfl, if_pos hs, upd_at]
  · rw [if_neg e, hc j j0 j1, upd_ne (by omega)]
theorem ArrO.arr (h : ArrO w g n q) : ArrB w w.heap.size (some ⟨g, 0, none⟩) n q := fun _ => ⟨g, 0, rfl, h.lt, fun i a b => by rw [Nat.zero_add]; exact h.cell a b⟩
theorem Blk.arrO {N : Nat} (h : Blk w g 5 (u8s N q)) : ArrO w g N q := ⟨_, h, fun i a b => u8s_at a b⟩
end
theorem own_arrO {w : World} {B n : Nat} {v : Value} {q : Int → Int} (h : w.ownsRow B 5 1 v n ((List.range n).map fun (j : Nat) => Value.int .u8 (q j))) (hn : 0 < n) : ∃ g c, v = .slice (some ⟨g, 0, none⟩) n c ∧ n ≤ c ∧ B ≤ g ∧ ArrO w g n q := by
  rcases h.2 with ⟨-, h2⟩ | ⟨g, cap, cur, hv, hb, hh, hc, _, hs, ht⟩
  · omega
  · refine ⟨g, cap, hv, hc, hb, cur, hh, fun i a b => ?_⟩
    have e : cur[i.toNat]? = (cur.toList.take ((List.range n).map fun (j : Nat) => Value.int .u8 (q j)).length)[i.toNat]? := by
      rw [List.getElem?_take, if_pos (by simp; omega)]; simp
    rw [e]
    have : (cur.toList.take ((List.range n).map fun (j : Nat) => Value.int .u8 (q j)).length) = (List.range n).map fun (j : Nat) => Value.int .u8 (q j) := by
      simpa using ht
    rw [this, List.getElem?_map, List.getElem?_range (by omega)]
    simp [Int.toNat_of_nonneg a]

def ClOut (A : Option Addr) (n : Nat) (p : Int → Int) (w : World) (v : Value) (w' : World) : Prop := (A = none ∧ n = 0 ∧ v = .slice none 0 0 ∧ w = w') ∨ w'.ownsRow w.heap.size 5 1 v n ((List.range n).map fun (j : Nat) => Value.int .u8 (p j))
set_option maxRecDepth 100000 in
set_option maxHeartbeats 1000000 in
theorem bclone_own (A : Option Addr) (n c : Nat) (p : Int → Int) (w : World) (hA : ArrB w w.heap.size A n p) (hn : n ≤ 140737488355328) :
    Calls Try.prog 86 #[.slice A n c] w (New w fun v w' => ClOut A n p w v w') := by
  obtain ⟨i0, hi0, hz0, hz1, hz2⟩ := info_parts infoU8
  cases A with
  | none =>
    have hn0 : n = 0 := by
      rcases Nat.eq_zero_or_pos n with h | h
      · exact h
      · obtain ⟨b, off, e, _⟩ := hA h; cases e
    subst hn0
    have E1 : ∀ W, (binOp .eql 22 (.slice none 0 c) (.slice none 0 0)).run Try.prog W = .ok (.bool true) W := fun W => Go.run_eql_slice_nil W _ _ _ _ _ Try.underlying22
    clear hA
    go_enter Try.func86, Try.ntmps86
    go_wp2
    go_ret
    exact ⟨_, rfl, .inl ⟨rfl, rfl, rfl, rfl⟩, Below.refl _ _⟩
  | some ad =>
    have E1 : ∀ W, (binOp .eql 22 (.slice (some ad) n c) (.slice none 0 0)).run Try.prog W = .ok (.bool false) W := fun W => Go.run_eql_slice_nil W _ _ _ _ _ Try.underlying22
    have HA := Lib.hid hA
    clear hA
    go_enter Try.func86, Try.ntmps86
    go_wp2_with (at_builtin; refine wpList_append_own _ rfl (.tmp 5) (.tmp 6) 22 rfl w.heap.size 5 i0 (.int .u8 0) 1 1 Try.underlying22 hi0 hz0 hz1 hz2 rfl (by decide) _ 0 [] rfl (World.ownsRow_made w #[] 0 (Nat.le_refl _) (by decide) rfl) ad n c ((List.range n).map (fun (j : Nat) => Value.int .u8 (p j))) rfl (by simp) ?c1 ?c2 ?c3 ?c4 ?c5 ?_)
    case c1 =>
      intro j u hj
      have hjn : j < n := by
        rcases Nat.lt_or_ge j n with h | h
        · exact h
        · rw [List.getElem?_eq_none (by simpa using h)] at hj; cases hj
      obtain ⟨b, off, e, hb, hcell⟩ := HA.out (by omega)
      injection e with e; subst e
      have := hcell j (by omega) (by omega)
      simp [hjn] at hj
      subst hj
      rw [Int.toNat_natCast] at this
      have hadd : (⟨b, off, none⟩ : Addr).add j = ⟨b, off + j, none⟩ := by unfold Addr.add; split <;> simp_all
      rw [hadd, ← this]
      exact (Below.cell ((Below.refl _ _).alloc (Nat.le_refl _) _) (p := ⟨b, off + j, none⟩) hb)
    case c2 => intro u hu; simp at hu; obtain ⟨j, _, rfl⟩ := hu; rfl
    case c3 => unfold maxLen; omega
    case c4 => omega
    case c5 => simp
    intro v' w7 own7 hg7 _
    have b7 : Below w.heap.size w w7 := ((Below.refl w.heap.size w).alloc (Nat.le_refl _) (.cells #[] 5)).grown hg7 (by simp) (fun k hk => by cases hk; exact Nat.le_refl _)
    go_wp2
    go_ret
    try rw [Nat.zero_add, List.nil_append] at own7
    exact ⟨_, rfl, .inr own7, b7⟩
theorem bclone_pos (A : Option Addr) (n c : Nat) (p : Int → Int) (w : World) (hA : ArrB w w.heap.size A n p) (hn : n ≤ 140737488355328) (h0 : 0 < n) :
    Calls Try.prog 86 #[.slice A n c] w (New w fun v w' => ∃ g c', v = .slice (some ⟨g, 0, none⟩) n c' ∧ n ≤ c' ∧ w.heap.size ≤ g ∧ ArrO w' g n p) :=
  (bclone_own A n c p w hA hn).mono fun e w' ⟨v, he, h, hb⟩ => by
    rcases h with ⟨-, h, -, -⟩ | h
    · omega
    · exact ⟨v, he, own_arrO h h0, hb⟩
theorem outSl_nil (w w' : World) (q : Int → Int) : OutSl w w' 0 q (.slice none 0 0) := ⟨none, 0, rfl, Nat.le_refl _, fun _ => rfl, (fun _ h => by cases h), ArrB.nil⟩
theorem bclone_any (A : Option Addr) (n c : Nat) (p : Int → Int) (w : World) (hA : ArrB w w.heap.size A n p) (hn : n ≤ 140737488355328) :
    Calls Try.prog 86 #[.slice A n c] w (New w fun v w' => OutSl w w' n p v) :=
  (bclone_own A n c p w hA hn).mono fun e w' ⟨v, he, h, hb⟩ => by
    refine ⟨v, he, ?_, hb⟩
    rcases h with ⟨-, rfl, rfl, rfl⟩ | h
    · exact outSl_nil _ _ _
    · exact own_out h rfl
end Go.Proofs.Ytdimlpcbbkokiaa

/- Walk: the first of two errors (cmp.Or). -/
namespace Go.Proofs.Ytdimlpcbbkokiaa
open Go.RowKit Go.Shelf
set_option linter.unusedVariables false
attribute [local go_sem] Oper.semAt_some

/-- the first of two that is not zero -/
def orE (a b : Int) : Int := if a = 0 then b else a
set_option maxHeartbeats 1000000 in
theorem or2_any (g : Nat) (a b : Int) (w : World) (h : Blk w g 30 #[.int .i64 a, .int .i64 b]) :
    Calls Try.prog 85 #[.slice (some ⟨g, 0, none⟩) 2 2] w fun e w' => e = .returned (.int .i64 (orE a b)) ∧ w = w' := by
  have p1 : w.cell? ⟨g, 0, none⟩ = some (.int .i64 a) := by rw [h.cell]; rfl
  have p2 : w.cell? ⟨g, 1, none⟩ = some (.int .i64 b) := by rw [h.cell]; rfl
  have HO : Hid (orE a b = if a = 0 then b else a) := rfl
  generalize orE a b = z at *
  clear h
  by_cases ha : a = 0
  · have hz : z = b := by rw [HO.out, if_pos ha]
    subst hz
    subst ha
    by_cases hb : z = 0
    · subst hb
      clear HO
      go_enter Try.func85, Try.ntmps85
      go_wp2_with fail
      go_loop [8] (fun i => ∃ k : Nat, k ≤ 2 ∧ i = .int .i64 k) (fun i => 2 - (intOf i).toNat)
      case atStart => exact ⟨0, by omega, rfl⟩
      case round =>
        obtain ⟨k, hk, rfl⟩ := hrel
        by_cases k2 : k = 2
        · subst k2
          go_wp2
          go_ret
          exact ⟨rfl, rfl⟩
        · have hc : w.cell? ⟨g, k, none⟩ = some (.int .i64 0) := by
            by_cases k0 : k = 0
            · subst k0; exact p1
            · obtain rfl : k = 1 := by omega
              exact p2
          have kl : (k : Int) < 2 := by omega
          clear p1 p2
          go_wp2
          go_round
          case rel => exact ⟨k + 1, by omega, by go_num⟩
          case measure => simp [intOf]; omega
    · have hb' : (z == 0) = false := by simp [hb]
      have hb2 : (z != 0) = true := by simp [hb]
      have HB := Lib.hid hb
      clear HO hb
      go_enter Try.func85, Try.ntmps85
      go_wp2_with fail
      go_loop [8] (fun i => ∃ k : Nat, k ≤ 1 ∧ i = .int .i64 k) (fun i => 2 - (intOf i).toNat)
      case atStart => exact ⟨0, by omega, rfl⟩
      case round =>
        obtain ⟨k, hk, rfl⟩ := hrel
        by_cases k0 : k = 0
        · subst k0
          go_wp2
          go_round
          case rel => exact ⟨1, by omega, by go_num⟩
          case measure => simp [intOf]
        · obtain rfl : k = 1 := by omega
          go_wp2
          go_ret
          exact ⟨rfl, rfl⟩
  · have hz : z = a := by rw [HO.out, if_neg ha]
    subst hz
    have hb' : (z == 0) = false := by simp [ha]
    have hb2 : (z != 0) = true := by simp [ha]
    have HA := Lib.hid ha
    clear HO ha
    go_enter Try.func85, Try.ntmps85
    go_wp2_with fail
    go_loop [8] (fun i => i = .int .i64 0) (fun i => 2 - (intOf i).toNat)
    case atStart => exact rfl
    case round =>
      subst hrel
      go_wp2
      go_ret
      exact ⟨rfl, rfl⟩
end Go.Proofs.Ytdimlpcbbkokiaa
