/- Texts of mine in build order: T45, T42, B2, B3, T46. Conditions: each theorem's own. -/
import Derived.Test.YtdimlpcbbkokiaaMStaveRunsx11
import Derived.StillTailTactics
import Derived.Deep.DeepCutAuto
import Derived.Deep.Cut
import Derived.Deep.CutBlock
import Derived.Deep.RegionHeld3
/- Walk: images with staves whose lines bend (custoslaw03.Wavy). -/
namespace Go.Proofs.Ytdimlpcbbkokiaa
open Go.RowKit Go.Shelf
set_option linter.unusedVariables false
attribute [local go_sem] Oper.semAt_some

/-- what Wavy returns -/
def WavyOut (w w' : World) (W H : Int) (N n : Nat) (L : Nat → Nat → Int) (v : Value) : Prop :=
  ∃ g Bs vo vs, v = .tuple #[.agg #[.int .i64 W, .int .i64 H, .slice (some ⟨g, 0, none⟩) N N], vo] ∧ w.heap.size ≤ g ∧ g < Bs ∧ Blk w' g 5 (u8s N (wvQ W L (5 * n) 0)) ∧ StOut Bs w' (fun _ => W.toNat) L ((List.range n).map (5 * ·)) vo vs
theorem min14 (n M : Nat) (h : (M : Int) = min (n : Int) 14) : M ≤ 14 ∧ M ≤ n ∧ min n 14 = M := by omega

set_option maxRecDepth 100000 in
set_option maxHeartbeats 8000000 in
theorem wavy_any (wd sv W low high H : Int) (A : Option Addr) (n c k M nn N : Nat) (p : Int → Int) (w : World) (hA : ArrB w w.heap.size A n p) (hn : n ≤ maxLen) (hnc : n ≤ c) (hB : IsB p) (hwd : 0 ≤ wd ∧ wd ≤ 255) (hsv : 0 ≤ sv ∧ sv ≤ 255)
    (hW : 40 + wd % 120 = W) (hk : W = (k : Int) + 1) (hM : (M : Int) = min (n : Int) 14) (hlow : minA (rsF p M) k = low) (hhigh : maxA (rsF p M) k = high) (hnn : 1 + sv % 3 = (nn : Int)) (hH : H = 5 + (high - low) + (nn : Int) * 24 + ((nn : Int) - 1) * 12 + 6) (hN : (N : Int) = W * H) :
    Calls Try.prog 41 #[.int .u8 wd, .int .u8 sv, .slice A n c] w (New w fun v w' => WavyOut w w' W H N nn (wvL low (rsF p M)) v) := by
  unfold maxLen at hn
  obtain ⟨hw1, hw2⟩ := hwd
  obtain ⟨hs1, hs2⟩ := hsv
  obtain ⟨hM14, hMn, -⟩ := min14 n M hM
  have hW0 : 40 ≤ W ∧ W ≤ 159 := by omega
  have hn3 : 1 ≤ nn ∧ nn ≤ 3 := by omega
  have hlo : -14 ≤ low ∧ low ≤ 14 := by
    obtain ⟨-, j, -, -, e⟩ := minAq_le (q := rsF p M) (minA := minA) (fun _ => rfl) (fun _ _ => rfl) k
    have := rsF_bd (p := p) M j
    rw [← hlow, e]; omega
  have hhi : low ≤ high ∧ high ≤ 14 := by
    obtain ⟨-, j, -, -, e⟩ := maxAq_ge (q := rsF p M) (maxA := maxA) (fun _ => rfl) (fun _ _ => rfl) k
    have h1 := rsF_bd (p := p) M j
    have h2 := (minAq_le (q := rsF p M) (minA := minA) (fun _ => rfl) (fun _ _ => rfl) k).1 0 (by omega) (by omega)
    have h3 := (maxAq_ge (q := rsF p M) (maxA := maxA) (fun _ => rfl) (fun _ _ => rfl) k).1 0 (by omega) (by omega)
    rw [hlow] at h2
    rw [hhigh] at h3
    rw [hhigh] at e
    omega
  have LR : Hid (∀ x : Int, 0 ≤ x → x < W → low ≤ rsF p M x ∧ rsF p M x ≤ high) := by
    show ∀ _, _
    intro x x0 x1
    have h2 := (minAq_le (q := rsF p M) (minA := minA) (fun _ => rfl) (fun _ _ => rfl) k).1 x x0 (by omega)
    have h3 := (maxAq_ge (q := rsF p M) (maxA := maxA) (fun _ => rfl) (fun _ _ => rfl) k).1 x x0 (by omega)
    rw [hlow] at h2
    rw [hhigh] at h3
    exact ⟨h2, h3⟩
  have hWn : W.toNat = k + 1 := by omega
  have hmkI := makeI W (by omega) (by omega)
  rw [hWn] at hmkI
  have HMK := Lib.hid hmkI
  have HM := Lib.hid hM; have HW := Lib.hid hW; have HK := Lib.hid hk; have HLO := Lib.hid hlow; have HHI := Lib.hid hhigh; have HNN := Lib.hid hnn; have HHH := Lib.hid hH; have HN := Lib.hid hN; have HWN := Lib.hid hWn
  clear hmkI hM hlow hhigh hnn hH hN hWn hk hW
  go_enter Try.func41, Try.ntmps41
  go_upto_region 1 with fail
  go_cut [8] (fun t wx => t = .int .i64 W ∧ wx = w.alloc (.cells #[.int .i64 0, .int .i64 0, .slice none 0 0] 24))
  case first =>
    go_wp2_with fail
    go_meet
    exact ⟨by rw [← HW.out], rfl⟩
  case rest =>
  obtain ⟨rfl, rfl⟩ := hcut
  have hmkI := HMK.out
  have z0 : w.heap.size < (w.alloc (.cells #[.int .i64 0, .int .i64 0, .slice none 0 0] 24)).heap.size := by simp
  have k0 : Blk (w.alloc (.cells #[.int .i64 0, .int .i64 0, .slice none 0 0] 24)) w.heap.size 24 #[.int .i64 0, .int .i64 0, .slice none 0 0] := Blk.new _ _ _
  have b0 : Below w.heap.size w (w.alloc (.cells #[.int .i64 0, .int .i64 0, .slice none 0 0] 24)) := by (repeat (first | exact Below.refl _ _ | assumption | refine Below.drew ?_ | refine below_drewN ?_ _ | refine Below.alloc ?_ (by first | omega | (simp; done) | (simp; omega)) _ | refine Below.setCell ?_ (by first | omega | (simp; done) | (simp; omega)) _ | refine below_setRow ?_ (by first | omega | (simp; done) | (simp; omega)) _ ))
  generalize w.alloc (.cells #[.int .i64 0, .int .i64 0, .slice none 0 0] 24) = w1 at *
  go_upto_region 4 with fail
  have kR : Blk (w1.alloc (.cells (i64s (k + 1) (fun _ => 0)) 3)) w1.heap.size 3 (i64s (k + 1) (fun _ => 0)) := Blk.new _ _ _
  have k0 := k0.alloc (.cells (i64s (k + 1) (fun _ => 0)) 3)
  have b0 : Below w.heap.size w (w1.alloc (.cells (i64s (k + 1) (fun _ => 0)) 3)) := b0.alloc (by omega) _
  clear hmkI
  generalize w1.alloc (.cells (i64s (k + 1) (fun _ => 0)) 3) = w2 at *
  generalize hgR : w1.heap.size = gR at *
  go_cut [36, 37, 38] (fun a b s wx => a = .slice A M c ∧ b = .int .i64 M ∧ s = .int .i64 0 ∧ wx = w2)
  case first =>
    have e1 : min (n : Int) 14 = (M : Int) := HM.out.symm
    have e2 : max (M : Int) 0 = (M : Int) := by omega
    have e3 : (M : Int) ≤ c := by omega
    go_wp2_with fail
    go_meet
    exact ⟨rfl, rfl, rfl, rfl⟩
  case rest =>
  obtain ⟨rfl, rfl, rfl, rfl⟩ := hcut
  have hA' : ArrB w w.heap.size A M p := fun h => by
    obtain ⟨b, off, e, hb, hc⟩ := hA (by omega)
    exact ⟨b, off, e, hb, fun i a b => hc i a (by omega)⟩
  clear hA
  go_upto_block 0 with fail
  go_cut [8] from 32 to 68 (fun t wx => t = .int .i64 W ∧ Below w.heap.size w wx ∧ Blk wx w.heap.size 24 #[.int .i64 0, .int .i64 0, .slice none 0 0] ∧ Blk wx gR 3 (i64s (k + 1) (rsF p M)))
  case first =>
    go_wp2
    go_loopw [10, 11, 38] (fun y x s wr => ∃ j : Nat, j ≤ M ∧ s = .int .i64 j ∧ y = .int .i64 (byF p j) ∧ x = .int .i64 (bxF p j) ∧ bxF p j < W ∧ Below w.heap.size w wr ∧ Blk wr w.heap.size 24 #[.int .i64 0, .int .i64 0, .slice none 0 0] ∧ Blk wr gR 3 (i64s (k + 1) (rsF p j))) (fun _ _ s _ => M - (intOf s).toNat)
    case atStart => exact ⟨0, by omega, rfl, rfl, rfl, by show (0 : Int) < W; omega, b0, k0, kR⟩
    case round =>
      obtain ⟨j, hj, rfl, rfl, rfl, hx, b1, t0, tR⟩ := hrel
      clear b0 k0 kR
      by_cases jl : (j : Int) < M
      · obtain ⟨bb, off, rfl, hbB, hcell⟩ := ArrB.at_ (ArrB.below hA' b1) (show (0 : Int) ≤ j by omega) jl
        rw [Int.toNat_natCast] at hcell
        obtain ⟨rb1, rb2⟩ := hB j
        have HX : Hid (bxF p (j + 1) = bxF p j + (8 + p j % 16)) := rfl
        have HY : Hid (byF p (j + 1) = byF p j + (p j / 16 % 3 - 1)) := rfl
        have hxlo := bxF_lo (p := p) j
        have hyb := byF_bd (p := p) j
        have ST := Lib.hid fun (i : Int) (hi : i < bxF p (j + 1)) => rsF_stop (p := p) (k := j) (m := M) hi (by omega)
        have AH := Lib.hid fun (i : Int) (hi : i < bxF p (j + 1)) => rsF_ahead (p := p) (k := j) hi
        have DR := Lib.hid fun (i : Int) (hi : bxF p (j + 1) ≤ i) => rsF_draw (p := p) (k := j) hi
        rw [HX.out] at ST AH DR
        rw [HY.out] at DR
        generalize bxF p j = X at *
        generalize byF p j = Y at *
        generalize p j = pv at *
        by_cases hge : W ≤ X + (8 + pv % 16)
        · have d1 : decide (W ≤ X + (8 + pv % 16)) = true := decide_eq_true hge
          have tR2 := tR.i64conv (r := rsF p M) fun i i0 i1 => (ST.out i (by have := HK.out; omega)).symm
          clear tR
          go_wp2_with fail
          go_meet
          exact ⟨rfl, b1, t0, tR2⟩
        · have d1 : decide (W ≤ X + (8 + pv % 16)) = false := decide_eq_false hge
          have hlt : X + (8 + pv % 16) < W := by omega
          have v1 : IntKind.i64.wrap (Y + (pv / 16 % 3 - 1)) = Y + (pv / 16 % 3 - 1) := IntWalk.i64_in _ (by omega)
          clear hge
          go_wp2_with fail
          have tR2 := tR.i64conv (r := fun t => if t < X + (8 + pv % 16) then rsF p (j + 1) t else rsF p j t) fun i i0 i1 => by
            show rsF p j i = if _ then _ else _
            split
            · rename_i h; exact (AH.out i h).symm
            · rfl
          clear tR v1
          generalize wr = w5 at *
          go_loopw [14] (fun s w9 => ∃ i : Int, X + (8 + pv % 16) ≤ i ∧ i ≤ W ∧ s = .int .i64 i ∧ Below w.heap.size w w9 ∧ Blk w9 w.heap.size 24 #[.int .i64 0, .int .i64 0, .slice none 0 0] ∧ Blk w9 gR 3 (i64s (k + 1) (fun t => if t < i then rsF p (j + 1) t else rsF p j t))) (fun s _ => (W - intOf s).toNat)
          case atStart => exact ⟨_, Int.le_refl _, by omega, rfl, b1, t0, tR2⟩
          case round =>
            obtain ⟨i, i0, iW, rfl, b2, u0, uR⟩ := hrel
            clear b1 t0 tR2
            by_cases il : i < W
            · have DI := Lib.hid (DR.out i i0)
              have g0 : (0 : Int) ≤ i := by omega
              have g1 : i < ((k + 1 : Nat) : Int) := by have := HK.out; omega
              have cR := uR.i64at g0 g1
              have fR := uR.frozen i.toNat
              have UR := Lib.hid (uR.i64set i g0 (Y + (pv / 16 % 3 - 1)))
              have hRz : gR ≠ w.heap.size := by omega
              have il2 : i < (k : Int) + 1 := by have := HK.out; omega
              go_wp2_with fail
              go_roundw
              case rel =>
                refine ⟨i + 1, by omega, by omega, by go_num, b2.setCell (by show w.heap.size ≤ gR; omega) _, u0.far (p := ⟨gR, i.toNat, none⟩) (fun e => hRz e.symm) _, UR.out.i64conv fun t _ _ => ?_⟩
                by_cases e : t = i
                · subst e
                  rw [upd_at, if_pos (by omega), DI.out]
                · rw [upd_ne e]
                  by_cases c1 : t < i
                  · rw [if_pos c1, if_pos (by omega)]
                  · rw [if_neg c1, if_neg (by omega)]
              case measure => simp [intOf]; omega
            · have uR2 := uR.i64conv (r := rsF p (j + 1)) fun t _ t1 => by rw [if_pos (by have := HK.out; omega)]
              clear uR
              go_wp2_with fail
              go_roundw
              case rel => exact ⟨j + 1, by omega, by go_num, by rw [HY.out], by rw [HX.out], by rw [HX.out]; omega, b2, u0, uR2⟩
              case measure => simp [intOf]; omega
      · obtain rfl : j = M := by omega
        go_wp2_with fail
        go_meet
        exact ⟨rfl, b1, t0, tR⟩
  case rest =>
  obtain ⟨rfl, b3, k3, kR3⟩ := hcut
  generalize wc = wz at *
  clear b0 k0 kR hA'
  have hkb : k ≤ 1000000 := by have := HK.out; omega
  have MN : Hid (Calls Try.prog 80 #[.slice (some ⟨gR, 0, none⟩) (k + 1) (k + 1)] wz fun e w' => e = .returned (.int .i64 (minA (rsF p M) k)) ∧ wz = w') := (min_any (some ⟨gR, 0, none⟩) k (k + 1) (rsF p M) wz (kR3.arrI kR3.lt) hkb).mono fun _ _ h => ⟨h.1, h.2.symm⟩
  have MX : Hid (Calls Try.prog 81 #[.slice (some ⟨gR, 0, none⟩) (k + 1) (k + 1)] wz fun e w' => e = .returned (.int .i64 (maxA (rsF p M) k)) ∧ wz = w') := (max_any (some ⟨gR, 0, none⟩) k (k + 1) (rsF p M) wz (kR3.arrI kR3.lt) hkb).mono fun _ _ h => ⟨h.1, h.2.symm⟩
  rw [HLO.out] at MN
  rw [HHI.out] at MX
  go_wp2_with fail
  refine MN.out.mono ?_
  rintro e w' ⟨rfl, rfl⟩
  go_wp2_with fail
  refine MX.out.mono ?_
  rintro e w' ⟨rfl, rfl⟩
  clear MN MX
  go_upto_region 16 with fail
  go_cut [17] (fun t wx => t = .int .i64 nn ∧ wx = wz)
  case first =>
    go_wp2_with fail
    go_meet
    exact ⟨by rw [← HNN.out], rfl⟩
  case rest =>
  obtain ⟨rfl, hwc⟩ := hcut
  obtain rfl : wz = wc := hwc.symm
  clear hwc
  go_upto_region 17 with fail
  go_cut [18] (fun s wx => s = .int .i64 H ∧ wx = wz)
  case first =>
    go_wp2_with fail
    go_meet
    exact ⟨by rw [← HHH.out], rfl⟩
  case rest =>
  obtain ⟨rfl, hwc⟩ := hcut
  obtain rfl : wz = wc := hwc.symm
  clear hwc
  have hH0 : 1 ≤ H ∧ H ≤ 640 := by have := HHH.out; omega
  have nb := area_bd (W := W) (H := H) (by omega) (by omega) (by omega) hH0.2
  have hmkB := makeB (W * H) nb.1 (by omega)
  rw [show (W * H).toNat = N by have := HN.out; omega] at hmkB
  have v1 : IntKind.i64.wrap (W * H) = W * H := IntWalk.i64_in _ (by omega)
  have kp : Blk ((wz.alloc (.cells (u8s N (fun _ => 0)) 5)).alloc (.cells #[.int .i64 W, .int .i64 H, .slice (some ⟨wz.heap.size, 0, none⟩) N N] 24)) wz.heap.size 5 (u8s N (wvQ W (wvL low (rsF p M)) (5 * 0) 0)) := ((Blk.new _ _ _).alloc _).u8conv fun i _ _ => (wvQ_start (by omega)).symm
  have kx : Blk ((wz.alloc (.cells (u8s N (fun _ => 0)) 5)).alloc (.cells #[.int .i64 W, .int .i64 H, .slice (some ⟨wz.heap.size, 0, none⟩) N N] 24)) (wz.heap.size + 1) 24 #[.int .i64 W, .int .i64 H, .slice (some ⟨wz.heap.size, 0, none⟩) N N] := Blk.new' (by simp) _ _
  have k4 := (k3.alloc (.cells (u8s N (fun _ => 0)) 5)).alloc (.cells #[.int .i64 W, .int .i64 H, .slice (some ⟨wz.heap.size, 0, none⟩) N N] 24)
  have kR4 := (kR3.alloc (.cells (u8s N (fun _ => 0)) 5)).alloc (.cells #[.int .i64 W, .int .i64 H, .slice (some ⟨wz.heap.size, 0, none⟩) N N] 24)
  have zb := b3.size
  have b4 : Below w.heap.size w ((wz.alloc (.cells (u8s N (fun _ => 0)) 5)).alloc (.cells #[.int .i64 W, .int .i64 H, .slice (some ⟨wz.heap.size, 0, none⟩) N N] 24)) := by (repeat (first | exact Below.refl _ _ | assumption | refine Below.drew ?_ | refine below_drewN ?_ _ | refine Below.alloc ?_ (by first | omega | (simp; done) | (simp; omega)) _ | refine Below.setCell ?_ (by first | omega | (simp; done) | (simp; omega)) _ | refine below_setRow ?_ (by first | omega | (simp; done) | (simp; omega)) _ ))
  have z3 := k3.lt
  have z4 := kR3.lt
  have zs : ((wz.alloc (.cells (u8s N (fun _ => 0)) 5)).alloc (.cells #[.int .i64 W, .int .i64 H, .slice (some ⟨wz.heap.size, 0, none⟩) N N] 24)).heap.size = wz.heap.size + 2 := by simp
  go_wp2_with fail
  clear hmkB v1 k3 kR3 b3
  generalize (wz.alloc (.cells (u8s N (fun _ => 0)) 5)).alloc (.cells #[.int .i64 W, .int .i64 H, .slice (some ⟨wz.heap.size, 0, none⟩) N N] 24) = w3 at *
  generalize hgp : wz.heap.size = gp at *
  obtain ⟨L, hL⟩ : ∃ L, wvL low (rsF p M) = L := ⟨_, rfl⟩
  have LV : Hid (∀ (i j x : Nat), j < 5 → L (5 * i + j) x = 5 - low + (i : Int) * 36 + 6 * (j : Int) + rsF p M x) := by
    show ∀ _, _
    intro i j x hj
    rw [← hL]; exact wvL_at low _ i j x hj
  rw [hL] at kp
  have HL := Lib.hid hL
  have KMAX : k + 1 ≤ maxLen := by unfold maxLen; omega
  have RB := Lib.hid fun (x : Int) => rsF_bd (p := p) M x
  obtain ⟨i0, hi0, hz0, hz1, hz2⟩ := info_parts infoInts
  obtain ⟨s0, hs0, hsz0, hsz1, hsz2⟩ := info_parts infoLines
  have hnn2 : (nn : Int) ≤ 3 := by omega
  go_loopw [20, 97] (fun vo s wr => ∃ (i : Nat) (vs : Nat → Value), i ≤ nn ∧ s = .int .i64 i ∧ Below w.heap.size w wr ∧ gp + 2 ≤ wr.heap.size ∧ Blk wr w.heap.size 24 #[.int .i64 0, .int .i64 0, .slice none 0 0] ∧ Blk wr gR 3 (i64s (k + 1) (rsF p M)) ∧ Blk wr (gp + 1) 24 #[.int .i64 W, .int .i64 H, .slice (some ⟨gp, 0, none⟩) N N] ∧ Blk wr gp 5 (u8s N (wvQ W L (5 * i) 0)) ∧ StOut (gp + 2) wr (fun _ => k + 1) L ((List.range i).map (5 * ·)) vo vs) (fun _ s _ => nn - (intOf s).toNat)
  case atStart => exact ⟨0, fun _ => default, by omega, rfl, b4, by omega, k4, kR4, kx, kp, StOut.nil _ _ _ _ _⟩
  case round =>
    obtain ⟨i, vs, hi, rfl, b5, hsz, t0, tR, tx, tp, hS⟩ := hrel
    clear b4 k4 kR4 kx kp
    obtain ⟨Ao, co, eo, -, -⟩ := own_arr hS.row
    rw [List.length_map, List.length_range] at eo
    subst eo
    by_cases il : (i : Int) < nn
    · have ks := Blk.new wr 54 #[.slice none 0 0]
      have bs : But wr.heap.size gp wr (wr.alloc (.cells #[.slice none 0 0] 54)) := (But.refl gp (Nat.le_refl _)).then ((Below.refl _ _).alloc (Nat.le_refl _) _)
      have tp2 := tp.alloc (.cells #[.slice none 0 0] 54)
      go_wp2_with fail
      generalize wr.alloc (.cells #[.slice none 0 0] 54) = w4 at *
      generalize wr = wo at *
      generalize hgs : wo.heap.size = gs at *
      go_loopw [100] (fun s w9 => ∃ (j : Nat) (v2 : Value) (v : Nat → Value), j ≤ 5 ∧ s = .int .i64 j ∧ But gs gp wo w9 ∧ Blk w9 gs 54 #[v2] ∧ FoundM gs w9 (fun _ => k + 1) (fun t => L (5 * i + t)) j v2 v ∧ Blk w9 gp 5 (u8s N (wvQ W L (5 * i + j) 0))) (fun s _ => 5 - (intOf s).toNat)
      case atStart => exact ⟨0, _, fun _ => default, by omega, rfl, bs, ks, FoundM.nil _ _ _ _ _, tp2⟩
      case round =>
        obtain ⟨j, v2, v, hj, rfl, bu, us, hF, up⟩ := hrel
        clear bs ks tp2
        have u0 := t0.but bu (by rw [← hgs]; exact t0.lt) (by omega)
        have uR := tR.but bu (by rw [← hgs]; exact tR.lt) (by omega)
        have ux := tx.but bu (by rw [← hgs]; exact tx.lt) (by omega)
        obtain ⟨A2, c2, rfl, -, -⟩ := own_arr hF.row
        have gsw : gs < wr.heap.size := us.lt
        by_cases jl : (j : Int) < 5
        · have hmkI := HMK.out
          have kl := Blk.new wr 3 (i64s (k + 1) (fun _ => 0))
          have bl : But wr.heap.size gp wr (wr.alloc (.cells (i64s (k + 1) (fun _ => 0)) 3)) := (But.refl gp (Nat.le_refl _)).then ((Below.refl _ _).alloc (Nat.le_refl _) _)
          have up2 := up.alloc (.cells (i64s (k + 1) (fun _ => 0)) 3)
          go_wp2_with fail
          clear hmkI
          generalize wr.alloc (.cells (i64s (k + 1) (fun _ => 0)) 3) = w7 at *
          generalize wr = wi at *
          generalize hgl : wi.heap.size = gl at *
          have kl2 := kl.i64conv (r := fun t => if t < ((0 : Nat) : Int) then L (5 * i + j) t.toNat else 0) fun t t0 _ => by rw [if_neg (by omega)]
          go_loopw [107] (fun s w9 => ∃ x : Nat, (x : Int) ≤ W ∧ s = .int .i64 x ∧ But gl gp wi w9 ∧ Blk w9 gl 3 (i64s (k + 1) (fun t => if t < (x : Int) then L (5 * i + j) t.toNat else 0)) ∧ Blk w9 gp 5 (u8s N (wvQ W L (5 * i + j) x))) (fun s _ => (W - intOf s).toNat)
          case atStart => exact ⟨0, by omega, rfl, bl, kl2, up2⟩
          case round =>
            obtain ⟨x, hx, rfl, bw, cl, cp⟩ := hrel
            clear bl kl kl2 up2
            have cR := uR.but bw (by rw [← hgl]; exact uR.lt) (by omega)
            have cx := ux.but bw (by rw [← hgl]; exact ux.lt) (by omega)
            have hxk : (x : Int) ≤ (k : Int) + 1 := by have := HK.out; omega
            by_cases xl : (x : Int) < W
            · have xk : (x : Int) < ((k + 1 : Nat) : Int) := by have := HK.out; omega
              have xk2 : (x : Int) < (k : Int) + 1 := by have := HK.out; omega
              have c1 := cR.i64at (show (0 : Int) ≤ x by omega) xk
              rw [Int.toNat_natCast] at c1
              have c2' := cl.i64at (show (0 : Int) ≤ x by omega) xk
              rw [Int.toNat_natCast] at c2'
              have f2 := cl.frozen x
              have LX := Lib.hid (LV.out i j x (by omega))
              obtain ⟨rb1, rb2⟩ := RB.out x
              have CL := Lib.hid (cl.i64set (x : Int) (by omega) (L (5 * i + j) x))
              have CP := Lib.hid fun t => wvQ_set (W := W) (L := L) (t := 5 * i + j) (x := (x : Int)) (i := t) (by omega) xl
              rw [Int.toNat_natCast] at CL CP
              obtain ⟨lr1, lr2⟩ := LR.out x (by omega) xl
              have hLb : 0 ≤ L (5 * i + j) x ∧ L (5 * i + j) x < H := by rw [LX.out, HHH.out]; omega
              obtain ⟨hl1, hl2⟩ := hLb
              rw [LX.out] at CL CP hl1 hl2
              generalize rsF p M x = rv at *
              have hgg : gl ≠ gp ∧ gl ≠ gR ∧ gl ≠ gp + 1 := by refine ⟨?_, ?_, ?_⟩ <;> omega
              obtain ⟨g1, g2, g3⟩ := hgg
              have C8 := Lib.hid (cp.far (p := ⟨gl, x, none⟩) (fun e => g1 e.symm) (.int .i64 (5 - low + (i : Int) * 36 + 6 * (j : Int) + rv)))
              have X8 := Lib.hid (cx.far (p := ⟨gl, x, none⟩) (fun e => g3 e.symm) (.int .i64 (5 - low + (i : Int) * 36 + 6 * (j : Int) + rv)))
              have B8 := Lib.hid (bw.then ((Below.refl gl wr).setCell (p := ⟨gl, x, none⟩) (Nat.le_refl gl) (.int .i64 (5 - low + (i : Int) * 36 + 6 * (j : Int) + rv))))
              clear cR cx cl cp bw
              go_upto_region 32 with fail
              generalize wr.setCell ⟨gl, x, none⟩ (.int .i64 (5 - low + (i : Int) * 36 + 6 * (j : Int) + rv)) = w8 at *
              clear c1 c2' f2
              have cl8 := CL.out
              have cp8 := C8.out
              have bw8 := B8.out
              obtain ⟨x1, x2, x3⟩ := X8.out.cells3
              have c2 := cl8.i64at (show (0 : Int) ≤ x by omega) xk
              rw [Int.toNat_natCast, show upd (fun t => if t < (x : Int) then L (5 * i + j) t.toNat else 0) (x : Int) (5 - low + (i : Int) * 36 + 6 * (j : Int) + rv) (x : Int) = (5 - low + (i : Int) * 36 + 6 * (j : Int) + rv) from upd_at _ _ _] at c2
              obtain ⟨j1, j2, j3⟩ := idx_lt (x := (x : Int)) (y := (5 - low + (i : Int) * 36 + 6 * (j : Int) + rv)) (W := W) (H := H) (by omega) xl hl1 hl2
              rw [Int.mul_comm H W] at j2
              have j4 : (5 - low + (i : Int) * 36 + 6 * (j : Int) + rv) * W + x < (N : Int) := by have := HN.out; omega
              have nbb := nb.2
              have v7 : IntKind.i64.wrap ((5 - low + (i : Int) * 36 + 6 * (j : Int) + rv) * W) = (5 - low + (i : Int) * 36 + 6 * (j : Int) + rv) * W := IntWalk.i64_in _ (by omega)
              have v8 : IntKind.i64.wrap ((5 - low + (i : Int) * 36 + 6 * (j : Int) + rv) * W + x) = (5 - low + (i : Int) * 36 + 6 * (j : Int) + rv) * W + x := IntWalk.i64_in _ (by omega)
              have cg := cp8.u8at j1 j4
              have fg := cp8.frozen ((5 - low + (i : Int) * 36 + 6 * (j : Int) + rv) * W + x).toNat
              have KS := Lib.hid (cp8.u8set ((5 - low + (i : Int) * 36 + 6 * (j : Int) + rv) * W + x) j1 1)
              go_wp2_with fail
              go_still_tail 11, (by kernel_rfl)
              change wpList _ _ _ _ _ w8.drew
              clear v7 v8
              go_wp2
              go_roundw
              case rel =>
                refine ⟨x + 1, by omega, by go_num, (bw8.then (Below.refl gl w8).drew).set _ _, cl8.drew.far (p := ⟨gp, ((5 - low + (i : Int) * 36 + 6 * (j : Int) + rv) * W + x).toNat, none⟩) g1 _ |>.i64conv fun t _ _ => ?_, Blk.u8conv (by simpa using KS.out.drew) fun t _ _ => by rw [Int.natCast_add]; exact CP.out t⟩
                by_cases e : t = (x : Int)
                · subst e
                  rw [upd_at, if_pos (by omega), Int.toNat_natCast, LX.out]
                · rw [upd_ne e]
                  by_cases h1 : t < (x : Int)
                  · rw [if_pos h1, if_pos (by omega)]
                  · rw [if_neg h1, if_neg (by omega)]
              case measure => simp [intOf]; omega
            · have ex : (x : Int) = W := by omega
              have cl2 := cl.i64conv (r := fun t => L (5 * i + j) t.toNat) fun t _ t1 => by rw [if_pos (by have := HK.out; omega)]
              have up2 := cp.u8conv (r := wvQ W L (5 * i + (j + 1)) 0) fun t _ _ => by rw [ex]; exact wvQ_line (by omega)
              have ownl := own_i64s cl2 (base := gs) (by omega) KMAX
              have F2 := hF.but bw hgl (show gp < gs by omega)
              have us2 := us.but bw (by omega) (by omega)
              have bu2 := bu.trans bw (show gs ≤ gl by omega)
              have q1 := us2.at0
              have q2 := us2.frozen 0
              have hzw : gs < wr.heap.size := us2.lt
              have n1 := World.new_ne wr _ q1
              have d9 : decide ((x : Int) < (k : Int) + 1) = false := decide_eq_false (by have := HK.out; omega)
              have d8 : ¬ ((x : Int) < (k : Int) + 1) := by have := HK.out; omega
              clear cl cp hF us bu bw u0 uR ux up cR cx ex
              go_wp2_with (at_builtin; refine wpList_append_own _ rfl (.tmp 139) (.tmp 141) 34 rfl gs 25 i0 (.slice none 0 0) 1 24 Try.underlying34 hi0 hz0 hz1 hz2 rfl (by decide) _ _ _ rfl (F2.row.alloc _) ⟨wr.heap.size, 0, none⟩ 1 1 [.slice (some ⟨gl, 0, none⟩) (k + 1) (k + 1)] rfl rfl ?c1 ?c2 ?c3 ?c4 ?c5 ?_)
              try case c1 => exact cell_one_new _ _ _
              try case c2 => simp [Value.oneCell']
              try case c3 => unfold maxLen; omega
              try case c4 => omega
              try case c5 => first | omega | (simp; done) | (simp; omega)
              intro v' w9 own9 hg9 _
              have F9 := (F2.alloc (.cells #[.slice (some ⟨gl, 0, none⟩) (k + 1) (k + 1)] 25)).snoc (ownl.alloc _) hg9 own9
              have b9 : Below gs wr w9 := ((Below.refl gs wr).alloc (by omega) (.cells #[.slice (some ⟨gl, 0, none⟩) (k + 1) (k + 1)] 25)).grown hg9 (by simp; omega) (fun t ht => (own_ge F2.row ht).1)
              have bu9 := bu2.then b9
              have us9 := (us2.alloc (.cells #[.slice (some ⟨gl, 0, none⟩) (k + 1) (k + 1)] 25)).grown hg9 (own_neB F2.row us2 (by decide))
              have up9 := (up2.alloc (.cells #[.slice (some ⟨gl, 0, none⟩) (k + 1) (k + 1)] 25)).grown hg9 (own_neB F2.row up2 (by decide))
              obtain ⟨A9, c9, rfl, -, -⟩ := own_arr own9
              have y1 := us9.at0
              have y2 := us9.frozen 0
              have B9 := Lib.hid (bu9.then ((Below.refl gs w9).setCell (p := ⟨gs, 0, none⟩) (Nat.le_refl gs) (.slice A9 (j + 1) c9)))
              have U9 := Lib.hid (us9.set_ 0 (.slice A9 (j + 1) c9))
              have FF9 : FoundM gs (w9.setCell ⟨gs, 0, none⟩ (.slice A9 (j + 1) c9)) (fun _ => k + 1) (fun t => L (5 * i + t)) (j + 1) (.slice A9 (j + 1) c9) (fun t => if t = j then .slice (some ⟨gl, 0, none⟩) (k + 1) (k + 1) else v t) :=
                ⟨own_far F9.row us9 (by decide) _ _, fun t ht => own_far (F9.lines t ht) us9 (by decide) _ _⟩
              have P9 := Lib.hid (up9.far (p := ⟨gs, 0, none⟩) (show gp ≠ gs by omega) (.slice A9 (j + 1) c9))
              clear own9 hg9 F2 us2 bu2 bu9 b9 us9 up9 up2 ownl cl2 q1 q2 F9
              go_wp2
              go_roundw
              case rel => exact ⟨j + 1, _, _, by omega, by go_num, B9.out, U9.out, FF9, P9.out⟩
              case measure => simp [intOf]; omega
        · obtain rfl : j = 5 := by omega
          have S2 := hS.but bu hgs (show gp < gp + 2 by omega)
          have R2 := S2.row
          rw [List.length_map, List.length_range] at R2
          have c0 := us.at0
          have bB : Below w.heap.size w wr := b5.trans (bu.to hgs (show w.heap.size ≤ gp by omega) (by omega))
          have hzw : gs < wr.heap.size := us.lt
          go_wp2_with (at_builtin; refine wpList_append_own _ rfl (.tmp 145) (.tmp 147) 56 rfl (gp + 2) 54 s0 (.agg #[.slice none 0 0]) 1 24 Try.underlying56 hs0 hsz0 hsz1 hsz2 rfl (by decide) _ _ _ rfl (R2.alloc _) ⟨wr.heap.size, 0, none⟩ 1 1 [.slice A2 5 c2] rfl rfl ?d1 ?d2 ?d3 ?d4 ?d5 ?_)
          try case d1 => exact cell_one_new _ _ _
          try case d2 => simp [Value.oneCell']
          try case d3 => unfold maxLen; omega
          try case d4 => omega
          try case d5 => first | omega | (simp; done) | (simp; omega)
          intro v' w9 own9 hg9 _
          have b9 : Below w.heap.size w w9 := (bB.alloc bB.size (.cells #[.slice A2 5 c2] 54)).grown hg9 (by simp; omega) (fun t ht => by have := (own_ge S2.row ht).1; omega)
          have S9 := (S2.below ((Below.refl _ _).alloc (Nat.le_refl _) (.cells #[.slice A2 5 c2] 54))).snoc (i := 5 * i) ((hF.base (show gp + 2 ≤ gs by omega)).alloc _) hg9 (by rw [List.length_map, List.length_range]; exact own9)
          have e0 := (u0.alloc (.cells #[.slice A2 5 c2] 54)).grown hg9 (own_neB S2.row u0 (by decide))
          have eR := (uR.alloc (.cells #[.slice A2 5 c2] 54)).grown hg9 (own_neB S2.row uR (by decide))
          have ex := (ux.alloc (.cells #[.slice A2 5 c2] 54)).grown hg9 (own_neB S2.row ux (by decide))
          have ep := (up.alloc (.cells #[.slice A2 5 c2] 54)).grown hg9 (own_neB S2.row up (by decide))
          have hz9 : gp + 2 ≤ w9.heap.size := by have := hg9.size; simp at this; omega
          obtain ⟨A9, c9, rfl, -, -⟩ := own_arr own9
          clear own9 hg9 S2 R2 hF us bu hS u0 uR ux up
          go_wp2
          go_roundw
          case rel => exact ⟨i + 1, _, by omega, by go_num, b9, hz9, e0, eR, ex, ep, by rw [range_snoc]; exact S9⟩
          case measure => simp [intOf]; omega
    · obtain rfl : i = nn := by omega
      obtain ⟨x1, x2, x3⟩ := tx.cells3
      obtain ⟨u1, u2, u3⟩ := t0.cells3
      obtain ⟨f1, f2, f3⟩ := t0.frozen3
      have k9 := ((t0.set_ 0 (.int .i64 W)).set_ 1 (.int .i64 H)).set_ 2 (.slice (some ⟨gp, 0, none⟩) N N)
      obtain ⟨s4, s5, s6⟩ := Blk.cells3 (a := .int .i64 W) (b := .int .i64 H) (c := .slice (some ⟨gp, 0, none⟩) N N) k9
      have S9 := hS
      have zz := b5.size
      go_wp2_with fail
      refine bodyPost_ret (v := .tuple #[.agg #[.int .i64 W, .int .i64 H, .slice (some ⟨gp, 0, none⟩) N N], .slice Ao i co]) (by simp [results, Try.results41, go_sem, s4, s5, s6]) rfl ?_
      refine ⟨_, rfl, ?_, by (repeat (first | exact Below.refl _ _ | assumption | refine Below.drew ?_ | refine below_drewN ?_ _ | refine Below.alloc ?_ (by first | omega | (simp; done) | (simp; omega)) _ | refine Below.setCell ?_ (by first | omega | (simp; done) | (simp; omega)) _ | refine below_setRow ?_ (by first | omega | (simp; done) | (simp; omega)) _ ))⟩
      have g1 : gp ≠ w.heap.size := by omega
      show WavyOut _ _ _ _ _ _ _ _
      try rw [HL.out]
      refine ⟨gp, gp + 2, _, vs, rfl, by omega, by omega, Blk.far (Blk.far (Blk.far tp (p := ⟨w.heap.size, 0, none⟩) g1 (.int .i64 W)) (p := ⟨w.heap.size, 1, none⟩) g1 (.int .i64 H)) (p := ⟨w.heap.size, 2, none⟩) g1 (.slice (some ⟨gp, 0, none⟩) N N), ?_⟩
      rw [HWN.out]
      exact ((S9.far t0 (show w.heap.size < gp + 2 by omega) 0 (.int .i64 W)).far (t0.set_ 0 (.int .i64 W)) (show w.heap.size < gp + 2 by omega) 1 (.int .i64 H)).far ((t0.set_ 0 (.int .i64 W)).set_ 1 (.int .i64 H)) (show w.heap.size < gp + 2 by omega) 2 (.slice (some ⟨gp, 0, none⟩) N N)
end Go.Proofs.Ytdimlpcbbkokiaa

/- Walk: the reference's Restore. Written by gen/t42.py. -/
namespace Go.Proofs.Ytdimlpcbbkokiaa
open Go.RowKit Go.Shelf
set_option linter.unusedVariables false
attribute [local go_sem] Oper.semAt_some
set_option maxRecDepth 100000 in
set_option maxHeartbeats 4000000 in
theorem rrestore_bad (W H SW SH : Int) (A SA AL : Option Addr) (n c sn sc K cL : Nat) (p sp : Int → Int) (m : Nat → Nat) (ln : Nat → Nat → Int) (up : Int) (E : Int) (w : World) (hA : ArrB w w.heap.size A n p) (hn : n ≤ maxLen) (hB : IsB p) (hS : ArrB w w.heap.size SA sn sp) (hsn : sn ≤ maxLen) (hBS : IsB sp) (hL : Lines w w.heap.size AL K m ln) (hm : ∀ i, i < K → m i ≤ maxLen) (hE : resE W H n p SW SH sn sp K m ln up = E) (hE0 : E ≠ 0) :
    Calls Try.prog 83 #[.agg #[.int .i64 W, .int .i64 H, .slice A n c], .agg #[.int .i64 SW, .int .i64 SH, .slice SA sn sc], .agg #[.slice AL K cL], .int .i64 up] w fun e w' => e = .returned (.tuple #[noImg, .int .i64 E]) ∧ Below w.heap.size w w' := by
  have C1 := Lib.hid fun w' hA' => rcheck_any W H A n c p w' hA' hn hB
  have C2 := Lib.hid fun w' hA' => rcheck_any SW SH SA sn sc sp w' hA' hsn hBS
  have b1 : Below w.heap.size w ((((w.alloc (.cells #[.int .i64 W, .int .i64 H, .slice A n c] 24)).alloc (.cells #[.int .i64 SW, .int .i64 SH, .slice SA sn sc] 24)).alloc (.cells #[.slice AL K cL] 54)).alloc (.cells #[.int .i64 0, .int .i64 0, .slice none 0 0] 24)) := by (repeat (first | exact Below.refl _ _ | assumption | refine Below.drew ?_ | refine below_drewN ?_ _ | refine Below.alloc ?_ (by first | omega | (simp; done) | (simp; omega)) _ | refine Below.setCell ?_ (by first | omega | (simp; done) | (simp; omega)) _ | refine below_setRow ?_ (by first | omega | (simp; done) | (simp; omega)) _ ))
  have k4 : Blk ((((w.alloc (.cells #[.int .i64 W, .int .i64 H, .slice A n c] 24)).alloc (.cells #[.int .i64 SW, .int .i64 SH, .slice SA sn sc] 24)).alloc (.cells #[.slice AL K cL] 54)).alloc (.cells #[.int .i64 0, .int .i64 0, .slice none 0 0] 24)) (w.heap.size + 1 + 1 + 1) 24 #[.int .i64 0, .int .i64 0, .slice none 0 0] := Blk.new' (by simp) _ _
  have k1 : Blk ((((w.alloc (.cells #[.int .i64 W, .int .i64 H, .slice A n c] 24)).alloc (.cells #[.int .i64 SW, .int .i64 SH, .slice SA sn sc] 24)).alloc (.cells #[.slice AL K cL] 54)).alloc (.cells #[.int .i64 0, .int .i64 0, .slice none 0 0] 24)) w.heap.size 24 #[.int .i64 W, .int .i64 H, .slice A n c] := (((Blk.new _ _ _).alloc _).alloc _).alloc _
  have k2 : Blk ((((w.alloc (.cells #[.int .i64 W, .int .i64 H, .slice A n c] 24)).alloc (.cells #[.int .i64 SW, .int .i64 SH, .slice SA sn sc] 24)).alloc (.cells #[.slice AL K cL] 54)).alloc (.cells #[.int .i64 0, .int .i64 0, .slice none 0 0] 24)) (w.heap.size + 1) 24 #[.int .i64 SW, .int .i64 SH, .slice SA sn sc] := ((Blk.new' (by simp) _ _).alloc _).alloc _
  have k3 : Blk ((((w.alloc (.cells #[.int .i64 W, .int .i64 H, .slice A n c] 24)).alloc (.cells #[.int .i64 SW, .int .i64 SH, .slice SA sn sc] 24)).alloc (.cells #[.slice AL K cL] 54)).alloc (.cells #[.int .i64 0, .int .i64 0, .slice none 0 0] 24)) (w.heap.size + 1 + 1) 54 #[.slice AL K cL] := (Blk.new' (by simp) _ _).alloc _
  have HE := Lib.hid hE; have HE0 := Lib.hid hE0
  clear hE hE0
  generalize hz1 : chk W H n p = z1 at *
  generalize hz2 : chk SW SH sn sp = z2 at *
  have HZ1 := Lib.hid hz1; have HZ2 := Lib.hid hz2
  clear hz1 hz2
  have RE : Hid (E = if orE z1 z2 ≠ 0 then orE z1 z2 else if stFits W H K m ln = false then 10 else if up < 0 ∨ SH ≤ up then 1 else if SW ≠ W then 2 else 0) := by
    show _ = _
    rw [← HE.out]; unfold resE; rw [HZ1.out, HZ2.out]
  clear HE
  go_enter Try.func83, Try.ntmps83
  go_wp2_with fail
  generalize ((((w.alloc (.cells #[.int .i64 W, .int .i64 H, .slice A n c] 24)).alloc (.cells #[.int .i64 SW, .int .i64 SH, .slice SA sn sc] 24)).alloc (.cells #[.slice AL K cL] 54)).alloc (.cells #[.int .i64 0, .int .i64 0, .slice none 0 0] 24)) = w1 at *
  refine (C1.out _ (hA.to b1)).mono ?_
  rintro e w2 ⟨rfl, hb2⟩
  have b2 := below_call b1 b1.size hb2
  replace k1 := k1.below' hb2
  replace k2 := k2.below' hb2
  replace k3 := k3.below' hb2
  replace k4 := k4.below' hb2
  clear hb2 b1 C1
  by_cases h1 : z1 = 0
  · subst h1
    obtain ⟨q1, q2, q3⟩ := k2.cells3
    go_wp2_with fail
    refine (C2.out _ (hS.to b2)).mono ?_
    rintro e w3 ⟨rfl, hb3⟩
    have b3 := below_call b2 b2.size hb3
    replace k1 := k1.below' hb3
    replace k2 := k2.below' hb3
    replace k3 := k3.below' hb3
    replace k4 := k4.below' hb3
    clear hb3 b2 C2 q1 q2 q3
    by_cases h2 : z2 = 0
    · subst h2
      have RE2 : Hid (E = if stFits W H K m ln = false then 10 else if up < 0 ∨ SH ≤ up then 1 else if SW ≠ W then 2 else 0) := by
        show _ = _
        have := RE.out
        rwa [if_neg (by simp [orE])] at this
      clear RE
      obtain ⟨hW1, hW2, hH1, hH2, -, -⟩ := chk_ok HZ1.out
      have FT := Lib.hid fun w' hL' => rfits_st W H A AL n c K cL m ln w' hW1 hH1 hW2 hH2 hL' hm
      generalize hs : stFits W H K m ln = s at *
      have HS := Lib.hid hs
      clear hs
      obtain ⟨p1, p2, p3⟩ := k1.cells3
      have p4 := k3.cells0
      go_wp2_with fail
      refine (FT.out _ (hL.below b3)).mono ?_
      rintro e w4 ⟨rfl, hb4⟩
      have b4 := below_call b3 b3.size hb4
      replace k1 := k1.below' hb4
      replace k2 := k2.below' hb4
      replace k3 := k3.below' hb4
      replace k4 := k4.below' hb4
      clear hb4 b3 FT p1 p2 p3 p4
      cases s with
      | false =>
        have hE : E = 10 := by rw [RE2.out, if_pos rfl]
        subst hE
        clear RE2
        obtain ⟨r1, r2, r3⟩ := k4.cells3
        obtain ⟨f1, f2, f3⟩ := k4.frozen3
        have k9 := ((k4.set_ 0 (.int .i64 0)).set_ 1 (.int .i64 0)).set_ 2 (.slice none 0 0)
        obtain ⟨s1, s2, s3⟩ := Blk.cells3 (a := .int .i64 0) (b := .int .i64 0) (c := .slice none 0 0) k9
        go_wp2_with fail
        refine bodyPost_ret (v := .tuple #[noImg, .int .i64 10]) (by simp [results, Try.results83, go_sem, noImg, s1, s2, s3]) rfl ?_
        exact ⟨rfl, by (repeat (first | with_reducible exact Below.refl _ _ | with_reducible assumption | with_reducible refine Below.drew ?_ | (with_reducible refine below_alloc' ?_ ?_; focus (first | omega | (simp; done) | (simp; omega))) | (with_reducible refine below_fill3' ?_ ?_; focus omega) | (with_reducible refine below_setCell' ?_ ?_; focus (first | omega | (simp; done) | (simp; omega))) | (with_reducible apply below_call'; (focus (with_reducible assumption)); (focus (first | omega | (simp; done) | (simp; omega))))))⟩
      | true =>
        by_cases hup : up < 0 ∨ SH ≤ up
        · have hE : E = 1 := by rw [RE2.out, if_neg (by simp), if_pos hup]
          subst hE
          clear RE2
          obtain ⟨q1, q2, q3⟩ := k2.cells3
          by_cases hu : up < 0
          · have d1 : decide (up < 0) = true := decide_eq_true hu
            clear hup
            obtain ⟨r1, r2, r3⟩ := k4.cells3
            obtain ⟨f1, f2, f3⟩ := k4.frozen3
            have k9 := ((k4.set_ 0 (.int .i64 0)).set_ 1 (.int .i64 0)).set_ 2 (.slice none 0 0)
            obtain ⟨s1, s2, s3⟩ := Blk.cells3 (a := .int .i64 0) (b := .int .i64 0) (c := .slice none 0 0) k9
            go_wp2_with fail
            refine bodyPost_ret (v := .tuple #[noImg, .int .i64 1]) (by simp [results, Try.results83, go_sem, noImg, s1, s2, s3]) rfl ?_
            exact ⟨rfl, by (repeat (first | with_reducible exact Below.refl _ _ | with_reducible assumption | with_reducible refine Below.drew ?_ | (with_reducible refine below_alloc' ?_ ?_; focus (first | omega | (simp; done) | (simp; omega))) | (with_reducible refine below_fill3' ?_ ?_; focus omega) | (with_reducible refine below_setCell' ?_ ?_; focus (first | omega | (simp; done) | (simp; omega))) | (with_reducible apply below_call'; (focus (with_reducible assumption)); (focus (first | omega | (simp; done) | (simp; omega))))))⟩
          · have d1 : decide (up < 0) = false := decide_eq_false hu
            have hu2 : SH ≤ up := by omega
            have d2 : decide (SH ≤ up) = true := decide_eq_true hu2
            have hu3 : 0 ≤ up := by omega
            clear hup hu
            obtain ⟨r1, r2, r3⟩ := k4.cells3
            obtain ⟨f1, f2, f3⟩ := k4.frozen3
            have k9 := ((k4.set_ 0 (.int .i64 0)).set_ 1 (.int .i64 0)).set_ 2 (.slice none 0 0)
            obtain ⟨s1, s2, s3⟩ := Blk.cells3 (a := .int .i64 0) (b := .int .i64 0) (c := .slice none 0 0) k9
            go_wp2_with fail
            refine bodyPost_ret (v := .tuple #[noImg, .int .i64 1]) (by simp [results, Try.results83, go_sem, noImg, s1, s2, s3]) rfl ?_
            exact ⟨rfl, by (repeat (first | with_reducible exact Below.refl _ _ | with_reducible assumption | with_reducible refine Below.drew ?_ | (with_reducible refine below_alloc' ?_ ?_; focus (first | omega | (simp; done) | (simp; omega))) | (with_reducible refine below_fill3' ?_ ?_; focus omega) | (with_reducible refine below_setCell' ?_ ?_; focus (first | omega | (simp; done) | (simp; omega))) | (with_reducible apply below_call'; (focus (with_reducible assumption)); (focus (first | omega | (simp; done) | (simp; omega))))))⟩
        · have hw : SW ≠ W := fun h => HE0.out (by rw [RE2.out, if_neg (by simp), if_neg hup, if_neg (by simp [h])])
          have hE : E = 2 := by rw [RE2.out, if_neg (by simp), if_neg hup, if_pos hw]
          subst hE
          have hw2 : (SW != W) = true := by simp [hw]
          have HW := Lib.hid hw
          have d1 : decide (up < 0) = false := decide_eq_false (by omega)
          have d2 : decide (SH ≤ up) = false := decide_eq_false (by omega)
          have hu1 : 0 ≤ up := by omega
          have hu2 : up < SH := by omega
          clear RE2 hup hw
          obtain ⟨q1, q2, q3⟩ := k2.cells3
          obtain ⟨p1, p2, p3⟩ := k1.cells3
          obtain ⟨r1, r2, r3⟩ := k4.cells3
          obtain ⟨f1, f2, f3⟩ := k4.frozen3
          have k9 := ((k4.set_ 0 (.int .i64 0)).set_ 1 (.int .i64 0)).set_ 2 (.slice none 0 0)
          obtain ⟨s1, s2, s3⟩ := Blk.cells3 (a := .int .i64 0) (b := .int .i64 0) (c := .slice none 0 0) k9
          go_wp2_with fail
          refine bodyPost_ret (v := .tuple #[noImg, .int .i64 2]) (by simp [results, Try.results83, go_sem, noImg, s1, s2, s3]) rfl ?_
          exact ⟨rfl, by (repeat (first | with_reducible exact Below.refl _ _ | with_reducible assumption | with_reducible refine Below.drew ?_ | (with_reducible refine below_alloc' ?_ ?_; focus (first | omega | (simp; done) | (simp; omega))) | (with_reducible refine below_fill3' ?_ ?_; focus omega) | (with_reducible refine below_setCell' ?_ ?_; focus (first | omega | (simp; done) | (simp; omega))) | (with_reducible apply below_call'; (focus (with_reducible assumption)); (focus (first | omega | (simp; done) | (simp; omega))))))⟩
    · have hE : E = z2 := by
        rw [RE.out, show orE 0 z2 = z2 by simp [orE], if_pos h2]
      subst hE
      have hz2 : (E != 0) = true := by simp [h2]
      have HH := Lib.hid h2
      clear h2 RE
      obtain ⟨r1, r2, r3⟩ := k4.cells3
      obtain ⟨f1, f2, f3⟩ := k4.frozen3
      have k9 := ((k4.set_ 0 (.int .i64 0)).set_ 1 (.int .i64 0)).set_ 2 (.slice none 0 0)
      obtain ⟨s1, s2, s3⟩ := Blk.cells3 (a := .int .i64 0) (b := .int .i64 0) (c := .slice none 0 0) k9
      go_wp2_with fail
      refine bodyPost_ret (v := .tuple #[noImg, .int .i64 E]) (by simp [results, Try.results83, go_sem, noImg, s1, s2, s3]) rfl ?_
      exact ⟨rfl, by (repeat (first | with_reducible exact Below.refl _ _ | with_reducible assumption | with_reducible refine Below.drew ?_ | (with_reducible refine below_alloc' ?_ ?_; focus (first | omega | (simp; done) | (simp; omega))) | (with_reducible refine below_fill3' ?_ ?_; focus omega) | (with_reducible refine below_setCell' ?_ ?_; focus (first | omega | (simp; done) | (simp; omega))) | (with_reducible apply below_call'; (focus (with_reducible assumption)); (focus (first | omega | (simp; done) | (simp; omega))))))⟩
  · have e1 : orE z1 z2 = z1 := by unfold orE; rw [if_neg h1]
    have hE : E = z1 := by rw [RE.out, e1, if_pos h1]
    subst hE
    have hz2 : (E != 0) = true := by simp [h1]
    have HH := Lib.hid h1
    clear h1 RE e1
    obtain ⟨r1, r2, r3⟩ := k4.cells3
    obtain ⟨f1, f2, f3⟩ := k4.frozen3
    have k9 := ((k4.set_ 0 (.int .i64 0)).set_ 1 (.int .i64 0)).set_ 2 (.slice none 0 0)
    obtain ⟨s1, s2, s3⟩ := Blk.cells3 (a := .int .i64 0) (b := .int .i64 0) (c := .slice none 0 0) k9
    go_wp2_with fail
    refine bodyPost_ret (v := .tuple #[noImg, .int .i64 E]) (by simp [results, Try.results83, go_sem, noImg, s1, s2, s3]) rfl ?_
    exact ⟨rfl, by (repeat (first | with_reducible exact Below.refl _ _ | with_reducible assumption | with_reducible refine Below.drew ?_ | (with_reducible refine below_alloc' ?_ ?_; focus (first | omega | (simp; done) | (simp; omega))) | (with_reducible refine below_fill3' ?_ ?_; focus omega) | (with_reducible refine below_setCell' ?_ ?_; focus (first | omega | (simp; done) | (simp; omega))) | (with_reducible apply below_call'; (focus (with_reducible assumption)); (focus (first | omega | (simp; done) | (simp; omega))))))⟩

set_option maxRecDepth 100000 in
set_option maxHeartbeats 8000000 in
theorem rrestore_ok (W H SW SH : Int) (A SA AL : Option Addr) (n c sn sc K cL : Nat) (p sp : Int → Int) (m : Nat → Nat) (ln : Nat → Nat → Int) (up : Int) (w : World) (hA : ArrB w w.heap.size A n p) (hn : n ≤ maxLen) (hB : IsB p) (hS : ArrB w w.heap.size SA sn sp) (hsn : sn ≤ maxLen) (hBS : IsB sp) (hL : Lines w w.heap.size AL K m ln) (hm : ∀ i, i < K → m i ≤ maxLen) (hE : resE W H n p SW SH sn sp K m ln up = 0) :
    Calls Try.prog 83 #[.agg #[.int .i64 W, .int .i64 H, .slice A n c], .agg #[.int .i64 SW, .int .i64 SH, .slice SA sn sc], .agg #[.slice AL K cL], .int .i64 up] w (New w fun v w' => OutT w w' 0 W H n (fillB (resC W H SH p sp (ln 4) up) W) v) := by
  obtain ⟨e1, e2, hP, e3, e4, hw⟩ := resE_ok hE
  obtain rfl : W = SW := hw.symm
  clear hw
  obtain ⟨hW1, hW2, hH1, hH2, hnn, -⟩ := chk_ok e1
  obtain ⟨-, -, hSH1, hSH2, hsnn, -⟩ := chk_ok e2
  obtain ⟨W1, H1⟩ := hP.pos
  have hst := stFits_iff.2 hP
  obtain ⟨rfl, hpath, -⟩ := hP
  obtain ⟨⟨-, -, m4⟩, hst2⟩ := isPathB_iff.1 (hpath 4 (by omega))
  have PB := Lib.hid fun (x : Nat) (hx : (x : Int) < m 4) => stepB_iff.1 (hst2 x (by omega) hx)
  have C1 := Lib.hid fun w' hA' => rcheck_any W H A n c p w' hA' hn hB
  have C2 := Lib.hid fun w' hA' => rcheck_any W SH SA sn sc sp w' hA' hsn hBS
  have b1 : Below w.heap.size w ((((w.alloc (.cells #[.int .i64 W, .int .i64 H, .slice A n c] 24)).alloc (.cells #[.int .i64 W, .int .i64 SH, .slice SA sn sc] 24)).alloc (.cells #[.slice AL 5 cL] 54)).alloc (.cells #[.int .i64 0, .int .i64 0, .slice none 0 0] 24)) := by (repeat (first | exact Below.refl _ _ | assumption | refine Below.drew ?_ | refine below_drewN ?_ _ | refine Below.alloc ?_ (by first | omega | (simp; done) | (simp; omega)) _ | refine Below.setCell ?_ (by first | omega | (simp; done) | (simp; omega)) _ | refine below_setRow ?_ (by first | omega | (simp; done) | (simp; omega)) _ ))
  have k4 : Blk ((((w.alloc (.cells #[.int .i64 W, .int .i64 H, .slice A n c] 24)).alloc (.cells #[.int .i64 W, .int .i64 SH, .slice SA sn sc] 24)).alloc (.cells #[.slice AL 5 cL] 54)).alloc (.cells #[.int .i64 0, .int .i64 0, .slice none 0 0] 24)) (w.heap.size + 1 + 1 + 1) 24 #[.int .i64 0, .int .i64 0, .slice none 0 0] := Blk.new' (by simp) _ _
  have k1 : Blk ((((w.alloc (.cells #[.int .i64 W, .int .i64 H, .slice A n c] 24)).alloc (.cells #[.int .i64 W, .int .i64 SH, .slice SA sn sc] 24)).alloc (.cells #[.slice AL 5 cL] 54)).alloc (.cells #[.int .i64 0, .int .i64 0, .slice none 0 0] 24)) w.heap.size 24 #[.int .i64 W, .int .i64 H, .slice A n c] := (((Blk.new _ _ _).alloc _).alloc _).alloc _
  have k2 : Blk ((((w.alloc (.cells #[.int .i64 W, .int .i64 H, .slice A n c] 24)).alloc (.cells #[.int .i64 W, .int .i64 SH, .slice SA sn sc] 24)).alloc (.cells #[.slice AL 5 cL] 54)).alloc (.cells #[.int .i64 0, .int .i64 0, .slice none 0 0] 24)) (w.heap.size + 1) 24 #[.int .i64 W, .int .i64 SH, .slice SA sn sc] := ((Blk.new' (by simp) _ _).alloc _).alloc _
  have k3 : Blk ((((w.alloc (.cells #[.int .i64 W, .int .i64 H, .slice A n c] 24)).alloc (.cells #[.int .i64 W, .int .i64 SH, .slice SA sn sc] 24)).alloc (.cells #[.slice AL 5 cL] 54)).alloc (.cells #[.int .i64 0, .int .i64 0, .slice none 0 0] 24)) (w.heap.size + 1 + 1) 54 #[.slice AL 5 cL] := (Blk.new' (by simp) _ _).alloc _
  have FT := Lib.hid fun w' hL' => rfits_st W H A AL n c 5 cL m ln w' hW1 hH1 hW2 hH2 hL' hm
  rw [hst] at FT
  have NO := Lib.hid fun w' => rnew_any W H n w' hW1 hW2 hH1 hH2 hnn
  rw [e1] at C1
  rw [e2] at C2
  have HM4 := Lib.hid m4; have HNN := Lib.hid hnn; have HSN := Lib.hid hsnn
  have nb := (area_bd hW1 hW2 hH1 hH2).2
  have d1 : decide (up < 0) = false := decide_eq_false (by omega)
  have d2 : decide (SH ≤ up) = false := decide_eq_false (by omega)
  clear hE e1 e2 hst hpath hst2 m4 hnn hsnn
  go_enter Try.func83, Try.ntmps83
  go_wp2_with fail
  generalize ((((w.alloc (.cells #[.int .i64 W, .int .i64 H, .slice A n c] 24)).alloc (.cells #[.int .i64 W, .int .i64 SH, .slice SA sn sc] 24)).alloc (.cells #[.slice AL 5 cL] 54)).alloc (.cells #[.int .i64 0, .int .i64 0, .slice none 0 0] 24)) = w1 at *
  refine (C1.out _ (hA.to b1)).mono ?_
  rintro e w2 ⟨rfl, hb2⟩
  have b2 := below_call b1 b1.size hb2
  replace k1 := k1.below' hb2
  replace k2 := k2.below' hb2
  replace k3 := k3.below' hb2
  replace k4 := k4.below' hb2
  clear hb2 b1 C1
  obtain ⟨q1, q2, q3⟩ := k2.cells3
  go_wp2_with fail
  refine (C2.out _ (hS.to b2)).mono ?_
  rintro e w3 ⟨rfl, hb3⟩
  have b3 := below_call b2 b2.size hb3
  replace k1 := k1.below' hb3
  replace k2 := k2.below' hb3
  replace k3 := k3.below' hb3
  replace k4 := k4.below' hb3
  clear hb3 b2 C2 q1 q2 q3
  obtain ⟨p1, p2, p3⟩ := k1.cells3
  have p4 := k3.cells0
  go_wp2_with fail
  refine (FT.out _ (hL.below b3)).mono ?_
  rintro e w4 ⟨rfl, hb4⟩
  have b4 := below_call b3 b3.size hb4
  replace k1 := k1.below' hb4
  replace k2 := k2.below' hb4
  replace k3 := k3.below' hb4
  replace k4 := k4.below' hb4
  clear hb4 b3 FT p1 p2 p3 p4
  obtain ⟨p1, p2, p3⟩ := k1.cells3
  obtain ⟨q1, q2, q3⟩ := k2.cells3
  go_wp2_with fail
  refine (NO.out _).mono ?_
  rintro e w5 ⟨_, rfl, ⟨gp, rfl, hgp, kp⟩, hb5⟩
  clear d1 d2 p1 p2 p3 q1 q2 q3 NO
  have z2 := k4.lt
  have z3 := hb5.size
  have z4 := kp.lt
  have b5 := below_call b4 b4.size hb5
  have b6 : Below w.heap.size w (w5.alloc (.cells #[.int .i64 W, .int .i64 H, .slice (some ⟨gp, 0, none⟩) n n] 24)) := b5.alloc b5.size _
  replace k1 := (k1.below' hb5).alloc (.cells #[.int .i64 W, .int .i64 H, .slice (some ⟨gp, 0, none⟩) n n] 24)
  replace k2 := (k2.below' hb5).alloc (.cells #[.int .i64 W, .int .i64 H, .slice (some ⟨gp, 0, none⟩) n n] 24)
  replace k3 := (k3.below' hb5).alloc (.cells #[.int .i64 W, .int .i64 H, .slice (some ⟨gp, 0, none⟩) n n] 24)
  replace k4 := (k4.below' hb5).alloc (.cells #[.int .i64 W, .int .i64 H, .slice (some ⟨gp, 0, none⟩) n n] 24)
  have kx := Blk.new w5 24 #[.int .i64 W, .int .i64 H, .slice (some ⟨gp, 0, none⟩) n n]
  obtain ⟨C, hC⟩ : ∃ C, C = resC W H SH p sp (ln 4) up := ⟨_, rfl⟩
  have HC := Lib.hid hC
  have kp2 : Blk (w5.alloc (.cells #[.int .i64 W, .int .i64 H, .slice (some ⟨gp, 0, none⟩) n n] 24)) gp 5 (u8s n (byRow W (fillB C W) (fun _ => 0) (0 : Nat) (0 : Nat))) := (kp.alloc _).u8conv fun i i0 _ => (byRow_zero (W := W) (q := fillB C W) (z := fun _ => 0) (by omega) i0).symm
  have hgx : gp ≠ w5.heap.size := by omega
  obtain ⟨bA, oA, A4, c4, rfl, hbA, hcA, haA⟩ := hL.at_ (i := 4) (by omega)
  obtain ⟨b5', o5, rfl, hb5', hc5⟩ := ArrI.fn haA (by have := HM4.out; omega)
  have HC5 := Lib.hid hc5
  have HCA := Lib.hid hcA
  clear hC hc5 hcA kp b4 b5 hb5
  go_wp2_with fail
  generalize w5.alloc (.cells #[.int .i64 W, .int .i64 H, .slice (some ⟨gp, 0, none⟩) n n] 24) = w6 at *
  generalize w5.heap.size = gx at *
  go_loopw [13] (fun s wr => ∃ y : Nat, (y : Int) ≤ H ∧ s = .int .i64 y ∧ Below w.heap.size w wr ∧ Blk wr w.heap.size 24 #[.int .i64 W, .int .i64 H, .slice A n c] ∧ Blk wr (w.heap.size + 1) 24 #[.int .i64 W, .int .i64 SH, .slice SA sn sc] ∧ Blk wr (w.heap.size + 1 + 1) 54 #[.slice (some ⟨bA, oA, none⟩) 5 cL] ∧ Blk wr (w.heap.size + 1 + 1 + 1) 24 #[.int .i64 0, .int .i64 0, .slice none 0 0] ∧ Blk wr gx 24 #[.int .i64 W, .int .i64 H, .slice (some ⟨gp, 0, none⟩) n n] ∧ Blk wr gp 5 (u8s n (byRow W (fillB C W) (fun _ => 0) y (0 : Nat)))) (fun s _ => (H - intOf s).toNat)
  case atStart => exact ⟨0, by omega, rfl, b6, k1, k2, k3, k4, kx, kp2⟩
  case round =>
    obtain ⟨y, hy, rfl, b6', t1, t2, t3, t4, tx, tp⟩ := hrel
    clear b6 k1 k2 k3 k4 kx kp2
    obtain ⟨x1, x2, x3⟩ := t1.cells3
    by_cases yl : (y : Int) < H
    · go_wp2_with fail
      go_loopw [14] (fun s wr => ∃ x : Nat, (x : Int) ≤ W ∧ s = .int .i64 x ∧ Below w.heap.size w wr ∧ Blk wr w.heap.size 24 #[.int .i64 W, .int .i64 H, .slice A n c] ∧ Blk wr (w.heap.size + 1) 24 #[.int .i64 W, .int .i64 SH, .slice SA sn sc] ∧ Blk wr (w.heap.size + 1 + 1) 54 #[.slice (some ⟨bA, oA, none⟩) 5 cL] ∧ Blk wr (w.heap.size + 1 + 1 + 1) 24 #[.int .i64 0, .int .i64 0, .slice none 0 0] ∧ Blk wr gx 24 #[.int .i64 W, .int .i64 H, .slice (some ⟨gp, 0, none⟩) n n] ∧ Blk wr gp 5 (u8s n (byRow W (fillB C W) (fun _ => 0) y x))) (fun s _ => (W - intOf s).toNat)
      case atStart => exact ⟨0, by omega, rfl, b6', t1, t2, t3, t4, tx, tp⟩
      case round =>
        obtain ⟨x, hx, rfl, b7, a1, a2, a3, a4, ax, ap⟩ := hrel
        clear x1 x2 x3 b6' t1 t2 t3 t4 tx tp
        obtain ⟨p1, p2, p3⟩ := a1.cells3
        obtain ⟨q1, q2, q3⟩ := a2.cells3
        have p4 := a3.cells0
        by_cases xl : (x : Int) < W
        · have p5 := (b7.cell (p := ⟨bA, oA + 4, none⟩) hbA).trans HCA.out
          have xm : (x : Int) < m 4 := by have := HM4.out; omega
          have lx := HC5.out x (by omega) xm
          rw [Int.toNat_natCast] at lx
          have p6 := (b7.cell (p := ⟨b5', o5 + x, none⟩) hb5').trans lx
          obtain ⟨pb1, pb2, -⟩ := PB.out x xm
          rw [Int.toNat_natCast] at pb1 pb2
          have CE0 : Hid (C x y = if 0 ≤ (y : Int) - ln 4 x + up ∧ (y : Int) - ln 4 x + up < SH then inkB W SH sp x (y - ln 4 x + up) else inkB W H p x y) := by
            show _ = _
            rw [HC.out]; unfold resC; rw [Int.toNat_natCast]
          generalize ln 4 x = l at *
          have v4 : IntKind.i64.wrap (y - l) = y - l := IntWalk.i64_in _ (by omega)
          have v5 : IntKind.i64.wrap (y - l + up) = y - l + up := IntWalk.i64_in _ (by omega)
          have g3 : (5 : Nat) ≤ 5 := Nat.le_refl _
          clear lx
          by_cases hin : 0 ≤ (y : Int) - l + up ∧ (y : Int) - l + up < SH
          · have CE : Hid (C x y = inkB W SH sp x (y - l + up)) := by show _ = _; rw [CE0.out, if_pos hin]
            obtain ⟨h1, h2⟩ := hin
            have d1 : decide (0 ≤ (y : Int) - l + up) = true := decide_eq_true h1
            have d2 : decide ((y : Int) - l + up < SH) = true := decide_eq_true h2
            have IK := Lib.hid fun w' hA' => rink_any W SH SA sn sc sp x (y - l + up) w' hA' hW2 hSH2 HSN.out
            clear CE0
            generalize hi : inkB W SH sp x (y - l + up) = i0 at *
            have HI := Lib.hid hi
            clear hi
            go_wp2_with fail
            refine (IK.out _ ((ArrB.below hS b7).more b7.size)).mono ?_
            rintro e w7 ⟨rfl, hb7⟩
            replace b7 := below_call b7 b7.size hb7
            replace a1 := a1.below' hb7
            replace a2 := a2.below' hb7
            replace a3 := a3.below' hb7
            replace a4 := a4.below' hb7
            replace ax := ax.below' hb7
            replace ap := ap.below' hb7
            clear hb7 p1 p2 p3 q1 q2 q3 p4 p5 p6
            cases i0 with
            | true =>
              obtain ⟨x1, x2, x3⟩ := ax.cells3
              go_wp2_with fail
              refine (rset_any W H gp n n 5 _ x y _ ap (by omega) xl (by omega) yl hW2 hH2 HNN.out).mono ?_
              rintro e w8 ⟨rfl, hk8, hg8⟩
              have zz := b7.size
              replace a1 := a1.grown hg8 (by simp; omega); replace a2 := a2.grown hg8 (by simp; omega); replace a3 := a3.grown hg8 (by simp; omega); replace a4 := a4.grown hg8 (by simp; omega); replace ax := ax.grown hg8 (by simp; omega)
              have cb2 : Below w.heap.size w w8 := b7.grown hg8 b7.size (fun k hk => by cases hk; omega)
              clear x1 x2 x3 ap b7 hg8
              go_wp2_with fail
              go_roundw
              case rel => exact ⟨x + 1, by omega, by go_num, cb2, a1, a2, a3, a4, ax, hk8.u8conv fun i _ _ => by rw [Int.natCast_add]; exact fill_yes (by omega) xl CE.out⟩
              case measure => simp [intOf]; omega
            | false =>
              go_wp2_with fail
              go_roundw
              case rel => exact ⟨x + 1, by omega, by go_num, b7, a1, a2, a3, a4, ax, ap.u8conv fun i _ _ => by rw [Int.natCast_add]; exact fill_no (by omega) xl CE.out⟩
              case measure => simp [intOf]; omega
          · have CE : Hid (C x y = inkB W H p x y) := by show _ = _; rw [CE0.out, if_neg hin]
            have IK := Lib.hid fun w' hA' => rink_any W H A n c p x y w' hA' hW2 hH2 HNN.out
            clear CE0
            by_cases h1 : 0 ≤ (y : Int) - l + up
            · have h2 : ¬ (y : Int) - l + up < SH := fun h => hin ⟨h1, h⟩
              have d1 : decide (0 ≤ (y : Int) - l + up) = true := decide_eq_true h1
              have d2 : decide ((y : Int) - l + up < SH) = false := decide_eq_false h2
              clear hin
              generalize hi : inkB W H p x y = i0 at *
              have HI := Lib.hid hi
              clear hi
              go_wp2_with fail
              refine (IK.out _ ((ArrB.below hA b7).more b7.size)).mono ?_
              rintro e w7 ⟨rfl, hb7⟩
              replace b7 := below_call b7 b7.size hb7
              replace a1 := a1.below' hb7
              replace a2 := a2.below' hb7
              replace a3 := a3.below' hb7
              replace a4 := a4.below' hb7
              replace ax := ax.below' hb7
              replace ap := ap.below' hb7
              clear hb7 p1 p2 p3 q1 q2 q3 p4 p5 p6
              cases i0 with
              | true =>
                obtain ⟨x1, x2, x3⟩ := ax.cells3
                go_wp2_with fail
                refine (rset_any W H gp n n 5 _ x y _ ap (by omega) xl (by omega) yl hW2 hH2 HNN.out).mono ?_
                rintro e w8 ⟨rfl, hk8, hg8⟩
                have zz := b7.size
                replace a1 := a1.grown hg8 (by simp; omega); replace a2 := a2.grown hg8 (by simp; omega); replace a3 := a3.grown hg8 (by simp; omega); replace a4 := a4.grown hg8 (by simp; omega); replace ax := ax.grown hg8 (by simp; omega)
                have cb2 : Below w.heap.size w w8 := b7.grown hg8 b7.size (fun k hk => by cases hk; omega)
                clear x1 x2 x3 ap b7 hg8
                go_wp2_with fail
                go_roundw
                case rel => exact ⟨x + 1, by omega, by go_num, cb2, a1, a2, a3, a4, ax, hk8.u8conv fun i _ _ => by rw [Int.natCast_add]; exact fill_yes (by omega) xl CE.out⟩
                case measure => simp [intOf]; omega
              | false =>
                go_wp2_with fail
                go_roundw
                case rel => exact ⟨x + 1, by omega, by go_num, b7, a1, a2, a3, a4, ax, ap.u8conv fun i _ _ => by rw [Int.natCast_add]; exact fill_no (by omega) xl CE.out⟩
                case measure => simp [intOf]; omega
            · have d1 : decide (0 ≤ (y : Int) - l + up) = false := decide_eq_false h1
              clear hin
              generalize hi : inkB W H p x y = i0 at *
              have HI := Lib.hid hi
              clear hi
              go_wp2_with fail
              refine (IK.out _ ((ArrB.below hA b7).more b7.size)).mono ?_
              rintro e w7 ⟨rfl, hb7⟩
              replace b7 := below_call b7 b7.size hb7
              replace a1 := a1.below' hb7
              replace a2 := a2.below' hb7
              replace a3 := a3.below' hb7
              replace a4 := a4.below' hb7
              replace ax := ax.below' hb7
              replace ap := ap.below' hb7
              clear hb7 p1 p2 p3 q1 q2 q3 p4 p5 p6
              cases i0 with
              | true =>
                obtain ⟨x1, x2, x3⟩ := ax.cells3
                go_wp2_with fail
                refine (rset_any W H gp n n 5 _ x y _ ap (by omega) xl (by omega) yl hW2 hH2 HNN.out).mono ?_
                rintro e w8 ⟨rfl, hk8, hg8⟩
                have zz := b7.size
                replace a1 := a1.grown hg8 (by simp; omega); replace a2 := a2.grown hg8 (by simp; omega); replace a3 := a3.grown hg8 (by simp; omega); replace a4 := a4.grown hg8 (by simp; omega); replace ax := ax.grown hg8 (by simp; omega)
                have cb2 : Below w.heap.size w w8 := b7.grown hg8 b7.size (fun k hk => by cases hk; omega)
                clear x1 x2 x3 ap b7 hg8
                go_wp2_with fail
                go_roundw
                case rel => exact ⟨x + 1, by omega, by go_num, cb2, a1, a2, a3, a4, ax, hk8.u8conv fun i _ _ => by rw [Int.natCast_add]; exact fill_yes (by omega) xl CE.out⟩
                case measure => simp [intOf]; omega
              | false =>
                go_wp2_with fail
                go_roundw
                case rel => exact ⟨x + 1, by omega, by go_num, b7, a1, a2, a3, a4, ax, ap.u8conv fun i _ _ => by rw [Int.natCast_add]; exact fill_no (by omega) xl CE.out⟩
                case measure => simp [intOf]; omega
        · have ex : (x : Int) = W := by omega
          have ap2 := ap.u8conv (r := byRow W (fillB C W) (fun _ => 0) ((y : Int) + 1) (0 : Nat)) fun i _ _ => by rw [ex]; exact byRow_row (by omega)
          clear ap ex
          go_wp2_with fail
          go_roundw
          case rel => exact ⟨y + 1, by omega, by go_num, b7, a1, a2, a3, a4, ax, ap2⟩
          case measure => simp [intOf]; omega
    · have ey : (y : Int) = H := by omega
      obtain ⟨y1, y2, y3⟩ := tx.cells3
      obtain ⟨u1, u2, u3⟩ := t4.cells3
      obtain ⟨f1, f2, f3⟩ := t4.frozen3
      have k5 := ((t4.set_ 0 (.int .i64 W)).set_ 1 (.int .i64 H)).set_ 2 (.slice (some ⟨gp, 0, none⟩) n n)
      obtain ⟨s4, s5, s6⟩ := Blk.cells3 (a := .int .i64 W) (b := .int .i64 H) (c := .slice (some ⟨gp, 0, none⟩) n n) k5
      have zz := b6'.size
      have g1 : gp ≠ w.heap.size + 1 + 1 + 1 := by omega
      have TP := Lib.hid (tp.u8conv (r := fillB C W) fun i _ i1 => by rw [ey]; exact byRow_end (h := H) (by omega) (by have := HNN.out; omega))
      clear tp ey
      go_wp2_with fail
      refine bodyPost_ret (v := .tuple #[.agg #[.int .i64 W, .int .i64 H, .slice (some ⟨gp, 0, none⟩) n n], .int .i64 0]) (by simp [results, Try.results83, go_sem, s4, s5, s6]) rfl ?_
      refine ⟨_, rfl, ⟨_, _, rfl, (fun a e => by cases e; show w.heap.size ≤ gp; omega), ?_⟩, by (repeat (first | exact Below.refl _ _ | assumption | refine Below.drew ?_ | refine below_drewN ?_ _ | refine Below.alloc ?_ (by first | omega | (simp; done) | (simp; omega)) _ | refine Below.setCell ?_ (by first | omega | (simp; done) | (simp; omega)) _ | refine below_setRow ?_ (by first | omega | (simp; done) | (simp; omega)) _ ))⟩
      have KE := Blk.far (Blk.far (Blk.far TP.out (p := ⟨w.heap.size + 1 + 1 + 1, 0, none⟩) g1 (.int .i64 W)) (p := ⟨w.heap.size + 1 + 1 + 1, 1, none⟩) g1 (.int .i64 H)) (p := ⟨w.heap.size + 1 + 1 + 1, 2, none⟩) g1 (.slice (some ⟨gp, 0, none⟩) n n)
      rw [HC.out] at KE
      exact KE.arrB KE.lt
theorem rrectify_all (W H : Int) (A AL : Option Addr) (n c K cL : Nat) (p : Int → Int) (m : Nat → Nat) (ln : Nat → Nat → Int) (up down : Int) (E W2 H2 : Int) (N : Nat) (w : World) (hA : ArrB w w.heap.size A n p) (hn : n ≤ maxLen) (hB : IsB p) (hL : Lines w w.heap.size AL K m ln) (hm : ∀ i, i < K → m i ≤ maxLen) (hE : recE W H n p K m ln up down = E) (hs : RSize E W (up + down + 1) W2 H2 N) :
    Calls Try.prog 82 #[.agg #[.int .i64 W, .int .i64 H, .slice A n c], .agg #[.slice AL K cL], .int .i64 up, .int .i64 down] w (New w fun v w' => OutT w w' E W2 H2 N (recQ W H p (ln 4) up) v) := by
  by_cases h0 : E = 0
  · subst h0
    obtain ⟨h1, h2, h3, h4⟩ := recE_ok hE
    obtain ⟨hc, hP⟩ := stChk_ok h1
    obtain ⟨rfl, rfl, hN⟩ := hs.1 rfl
    exact (rrectify_ok W2 H A AL n c K cL p m ln up down _ N w hA hn hB hL hm hE rfl hN).mono fun e w' ⟨v, he, ho, hb⟩ => ⟨v, he, ho.conv (fun i i0 _ => (recC_eq hc hB hP.pos.1 i0).symm), hb⟩
  · exact (rrectify_bad W H A AL n c K cL p m ln up down E w hA hn hB hL hm hE h0).mono fun e w' ⟨he, hb⟩ => ⟨_, he, outT_bad hs h0, hb⟩
theorem rrestore_all (W H SW SH : Int) (A SA AL : Option Addr) (n c sn sc K cL : Nat) (p sp : Int → Int) (m : Nat → Nat) (ln : Nat → Nat → Int) (up : Int) (E W2 H2 : Int) (N : Nat) (w : World) (hA : ArrB w w.heap.size A n p) (hn : n ≤ maxLen) (hB : IsB p) (hS : ArrB w w.heap.size SA sn sp) (hsn : sn ≤ maxLen) (hBS : IsB sp) (hL : Lines w w.heap.size AL K m ln) (hm : ∀ i, i < K → m i ≤ maxLen) (hE : resE W H n p SW SH sn sp K m ln up = E) (hs : RSize E W H W2 H2 N) :
    Calls Try.prog 83 #[.agg #[.int .i64 W, .int .i64 H, .slice A n c], .agg #[.int .i64 SW, .int .i64 SH, .slice SA sn sc], .agg #[.slice AL K cL], .int .i64 up] w (New w fun v w' => OutT w w' E W2 H2 N (resQ W H SH p sp (ln 4) up) v) := by
  by_cases h0 : E = 0
  · subst h0
    obtain ⟨hc, hc2, hP, -, -, hw⟩ := resE_ok hE
    obtain ⟨rfl, rfl, hN⟩ := hs.1 rfl
    have hnn := (chk_ok hc).2.2.2.2.1
    obtain rfl : N = n := by omega
    rw [hw] at hc2
    exact (rrestore_ok W2 H2 SW SH A SA AL N c sn sc K cL p sp m ln up w hA hn hB hS hsn hBS hL hm hE).mono fun e w' ⟨v, he, ho, hb⟩ => ⟨v, he, ho.conv (fun i i0 i1 => (resC_eq hc hc2 hB hBS hP.pos.1 i0 (by omega)).symm), hb⟩
  · exact (rrestore_bad W H SW SH A SA AL n c sn sc K cL p sp m ln up E w hA hn hB hS hsn hBS hL hm hE h0).mono fun e w' ⟨he, hb⟩ => ⟨_, he, outT_bad hs h0, hb⟩
end Go.Proofs.Ytdimlpcbbkokiaa

/- Walk: an image made pixel by pixel by a function value (image.made). -/
namespace Go.Proofs.Ytdimlpcbbkokiaa
open Go.RowKit
set_option linter.unusedVariables false
attribute [local go_sem] Oper.semAt_some

/-- pixel by pixel -/
def byPix (W : Int) (f : Int → Int → Int) : Int → Int := fun i => f (i % W) (i / W)
theorem byPix_at {W x y : Int} {f : Int → Int → Int} (x0 : 0 ≤ x) (x1 : x < W) : byPix W f (y * W + x) = f x y := by
  unfold byPix; rw [idx_mod x0 x1, idx_div x0 x1]
theorem OutImg.outN {w w' : World} {W H : Int} {N : Nat} {q : Int → Int} {v : Value} (h : OutImg w w' W H q v) (hN : (N : Int) = W * H) : OutN w w' W H N q v := by
  obtain ⟨g, rfl, hg, hk⟩ := h
  obtain rfl : (W * H).toNat = N := by omega
  exact ⟨g, rfl, hg, hk⟩
set_option maxRecDepth 100000 in
set_option maxHeartbeats 4000000 in
theorem pixmade_any (W H : Int) (N : Nat) (fid : Nat) (cap : Array Value) (f : Int → Int → Int) (w : World) (hent : ∀ args w, (callFunc fid args).run Try.prog w = .ok (.enter fid args) w) (h1 : 0 ≤ W) (h2 : W ≤ 640) (h3 : 0 ≤ H) (h4 : H ≤ 640) (hN : (N : Int) = W * H)
    (hf : ∀ x y w', 0 ≤ x → x < W → 0 ≤ y → y < H → Below w.heap.size w w' → Calls Try.prog fid (#[.int .i64 x, .int .i64 y] ++ cap) w' fun e w'' => e = .returned (.int .u8 (f x y)) ∧ Below w'.heap.size w' w'') :
    Calls Try.prog 87 #[.int .i64 W, .int .i64 H, .func (.func fid) #[] cap] w (New w fun v w' => OutN w w' W H N (byPix W f) v) := by
  have HF := Lib.hid hf
  have BL := Lib.hid fun w' => (blank_any W H w' h1 h2 h3 h4).mono fun e w'' (⟨v, he, ho, hb⟩ : New w' (fun v w'' => OutImg w' w'' W H (fun _ => 0) v) e w'') => (show New w' (fun v w'' => OutN w' w'' W H N (fun _ => 0) v) e w'' from ⟨v, he, ho.outN hN, hb⟩)
  have HN := Lib.hid hN
  have nb := (area_bd h1 h2 h3 h4).2
  clear hf hN
  go_enter Try.func87, Try.ntmps87
  go_wp2_with fail
  refine (BL.out _).mono ?_
  rintro e w1 ⟨_, rfl, ⟨gp, rfl, hgp, kp⟩, hb1⟩
  have z0 : w.heap.size < w1.heap.size := by have := hb1.size; simp at this; omega
  have z1 : w.heap.size < gp := by simp at hgp; omega
  have z2 := kp.lt
  have k6 : Blk w1 w.heap.size 24 #[.int .i64 0, .int .i64 0, .slice none 0 0] := (Blk.new _ _ _).below' hb1
  have b1 : Below w.heap.size w w1 := below_call (by (repeat (first | exact Below.refl _ _ | assumption | refine Below.drew ?_ | refine below_drewN ?_ _ | refine Below.alloc ?_ (by first | omega | (simp; done) | (simp; omega)) _ | refine Below.setCell ?_ (by first | omega | (simp; done) | (simp; omega)) _ | refine below_setRow ?_ (by first | omega | (simp; done) | (simp; omega)) _ ))) (by simp) hb1
  clear hb1 hgp BL
  have b2 : Below w.heap.size w (w1.alloc (.cells #[.int .i64 W, .int .i64 H, .slice (some ⟨gp, 0, none⟩) N N] 24)) := by (repeat (first | exact Below.refl _ _ | assumption | refine Below.drew ?_ | refine below_drewN ?_ _ | refine Below.alloc ?_ (by first | omega | (simp; done) | (simp; omega)) _ | refine Below.setCell ?_ (by first | omega | (simp; done) | (simp; omega)) _ | refine below_setRow ?_ (by first | omega | (simp; done) | (simp; omega)) _ ))
  have t6 := k6.alloc (.cells #[.int .i64 W, .int .i64 H, .slice (some ⟨gp, 0, none⟩) N N] 24)
  have tx := Blk.new w1 24 #[.int .i64 W, .int .i64 H, .slice (some ⟨gp, 0, none⟩) N N]
  have tp : H = 0 ∨ W = 0 ∨ Blk (w1.alloc (.cells #[.int .i64 W, .int .i64 H, .slice (some ⟨gp, 0, none⟩) N N] 24)) gp 5 (u8s N (byRow W (byPix W f) (fun _ => 0) (0 : Nat) (0 : Nat))) := by
    by_cases hw : W = 0
    · exact .inr (.inl hw)
    · exact .inr (.inr ((kp.alloc _).u8conv fun i i0 _ => (byRow_zero (W := W) (q := byPix W f) (z := fun _ => 0) (by omega) i0).symm))
  have tp0 := kp.alloc (.cells #[.int .i64 W, .int .i64 H, .slice (some ⟨gp, 0, none⟩) N N] 24)
  clear kp b1 k6 tp
  have tp : Blk (w1.alloc (.cells #[.int .i64 W, .int .i64 H, .slice (some ⟨gp, 0, none⟩) N N] 24)) gp 5 (u8s N (byRow W (byPix W f) (fun _ => 0) (0 : Nat) (0 : Nat))) := tp0.u8conv fun i i0 i1 => by
    have hw : 0 < W := by
      rcases Int.lt_or_le 0 W with h | h
      · exact h
      · have : W = 0 := by omega
        subst this
        have := HN.out
        simp at this
        omega
    exact (byRow_zero (W := W) (q := byPix W f) (z := fun _ => 0) hw i0).symm
  have hgx : gp ≠ w1.heap.size := by omega
  clear tp0
  go_wp2_with fail
  generalize w1.alloc (.cells #[.int .i64 W, .int .i64 H, .slice (some ⟨gp, 0, none⟩) N N] 24) = w2 at *
  generalize w1.heap.size = gx at *
  go_loopw [14] (fun s wr => ∃ y : Nat, (y : Int) ≤ H ∧ s = .int .i64 y ∧ Below w.heap.size w wr ∧ Blk wr w.heap.size 24 #[.int .i64 0, .int .i64 0, .slice none 0 0] ∧ Blk wr gx 24 #[.int .i64 W, .int .i64 H, .slice (some ⟨gp, 0, none⟩) N N] ∧ Blk wr gp 5 (u8s N (byRow W (byPix W f) (fun _ => 0) y (0 : Nat)))) (fun s _ => (H - intOf s).toNat)
  case atStart => exact ⟨0, by omega, rfl, b2, t6, tx, tp⟩
  case round =>
    obtain ⟨y, hy, rfl, b3, a6, ax, ap⟩ := hrel
    clear b2 t6 tx tp
    obtain ⟨x1, x2, x3⟩ := ax.cells3
    by_cases yl : (y : Int) < H
    · go_wp2_with fail
      go_loopw [18] (fun s wr => ∃ x : Nat, (x : Int) ≤ W ∧ s = .int .i64 x ∧ Below w.heap.size w wr ∧ Blk wr w.heap.size 24 #[.int .i64 0, .int .i64 0, .slice none 0 0] ∧ Blk wr gx 24 #[.int .i64 W, .int .i64 H, .slice (some ⟨gp, 0, none⟩) N N] ∧ Blk wr gp 5 (u8s N (byRow W (byPix W f) (fun _ => 0) y x))) (fun s _ => (W - intOf s).toNat)
      case atStart => exact ⟨0, by omega, rfl, b3, a6, ax, ap⟩
      case round =>
        obtain ⟨x, hx, rfl, b4, c6, cx, cp⟩ := hrel
        clear x1 x2 x3 b3 a6 ax ap
        obtain ⟨x1, x2, x3⟩ := cx.cells3
        by_cases xl : (x : Int) < W
        · obtain ⟨j1, j2, j3⟩ := idx_lt (x := (x : Int)) (y := (y : Int)) (W := W) (H := H) (by omega) xl (by omega) yl
          rw [Int.mul_comm H W] at j2
          have j4 : (y : Int) * W + x < (N : Int) := by have := HN.out; omega
          have v7 : IntKind.i64.wrap ((y : Int) * W) = (y : Int) * W := IntWalk.i64_in _ (by omega)
          have v8 : IntKind.i64.wrap ((y : Int) * W + x) = (y : Int) * W + x := IntWalk.i64_in _ (by omega)
          have HC := Lib.hid (HF.out x y wr.drew (by omega) xl (by omega) yl b4.drew)
          have HV := Lib.hid (byPix_at (W := W) (x := (x : Int)) (y := (y : Int)) (f := f) (by omega) xl)
          have BS := Lib.hid (fun i => byRow_set (q := byPix W f) (z := fun _ => 0) (W := W) (y := (y : Int)) (i := i) (by omega : (0 : Int) ≤ x) xl)
          go_wp2_with fail
          go_region_held3 (fun w' => w'.cell? ⟨gx, 2, none⟩ = some (.slice (some ⟨gp, 0, none⟩) N N))
            (simp [go_sem, *])
            (first
              | (with_reducible refine Calls.mono HC.out ?_; rintro e w5 ⟨rfl, hb5⟩
                 have d6 := c6.drew.below' hb5; have dx := cx.drew.below' hb5; have dp := cp.drew.below' hb5
                 obtain ⟨y1, y2, y3⟩ := dx.cells3
                 have cg := dp.u8at j1 j4
                 have fg := dp.frozen ((y : Int) * W + x).toNat))
          have b5 := below_call b4.drew b4.drew.size hb5
          have zz := b5.size
          go_wp2
          go_roundw
          case rel =>
            refine ⟨x + 1, by omega, by go_num, b5.setCell (by show w.heap.size ≤ gp; omega) _, d6.far (p := ⟨gp, ((y : Int) * W + x).toNat, none⟩) (by show w.heap.size ≠ gp; omega) _, dx.far (p := ⟨gp, ((y : Int) * W + x).toNat, none⟩) (fun e => hgx e.symm) _, (dp.u8set ((y : Int) * W + x) j1 (f x y)).u8conv fun i _ _ => ?_⟩
            have h := BS.out i
            rw [HV.out] at h
            rw [Int.natCast_add]
            exact h
          case measure => simp [intOf]; omega
        · have ex : (x : Int) = W := by omega
          have cp2 := cp.u8conv (r := byRow W (byPix W f) (fun _ => 0) ((y : Int) + 1) (0 : Nat)) fun i i0 i1 => by
            rw [ex]
            refine byRow_row ?_
            rcases Int.lt_or_le 0 W with h | h
            · exact h
            · have : W = 0 := by omega
              subst this
              have := HN.out
              simp at this
              omega
          clear cp ex
          go_wp2_with fail
          go_roundw
          case rel => exact ⟨y + 1, by omega, by go_num, b4, c6, cx, cp2⟩
          case measure => simp [intOf]; omega
    · have ey : (y : Int) = H := by omega
      obtain ⟨u1, u2, u3⟩ := a6.cells3
      obtain ⟨f1, f2, f3⟩ := a6.frozen3
      have k5 := ((a6.set_ 0 (.int .i64 W)).set_ 1 (.int .i64 H)).set_ 2 (.slice (some ⟨gp, 0, none⟩) N N)
      obtain ⟨s4, s5, s6⟩ := Blk.cells3 (a := .int .i64 W) (b := .int .i64 H) (c := .slice (some ⟨gp, 0, none⟩) N N) k5
      have zz := b3.size
      have g1 : gp ≠ w.heap.size := by omega
      have TP := Lib.hid (ap.u8conv (r := byPix W f) fun i i0 i1 => by
        rw [ey]
        refine byRow_end (h := H) ?_ (by have := HN.out; omega)
        rcases Int.lt_or_le 0 W with h | h
        · exact h
        · have : W = 0 := by omega
          subst this
          have := HN.out
          simp at this
          omega)
      clear ap ey
      go_wp2_with fail
      refine bodyPost_ret (v := .agg #[.int .i64 W, .int .i64 H, .slice (some ⟨gp, 0, none⟩) N N]) (by simp [results, Try.results87, go_sem, s4, s5, s6]) rfl ?_
      exact ⟨_, rfl, OutN.mk (by omega) (Blk.far (Blk.far (Blk.far TP.out (p := ⟨w.heap.size, 0, none⟩) g1 (.int .i64 W)) (p := ⟨w.heap.size, 1, none⟩) g1 (.int .i64 H)) (p := ⟨w.heap.size, 2, none⟩) g1 (.slice (some ⟨gp, 0, none⟩) N N)), by (repeat (first | exact Below.refl _ _ | assumption | refine Below.drew ?_ | refine below_drewN ?_ _ | refine Below.alloc ?_ (by first | omega | (simp; done) | (simp; omega)) _ | refine Below.setCell ?_ (by first | omega | (simp; done) | (simp; omega)) _ | refine below_setRow ?_ (by first | omega | (simp; done) | (simp; omega)) _ ))⟩
end Go.Proofs.Ytdimlpcbbkokiaa

/- Walk: image.Not. -/
namespace Go.Proofs.Ytdimlpcbbkokiaa
open Go.RowKit
set_option linter.unusedVariables false
attribute [local go_sem] Oper.semAt_some
theorem enterNot1 (args : Array Value) (w : World) : (callFunc 88 args).run Try.prog w = .ok (.enter 88 args) w := by kernel_rfl
set_option maxHeartbeats 1000000 in
theorem not1_any (W H x y : Int) (A : Option Addr) (n c bx : Nat) (p : Int → Int) (w : World) (hk : Blk w bx 24 #[.int .i64 W, .int .i64 H, .slice A n c]) (hA : ArrB w w.heap.size A n p) (hB : IsB p) (hE : chk W H n p = 0) (x0 : 0 ≤ x) (x1 : x < W) (y0 : 0 ≤ y) (y1 : y < H) :
    Calls Try.prog 88 #[.int .i64 x, .int .i64 y, .pointer (some ⟨bx, 0, none⟩)] w fun e w' => e = .returned (.int .u8 (1 - p (y * W + x))) ∧ Below w.heap.size w w' := by
  obtain ⟨hW1, hW2, hH1, hH2, hnn, hp⟩ := chk_ok hE
  obtain ⟨p1, p2, p3⟩ := hk.cells3
  obtain ⟨j1, j2, j3⟩ := idx_lt x0 x1 y0 y1
  rw [Int.mul_comm H W] at j2
  have j4 : y * W + x < (n : Int) := by omega
  have nb := (area_bd hW1 hW2 hH1 hH2).2
  obtain ⟨b, off, rfl, hb, hc⟩ := ArrB.at_ hA j1 j4
  have q1 := hp _ j1 j4
  have q2 := (hB (y * W + x)).1
  have hw : IntKind.u8.wrap (1 - p (y * W + x)) = 1 - p (y * W + x) := by
    rcases (show p (y * W + x) = 0 ∨ p (y * W + x) = 1 by omega) with h | h <;> rw [h] <;> rfl
  generalize p (y * W + x) = v at *
  clear hE hnn hp hA
  go_enter Try.func88, Try.ntmps88
  go_wp2_with fail
  go_ret
  exact ⟨rfl, Below.refl _ _⟩
set_option maxRecDepth 100000 in
set_option maxHeartbeats 1000000 in
theorem not_all (W H : Int) (A : Option Addr) (n c : Nat) (p : Int → Int) (E W2 H2 : Int) (N : Nat) (w : World) (hA : ArrB w w.heap.size A n p) (hn : n ≤ maxLen) (hB : IsB p) (hE : chk W H n p = E) (hs : RSize E W H W2 H2 N) :
    Calls Try.prog 46 #[.agg #[.int .i64 W, .int .i64 H, .slice A n c]] w (New w fun v w' => OutT w w' E W2 H2 N (fun i => 1 - p i) v) := by
  have CK := Lib.hid fun w' hA' => check_any W H A n c p w' hA' hn
  rw [hE] at CK
  have b1 : Below w.heap.size w ((w.alloc (.cells #[.int .i64 W, .int .i64 H, .slice A n c] 24)).alloc (.cells #[.int .i64 0, .int .i64 0, .slice none 0 0] 24)) := by (repeat (first | exact Below.refl _ _ | assumption | refine Below.drew ?_ | refine below_drewN ?_ _ | refine Below.alloc ?_ (by first | omega | (simp; done) | (simp; omega)) _ | refine Below.setCell ?_ (by first | omega | (simp; done) | (simp; omega)) _ | refine below_setRow ?_ (by first | omega | (simp; done) | (simp; omega)) _ ))
  have k1 : Blk ((w.alloc (.cells #[.int .i64 W, .int .i64 H, .slice A n c] 24)).alloc (.cells #[.int .i64 0, .int .i64 0, .slice none 0 0] 24)) w.heap.size 24 #[.int .i64 W, .int .i64 H, .slice A n c] := (Blk.new _ _ _).alloc _
  have k2 : Blk ((w.alloc (.cells #[.int .i64 W, .int .i64 H, .slice A n c] 24)).alloc (.cells #[.int .i64 0, .int .i64 0, .slice none 0 0] 24)) (w.heap.size + 1) 24 #[.int .i64 0, .int .i64 0, .slice none 0 0] := Blk.new' (by simp) _ _
  have HS := Lib.hid hs
  by_cases h0 : E = 0
  · subst h0
    obtain ⟨hW1, hW2, hH1, hH2, hnn, hp⟩ := chk_ok hE
    obtain ⟨rfl, rfl, hN⟩ := hs.1 rfl
    obtain rfl : N = n := by omega
    have N1 := Lib.hid fun x y bx w' hk hA' => not1_any W2 H2 x y A N c bx p w' hk hA' hB hE
    have MD := Lib.hid fun (w' : World) (hk : Blk w' w.heap.size 24 #[.int .i64 W2, .int .i64 H2, .slice A N c]) (hA' : ArrB w' w'.heap.size A N p) => pixmade_any W2 H2 N 88 #[.pointer (some ⟨w.heap.size, 0, none⟩)] (fun x y => 1 - p (y * W2 + x)) w' enterNot1 hW1 hW2 hH1 hH2 hN
      (fun x y v x0 x1 y0 y1 hb => by
        show Calls _ _ #[_, _, _] _ _
        exact N1.out x y w.heap.size v (hk.below' hb) (hA'.to hb) x0 x1 y0 y1)
    clear hs hE hnn hp hB hN
    go_enter Try.func46, Try.ntmps46
    go_wp2_with fail
    generalize (w.alloc (.cells #[.int .i64 W2, .int .i64 H2, .slice A N c] 24)).alloc (.cells #[.int .i64 0, .int .i64 0, .slice none 0 0] 24) = w1 at *
    refine (CK.out _ (hA.to b1)).mono ?_
    rintro e w2 ⟨rfl, hb2⟩
    have b2 := below_call b1 b1.size hb2
    have k3 := k1.below' hb2
    have k4 := k2.below' hb2
    have hA2 := Lib.hid (hA.to b2)
    have K3 := Lib.hid k3
    obtain ⟨p1, p2, p3⟩ := k3.cells3
    have hmf : ∀ (fn : Fn) (first cap : Array Value) (w : World), (Instr.makeFunc fn first cap).run Try.prog w = .ok (.func fn first cap) w := fun _ _ _ _ => rfl
    clear b1 k1 k2 hb2 CK k3
    go_wp2_with fail
    refine (MD.out _ K3.out hA2.out).mono ?_
    rintro e w3 ⟨_, rfl, ⟨gp, rfl, hgp, kp⟩, hb3⟩
    have b3 := below_call b2 b2.size hb3
    have k5 := k4.below' hb3
    have zz := k4.lt
    obtain ⟨r1, r2, r3⟩ := k5.cells3
    obtain ⟨f1, f2, f3⟩ := k5.frozen3
    have k6 := ((k5.set_ 0 (.int .i64 W2)).set_ 1 (.int .i64 H2)).set_ 2 (.slice (some ⟨gp, 0, none⟩) N N)
    obtain ⟨s1, s2, s3⟩ := Blk.cells3 (a := .int .i64 W2) (b := .int .i64 H2) (c := .slice (some ⟨gp, 0, none⟩) N N) k6
    have zb := b2.size
    clear p1 p2 p3
    go_wp2_with fail
    refine bodyPost_ret (v := .tuple #[.agg #[.int .i64 W2, .int .i64 H2, .slice (some ⟨gp, 0, none⟩) N N], .int .i64 0]) (by simp [results, Try.results46, go_sem, s1, s2, s3]) rfl ?_
    have g1 : gp ≠ w.heap.size + 1 := by omega
    refine ⟨_, rfl, ⟨_, _, rfl, (fun a e => by cases e; show w.heap.size ≤ gp; omega), ?_⟩, by (repeat (first | exact Below.refl _ _ | assumption | refine Below.drew ?_ | refine below_drewN ?_ _ | refine Below.alloc ?_ (by first | omega | (simp; done) | (simp; omega)) _ | refine Below.setCell ?_ (by first | omega | (simp; done) | (simp; omega)) _ | refine below_setRow ?_ (by first | omega | (simp; done) | (simp; omega)) _ ))⟩
    have KE := Blk.far (Blk.far (Blk.far kp (p := ⟨w.heap.size + 1, 0, none⟩) g1 (.int .i64 W2)) (p := ⟨w.heap.size + 1, 1, none⟩) g1 (.int .i64 H2)) (p := ⟨w.heap.size + 1, 2, none⟩) g1 (.slice (some ⟨gp, 0, none⟩) N N)
    refine (KE.arrB KE.lt).congr fun i i0 i1 => ?_
    unfold byPix
    have := Int.emod_add_mul_ediv i W2
    rw [Int.mul_comm] at this
    show 1 - p (i / W2 * W2 + i % W2) = 1 - p i
    rw [show i / W2 * W2 + i % W2 = i by omega]
  · have hz : (E != 0) = true := by simp [h0]
    have HH := Lib.hid h0
    clear hs hE h0
    go_enter Try.func46, Try.ntmps46
    go_wp2_with fail
    generalize (w.alloc (.cells #[.int .i64 W, .int .i64 H, .slice A n c] 24)).alloc (.cells #[.int .i64 0, .int .i64 0, .slice none 0 0] 24) = w1 at *
    refine (CK.out _ (hA.to b1)).mono ?_
    rintro e w2 ⟨rfl, hb2⟩
    have b2 := below_call b1 b1.size hb2
    have k4 := k2.below' hb2
    obtain ⟨r1, r2, r3⟩ := k4.cells3
    obtain ⟨f1, f2, f3⟩ := k4.frozen3
    have k9 := ((k4.set_ 0 (.int .i64 0)).set_ 1 (.int .i64 0)).set_ 2 (.slice none 0 0)
    obtain ⟨s1, s2, s3⟩ := Blk.cells3 (a := .int .i64 0) (b := .int .i64 0) (c := .slice none 0 0) k9
    go_wp2_with fail
    refine bodyPost_ret (v := .tuple #[noImg, .int .i64 E]) (by simp [results, Try.results46, go_sem, noImg, s1, s2, s3]) rfl ?_
    exact ⟨_, rfl, outT_bad HS.out HH.out, by (repeat (first | with_reducible exact Below.refl _ _ | with_reducible assumption | with_reducible refine Below.drew ?_ | (with_reducible refine below_alloc' ?_ ?_; focus (first | omega | (simp; done) | (simp; omega))) | (with_reducible refine below_fill3' ?_ ?_; focus omega) | (with_reducible refine below_setCell' ?_ ?_; focus (first | omega | (simp; done) | (simp; omega))) | (with_reducible apply below_call'; (focus (with_reducible assumption)); (focus (first | omega | (simp; done) | (simp; omega))))))⟩
end Go.Proofs.Ytdimlpcbbkokiaa

/- Walk: StaveBack. Written by gen/t46.py. -/
namespace Go.Proofs.Ytdimlpcbbkokiaa
open Go.RowKit Go.Shelf
set_option linter.unusedVariables false
attribute [local go_sem] Oper.semAt_some
theorem xor01 {a b : Int} (ha : a = 0 ∨ a = 1) (hb : b = 0 ∨ b = 1) : ∃ v, bits BinOp.xor IntKind.u8 a b = v ∧ (v = 0 ∨ v = 1) := by
  rcases ha with rfl | rfl <;> rcases hb with rfl | rfl
  · exact ⟨0, rfl, .inl rfl⟩
  · exact ⟨1, rfl, .inr rfl⟩
  · exact ⟨1, rfl, .inr rfl⟩
  · exact ⟨0, rfl, .inl rfl⟩
theorem upd01 {q : Int → Int} (h : Is01 q) {i v : Int} (hv : v = 0 ∨ v = 1) : Is01 (upd q i v) := fun j => by
  unfold upd; split
  · exact hv
  · exact h j
theorem stChk_mk {W H : Int} {n : Nat} {p : Int → Int} {K : Nat} {m : Nat → Nat} {ln : Nat → Nat → Int} (h1 : chk W H n p = 0) (h2 : StP W H K m ln) : stChk W H n p K m ln = 0 := by
  unfold stChk
  rw [if_neg (show ¬ chk W H n p ≠ 0 from fun h => h h1), if_pos (stFits_iff.2 h2)]
theorem recE_mk {W H : Int} {n : Nat} {p : Int → Int} {K : Nat} {m : Nat → Nat} {ln : Nat → Nat → Int} {up down : Int} (h1 : stChk W H n p K m ln = 0) (h2 : 0 ≤ up) (h3 : 0 ≤ down) (h4 : up + down + 1 ≤ 640) : recE W H n p K m ln up down = 0 := by
  unfold recE
  rw [if_neg (show ¬ stChk W H n p K m ln ≠ 0 from fun h => h h1), if_neg (by omega), if_neg (by omega)]
theorem resE_mk {W H h : Int} {n sn : Nat} {p sp : Int → Int} {K : Nat} {m : Nat → Nat} {ln : Nat → Nat → Int} {up : Int} (h1 : chk W H n p = 0) (h2 : chk W h sn sp = 0) (h3 : StP W H K m ln) (h4 : 0 ≤ up) (h5 : up < h) : resE W H n p W h sn sp K m ln up = 0 := by
  unfold resE
  rw [if_neg (show ¬ orE _ _ ≠ 0 from fun h => h (orE_zero.2 ⟨h1, h2⟩)), if_neg (by rw [stFits_iff.2 h3]; simp), if_neg (by omega), if_neg (by simp)]
theorem bit01 {r : Int} (h0 : 0 ≤ r) : (r % 2 = 0 ∨ r % 2 = 1) := by omega
theorem wavy_fits {W H low high : Int} {k nn t : Nat} {R : Int → Int} (hk : W = (k : Int) + 1) (hH : H = 5 + (high - low) + (nn : Int) * 24 + ((nn : Int) - 1) * 12 + 6) (ht : t < nn) (hW : 40 ≤ W)
    (hR : ∀ x : Int, 0 ≤ x → x < W → low ≤ R x ∧ R x ≤ high) (hN : ∀ i : Int, -1 ≤ R (i + 1) - R i ∧ R (i + 1) - R i ≤ 1) : StP W H 5 (fun _ => k + 1) (fun j => wvL low R (5 * t + j)) := by
  refine ⟨rfl, fun i hi => ?_, fun i hi x hx => ?_⟩
  · have h0 := hR 0 (by omega) (by omega)
    show isPathB W H (k + 1) (fun j => wvL low R (5 * t + i) j.toNat) = true
    rw [isPathB_iff]
    refine ⟨⟨by omega, by omega, by omega⟩, fun x x0 x1 => ?_⟩
    rw [stepB_iff]
    have hx := hR x x0 (by omega)
    rw [wvL_at low R t i _ hi, Int.toNat_of_nonneg x0]
    refine ⟨by omega, by omega, ?_⟩
    by_cases c : x ≤ 0
    · exact .inl c
    · right
      rw [wvL_at low R t i _ hi, Int.toNat_of_nonneg (by omega : 0 ≤ x - 1)]
      have := hN (x - 1)
      rw [show x - 1 + 1 = x by omega] at this
      omega
  · show wvL low R (5 * t + i) x < wvL low R (5 * t + (i + 1)) x
    rw [wvL_at low R t i _ (by omega), wvL_at low R t (i + 1) _ hi]
    omega

set_option maxRecDepth 100000 in
set_option maxHeartbeats 8000000 in
theorem staveBack_any (wd sv up dn : Int) (A AB : Option Addr) (n c nb cb : Nat) (p pb : Int → Int) (w : World) (hA : ArrB w w.heap.size A n p) (hn : n ≤ maxLen) (hnc : n ≤ c) (hB : IsB p) (hAB : ArrB w w.heap.size AB nb pb) (hnb : nb ≤ maxLen) (hBB : IsB pb)
    (hwd : 0 ≤ wd ∧ wd ≤ 255) (hsv : 0 ≤ sv ∧ sv ≤ 255) (hup : 0 ≤ up ∧ up ≤ 255) (hdn : 0 ≤ dn ∧ dn ≤ 255) :
    Calls Try.prog 9 #[.int .u8 wd, .int .u8 sv, .slice A n c, .slice AB nb cb, .int .u8 up, .int .u8 dn] w fun e w' => e = .returned (.bool true) ∧ Below w.heap.size w w' := by
  have AW := Lib.hid fun w' => awake3_any w'
  obtain ⟨W, hW⟩ : ∃ W, 40 + wd % 120 = W := ⟨_, rfl⟩
  obtain ⟨k, hk⟩ : ∃ k : Nat, W = (k : Int) + 1 := ⟨(W - 1).toNat, by omega⟩
  obtain ⟨M, hM⟩ : ∃ M : Nat, (M : Int) = min (n : Int) 14 := ⟨min n 14, by omega⟩
  obtain ⟨low, hlow⟩ : ∃ l, minA (rsF p M) k = l := ⟨_, rfl⟩
  obtain ⟨high, hhigh⟩ : ∃ l, maxA (rsF p M) k = l := ⟨_, rfl⟩
  obtain ⟨n1, hn1⟩ : ∃ n1 : Nat, 1 + sv % 3 = ((n1 + 1 : Nat) : Int) := ⟨(sv % 3).toNat, by omega⟩
  obtain ⟨H, hH⟩ : ∃ H, H = 5 + (high - low) + ((n1 + 1 : Nat) : Int) * 24 + (((n1 + 1 : Nat) : Int) - 1) * 12 + 6 := ⟨_, rfl⟩
  have hW0 : 40 ≤ W ∧ W ≤ 159 := by omega
  have hn3 : n1 ≤ 2 := by omega
  have hM14 : M ≤ 14 := by omega
  have hR0 : ∀ x : Int, 0 ≤ x → x < W → low ≤ rsF p M x ∧ rsF p M x ≤ high := by
    intro x x0 x1
    have h2 := (minAq_le (q := rsF p M) (minA := minA) (fun _ => rfl) (fun _ _ => rfl) k).1 x x0 (by omega)
    have h3 := (maxAq_ge (q := rsF p M) (maxA := maxA) (fun _ => rfl) (fun _ _ => rfl) k).1 x x0 (by omega)
    rw [hlow] at h2
    rw [hhigh] at h3
    exact ⟨h2, h3⟩
  have hlo : -14 ≤ low ∧ low ≤ 14 := by
    obtain ⟨-, j, -, -, e⟩ := minAq_le (q := rsF p M) (minA := minA) (fun _ => rfl) (fun _ _ => rfl) k
    have := rsF_bd (p := p) M j
    rw [← hlow, e]; omega
  have hhi : low ≤ high ∧ high ≤ 14 := by
    obtain ⟨-, j, -, -, e⟩ := maxAq_ge (q := rsF p M) (maxA := maxA) (fun _ => rfl) (fun _ _ => rfl) k
    have h1 := rsF_bd (p := p) M j
    have h2 := hR0 0 (by omega) (by omega)
    rw [hhigh] at e
    omega
  have hH0 : 1 ≤ H ∧ H ≤ 640 := by omega
  have nbd := area_bd (W := W) (H := H) (by omega) (by omega) (by omega) hH0.2
  obtain ⟨N, hN⟩ : ∃ N : Nat, (N : Int) = W * H := ⟨(W * H).toNat, Int.toNat_of_nonneg nbd.1⟩
  obtain ⟨U, hU⟩ : ∃ U, up % 60 = U := ⟨_, rfl⟩
  obtain ⟨D, hD⟩ : ∃ D, dn % 60 = D := ⟨_, rfl⟩
  have hUb : 0 ≤ U ∧ U ≤ 59 := by omega
  have hDb : 0 ≤ D ∧ D ≤ 59 := by omega
  obtain ⟨h, hh⟩ : ∃ h, h = U + D + 1 := ⟨_, rfl⟩
  have nbd2 := area_bd (W := W) (H := h) (by omega) (by omega) (by omega) (by omega)
  obtain ⟨N2, hN2⟩ : ∃ N2 : Nat, (N2 : Int) = W * h := ⟨(W * h).toNat, Int.toNat_of_nonneg nbd2.1⟩
  have WV := Lib.hid fun w' hA' => wavy_any wd sv W low high H A n c k M (n1 + 1) N p w' hA' hn hnc hB hwd hsv hW hk hM hlow hhigh hn1 hH hN
  have FITS := Lib.hid (wavy_fits (t := n1) (R := rsF p M) hk hH (by omega) hW0.1 hR0 (fun i => (rsF_near (p := p) M i).1))
  obtain ⟨L, hL⟩ : ∃ L, L = wvL low (rsF p M) := ⟨_, rfl⟩
  rw [← hL] at WV FITS
  have HK := Lib.hid hk; have HU := Lib.hid hU; have HD := Lib.hid hD; have HN := Lib.hid hN; have HN2 := Lib.hid hN2; have HHH := Lib.hid hh
  have hWn : W.toNat = k + 1 := by omega
  have HWN := Lib.hid hWn
  have NB : (N : Int) ≤ 409600 := by omega
  clear hW hM hlow hhigh hn1 hH hR0 hL hU hD hh hk hWn hB hN hN2 nbd nbd2
  obtain ⟨hup1, hup2⟩ := hup
  obtain ⟨hdn1, hdn2⟩ := hdn
  go_enter Try.func9, Try.ntmps9
  go_wp2_with fail
  refine (WV.out _ hA).mono ?_
  rintro e w1 ⟨_, rfl, ⟨gp, Bs, vo, vs, rfl, hgp, hgB, kp, hS⟩, hb1⟩
  rw [HWN.out] at hS
  obtain ⟨Ao, co, eo, -, -⟩ := own_arr hS.row
  rw [List.length_map, List.length_range] at eo
  subst eo
  have zz1 := hb1.size
  have kx := Blk.new w1 24 #[.int .i64 W, .int .i64 H, .slice (some ⟨gp, 0, none⟩) N N]
  have kp2 := kp.alloc (.cells #[.int .i64 W, .int .i64 H, .slice (some ⟨gp, 0, none⟩) N N] 24)
  have S2 := hS.below ((Below.refl _ _).alloc (Nat.le_refl _) (.cells #[.int .i64 W, .int .i64 H, .slice (some ⟨gp, 0, none⟩) N N] 24))
  have b2 : Below w.heap.size w (w1.alloc (.cells #[.int .i64 W, .int .i64 H, .slice (some ⟨gp, 0, none⟩) N N] 24)) := hb1.alloc zz1 _
  have hgx : gp ≠ w1.heap.size := by have := kp.lt; omega
  clear hS kp hb1 WV hA
  go_wp2_with fail
  generalize w1.alloc (.cells #[.int .i64 W, .int .i64 H, .slice (some ⟨gp, 0, none⟩) N N] 24) = w2 at *
  generalize w1.heap.size = bx at *
  obtain ⟨q0, hq0⟩ : ∃ q0, wvQ W L (5 * (n1 + 1)) 0 = q0 := ⟨_, rfl⟩
  have hq01 : Is01 q0 := by rw [← hq0]; exact wvQ_is01
  rw [hq0] at kp2
  clear hq0
  have hxB := kx.lt
  generalize hB2 : w2.heap.size = B2 at *
  go_loopw [42] (fun s wr => ∃ i : Nat, i ≤ N ∧ s = .int .i64 i ∧ But B2 gp w2 wr ∧ ∃ q, Is01 q ∧ Blk wr gp 5 (u8s N q)) (fun s _ => N - (intOf s).toNat)
  case atStart => exact ⟨0, by omega, rfl, But.refl _ (by omega), q0, hq01, kp2⟩
  case round =>
    obtain ⟨i, hi, rfl, bu, q, hq, ap⟩ := hrel
    clear kp2 hq01
    have ax := kx.but bu hxB (fun e => hgx e.symm)
    obtain ⟨x1, x2, x3⟩ := ax.cells3
    by_cases il : (i : Int) < N
    · have i0 : (0 : Int) ≤ i := by omega
      have t1 : (i : Int).tmod 1201 = (i : Int) % 1201 := Int.tmod_eq_emod_of_nonneg i0
      have e0 : 0 ≤ (i : Int) % 1201 ∧ (i : Int) % 1201 ≤ 1200 := by omega
      obtain ⟨K, hK⟩ : ∃ K, (i : Int) % 1201 = K := ⟨_, rfl⟩
      rw [hK] at t1 e0
      have HK1 := Lib.hid hK
      obtain ⟨e1, e2⟩ := e0
      have t3 : IntKind.i64.wrap (K.tdiv 8) = K / 8 := by rw [Int.tdiv_eq_ediv_of_nonneg e1]; exact IntWalk.i64_in _ (by omega)
      have d0 : 0 ≤ K / 8 := by omega
      by_cases hb : K / 8 < nb
      · have d1 : 0 ≤ K % 8 := by omega
        have d2 : K % 8 < 8 := by omega
        have d3 : K % 8 ≤ 8 := by omega
        have t4 : K.tmod 8 = K % 8 := Int.tmod_eq_emod_of_nonneg e1
        obtain ⟨bA, off, rfl, hbA, hcell⟩ := ArrB.at_ (ArrB.below hAB (b2.trans (bu.to hB2 (show w.heap.size ≤ gp by omega) (by have := b2.size; omega)))) d0 hb
        obtain ⟨hr2, hr3⟩ := hBB (K / 8)
        generalize pb (K / 8) = r at *
        have hv : 0 ≤ r / 2 ^ (K % 8).toNat ∧ r / 2 ^ (K % 8).toNat ≤ 255 := by
          have h1 : (0 : Int) < 2 ^ (K % 8).toNat := Int.pow_pos (by omega)
          exact ⟨Int.ediv_nonneg hr2 (by omega), Int.le_trans (Int.ediv_le_self _ hr2) hr3⟩
        obtain ⟨hv1, hv2⟩ := hv
        have bv := and_one_u8 _ hv1 hv2
        obtain ⟨v, hxv, hv01⟩ := xor01 (hq (i : Int)) (bit01 hv1)
        have ho := ap.u8at i0 il
        have hf := ap.frozen i
        have UQ := Lib.hid (ap.u8set i i0 v)
        rw [Int.toNat_natCast] at ho
        have HV := Lib.hid hv01
        clear hv01
        go_wp2_with fail
        go_still_tail 16, (by kernel_rfl)
        change wpList _ _ _ _ _ wr.drew
        clear t1 t3 t4 bv hxv hK
        go_wp2
        go_roundw
        case rel => exact ⟨i + 1, by omega, by go_num, (bu.then (Below.refl B2 wr).drew).set _ _, _, upd01 hq HV.out, by simpa using UQ.out.drew⟩
        case measure => simp [intOf]; omega
      · go_wp2_with fail
        go_roundw
        case rel => exact ⟨i + 1, by omega, by go_num, bu, q, hq, ap⟩
        case measure => simp [intOf]; omega
    · obtain rfl : N = i := by omega
      have S5 := S2.but bu hB2 hgB
      have b3 : Below w.heap.size w wr := b2.trans (bu.to hB2 (show w.heap.size ≤ gp by omega) (by have := b2.size; omega))
      obtain ⟨gv, cv, csv, ev, -, hbv, hcv⟩ := own_blk (show wr.ownsRow Bs 54 1 (.slice Ao (n1 + 1) co) (n1 + 1) ((List.range (n1 + 1)).map vs) from by have := S5.row; rwa [List.length_map, List.length_range] at this) (by omega)
      obtain ⟨lv, hFv⟩ := S5.each n1 (by simp)
      obtain ⟨A5, c5, e5, -, -, LC⟩ := hFv.toLines
      have hst : (((List.range (n1 + 1)).map (5 * ·)).getD n1 0) = 5 * n1 := by simp [List.getD_eq_getElem?_getD]
      rw [hst] at LC
      have hc5 := hcv n1 (by omega)
      rw [List.getElem?_map, List.getElem?_range (by omega), Option.map_some, e5] at hc5
      injection ev with ev1 ev2 ev3
      subst ev1 ev3
      have p9 : wr.cell? ⟨gv, n1, none⟩ = some (.slice A5 5 c5) := by rw [hbv.cell]; exact hc5
      have hq2 : Is01 q := hq
      have HST := FITS.out
      clear hcv hFv e5 hc5 S5 S2 hst FITS hbv ev2
      have k9 := (Blk.new wr 54 #[.slice A5 5 c5])
      have bn : Below wr.heap.size wr (wr.alloc (.cells #[.slice A5 5 c5] 54)) := (Below.refl _ _).alloc (Nat.le_refl _) _
      replace LC := LC.below bn
      have K0 : Kp (wr.alloc (.cells #[.slice A5 5 c5] 54)) [(wr.heap.size, 54, #[.slice A5 5 c5]), (bx, 24, #[.int .i64 W, .int .i64 H, .slice (some ⟨gp, 0, none⟩) N N])] [(some ⟨gp, 0, none⟩, N, q)] :=
        (((Kp.nil _).addA ((ap.alloc _).arrB (ap.alloc _).lt)).addB (ax.alloc _)).addB k9
      have b5 := b3.alloc b3.size (.cells #[.slice A5 5 c5] 54)
      clear ap ax k9 bn b3 x1 x2 x3 bu
      go_upto_region 10 with fail
      generalize wr.alloc (.cells #[.slice A5 5 c5] 54) = w6 at *
      generalize wr.heap.size = sx at *
      go_cut [18, 19] (fun a b wx => a = .int .i64 U ∧ b = .int .i64 D ∧ wx = w6)
      case first =>
        go_wp2_with fail
        go_meet
        exact ⟨by rw [← HU.out], by rw [← HD.out], rfl⟩
      case rest =>
      obtain ⟨rfl, rfl, hwc⟩ := hcut
      obtain rfl : w6 = wc := hwc.symm
      clear hwc p9 kx hxB
      obtain ⟨LL, hLL⟩ : ∃ LL : Nat → Nat → Int, LL = fun j => L (5 * n1 + j) := ⟨_, rfl⟩
      rw [← hLL] at LC HST
      clear hLL
      have hNm : N ≤ maxLen := by unfold maxLen; omega
      have hhb : 1 ≤ h ∧ h ≤ 640 := by have := HHH.out; omega
      have nbh := (area_bd (W := W) (H := h) (by omega) (by omega) (by omega) hhb.2).2
      have hN2b : (N2 : Int) ≤ 409600 := by have := HN2.out; omega
      have hN2m : N2 ≤ maxLen := by unfold maxLen; omega
      have hmm : ∀ j, j < 5 → (fun _ => k + 1) j ≤ maxLen := fun j _ => by show k + 1 ≤ maxLen; have := HK.out; unfold maxLen; omega
      have ckg : ∀ f : Int → Int, Is01 f → chk W H N f = 0 := fun f hf => chk_01 (by omega) (by omega) (by omega) hH0.2 HN.out fun i _ _ => is01_le hf i
      have cks : ∀ f : Int → Int, Is01 f → chk W h N2 f = 0 := fun f hf => chk_01 (by omega) (by omega) (by omega) hhb.2 HN2.out fun i _ _ => is01_le hf i
      have hrec : ∀ f : Int → Int, Is01 f → recE W H N f 5 (fun _ => k + 1) LL U D = 0 := fun f hf => recE_mk (stChk_mk (ckg f hf) HST) hUb.1 hDb.1 (by have := HHH.out; omega)
      have hres : ∀ f g : Int → Int, Is01 f → Is01 g → resE W H N f W h N2 g 5 (fun _ => k + 1) LL U = 0 := fun f g hf hg => resE_mk (ckg f hf) (cks g hg) HST hUb.1 (by have := HHH.out; omega)
      have sz1 : RSize 0 W H W H N := ⟨fun _ => ⟨rfl, rfl, HN.out⟩, fun h => absurd rfl h⟩
      have sz2 : RSize 0 W (U + D + 1) W h N2 := ⟨fun _ => ⟨rfl, HHH.out, by rw [← HHH.out]; exact HN2.out⟩, fun h => absurd rfl h⟩
      have sz3 : RSize 0 W h W h N2 := ⟨fun _ => ⟨rfl, rfl, HN2.out⟩, fun h => absurd rfl h⟩
      obtain ⟨Q1, hQ1⟩ : ∃ Q, Q = recQ W H q (LL 4) U := ⟨_, rfl⟩
      obtain ⟨Q2, hQ2⟩ : ∃ Q, Q = resQ W H h q Q1 (LL 4) U := ⟨_, rfl⟩
      obtain ⟨Q3, hQ3⟩ : ∃ Q : Int → Int, Q = fun i => 1 - Q1 i := ⟨_, rfl⟩
      obtain ⟨Q4, hQ4⟩ : ∃ Q, Q = resQ W H h q Q3 (LL 4) U := ⟨_, rfl⟩
      obtain ⟨Q5, hQ5⟩ : ∃ Q, Q = recQ W H Q4 (LL 4) U := ⟨_, rfl⟩
      have h1 : Is01 Q1 := by rw [hQ1]; exact recQ_01 hq2
      have h3 : Is01 Q3 := by rw [hQ3]; exact not_01 h1
      have h4 : Is01 Q4 := by rw [hQ4]; exact resQ_01 hq2 h3
      have BH : Hid (∀ i : Int, 0 ≤ i → i < N → Q2 i = q i) := by
        show ∀ _, _
        intro i i0 i1
        rw [hQ2, hQ1]; exact back_home (by omega) i0 (by have := HN.out; omega)
      have BK : Hid (∀ x y : Int, 0 ≤ x → x < W → 0 ≤ y → y < h → Q5 (y * W + x) = if 0 ≤ LL 4 x.toNat - U + y ∧ LL 4 x.toNat - U + y < H then 1 - q ((LL 4 x.toNat - U + y) * W + x) else 0) := by
        show ∀ _, _
        intro x y x0 x1 y0 y1
        rw [hQ5, hQ4, hQ3, hQ1]; exact back_strip x0 x1 y0 y1
      have D1 := Lib.hid fun w' h' hl => rectify_all W H (some ⟨gp, 0, none⟩) A5 N N 5 c5 q (fun _ => k + 1) LL U D 0 W h N2 w' h' hNm (is01_B hq2) hl hmm (hrec q hq2) sz2
      have D2 := Lib.hid fun As cs w' h' hs hl => restore_all W H W h (some ⟨gp, 0, none⟩) As A5 N N N2 cs 5 c5 q Q1 (fun _ => k + 1) LL U 0 W H N w' h' (by omega) hs hN2m hl hmm (hres q Q1 hq2 h1) sz1
      have D3 := Lib.hid fun As cs w' h' => not_all W h As N2 cs Q1 0 W h N2 w' h' hN2m (is01_B h1) (cks Q1 h1) sz3
      have D4 := Lib.hid fun As cs w' h' hs hl => restore_all W H W h (some ⟨gp, 0, none⟩) As A5 N N N2 cs 5 c5 q Q3 (fun _ => k + 1) LL U 0 W H N w' h' (by omega) hs hN2m hl hmm (hres q Q3 hq2 h3) sz1
      have D5 := Lib.hid fun As cs w' h' hl => rectify_all W H As A5 N cs 5 c5 Q4 (fun _ => k + 1) LL U D 0 W h N2 w' h' hNm (is01_B h4) hl hmm (hrec Q4 h4) sz2
      rw [← hQ1] at D1
      rw [← hQ2] at D2
      rw [← hQ3] at D3
      rw [← hQ4] at D4
      rw [← hQ5] at D5
      have hne : (h != U + D + 1) = false := by have := HHH.out; simp [this]
      have hUV := hUb.1; have hUV2 := hUb.2; have hDV := hDb.1; have hDV2 := hDb.2
      have PT := Lib.hid ((isPathB_iff.1 (HST.2.1 4 (by omega))).2)
      clear hQ1 hQ2 hQ3 hQ4 hQ5 hrec hres ckg cks sz1 sz2 sz3 hmm HST
      obtain ⟨p1, p2, p3⟩ := (K0.b 1 rfl).cells3
      have u1 := (K0.b 0 rfl).cells0
      go_wp2_with fail
      refine (D1.out _ (K0.a 0 rfl) LC).mono ?_
      rintro e v6 ⟨_, rfl, ⟨Astrip, cstrip, rfl, hgstrip, astrip⟩, hb6⟩
      have K6a := (K0.below hb6).addA astrip
      have b6a := below_call b5 b5.size hb6
      have z6 := b6a.size
      have b6 : Below w.heap.size w (v6.alloc (.cells #[.int .i64 W, .int .i64 h, .slice Astrip N2 cstrip] 24)) := by (repeat (first | exact Below.refl _ _ | assumption | refine Below.drew ?_ | refine below_drewN ?_ _ | refine Below.alloc ?_ (by first | omega | (simp; done) | (simp; omega)) _ | refine Below.setCell ?_ (by first | omega | (simp; done) | (simp; omega)) _ | refine below_setRow ?_ (by first | omega | (simp; done) | (simp; omega)) _ ))
      have K6 := K6a.new 24 #[.int .i64 W, .int .i64 h, .slice Astrip N2 cstrip]
      replace LC := (LC.below hb6).below ((Below.refl _ _).alloc (Nat.le_refl _) (.cells #[.int .i64 W, .int .i64 h, .slice Astrip N2 cstrip] 24))
      clear K0 b5 K6a b6a hb6 astrip hgstrip p1 p2 p3 u1 z6 D1
      obtain ⟨p1, p2, p3⟩ := (K6.b 2 rfl).cells3
      obtain ⟨r1, r2, r3⟩ := (K6.b 0 rfl).cells3
      have u1 := (K6.b 1 rfl).cells0
      go_wp2_with fail
      generalize v6.alloc (.cells #[.int .i64 W, .int .i64 h, .slice Astrip N2 cstrip] 24) = w6 at *
      refine (D2.out _ _ _ (K6.a 1 rfl) (K6.a 0 rfl) LC).mono ?_
      rintro e v7 ⟨_, rfl, ⟨Ahome, chome, rfl, hghome, ahome⟩, hb7⟩
      have K7a := (K6.below hb7).addA ahome
      have b7a := below_call b6 b6.size hb7
      have z7 := b7a.size
      have b7 : Below w.heap.size w (v7.alloc (.cells #[.int .i64 W, .int .i64 H, .slice Ahome N chome] 24)) := by (repeat (first | exact Below.refl _ _ | assumption | refine Below.drew ?_ | refine below_drewN ?_ _ | refine Below.alloc ?_ (by first | omega | (simp; done) | (simp; omega)) _ | refine Below.setCell ?_ (by first | omega | (simp; done) | (simp; omega)) _ | refine below_setRow ?_ (by first | omega | (simp; done) | (simp; omega)) _ ))
      have K7 := K7a.new 24 #[.int .i64 W, .int .i64 H, .slice Ahome N chome]
      replace LC := (LC.below hb7).below ((Below.refl _ _).alloc (Nat.le_refl _) (.cells #[.int .i64 W, .int .i64 H, .slice Ahome N chome] 24))
      clear K6 b6 K7a b7a hb7 ahome hghome p1 p2 p3 r1 r2 r3 u1 z7 D2
      obtain ⟨p1, p2, p3⟩ := (K7.b 1 rfl).cells3
      obtain ⟨r1, r2, r3⟩ := (K7.b 3 rfl).cells3
      obtain ⟨s1, s2, s3⟩ := (K7.b 0 rfl).cells3
      go_wp2_with fail
      generalize v7.alloc (.cells #[.int .i64 W, .int .i64 H, .slice Ahome N chome] 24) = w7 at *
      refine (sameInk_true W H Ahome (some ⟨gp, 0, none⟩) N chome N _ q _ (K7.a 0 rfl) (K7.a 2 rfl) hNm BH.out).mono ?_
      rintro e v8 ⟨rfl, hb8⟩
      replace LC := LC.below hb8
      have K8 := K7.below hb8
      have b8 := below_call b7 b7.size hb8
      clear K7 b7 hb8 p1 p2 p3 r1 r2 r3 s1 s2 s3 
      obtain ⟨p1, p2, p3⟩ := (K8.b 1 rfl).cells3
      go_wp2_with fail
      refine (D3.out _ _ _ (K8.a 1 rfl)).mono ?_
      rintro e v9 ⟨_, rfl, ⟨Anot, cnot, rfl, hgnot, anot⟩, hb9⟩
      have K9a := (K8.below hb9).addA anot
      have b9a := below_call b8 b8.size hb9
      have z9 := b9a.size
      have b9 : Below w.heap.size w (v9.alloc (.cells #[.int .i64 W, .int .i64 h, .slice Anot N2 cnot] 24)) := by (repeat (first | exact Below.refl _ _ | assumption | refine Below.drew ?_ | refine below_drewN ?_ _ | refine Below.alloc ?_ (by first | omega | (simp; done) | (simp; omega)) _ | refine Below.setCell ?_ (by first | omega | (simp; done) | (simp; omega)) _ | refine below_setRow ?_ (by first | omega | (simp; done) | (simp; omega)) _ ))
      have K9 := K9a.new 24 #[.int .i64 W, .int .i64 h, .slice Anot N2 cnot]
      replace LC := (LC.below hb9).below ((Below.refl _ _).alloc (Nat.le_refl _) (.cells #[.int .i64 W, .int .i64 h, .slice Anot N2 cnot] 24))
      clear K8 b8 K9a b9a hb9 anot hgnot p1 p2 p3 z9 D3
      obtain ⟨p1, p2, p3⟩ := (K9.b 4 rfl).cells3
      obtain ⟨r1, r2, r3⟩ := (K9.b 0 rfl).cells3
      have u1 := (K9.b 3 rfl).cells0
      go_wp2_with fail
      generalize v9.alloc (.cells #[.int .i64 W, .int .i64 h, .slice Anot N2 cnot] 24) = w9 at *
      refine (D4.out _ _ _ (K9.a 3 rfl) (K9.a 0 rfl) LC).mono ?_
      rintro e v10 ⟨_, rfl, ⟨Aother, cother, rfl, hgother, aother⟩, hb10⟩
      have K10a := (K9.below hb10).addA aother
      have b10a := below_call b9 b9.size hb10
      have z10 := b10a.size
      have b10 : Below w.heap.size w (v10.alloc (.cells #[.int .i64 W, .int .i64 H, .slice Aother N cother] 24)) := by (repeat (first | exact Below.refl _ _ | assumption | refine Below.drew ?_ | refine below_drewN ?_ _ | refine Below.alloc ?_ (by first | omega | (simp; done) | (simp; omega)) _ | refine Below.setCell ?_ (by first | omega | (simp; done) | (simp; omega)) _ | refine below_setRow ?_ (by first | omega | (simp; done) | (simp; omega)) _ ))
      have K10 := K10a.new 24 #[.int .i64 W, .int .i64 H, .slice Aother N cother]
      replace LC := (LC.below hb10).below ((Below.refl _ _).alloc (Nat.le_refl _) (.cells #[.int .i64 W, .int .i64 H, .slice Aother N cother] 24))
      clear K9 b9 K10a b10a hb10 aother hgother p1 p2 p3 r1 r2 r3 u1 z10 D4
      obtain ⟨p1, p2, p3⟩ := (K10.b 0 rfl).cells3
      have u1 := (K10.b 4 rfl).cells0
      go_wp2_with fail
      generalize v10.alloc (.cells #[.int .i64 W, .int .i64 H, .slice Aother N cother] 24) = w10 at *
      refine (D5.out _ _ _ (K10.a 0 rfl) LC).mono ?_
      rintro e v11 ⟨_, rfl, ⟨Aback, cback, rfl, hgback, aback⟩, hb11⟩
      have K11a := (K10.below hb11).addA aback
      have b11a := below_call b10 b10.size hb11
      have z11 := b11a.size
      have b11 : Below w.heap.size w (v11.alloc (.cells #[.int .i64 W, .int .i64 h, .slice Aback N2 cback] 24)) := by (repeat (first | exact Below.refl _ _ | assumption | refine Below.drew ?_ | refine below_drewN ?_ _ | refine Below.alloc ?_ (by first | omega | (simp; done) | (simp; omega)) _ | refine Below.setCell ?_ (by first | omega | (simp; done) | (simp; omega)) _ | refine below_setRow ?_ (by first | omega | (simp; done) | (simp; omega)) _ ))
      have K11 := K11a.new 24 #[.int .i64 W, .int .i64 h, .slice Aback N2 cback]
      replace LC := (LC.below hb11).below ((Below.refl _ _).alloc (Nat.le_refl _) (.cells #[.int .i64 W, .int .i64 h, .slice Aback N2 cback] 24))
      clear K10 b10 K11a b11a hb11 aback hgback p1 p2 p3 u1 z11 D5
      obtain ⟨p1, p2, p3⟩ := (K11.b 4 rfl).cells3
      obtain ⟨r1, r2, r3⟩ := (K11.b 6 rfl).cells3
      obtain ⟨s1, s2, s3⟩ := (K11.b 0 rfl).cells3
      have u1 := (K11.b 5 rfl).cells0
      go_wp2_with fail
      generalize v11.alloc (.cells #[.int .i64 W, .int .i64 h, .slice Aback N2 cback] 24) = w11 at *
      have AKb := Lib.hid (K11.a 0 rfl)
      have AKg := Lib.hid (K11.a 5 rfl)
      obtain ⟨bA, oA, A4, c4, rfl, hbA, hcA, haA⟩ := LC.at_ (i := 4) (by omega)
      obtain ⟨b5', o5, rfl, hb5', hcl⟩ := ArrI.fn haA (by show 0 < k + 1; omega)
      have HCL := Lib.hid hcl
      clear hcl LC K11
      go_loop [158] (fun s => ∃ y : Nat, (y : Int) ≤ h ∧ s = .int .i64 y) (fun s => (h - intOf s).toNat)
      case atStart => exact ⟨0, by omega, rfl⟩
      case round =>
        obtain ⟨y, hy, rfl⟩ := hrel
        by_cases yl : (y : Int) < h
        · go_wp2_with fail
          go_loop [163] (fun s => ∃ x : Nat, (x : Int) ≤ W ∧ s = .int .i64 x) (fun s => (W - intOf s).toNat)
          case atStart => exact ⟨0, by omega, rfl⟩
          case round =>
            obtain ⟨x, hx, rfl⟩ := hrel
            by_cases xl : (x : Int) < W
            · have xk : (x : Int) < ((k + 1 : Nat) : Int) := by have := HK.out; omega
              have xk2 : (x : Int) < (k : Int) + 1 := by have := HK.out; omega
              have lx := HCL.out x (by omega) xk
              rw [Int.toNat_natCast] at lx
              obtain ⟨pb1, pb2, -⟩ := stepB_iff.1 (PT.out x (by omega) xk)
              rw [Int.toNat_natCast] at pb1 pb2
              have BX := BK.out x y (by omega) xl (by omega) yl
              rw [Int.toNat_natCast] at BX
              generalize LL 4 x = l at *
              obtain ⟨j1, j2, j3⟩ := idx_lt (x := (x : Int)) (y := (y : Int)) (W := W) (H := h) (by omega) xl (by omega) yl
              rw [Int.mul_comm h W] at j2
              have j4 : (y : Int) * W + x < (N2 : Int) := by have := HN2.out; omega
              obtain ⟨bb, ob, rfl, hbb, hcb⟩ := ArrB.at_ AKb.out j1 j4
              by_cases hin : 0 ≤ l - U + (y : Int) ∧ l - U + (y : Int) < H
              · rw [if_pos hin] at BX
                obtain ⟨hi1, hi2⟩ := hin
                have d1 : decide (0 ≤ l - U + (y : Int)) = true := decide_eq_true hi1
                have d2 : decide (l - U + (y : Int) < H) = true := decide_eq_true hi2
                obtain ⟨i1, i2, i3⟩ := idx_lt (x := (x : Int)) (y := l - U + (y : Int)) (W := W) (H := H) (by omega) xl hi1 hi2
                rw [Int.mul_comm H W] at i2
                have i4 : (l - U + (y : Int)) * W + x < (N : Int) := by have := HN.out; omega
                obtain ⟨bg, og, eg, hbg, hcg⟩ := ArrB.at_ AKg.out i1 i4
                injection eg with eg
                injection eg with eg1 eg2
                subst eg1 eg2
                rw [Nat.zero_add] at hcg
                rw [BX] at hcb
                have hv := hq2 ((l - U + (y : Int)) * W + x)
                generalize q ((l - U + (y : Int)) * W + x) = v at *
                have hw : IntKind.u8.wrap (1 - v) = 1 - v := by rcases hv with rfl | rfl <;> rfl
                have HV := Lib.hid hv
                clear hv BX
                go_wp2_with fail
                go_round
                case rel => exact ⟨x + 1, by omega, by go_num⟩
                case measure => simp [intOf]; omega
              · rw [if_neg hin] at BX
                rw [BX] at hcb
                clear BX
                by_cases h0 : 0 ≤ l - U + (y : Int)
                · have hh2 : ¬ l - U + (y : Int) < H := fun h3 => hin ⟨h0, h3⟩
                  have d1 : decide (0 ≤ l - U + (y : Int)) = true := decide_eq_true h0
                  have d2 : decide (l - U + (y : Int) < H) = false := decide_eq_false hh2
                  clear hin
                  go_wp2_with fail
                  go_round
                  case rel => exact ⟨x + 1, by omega, by go_num⟩
                  case measure => simp [intOf]; omega
                · have d1 : decide (0 ≤ l - U + (y : Int)) = false := decide_eq_false h0
                  clear hin
                  go_wp2_with fail
                  go_round
                  case rel => exact ⟨x + 1, by omega, by go_num⟩
                  case measure => simp [intOf]; omega
            · go_wp2_with fail
              go_round
              case rel => exact ⟨y + 1, by omega, by go_num⟩
              case measure => simp [intOf]; omega
        · go_wp2_with fail
          refine (AW.out _).mono ?_
          rintro e w20 ⟨rfl, hb20⟩
          have b20 := below_call b11 b11.size hb20
          go_wp2
          go_ret
          exact ⟨rfl, b20⟩
end Go.Proofs.Ytdimlpcbbkokiaa
