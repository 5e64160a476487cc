/- Walk: the reference's lines (custosref03.Trace). -/
import Derived.Test.YtdimlpcbbkokiaaT23
import Derived.Test.YtdimlpcbbkokiaaS9
import Derived.Deep.CutBlock
namespace Go.Proofs.Ytdimlpcbbkokiaa
open Go.RowKit Go.Shelf
set_option linter.unusedVariables false
attribute [local go_sem] Oper.semAt_some

/-- truth values as pixels -/
def b01 (f : Int → Bool) : Int → Int := fun i => if f i = true then 1 else 0
theorem b01_set {f : Int → Bool} {g : Int → Bool} (i : Int) (h : ∀ j, (if j = i then true else f j) = g j) (j : Int) : upd (b01 f) i 1 j = b01 g j := by
  unfold upd b01
  rw [← h j]
  by_cases e : j = i
  · rw [if_pos e, if_pos e, if_pos rfl]
  · rw [if_neg e, if_neg e]
theorem b01_congr {f g : Int → Bool} {i : Int} (h : f i = g i) : b01 f i = b01 g i := by unfold b01; rw [h]
theorem b01_ink {W H : Int} {f : Int → Bool} {x y : Int} (x0 : 0 ≤ x) (x1 : x < W) (y0 : 0 ≤ y) (y1 : y < H) : inkB W H (b01 f) x y = f (y * W + x) := by
  rw [inkB_in x0 x1 y0 y1]
  unfold b01
  cases f (y * W + x) <;> simp

theorem Found.drew {B : Nat} {w : World} {m : Nat} {ln : Nat → Nat → Int} {k : Nat} {vo : Value} {v : Nat → Value} (h : Found B w m ln k vo v) : Found B w.drew m ln k vo v := ⟨h.row, h.lines⟩
theorem Found.grownBlk {B : Nat} {w w' : World} {m g t : Nat} {cs : Array Value} {ln : Nat → Nat → Int} {k : Nat} {vo : Value} {v : Nat → Value} (h : Found B w m ln k vo v) (hb : Blk w g t cs) (h1 : t ≠ 25) (h2 : t ≠ 3) (hg : w.grownBy w' (some g)) : Found B w' m ln k vo v :=
  ⟨own_move h.row fun j hj => hg.block j (own_ge h.row hj).2 fun e => own_neB h.row hb h1 (by rw [← e]; exact hj.symm), fun i hi => own_move (h.lines i hi) fun j hj => hg.block j (own_ge (h.lines i hi) hj).2 fun e => own_neB (h.lines i hi) hb h2 (by rw [← e]; exact hj.symm)⟩

set_option maxRecDepth 100000 in
set_option maxHeartbeats 4000000 in
theorem rtrace_ok (W H : Int) (A : Option Addr) (n c : Nat) (p : Int → Int) (w : World) (hA : ArrB w w.heap.size A n p) (hE : chk W H n p = 0) (hW : 1 ≤ W) (hH : 1 ≤ H) :
    Calls Try.prog 23 #[.agg #[.int .i64 W, .int .i64 H, .slice A n c]] w (New w fun v w' => TraceOut w W H p v w') := by
  obtain ⟨Wn, hWn⟩ : ∃ Wn : Nat, W = Wn := ⟨W.toNat, by omega⟩
  obtain ⟨Hn, hHn⟩ : ∃ Hn : Nat, H = Hn := ⟨H.toNat, by omega⟩
  subst hWn
  subst hHn
  obtain ⟨hW1, hW2, hH1, hH2, hnn, -⟩ := chk_ok hE
  obtain ⟨m1, m2⟩ := area_bd hW1 hW2 hH1 hH2
  have RN := Lib.hid fun w' => rnew_any Wn Hn n w' hW1 hW2 hH1 hH2 hnn
  have BE := Lib.hid fun k A' c' w' hA' hF' => rbest_any Wn Hn Wn Hn A A' n c n c' p (b01 (FB 1073741824 Wn Hn (cst p Wn) k)) (fun x y => FB 1073741824 Wn Hn (cst p Wn) k (y * Wn + x)) w' hA' hE hF' hnn (fun x y x0 x1 y0 y1 => b01_ink x0 x1 y0 y1) hW hH rfl rfl
  have RLQ := Lib.hid fun k => rleast_eq (N := 1073741824) (M := 1000000000) (W := Wn) (H := Hn) (c := cst p Wn) (F := fun x y => FB 1073741824 Wn Hn (cst p Wn) k (y * Wn + x)) (cst_bd p Wn) (by omega) (by omega) (by omega) (by omega)
  have CO := Lib.hid fun (l : Int → Int) P' d' w' hA' hP' hI => rcostOf_any Wn Hn A P' n c Wn d' p l w' hA' hP' hE hI
  have bW : ((Wn : Int) == 0) = false := by simp; omega
  have bH : ((Hn : Int) == 0) = false := by simp; omega
  have HNN := Lib.hid hnn
  clear hE hnn
  go_enter Try.func23, Try.ntmps23
  go_wp2_with fail
  refine (RN.out _).mono ?_
  rintro e w1 ⟨_, rfl, ⟨gp, rfl, hgp, kp⟩, hb1⟩
  have k1 : Blk w1 w.heap.size 24 #[.int .i64 Wn, .int .i64 Hn, .slice A n c] := (Blk.new _ _ _).below' hb1
  have b1 : Below w.heap.size w w1 := below_call (by (repeat (first | exact Below.refl _ _ | assumption | refine Below.drew ?_ | refine below_drewN ?_ _ | refine Below.alloc ?_ (by first | omega | (simp; done) | (simp; omega)) _ | refine Below.setCell ?_ (by first | omega | (simp; done) | (simp; omega)) _ | refine below_setRow ?_ (by first | omega | (simp; done) | (simp; omega)) _ ))) (by simp; try omega) hb1
  have z1 := kp.lt
  have z2 : w.heap.size < gp := by simp at hgp; omega
  have z3 := k1.lt
  clear hb1
  have k2 := k1.alloc (.cells #[.int .i64 Wn, .int .i64 Hn, .slice (some ⟨gp, 0, none⟩) n n] 24)
  have kx2 := Blk.new w1 24 #[.int .i64 Wn, .int .i64 Hn, .slice (some ⟨gp, 0, none⟩) n n]
  have kp2 : Blk (w1.alloc (.cells #[.int .i64 Wn, .int .i64 Hn, .slice (some ⟨gp, 0, none⟩) n n] 24)) gp 5 (u8s n (b01 (FB 1073741824 Wn Hn (cst p Wn) 0))) := (kp.alloc _).u8conv fun _ _ _ => rfl
  have b2 : Below w.heap.size w (w1.alloc (.cells #[.int .i64 Wn, .int .i64 Hn, .slice (some ⟨gp, 0, none⟩) n n] 24)) := b1.alloc b1.size _
  have F2 : Found w.heap.size (w1.alloc (.cells #[.int .i64 Wn, .int .i64 Hn, .slice (some ⟨gp, 0, none⟩) n n] 24)) Wn (LN 1073741824 Wn Hn (cst p Wn)) 0 (.slice none 0 0) (fun _ => .slice none 0 0) := ⟨World.ownsRow_nil _ _ _ _, fun i hi => by omega⟩
  have k2 := k1.alloc (.cells #[.int .i64 Wn, .int .i64 Hn, .slice (some ⟨gp, 0, none⟩) n n] 24)
  have kx2 := Blk.new w1 24 #[.int .i64 Wn, .int .i64 Hn, .slice (some ⟨gp, 0, none⟩) n n]
  have kp2 : Blk (w1.alloc (.cells #[.int .i64 Wn, .int .i64 Hn, .slice (some ⟨gp, 0, none⟩) n n] 24)) gp 5 (u8s n (b01 (FB 1073741824 Wn Hn (cst p Wn) 0))) := (kp.alloc _).u8conv fun _ _ _ => rfl
  have b2 : Below w.heap.size w (w1.alloc (.cells #[.int .i64 Wn, .int .i64 Hn, .slice (some ⟨gp, 0, none⟩) n n] 24)) := b1.alloc b1.size _
  have F2 : Found w.heap.size (w1.alloc (.cells #[.int .i64 Wn, .int .i64 Hn, .slice (some ⟨gp, 0, none⟩) n n] 24)) Wn (LN 1073741824 Wn Hn (cst p Wn)) 0 (.slice none 0 0) (fun _ => .slice none 0 0) := ⟨World.ownsRow_nil _ _ _ _, fun i hi => by omega⟩
  have k2 := k1.alloc (.cells #[.int .i64 Wn, .int .i64 Hn, .slice (some ⟨gp, 0, none⟩) n n] 24)
  have kx2 := Blk.new w1 24 #[.int .i64 Wn, .int .i64 Hn, .slice (some ⟨gp, 0, none⟩) n n]
  have kp2 : Blk (w1.alloc (.cells #[.int .i64 Wn, .int .i64 Hn, .slice (some ⟨gp, 0, none⟩) n n] 24)) gp 5 (u8s n (b01 (FB 1073741824 Wn Hn (cst p Wn) 0))) := (kp.alloc _).u8conv fun _ _ _ => rfl
  have b2 : Below w.heap.size w (w1.alloc (.cells #[.int .i64 Wn, .int .i64 Hn, .slice (some ⟨gp, 0, none⟩) n n] 24)) := b1.alloc b1.size _
  have F2 : Found w.heap.size (w1.alloc (.cells #[.int .i64 Wn, .int .i64 Hn, .slice (some ⟨gp, 0, none⟩) n n] 24)) Wn (LN 1073741824 Wn Hn (cst p Wn)) 0 (.slice none 0 0) (fun _ => .slice none 0 0) := ⟨World.ownsRow_nil _ _ _ _, fun i hi => by omega⟩
  have k2 := k1.alloc (.cells #[.int .i64 Wn, .int .i64 Hn, .slice (some ⟨gp, 0, none⟩) n n] 24)
  have kx2 := Blk.new w1 24 #[.int .i64 Wn, .int .i64 Hn, .slice (some ⟨gp, 0, none⟩) n n]
  have kp2 : Blk (w1.alloc (.cells #[.int .i64 Wn, .int .i64 Hn, .slice (some ⟨gp, 0, none⟩) n n] 24)) gp 5 (u8s n (b01 (FB 1073741824 Wn Hn (cst p Wn) 0))) := (kp.alloc _).u8conv fun _ _ _ => rfl
  have b2 : Below w.heap.size w (w1.alloc (.cells #[.int .i64 Wn, .int .i64 Hn, .slice (some ⟨gp, 0, none⟩) n n] 24)) := b1.alloc b1.size _
  have F2 : Found w.heap.size (w1.alloc (.cells #[.int .i64 Wn, .int .i64 Hn, .slice (some ⟨gp, 0, none⟩) n n] 24)) Wn (LN 1073741824 Wn Hn (cst p Wn)) 0 (.slice none 0 0) (fun _ => .slice none 0 0) := ⟨World.ownsRow_nil _ _ _ _, fun i hi => by omega⟩
  have k2 := k1.alloc (.cells #[.int .i64 Wn, .int .i64 Hn, .slice (some ⟨gp, 0, none⟩) n n] 24)
  have kx2 := Blk.new w1 24 #[.int .i64 Wn, .int .i64 Hn, .slice (some ⟨gp, 0, none⟩) n n]
  have kp2 : Blk (w1.alloc (.cells #[.int .i64 Wn, .int .i64 Hn, .slice (some ⟨gp, 0, none⟩) n n] 24)) gp 5 (u8s n (b01 (FB 1073741824 Wn Hn (cst p Wn) 0))) := (kp.alloc _).u8conv fun _ _ _ => rfl
  have b2 : Below w.heap.size w (w1.alloc (.cells #[.int .i64 Wn, .int .i64 Hn, .slice (some ⟨gp, 0, none⟩) n n] 24)) := b1.alloc b1.size _
  have F2 : Found w.heap.size (w1.alloc (.cells #[.int .i64 Wn, .int .i64 Hn, .slice (some ⟨gp, 0, none⟩) n n] 24)) Wn (LN 1073741824 Wn Hn (cst p Wn)) 0 (.slice none 0 0) (fun _ => .slice none 0 0) := ⟨World.ownsRow_nil _ _ _ _, fun i hi => by omega⟩
  have k2 := k1.alloc (.cells #[.int .i64 Wn, .int .i64 Hn, .slice (some ⟨gp, 0, none⟩) n n] 24)
  have kx2 := Blk.new w1 24 #[.int .i64 Wn, .int .i64 Hn, .slice (some ⟨gp, 0, none⟩) n n]
  have kp2 : Blk (w1.alloc (.cells #[.int .i64 Wn, .int .i64 Hn, .slice (some ⟨gp, 0, none⟩) n n] 24)) gp 5 (u8s n (b01 (FB 1073741824 Wn Hn (cst p Wn) 0))) := (kp.alloc _).u8conv fun _ _ _ => rfl
  have b2 : Below w.heap.size w (w1.alloc (.cells #[.int .i64 Wn, .int .i64 Hn, .slice (some ⟨gp, 0, none⟩) n n] 24)) := b1.alloc b1.size _
  have F2 : Found w.heap.size (w1.alloc (.cells #[.int .i64 Wn, .int .i64 Hn, .slice (some ⟨gp, 0, none⟩) n n] 24)) Wn (LN 1073741824 Wn Hn (cst p Wn)) 0 (.slice none 0 0) (fun _ => .slice none 0 0) := ⟨World.ownsRow_nil _ _ _ _, fun i hi => by omega⟩
  have k2 := k1.alloc (.cells #[.int .i64 Wn, .int .i64 Hn, .slice (some ⟨gp, 0, none⟩) n n] 24)
  have kx2 := Blk.new w1 24 #[.int .i64 Wn, .int .i64 Hn, .slice (some ⟨gp, 0, none⟩) n n]
  have kp2 : Blk (w1.alloc (.cells #[.int .i64 Wn, .int .i64 Hn, .slice (some ⟨gp, 0, none⟩) n n] 24)) gp 5 (u8s n (b01 (FB 1073741824 Wn Hn (cst p Wn) 0))) := (kp.alloc _).u8conv fun _ _ _ => rfl
  have b2 : Below w.heap.size w (w1.alloc (.cells #[.int .i64 Wn, .int .i64 Hn, .slice (some ⟨gp, 0, none⟩) n n] 24)) := b1.alloc b1.size _
  have F2 : Found w.heap.size (w1.alloc (.cells #[.int .i64 Wn, .int .i64 Hn, .slice (some ⟨gp, 0, none⟩) n n] 24)) Wn (LN 1073741824 Wn Hn (cst p Wn)) 0 (.slice none 0 0) (fun _ => .slice none 0 0) := ⟨World.ownsRow_nil _ _ _ _, fun i hi => by omega⟩
  go_upto_block 0 with fail
  generalize w1.alloc (.cells #[.int .i64 Wn, .int .i64 Hn, .slice (some ⟨gp, 0, none⟩) n n] 24) = w2 at *
  generalize w1.heap.size = gx at *
  clear k1 b1 kp
  have NE : Hid (gp ≠ gx ∧ w.heap.size ≠ gx ∧ w.heap.size ≠ gp) := by show _ ∧ _; omega
  go_cut [3] from 25 to 80 (fun vo wx => ∃ (k : Nat) (v : Nat → Value), Many 1073741824 Wn Hn (cst p Wn) k ∧ Found w.heap.size wx Wn (LN 1073741824 Wn Hn (cst p Wn)) k vo v ∧ Below w.heap.size w wx ∧ Blk wx w.heap.size 24 #[.int .i64 Wn, .int .i64 Hn, .slice A n c])
  case first =>
    obtain ⟨i0, hi0, hz0, hz1, hz2⟩ := info_parts infoInts
    go_wp2_with fail
    go_loopw [3] (fun vo wr => ∃ (k : Nat) (v : Nat → Value), k ≤ 60 ∧ (∀ j, j < k → Good 1073741824 Wn Hn (cst p Wn) j) ∧ Found w.heap.size wr Wn (LN 1073741824 Wn Hn (cst p Wn)) k vo v ∧ Below w.heap.size w wr ∧ Blk wr w.heap.size 24 #[.int .i64 Wn, .int .i64 Hn, .slice A n c] ∧ Blk wr gx 24 #[.int .i64 Wn, .int .i64 Hn, .slice (some ⟨gp, 0, none⟩) n n] ∧ Blk wr gp 5 (u8s n (b01 (FB 1073741824 Wn Hn (cst p Wn) k)))) (fun vo _ => 60 - lenV vo)
    case atStart => exact ⟨0, _, by omega, fun j hj => by omega, F2, b2, k2, kx2, kp2⟩
    case round =>
      obtain ⟨k, v, hk, hg, hF, b3, ki, kx, kf⟩ := hrel
      clear b2 k2 kx2 kp2 F2
      have rl := own_len hF.row
      obtain ⟨Ao, co, rfl, -, -⟩ := own_arr hF.row
      obtain ⟨p1, p2, p3⟩ := ki.cells3
      obtain ⟨r1, r2, r3⟩ := kx.cells3
      have a3 := hA.to b3
      have HK := Lib.hid hk
      have z5 := kx.lt
      have z6 := b3.size
      clear hk
      by_cases h60 : (k : Int) < 60
      · have RLk := Lib.hid (show (GC 1073741824 Wn Hn (cst p Wn) k < 1073741824 ∧ rleast 1000000000 Wn Hn (cst p Wn) (fun x y => FB 1073741824 Wn Hn (cst p Wn) k (y * Wn + x)) = GC 1073741824 Wn Hn (cst p Wn) k ∧ rleast 1000000000 Wn Hn (cst p Wn) (fun x y => FB 1073741824 Wn Hn (cst p Wn) k (y * Wn + x)) < 1000000000) ∨ (GC 1073741824 Wn Hn (cst p Wn) k = 1073741824 ∧ rleast 1000000000 Wn Hn (cst p Wn) (fun x y => FB 1073741824 Wn Hn (cst p Wn) k (y * Wn + x)) = 1000000000) from RLQ.out k)
        go_wp2_with fail
        refine (BE.out k (some ⟨gp, 0, none⟩) n _ a3 (kf.arrB kf.lt)).mono ?_
        rintro e w6 ⟨_, rfl, hout, hb6⟩
        have F6 := hF.below hb6
        have b6 := below_call b3 b3.size hb6
        have k6 := ki.below' hb6
        have kx6 := kx.below' hb6
        have kf6 := kf.below' hb6
        have z9 := b6.size
        clear hF b3 ki kx kf hb6 a3 p1 p2 p3 r1 r2 r3
        obtain ⟨p1, p2, p3⟩ := k6.cells3
        obtain ⟨r1, r2, r3⟩ := kx6.cells3
        rcases hout with ⟨hN, rfl⟩ | ⟨hlt, vp, rfl, hown⟩
        · have HN2 := Lib.hid hN
          clear hN
          have MK : Hid (Many 1073741824 Wn Hn (cst p Wn) k) := by
            show Many _ _ _ _ _
            exact ⟨HK.out, hg, fun _ h => by have := h.1; have := RLk.out; have := HN2.out; omega⟩
          go_wp2_with fail
          go_quiet (fail)
          go_wp2_with fail
          go_meet
          exact ⟨k, v, MK.out, F6.below (drewN_below _), below_drewN b6 _, k6.drewN _⟩
        · have hlg : GC 1073741824 Wn Hn (cst p Wn) k < 1073741824 := by have := RLk.out; omega
          replace hown : w6.ownsRow wr.heap.size 3 1 vp Wn ((List.range Wn).map fun j => Value.int .i64 (LN 1073741824 Wn Hn (cst p Wn) k j)) := hown
          obtain ⟨g, cp, rfl⟩ := own_some hown (by omega)
          obtain ⟨A6, c6, e6, ha6⟩ := own_arrI hown
          cases e6
          have PB := ln_pathB2 (p := p) (k := k) hW (by omega) hH hlg
          have LC := ln_cost (N := 1073741824) (W := Wn) (H := Hn) (c := cst p Wn) (k := k) (cst_bd p Wn) (by omega) (by omega) (by omega) hlg
          have CB := costP_bd (cst_bd p Wn) (fun i => LN 1073741824 Wn Hn (cst p Wn) k i.toNat) Wn
          rw [Int.toNat_natCast] at PB LC
          have COk := Lib.hid fun P' d' w' hA' hP' => CO.out (fun j => LN 1073741824 Wn Hn (cst p Wn) k j.toNat) P' d' w' hA' hP' PB
          rw [LC] at COk CB
          have PL := Lib.hid fun (x : Nat) (hx : (x : Int) < Wn) => ln_ok (cst_bd p Wn) (by omega) (by omega) (by omega) hlg x hx
          have GD := Lib.hid (show 8 * GC 1073741824 Wn Hn (cst p Wn) k ≤ Wn → Good 1073741824 Wn Hn (cst p Wn) k from fun h => ⟨hlg, h⟩)
          have NG := Lib.hid (show ¬ 8 * GC 1073741824 Wn Hn (cst p Wn) k ≤ Wn → ¬ Good 1073741824 Wn Hn (cst p Wn) k from fun h g => h g.2)
          generalize GC 1073741824 Wn Hn (cst p Wn) k = C at *
          obtain ⟨CB1, CB2⟩ := CB
          have v1 : IntKind.i64.wrap (8 * C) = 8 * C := IntWalk.i64_in _ (by omega)
          have B6 := Lib.hid b6; have K6 := Lib.hid k6; have KX6 := Lib.hid kx6; have KF6 := Lib.hid kf6; have FF6 := Lib.hid F6; have HO := Lib.hid hown; have HA6 := Lib.hid ha6
          clear b6 kx6 kf6 F6 hown ha6 PB LC hlt RLk BE
          go_wp2_with fail
          go_region_held3 (fun w' => w'.cell? ⟨w.heap.size, 0, none⟩ = some (.int .i64 Wn) ∧ w'.cell? ⟨w.heap.size, 1, none⟩ = some (.int .i64 Hn) ∧ w'.cell? ⟨w.heap.size, 2, none⟩ = some (.slice A n c))
            (first | (simp [go_sem, *]; done) | (go_keep; done))
            ((go_at_call 62
              refine (COk.out _ _ _ (hA.to B6.out.drew) (show ArrI w6.drew w6.drew.heap.size _ _ _ from HA6.out)).mono ?_
              rintro e w7 ⟨rfl, hb7⟩
              have b7 := below_call B6.out.drew B6.out.drew.size hb7
              have k7 := K6.out.drew.below' hb7
              have kx7 := KX6.out.drew.below' hb7
              have kf7 := KF6.out.drew.below' hb7
              have F7 := FF6.out.drew.below hb7
              have own7 := own_below (w := w6.drew) HO.out hb7
              obtain ⟨x1, x2, x3⟩ := k7.cells3))
          clear p1 p2 p3 r1 r2 r3 k6
          obtain ⟨p1, p2, p3⟩ := k7.cells3
          obtain ⟨r1, r2, r3⟩ := kx7.cells3
          by_cases hc : 8 * C ≤ Wn
          · have dc : decide ((Wn : Int) < 8 * C) = false := decide_eq_false (by omega)
            go_wp2_with (at_builtin; refine wpList_append_own _ rfl (.tmp 45) (.tmp 47) 34 rfl w.heap.size 25 i0 (.slice none 0 0) 1 24 Try.underlying34 hi0 hz0 hz1 hz2 rfl (by decide) _ _ _ rfl (F7.row.alloc _) ⟨w7.heap.size, 0, none⟩ 1 1 [.slice (some ⟨g, 0, none⟩) Wn cp] rfl rfl ?c1 ?c2 ?c3 ?c4 ?c5 ?_)
            try (case c1 => exact cell_one_new _ _ _)
            try (case c2 => simp [Value.oneCell'])
            try (case c3 => unfold maxLen; omega)
            try (case c4 => omega)
            try (case c5 => first | omega | (simp; done) | (simp; have := b7.size; omega))
            intro v' w8 own8 hg8 _
            have G1 := GD.out hc
            obtain ⟨vf, hv1⟩ : ∃ vf : Nat → Value, vf = fun i => if i = k then .slice (some ⟨g, 0, none⟩) Wn cp else v i := ⟨_, rfl⟩
            have F8 : Found w.heap.size w8 Wn (LN 1073741824 Wn Hn (cst p Wn)) (k + 1) v' vf := by
              refine ⟨?_, fun i hi => ?_⟩
              · rw [range_snoc, hv1]
                simp only [if_true]
                rw [show (List.range k).map (fun i => if i = k then Value.slice (some ⟨g, 0, none⟩) Wn cp else v i) = (List.range k).map v from List.map_congr_left fun i hi => by rw [if_neg]; have := List.mem_range.1 hi; omega]
                exact own8
              · rw [hv1]
                show World.ownsRow _ _ _ _ (if i = k then _ else v i) _ _
                by_cases e : i = k
                · subst e
                  rw [if_pos rfl]
                  exact own_grown ((own_base own7 z6).alloc _) (F7.row.alloc _) (by decide) hg8
                · rw [if_neg e]
                  exact own_grown ((F7.lines i (by omega)).alloc _) (F7.row.alloc _) (by decide) hg8
            have b8 : Below w.heap.size w w8 := (b7.alloc b7.size (.cells #[.slice (some ⟨g, 0, none⟩) Wn cp] 25)).grown hg8 (by simp; have := b7.size; omega) (fun j hj => (own_ge F7.row hj).1)
            have k8 := (k7.alloc (.cells #[.slice (some ⟨g, 0, none⟩) Wn cp] 25)).grown hg8 (own_neB F7.row k7 (by decide))
            have kx8 := (kx7.alloc (.cells #[.slice (some ⟨g, 0, none⟩) Wn cp] 25)).grown hg8 (own_neB F7.row kx7 (by decide))
            have kf8 := (kf7.alloc (.cells #[.slice (some ⟨g, 0, none⟩) Wn cp] 25)).grown hg8 (own_neB F7.row kf7 (by decide))
            have v1k : vf k = .slice (some ⟨g, 0, none⟩) Wn cp := by rw [hv1]; simp
            have V1K := Lib.hid v1k
            have ln8 := own_len own8
            clear hv1 v1k k7 kx7 kf7 F7 b7 own7 own8 hg8 v1 p1 p2 p3 r1 r2 r3 dc hc x1 x2 x3
            obtain ⟨f, hf⟩ : ∃ f, f = FB 1073741824 Wn Hn (cst p Wn) k := ⟨_, rfl⟩
            have FBS : Hid (FB 1073741824 Wn Hn (cst p Wn) (k + 1) = mkF Wn f (LN 1073741824 Wn Hn (cst p Wn) k)) := by show _ = _; rw [hf]; rfl
            rw [← hf] at kf8
            have kf8 := kf8.u8conv (r := b01 (mkS Wn f (LN 1073741824 Wn Hn (cst p Wn) k) (0 : Nat) (0 : Nat))) fun i i0 i1 => b01_congr (mkS_zero (by omega) i0).symm
            clear hf
            go_wp2_with fail
            go_loopw [7] (fun s wr => ∃ x : Nat, (x : Int) ≤ Wn ∧ s = .int .i64 x ∧ Found w.heap.size wr Wn (LN 1073741824 Wn Hn (cst p Wn)) (k + 1) v' vf ∧ Below w.heap.size w wr ∧ Blk wr w.heap.size 24 #[.int .i64 Wn, .int .i64 Hn, .slice A n c] ∧ Blk wr gx 24 #[.int .i64 Wn, .int .i64 Hn, .slice (some ⟨gp, 0, none⟩) n n] ∧ Blk wr gp 5 (u8s n (b01 (mkS Wn f (LN 1073741824 Wn Hn (cst p Wn) k) x (0 : Nat))))) (fun s _ => (Wn - intOf s).toNat)
            case atStart => exact ⟨0, by omega, rfl, F8, b8, k8, kx8, kf8⟩
            case round =>
              obtain ⟨x, hx, rfl, F9, b9, k9, kx9, kf9⟩ := hrel
              clear F8 b8 k8 kx8 kf8
              obtain ⟨p1, p2, p3⟩ := k9.cells3
              obtain ⟨r1, r2, r3⟩ := kx9.cells3
              by_cases xl : (x : Int) < Wn
              · obtain ⟨pl0, pl1, -⟩ := PL.out x xl
                go_wp2_with fail
                go_loopw [8] (fun s wr => ∃ y : Nat, (y : Int) ≤ Hn ∧ s = .int .i64 y ∧ Found w.heap.size wr Wn (LN 1073741824 Wn Hn (cst p Wn)) (k + 1) v' vf ∧ Below w.heap.size w wr ∧ Blk wr w.heap.size 24 #[.int .i64 Wn, .int .i64 Hn, .slice A n c] ∧ Blk wr gx 24 #[.int .i64 Wn, .int .i64 Hn, .slice (some ⟨gp, 0, none⟩) n n] ∧ Blk wr gp 5 (u8s n (b01 (mkS Wn f (LN 1073741824 Wn Hn (cst p Wn) k) x y)))) (fun s _ => (Hn - intOf s).toNat)
                case atStart => exact ⟨0, by omega, rfl, F9, b9, k9, kx9, kf9⟩
                case round =>
                  obtain ⟨y, hy, rfl, F10, b10, k10, kx10, kf10⟩ := hrel
                  clear p1 p2 p3 r1 r2 r3 F9 b9 k9 kx9 kf9
                  obtain ⟨p1, p2, p3⟩ := k10.cells3
                  obtain ⟨r1, r2, r3⟩ := kx10.cells3
                  by_cases yl : (y : Int) < Hn
                  · have hl := F10.lines k (by omega)
                    rw [V1K.out] at hl
                    obtain ⟨A7, c7, e7, ha7⟩ := own_arrI hl
                    cases e7
                    obtain ⟨bb, oo, ee, -, cpx⟩ := ArrI.at_ ha7 (i := (x : Int)) (by omega) xl
                    cases ee
                    rw [Nat.zero_add, Int.toNat_natCast] at cpx
                    have SK := Lib.hid fun h i => mkS_skip (W := Wn) (f := f) (P := LN 1073741824 Wn Hn (cst p Wn) k) (x := x) (y := (y : Int)) h i
                    have SS := Lib.hid fun h1 h2 i => mkS_set (W := Wn) (f := f) (P := LN 1073741824 Wn Hn (cst p Wn) k) (x := x) (y := (y : Int)) xl h1 h2 i
                    generalize LN 1073741824 Wn Hn (cst p Wn) k x = Px at *
                    have u1 : IntKind.i64.wrap (Px - 2) = Px - 2 := IntWalk.i64_in _ (by omega)
                    have u2 : IntKind.i64.wrap (Px + 2) = Px + 2 := IntWalk.i64_in _ (by omega)
                    by_cases y1 : Px - 2 ≤ (y : Int)
                    · by_cases y2 : (y : Int) ≤ Px + 2
                      · have RS := Lib.hid (rset_any Wn Hn gp n n 5 (b01 (mkS Wn f (LN 1073741824 Wn Hn (cst p Wn) k) x y)) x y wr kf10 (by omega) xl (by omega) yl hW2 hH2 HNN.out)
                        have SS2 := Lib.hid (SS.out y1 y2)
                        go_wp2_with fail
                        refine RS.out.mono ?_
                        rintro e w11 ⟨rfl, kf11, hg11⟩
                        have b11 := b10.grown hg11 (by have := b10.size; exact this) (fun j hj => by cases hj; omega)
                        have k11 := k10.grown hg11 (fun e => NE.out.2.2 (Option.some.inj e))
                        have kx11 := kx10.grown hg11 (fun e => NE.out.1 (Option.some.inj e).symm)
                        have F11 := F10.grownBlk kf10 (by decide) (by decide) hg11
                        clear p1 p2 p3 r1 r2 r3 cpx
                        obtain ⟨p1, p2, p3⟩ := k11.cells3
                        go_wp2_with fail
                        go_roundw
                        case rel => exact ⟨y + 1, by omega, by go_num, F11, b11, k11, kx11, kf11.u8conv fun i _ _ => b01_set _ SS2.out i⟩
                        case measure => simp [intOf]; omega
                      · have S2 := Lib.hid (SK.out (fun h => y2 h.2))
                        have dy : decide ((y : Int) ≤ Px + 2) = false := decide_eq_false y2
                        go_wp2_with fail
                        go_roundw
                        case rel => exact ⟨y + 1, by omega, by go_num, F10, b10, k10, kx10, kf10.u8conv fun i _ _ => b01_congr (S2.out i)⟩
                        case measure => simp [intOf]; omega
                    · have S2 := Lib.hid (SK.out (fun h => y1 h.1))
                      go_wp2_with fail
                      go_roundw
                      case rel => exact ⟨y + 1, by omega, by go_num, F10, b10, k10, kx10, kf10.u8conv fun i _ _ => b01_congr (S2.out i)⟩
                      case measure => simp [intOf]; omega
                  · have ey : (y : Int) = Hn := by omega
                    have kf11 := kf10.u8conv (r := b01 (mkS Wn f (LN 1073741824 Wn Hn (cst p Wn) k) (x + 1 : Nat) (0 : Nat))) fun i i0 i1 => b01_congr (by rw [ey]; exact mkS_col i0 (by have := HNN.out; omega) (by omega))
                    clear ey kf10
                    go_wp2_with fail
                    go_roundw
                    case rel => exact ⟨x + 1, by omega, by go_num, F10, b10, k10, kx10, kf11⟩
                    case measure => simp [intOf]; omega
              · have kf10 := kf9.u8conv (r := b01 (FB 1073741824 Wn Hn (cst p Wn) (k + 1))) fun i i0 i1 => b01_congr (by rw [FBS.out]; exact mkS_end (by omega) (by omega))
                clear kf9
                go_wp2_with fail
                go_roundw
                case rel => exact ⟨k + 1, vf, by have := HK.out; omega, fun j hj => by
                  rcases Nat.lt_succ_iff_lt_or_eq.1 hj with h | rfl
                  · exact hg j h
                  · exact G1, F9, b9, k9, kx9, kf10⟩
                case measure => rw [rl, ln8]; omega
          · have MK : Hid (Many 1073741824 Wn Hn (cst p Wn) k) := by
              show Many _ _ _ _ _
              exact ⟨HK.out, hg, fun _ h => NG.out (by omega) h⟩
            have dc : decide ((Wn : Int) < 8 * C) = true := decide_eq_true (by omega)
            go_wp2_with fail
            go_meet
            exact ⟨k, v, MK.out, F7, b7, k7⟩
      · obtain rfl : k = 60 := by have := HK.out; omega
        go_wp2_with fail
        go_meet
        exact ⟨60, v, ⟨by omega, hg, fun h => by omega⟩, hF, b3, ki⟩
  case rest =>
    clear k2 kx2 kp2 b2 F2
    obtain ⟨k, v, MK, hF, bw, kw⟩ := hcut
    clear RN BE CO
    obtain ⟨i0, hi0, hz0, hz1, hz2⟩ := info_parts infoInts
    obtain ⟨Ao, co, rfl, hco, hAo⟩ := own_arr hF.row
    have kb : k ≤ 60 := MK.1
    obtain ⟨key, hkey⟩ : ∃ key : Nat → Int, key = fun i => LN 1073741824 Wn Hn (cst p Wn) i 0 := ⟨_, rfl⟩
    have KB : ∀ j, j < k → 0 ≤ key j ∧ key j < Hn := fun j hj => by
      have := ln_ok (cst_bd p Wn) (by omega) (by omega) (by omega) (MK.2.1 j hj).1 0 (by omega)
      rw [hkey]; exact ⟨this.1, this.2.1⟩
    have VS : Hid (∀ i : Nat, i < k → ∃ bo oo g c, Ao = some ⟨bo, oo, none⟩ ∧ bo < wc.heap.size ∧ v i = .slice (some ⟨g, 0, none⟩) Wn c ∧ wc.cell? ⟨bo, oo + i, none⟩ = some (v i) ∧ g < wc.heap.size ∧ wc.cell? ⟨g, 0, none⟩ = some (.int .i64 (key i))) := by
      show ∀ _, _
      intro i hi
      obtain ⟨bo, oo, e1, hb, hc⟩ := Arr.at_ hAo (i := (i : Int)) (by omega) (by omega)
      rw [Int.toNat_natCast] at hc
      have hl := hF.lines i hi
      obtain ⟨g, c2, e2⟩ := own_some hl (by omega)
      obtain ⟨A2, c3, e3, ha⟩ := own_arrI hl
      rw [e2] at e3
      cases e3
      obtain ⟨b3, o3, e4, hb3, hc3⟩ := ArrI.at_ ha (i := 0) (by omega) (by omega)
      cases e4
      refine ⟨bo, oo, g, c2, e1, hb, e2, ?_, hb3, ?_⟩
      · rw [hc, List.getD_eq_getElem?_getD, List.getElem?_map, List.getElem?_range hi]; rfl
      · rw [hkey]; exact hc3
    have HMK := Lib.hid MK
    have HKEY := Lib.hid hkey
    have HF := Lib.hid hF
    clear hkey MK hAo hF
    obtain ⟨p1, p2, p3⟩ := kw.cells3
    have zw := bw.size
    go_wp2_with fail
    generalize wc = wB at *
    go_loopw [9, 10] (fun vo s wr => ∃ y : Nat, y ≤ Hn ∧ s = .int .i64 y ∧ Below wB.heap.size wB wr ∧ wr.ownsRow wB.heap.size 25 1 vo (byKey key k y).length ((byKey key k y).map v)) (fun _ s _ => Hn - (intOf s).toNat)
    case atStart => exact ⟨0, by omega, rfl, Below.refl _ _, World.ownsRow_nil _ _ _ _⟩
    case round =>
      obtain ⟨y, hy, rfl, b5, own⟩ := hrel
      clear p1 p2 p3
      obtain ⟨p1, p2, p3⟩ := (kw.below' b5).cells3
      by_cases yl : (y : Int) < Hn
      · go_wp2_with fail
        go_loopw [9, 11] (fun vo s wr => ∃ i : Nat, i ≤ k ∧ s = .int .i64 i ∧ Below wB.heap.size wB wr ∧ wr.ownsRow wB.heap.size 25 1 vo (byKey key k y ++ atKey key i y).length ((byKey key k y ++ atKey key i y).map v)) (fun _ s _ => k - (intOf s).toNat)
        case atStart => exact ⟨0, by omega, rfl, b5, by simpa [atKey] using own⟩
        case round =>
          obtain ⟨i, hi, rfl, b6, own6⟩ := hrel
          clear own b5 p1 p2 p3
          obtain ⟨p1, p2, p3⟩ := (kw.below' b6).cells3
          obtain ⟨Ap, cp, rfl, -, -⟩ := own_arr own6
          by_cases il : (i : Int) < k
          · obtain ⟨bo, oo, g, c2, e1, hb, e2, hc, hg, hk⟩ := VS.out i (by omega)
            subst e1
            have ci := (b6.cell (p := ⟨bo, oo + i, none⟩) hb).trans hc
            have ck := (b6.cell (p := ⟨g, 0, none⟩) hg).trans hk
            rw [e2] at ci
            have VI := Lib.hid e2
            have ky := KB i (by omega)
            obtain ⟨ky0, ky1⟩ := ky
            have AY := Lib.hid fun h => atKey_yes (key := key) (i := i) (y := (y : Int)) h
            have AN := Lib.hid fun h => atKey_no (key := key) (i := i) (y := (y : Int)) h
            have AL : Hid ((byKey key k y ++ atKey key i y).length ≤ 60) := by
              show _ ≤ _
              have := part_len (key := key) (k := k) (y := y) (i := i) hi
              omega
            clear e2 hc hk
            generalize hK : key i = K at *
            generalize hLL : byKey key k y ++ atKey key i y = LL at *
            have HLL := Lib.hid hLL
            clear hK hLL
            by_cases e : K = y
            · have be : (K == (y : Int)) = true := by simp [e]
              have AY2 := Lib.hid (AY.out e)
              have AL2 := AL.out
              clear e
              go_wp2_with (at_builtin; refine wpList_append_own _ rfl (.tmp 101) (.tmp 106) 34 rfl wB.heap.size 25 i0 (.slice none 0 0) 1 24 Try.underlying34 hi0 hz0 hz1 hz2 rfl (by decide) _ _ _ rfl (own6.alloc _) ⟨wr.heap.size, 0, none⟩ 1 1 [.slice (some ⟨g, 0, none⟩) Wn c2] rfl rfl ?c1 ?c2 ?c3 ?c4 ?c5 ?_)
              try (case c1 => exact cell_one_new _ _ _)
              try (case c2 => simp [Value.oneCell'])
              try (case c3 => unfold maxLen; omega)
              try (case c4 => omega)
              try (case c5 => first | omega | (simp; done) | (simp; have := b6.size; omega))
              intro v' w7 own7 hg7 _
              have b7 : Below wB.heap.size wB w7 := (b6.alloc b6.size (.cells #[.slice (some ⟨g, 0, none⟩) Wn c2] 25)).grown hg7 (by simp; have := b6.size; omega) (fun j hj => (own_ge own6 hj).1)
              clear p1 p2 p3 ci ck
              obtain ⟨p1, p2, p3⟩ := (kw.below' b7).cells3
              go_wp2_with fail
              go_roundw
              case rel => exact ⟨i + 1, by omega, by go_num, b7, by rw [AY2.out, ← List.append_assoc, HLL.out, List.map_append, List.length_append]; simp only [List.map_cons, List.map_nil, List.length_cons, List.length_nil]; rw [VI.out]; exact own7⟩
              case measure => simp [intOf]; omega
            · have be : (K == (y : Int)) = false := by simp [e]
              have AN2 := Lib.hid (AN.out e)
              clear e
              go_wp2_with fail
              go_roundw
              case rel => exact ⟨i + 1, by omega, by go_num, b6, by rw [AN2.out, HLL.out]; exact own6⟩
              case measure => simp [intOf]; omega
          · obtain rfl : k = i := by omega
            go_wp2_with fail
            go_roundw
            case rel => exact ⟨y + 1, by omega, by go_num, b6, own6⟩
            case measure => simp [intOf]; omega
      · obtain rfl : Hn = y := by omega
        go_wp2_with fail
        go_ret
        refine ⟨_, rfl, ⟨k, byKey key k Hn, v, HMK.out, byKey_perm KB, ?_, ?_, fun i hi => ?_⟩, below_call bw bw.size b5⟩
        · refine (byKey_sorted key k Hn).imp fun {a b} h => ?_
          rw [HKEY.out] at h
          exact h
        · have hl : (byKey key k Hn).length = k := by rw [(byKey_perm KB).length_eq, List.length_range]
          rw [hl] at own
          exact own_base own zw
        · exact own_below (HF.out.lines i hi) b5
end Go.Proofs.Ytdimlpcbbkokiaa
