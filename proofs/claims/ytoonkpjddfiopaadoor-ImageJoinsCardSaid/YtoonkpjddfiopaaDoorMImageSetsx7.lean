/- Texts of mine in build order: J3, J4, J5, C13, J6, J8, T55, J9. Conditions: each theorem's own. -/
import Derived.Test.YtoonkpjddfiopaaDoorMImageSetsx6
import Derived.Deep.RegionHeld3
import Derived.WalkMore
import Derived.Outline
import Derived.Shelf.Strings.BuilderK
import Derived.Shelf.Strconv.Itoa3
import Derived.Deep.CutBlock
import Derived.OrdersHeld
import Derived.Shelf.Bytes.SlCountOne
/- Walk: image.Thin. -/
namespace Go.Proofs.YtoonkpjddfiopaaDoor
open Go.RowKit
set_option linter.unusedVariables false
attribute [local go_sem] Oper.semAt_some

theorem sumW_arr {w : World} {g n : Nat} {q : Int → Int} (h : ArrO w g n q) : sumW g n w = (sumN n q).toNat := by
  unfold sumW
  congr 1
  exact sumN_congr fun i a b => by unfold celI; rw [h.cell a b]; rfl

/-- whether something was taken so far -/
def ChQ (n : Nat) (b : Bool) (q q' : Int → Int) : Prop := (b = false → q' = q) ∧ (b = true → sumN n q' < sumN n q)
theorem ChQ.step {n : Nat} {b : Bool} {q q' : Int → Int} {j : Int} (h : ChQ n b q q') (h0 : 0 ≤ j) (h1 : j < n) (hj : q' j = 1) : ChQ n true q (upd q' j 0) := by
  have hs : sumN n (upd q' j 0) < sumN n q' := by
    have := sumN_upd q' j.toNat 0 n
    rw [Int.toNat_of_nonneg h0] at this
    rw [this, if_pos (by omega), hj]; omega
  refine ⟨(fun h => by cases h), fun _ => ?_⟩
  cases b
  · rw [h.1 rfl] at hs ⊢; exact hs
  · have := h.2 rfl; omega
theorem thX_01 {W H y : Int} {q : Int → Int} (h : ∀ i, q i = 0 ∨ q i = 1) : ∀ (x : Nat) (i : Int), thX W H y x q i = 0 ∨ thX W H y x q i = 1
  | 0, i => h i
  | x + 1, i => thS_01 (thX_01 h x) i
theorem thY_01 {W H : Int} {Wn : Nat} {q : Int → Int} (h : ∀ i, q i = 0 ∨ q i = 1) : ∀ (y : Nat) (i : Int), thY W H Wn y q i = 0 ∨ thY W H Wn y q i = 1
  | 0, i => h i
  | y + 1, i => thX_01 (thY_01 h y) Wn i

set_option maxRecDepth 100000 in
set_option maxHeartbeats 4000000 in
theorem thin_pos (W H : Nat) (A : Option Addr) (n c : Nat) (p : Int → Int) (w : World) (hA : ArrB w w.heap.size A n p) (hB : IsB p) (hW : W ≤ 640) (hH : H ≤ 640) (hn : n = W * H) (h0 : 0 < n) (hE : chk W H n p = 0) (hp : ∀ i, p i = 0 ∨ p i = 1) :
    Calls Tryd.prog 20 #[.agg #[.int .i64 W, .int .i64 H, .slice A n c]] w (New w fun v w' => ∃ g c' q, v = .tuple #[.agg #[.int .i64 W, .int .i64 H, .slice (some ⟨g, 0, none⟩) n c'], .int .i64 0] ∧ w.heap.size ≤ g ∧ Thinned W H p q ∧ ArrO w' g n q) := by
  have hnI : (n : Int) = (W : Int) * H := by rw [hn]; push_cast; rfl
  have hn9 : n ≤ 409600 := by rw [hn]; exact Nat.mul_le_mul hW hH
  have CK := Lib.hid fun w' hA' => check_any W H A n c p w' hA' (by unfold maxLen; omega)
  rw [hE] at CK
  have BC := Lib.hid fun w' hA' => bclone_pos A n c p w' hA' (by omega) h0
  have b1 : Below w.heap.size w ((w.alloc (.cells #[.int .i64 W, .int .i64 H, .slice A n c] 24)).alloc (.cells #[.int .i64 0, .int .i64 0, .slice none 0 0] 24)) := by (repeat (first | exact Below.refl _ _ | assumption | refine Below.drew ?_ | refine below_drewN ?_ _ | refine Below.alloc ?_ (by first | omega | (simp; done) | (simp; omega)) _ | refine Below.setCell ?_ (by first | omega | (simp; done) | (simp; omega)) _ | refine below_setRow ?_ (by first | omega | (simp; done) | (simp; omega)) _ ))
  have k1 : Blk ((w.alloc (.cells #[.int .i64 W, .int .i64 H, .slice A n c] 24)).alloc (.cells #[.int .i64 0, .int .i64 0, .slice none 0 0] 24)) w.heap.size 24 #[.int .i64 W, .int .i64 H, .slice A n c] := (Blk.new _ _ _).alloc _
  have k2 : Blk ((w.alloc (.cells #[.int .i64 W, .int .i64 H, .slice A n c] 24)).alloc (.cells #[.int .i64 0, .int .i64 0, .slice none 0 0] 24)) (w.heap.size + 1) 24 #[.int .i64 0, .int .i64 0, .slice none 0 0] := Blk.new' (by simp) _ _
  have HN := Lib.hid hnI
  have HP := Lib.hid hp
  clear hE hnI hn hp hB
  go_enter Tryd.func20, Tryd.ntmps20
  go_wp2_with fail
  go_step3
  go_wp2_with fail
  generalize (w.alloc (.cells #[.int .i64 W, .int .i64 H, .slice A n c] 24)).alloc (.cells #[.int .i64 0, .int .i64 0, .slice none 0 0] 24) = w1 at *
  refine (CK.out _ (hA.to b1)).mono ?_
  rintro e w3 ⟨rfl, hb2⟩
  have b3 := below_call b1 b1.size hb2
  replace k1 := k1.below' hb2
  replace k2 := k2.below' hb2
  have HA := hA.to b3
  obtain ⟨p1, p2, p3⟩ := k1.cells3
  have z3 := k2.lt
  clear hb2 b1 CK hA
  go_upto_region 4 with fail
  go_cut [5] (fun f wx => ∃ B g c', f = .pointer (some ⟨B, 0, none⟩) ∧ Below w3.heap.size w3 wx ∧ w3.heap.size ≤ g ∧ g ≠ B ∧ w3.heap.size ≤ B ∧ Blk wx B 24 #[.int .i64 W, .int .i64 H, .slice (some ⟨g, 0, none⟩) n c'] ∧ ArrO wx g n p)
  case first =>
    go_region_held3 (fun w' => w'.cell? ⟨w.heap.size, 0, none⟩ = some (.int .i64 W) ∧ w'.cell? ⟨w.heap.size, 1, none⟩ = some (.int .i64 H) ∧ w'.cell? ⟨w.heap.size, 2, none⟩ = some (.slice A n c))
      (first | (simp [go_sem, *]; done) | (go_keep; done))
      (first
      | (go_at_call 83
         with_reducible refine Calls.mono (BC.out _ ?_) ?_
         focus (repeat (first | with_reducible assumption | with_reducible refine ArrB.alloc1 ?_ _ | with_reducible refine ArrB.drew1 ?_ | (with_reducible apply ArrB.fillN; (focus (with_reducible assumption)); (focus omega)) | (with_reducible apply ArrB.fillL; (focus (with_reducible assumption)); (focus (first | omega | (simp; done) | (simp; omega)))) | (with_reducible apply ArrB.to'; focus (with_reducible assumption))))
         rintro e v1 ⟨_, rfl, ⟨g, c', rfl, hcc, hg, hk⟩, hb1⟩
         have kk1 : Blk v1 w.heap.size 24 #[.int .i64 W, .int .i64 H, .slice A n c] := by (repeat (first | with_reducible assumption | with_reducible exact Blk.new _ _ _ | with_reducible exact Blk.new' (World.size_alloc _ _) _ _ | (with_reducible refine Blk.new' ?_ _ _; focus (simp; done)) | with_reducible apply Blk.fill3 | (with_reducible refine Blk.far3' ?_ ?_; focus omega) | with_reducible refine Blk.alloc ?_ _ | with_reducible refine Blk.drew ?_ | (with_reducible apply Blk.below2; focus (with_reducible assumption))))
         obtain ⟨x11, x12, x13⟩ := kk1.cells3
         have zz1 := hb1.size
         try simp at zz1
         have yy1 := kk1.lt
         have yy2 := hk.lt
         try simp at hg
         first | (have g1 : Blk v1 w3.heap.size 24 #[.int .i64 0, .int .i64 0, .slice none 0 0] := by ((repeat (first | with_reducible assumption | with_reducible exact Blk.new _ _ _ | with_reducible exact Blk.new' (World.size_alloc _ _) _ _ | (with_reducible refine Blk.new' ?_ _ _; focus (simp; done)) | with_reducible apply Blk.fill3 | (with_reducible refine Blk.far3' ?_ ?_; focus omega) | with_reducible refine Blk.alloc ?_ _ | with_reducible refine Blk.drew ?_ | (with_reducible apply Blk.below2; focus (with_reducible assumption)))); done)
                  obtain ⟨h1, h2, h3⟩ := g1.cells3; obtain ⟨f1, f2, f3⟩ := g1.frozen3; have lt1 := g1.lt) | skip))
    all_goals
      go_wp2_with fail
      go_meet
      refine ⟨_, g, c', rfl, ?_, ?_, ?_, ?_, ?_, ?_⟩
      focus (repeat (first | with_reducible exact Below.refl _ _ | with_reducible assumption | with_reducible refine Below.drew ?_ | (with_reducible refine below_alloc' ?_ ?_; focus (first | omega | (simp; done) | (simp; omega))) | (with_reducible refine below_fill3' ?_ ?_; focus omega) | (with_reducible refine below_setCell' ?_ ?_; focus (first | omega | (simp; done) | (simp; omega))) | (with_reducible apply below_call'; (focus (with_reducible assumption)); (focus (first | omega | (simp; done) | (simp; omega))))))
      focus (first | omega | (simp; omega))
      focus (first | omega | (simp; omega))
      focus (first | omega | (simp; omega))
      focus (repeat (first | with_reducible assumption | with_reducible exact Blk.new _ _ _ | with_reducible exact Blk.new' (World.size_alloc _ _) _ _ | (with_reducible refine Blk.new' ?_ _ _; focus (simp; done)) | with_reducible apply Blk.fill3 | (with_reducible refine Blk.far3' ?_ ?_; focus omega) | with_reducible refine Blk.alloc ?_ _ | with_reducible refine Blk.drew ?_ | (with_reducible apply Blk.below2; focus (with_reducible assumption))))
      focus (repeat (first | assumption | refine ArrO.drew ?_ | refine ArrO.alloc ?_ _ | refine ArrO.far ?_ (by first | (show g ≠ _; omega) | (simp; omega)) _))
  case rest =>
  obtain ⟨gx, gp, cp, rfl, hb4, hgp, hgx, hgx2, tx, tp⟩ := hcut
  clear p1 p2 p3
  replace k1 := k1.below' hb4
  replace k2 := k2.below' hb4
  have b4 := below_call b3 b3.size hb4
  have hgp2 : w.heap.size + 1 < gp := by omega
  have hgx3 : w.heap.size + 1 < gx := by omega
  have zx := tx.lt
  clear b3 hb4 HA BC hgp hgx2 z3
  generalize wc = w4 at *
  go_wp2_with fail
  go_step3
  go_wp2_with fail
  go_loopw [6] (fun s wr => ∃ q : Int → Int, Hid ((∃ m, q = thI W H m p) ∧ ∀ i, q i = 0 ∨ q i = 1) ∧ Below w.heap.size w wr ∧ Blk wr w.heap.size 24 #[.int .i64 W, .int .i64 H, .slice A n c] ∧ Blk wr (w.heap.size + 1) 24 #[.int .i64 0, .int .i64 0, .slice none 0 0] ∧ Blk wr gx 24 #[.int .i64 W, .int .i64 H, .slice (some ⟨gp, 0, none⟩) n cp] ∧ ArrO wr gp n q) (fun _ wr => sumW gp n wr)
  case atStart => exact ⟨p, ⟨⟨0, rfl⟩, HP.out⟩, b4, k1, k2, tx, tp⟩
  case round =>
    obtain ⟨q, hq, b5, m1, m2, mx, mp⟩ := hrel
    clear k1 k2 b4 tx tp zx
    have SW := Lib.hid (sumW_arr mp)
    have Q01 := Lib.hid hq.out.2
    obtain ⟨p1, p2, p3⟩ := m1.cells3
    go_wp2_with fail
    go_loopw [25, 6] (fun s t wx => ∃ (y : Nat) (b : Bool), y ≤ H ∧ s = .int .i64 y ∧ t = .bool b ∧ Hid (ChQ n b q (thY W H W y q)) ∧ Below w.heap.size w wx ∧ Blk wx w.heap.size 24 #[.int .i64 W, .int .i64 H, .slice A n c] ∧ Blk wx (w.heap.size + 1) 24 #[.int .i64 0, .int .i64 0, .slice none 0 0] ∧ Blk wx gx 24 #[.int .i64 W, .int .i64 H, .slice (some ⟨gp, 0, none⟩) n cp] ∧ ArrO wx gp n (thY W H W y q)) (fun s _ _ => H - (intOf s).toNat)
    case atStart => exact ⟨0, false, by omega, rfl, rfl, ⟨fun _ => rfl, fun h => by cases h⟩, b5, m1, m2, mx, mp⟩
    case round =>
      obtain ⟨y, b, hy, rfl, rfl, hch, b6, o1, o2, ox, op⟩ := hrel
      clear b5 m1 m2 mx mp p1 p2 p3
      obtain ⟨p1, p2, p3⟩ := o1.cells3
      by_cases hlt : y < H
      · have YS : Hid (thY W H W (y + 1) q = thX W H y W (thY W H W y q)) := by show _ = _; rfl
        have QY := Lib.hid (thY_01 (W := W) (H := H) (Wn := W) Q01.out y)
        generalize thY W H W y q = q1 at *
        go_wp2_with fail
        go_loopw [30, 6] (fun s t wx => ∃ (x : Nat) (b : Bool), x ≤ W ∧ s = .int .i64 x ∧ t = .bool b ∧ Hid (ChQ n b q (thX W H y x q1)) ∧ Below w.heap.size w wx ∧ Blk wx w.heap.size 24 #[.int .i64 W, .int .i64 H, .slice A n c] ∧ Blk wx (w.heap.size + 1) 24 #[.int .i64 0, .int .i64 0, .slice none 0 0] ∧ Blk wx gx 24 #[.int .i64 W, .int .i64 H, .slice (some ⟨gp, 0, none⟩) n cp] ∧ ArrO wx gp n (thX W H y x q1)) (fun s _ _ => W - (intOf s).toNat)
        case atStart => exact ⟨0, b, by omega, rfl, rfl, hch, b6, o1, o2, ox, op⟩
        case round =>
          obtain ⟨x, b', hx, rfl, rfl, hch', b7, r1, r2, rx, rp⟩ := hrel
          clear b6 o1 o2 ox op p1 p2 p3
          obtain ⟨p1, p2, p3⟩ := r1.cells3
          obtain ⟨x1, x2, x3⟩ := rx.cells3
          by_cases hlx : x < W
          · have XS : Hid (thX W H y (x + 1) q1 = thS W H x y (thX W H y x q1)) := by show _ = _; rfl
            have QX := Lib.hid (thX_01 (W := W) (H := H) (y := y) QY.out x)
            generalize thX W H y x q1 = q2 at *
            have hx0 : (0 : Int) ≤ (x : Int) := by omega
            have hxW : (x : Int) < (W : Int) := by omega
            have hy0 : (0 : Int) ≤ (y : Int) := by omega
            have hyH : (y : Int) < (H : Int) := by omega
            obtain ⟨j1, j2, j3⟩ := idx_lt hx0 hxW hy0 hyH
            rw [Int.mul_comm (H : Int) W] at j2
            have j4 : (y : Int) * W + x < n := by have := HN.out; omega
            have v1 : IntKind.i64.wrap ((y : Int) * W) = (y : Int) * W := IntWalk.i64_in _ (by omega)
            have v2 : IntKind.i64.wrap ((y : Int) * W + x) = (y : Int) * W + x := IntWalk.i64_in _ (by omega)
            have GO := Lib.hid fun w' hA' => goes_any W H x y (some ⟨gp, 0, none⟩) n cp q2 w' hA' (by omega) (by omega) (by omega) (by omega) HN.out (fun i _ _ => QX.out i) hx0 (by omega) hy0 (by omega)
            have IB := Lib.hid (inkB_in (p := q2) hx0 hxW hy0 hyH)
            have hc := rp.cell j1 j4
            have hq := QX.out ((y : Int) * W + x)
            obtain ⟨J, hJ⟩ : ∃ J, (y : Int) * W + x = J := ⟨_, rfl⟩
            have v3 : IntKind.i64.wrap ((y : Int) * W + x) = J := by rw [← hJ]; exact v2
            have TS : Hid (thS W H x y q2 = if inkB W H q2 x y && goesB (bD W H q2 x y) then upd q2 J 0 else q2) := by show _ = _; unfold thS; rw [hJ]
            rw [hJ] at hc hq j1 j4 IB v2
            obtain ⟨gv, hgv⟩ : ∃ g, goesB (bD W H q2 x y) = g := ⟨_, rfl⟩
            rw [hgv] at TS GO
            clear hgv hJ
            by_cases hz : q2 J = 1
            · have TS2 : Hid (thS W H x y q2 = if gv then upd q2 J 0 else q2) := by show _ = _; rw [TS.out, IB.out, decide_eq_true hz, Bool.true_and]
              have CH2 : Hid (ChQ n true q (upd q2 J 0)) := by show ChQ _ _ _ _; exact hch'.out.step j1 j4 hz
              rw [hz] at hc
              have RP := Lib.hid rp
              clear hz hq TS IB
              go_wp2_with fail
              refine (GO.out _ RP.out.arr).mono ?_
              rintro e w6 ⟨rfl, hb6⟩
              have b8 := below_call b7 b7.size hb6
              have t1 := r1.below' hb6
              have t2 := r2.below' hb6
              have tx := rx.below' hb6
              have tp := RP.out.below hb6
              clear b7 r1 r2 rx RP hb6 p1 p2 p3 x1 x2 x3 hc
              obtain ⟨p1, p2, p3⟩ := t1.cells3
              obtain ⟨x1, x2, x3⟩ := tx.cells3
              have hc := tp.cell j1 j4
              have hf := tp.frozen J.toNat
              cases gv
              · have XS2 : Hid (thX W H y (x + 1) q1 = q2) := by show _ = _; rw [XS.out, TS2.out]; rfl
                have TP := Lib.hid tp
                clear tp XS TS2 GO
                go_wp2
                go_roundw
                case rel => exact ⟨x + 1, b', by omega, by go_num, rfl, by rw [XS2.out]; exact hch', b8, t1, t2, tx, by rw [XS2.out]; exact TP.out⟩
                case measure => simp [intOf]; omega
              · have XS2 : Hid (thX W H y (x + 1) q1 = upd q2 J 0) := by show _ = _; rw [XS.out, TS2.out]; rfl
                have TP := Lib.hid (tp.set J j1 j4 0)
                have n1 : w.heap.size ≠ gp := by omega
                have n2 : w.heap.size + 1 ≠ gp := by omega
                have n3 : gx ≠ gp := by omega
                have B8 := Lib.hid (b8.setCell (p := ⟨gp, J.toNat, none⟩) (by simp; omega) (.int .u8 0))
                have T1 := Lib.hid (t1.far (p := ⟨gp, J.toNat, none⟩) n1 (.int .u8 0))
                have T2 := Lib.hid (t2.far (p := ⟨gp, J.toNat, none⟩) n2 (.int .u8 0))
                have TX := Lib.hid (tx.far (p := ⟨gp, J.toNat, none⟩) n3 (.int .u8 0))
                clear tp XS TS2 GO b8 t1 t2 tx
                go_wp2
                go_roundw
                case rel => exact ⟨x + 1, true, by omega, by go_num, rfl, by rw [XS2.out]; exact CH2.out, B8.out, T1.out, T2.out, TX.out, by rw [XS2.out]; exact TP.out⟩
                case measure => simp [intOf]; omega
            · have hzb : (q2 J == 1) = false := by simp [hz]
              have XS2 : Hid (thX W H y (x + 1) q1 = q2) := by show _ = _; rw [XS.out, TS.out, IB.out, decide_eq_false hz]; rfl
              have HZ := Lib.hid hz
              clear hz XS TS GO
              go_wp2
              go_roundw
              case rel => exact ⟨x + 1, b', by omega, by go_num, rfl, by rw [XS2.out]; exact hch', b7, r1, r2, rx, by rw [XS2.out]; exact rp⟩
              case measure => simp [intOf]; omega
          · obtain rfl : x = W := by omega
            go_wp2
            go_roundw
            case rel => exact ⟨y + 1, b', by omega, by go_num, rfl, by rw [YS.out]; exact hch', b7, r1, r2, rx, by rw [YS.out]; exact rp⟩
            case measure => simp [intOf]; omega
      · have eyH : y = H := by omega
        have PQ : Hid (thP W H q = thY W H W y q) := by show _ = _; rw [eyH]; rfl
        have QY := Lib.hid (thY_01 (W := W) (H := H) (Wn := W) Q01.out y)
        clear eyH
        generalize thY W H W y q = q' at *
        cases b
        · have e := hch.out.1 rfl
          subst e
          have TH : Hid (Thinned W H p q') := by
            show Thinned _ _ _ _
            exact ⟨hq.out.1, PQ.out⟩
          have n2 : gp ≠ w.heap.size + 1 := by omega
          obtain ⟨x1, x2, x3⟩ := ox.cells3
          obtain ⟨t1, t2, t3⟩ := o2.cells3
          obtain ⟨f1, f2, f3⟩ := o2.frozen3
          have OP := Lib.hid (((op.far (p := ⟨w.heap.size + 1, 0, none⟩) n2 (.int .i64 W)).far (p := ⟨w.heap.size + 1, 1, none⟩) n2 (.int .i64 H)).far (p := ⟨w.heap.size + 1, 2, none⟩) n2 (.slice (some ⟨gp, 0, none⟩) n cp))
          have B6 := Lib.hid (((b6.setCell (p := ⟨w.heap.size + 1, 0, none⟩) (by simp) (.int .i64 W)).setCell (p := ⟨w.heap.size + 1, 1, none⟩) (by simp) (.int .i64 H)).setCell (p := ⟨w.heap.size + 1, 2, none⟩) (by simp) (.slice (some ⟨gp, 0, none⟩) n cp))
          have k9 := ((o2.set_ 0 (.int .i64 W)).set_ 1 (.int .i64 H)).set_ 2 (.slice (some ⟨gp, 0, none⟩) n cp)
          obtain ⟨s1, s2, s3⟩ := Blk.cells3 (a := .int .i64 W) (b := .int .i64 H) (c := .slice (some ⟨gp, 0, none⟩) n cp) k9
          clear op b6 o1 o2 ox k9 hch PQ SW
          go_wp2_with fail
          refine bodyPost_ret (v := .tuple #[.agg #[.int .i64 W, .int .i64 H, .slice (some ⟨gp, 0, none⟩) n cp], .int .i64 0]) (by simp [results, Tryd.results20, go_sem, s1, s2, s3]) rfl ?_
          exact ⟨_, rfl, ⟨gp, cp, q', rfl, by omega, TH.out, OP.out⟩, B6.out⟩
        · have NQ : Hid ((∃ m, q' = thI W H m p) ∧ ∀ i, q' i = 0 ∨ q' i = 1) := by
            obtain ⟨m, e⟩ := hq.out.1
            refine ⟨⟨m + 1, ?_⟩, QY.out⟩
            rw [thI, ← e, PQ.out]
          have OP := Lib.hid op
          have SM : Hid ((sumN n q').toNat < (sumN n q).toNat) := by
            show _ < _
            have h1 := hch.out.2 rfl
            have h2 := (sumN_bd (n := n) (f := q') (m := 1) fun i _ _ => by rcases QY.out i with e | e <;> omega).1
            omega
          clear op hch PQ
          go_wp2
          go_roundw
          case rel => exact ⟨q', NQ, b6, o1, o2, ox, OP.out⟩
          case measure => rw [SW.out, sumW_arr OP.out]; exact SM.out
end Go.Proofs.YtoonkpjddfiopaaDoor

/- Library contracts laid at this program: strconv.Itoa of small numbers; strings.Builder. -/
namespace Go.Proofs.YtoonkpjddfiopaaDoor
open Go.RowKit Go.Shelf
set_option linter.unusedVariables false

def Tryd.itoa_ren : Go.Shelf.Ren := ⟨fun | 171 => 127 | 243 => 146 | 246 => 165 | 283 => 173 | 284 => 174 | 285 => 175 | 286 => 176 | 129 => 157 | 317 => 178 | 318 => 179 | 319 => 180 | 320 => 181 | 337 => 182 | 338 => 183 | n => n, fun | 3 => 3 | 9 => 9 | 2 => 2 | 4 => 4 | 171 => 195 | 0 => 0 | 53 => 181 | 37 => 22 | 5 => 5 | 173 => 197 | 212 => 203 | 51 => 179 | 20 => 20 | 213 => 204 | 46 => 163 | 232 => 205 | 233 => 206 | n => n, fun | 17 => 1 | 18 => 2 | 19 => 3 | n => n⟩
theorem Tryd.itoa : Go.Proofs.Lays.n171 Tryd.prog Tryd.itoa_ren := {
  mixed := by kernel_rfl
  f129 := Tryd.func157.trans (congrArg some (by kernel_rfl))
  f171 := Tryd.func127.trans (congrArg some (by kernel_rfl))
  f243 := Tryd.func146.trans (congrArg some (by kernel_rfl))
  f246 := Tryd.func165.trans (congrArg some (by kernel_rfl))
  f283 := Tryd.func173.trans (congrArg some (by kernel_rfl))
  f284 := Tryd.func174.trans (congrArg some (by kernel_rfl))
  f285 := Tryd.func175.trans (congrArg some (by kernel_rfl))
  f286 := Tryd.func176.trans (congrArg some (by kernel_rfl))
  f317 := Tryd.func178.trans (congrArg some (by kernel_rfl))
  f318 := Tryd.func179.trans (congrArg some (by kernel_rfl))
  f319 := Tryd.func180.trans (congrArg some (by kernel_rfl))
  f320 := Tryd.func181.trans (congrArg some (by kernel_rfl))
  f337 := Tryd.func182.trans (congrArg some (by kernel_rfl))
  f338 := Tryd.func183.trans (congrArg some (by kernel_rfl))
  t0 := Tryd.underlying0
  a0 := Tryd.isAgg0
  z0 := Tryd.sizeOf0
  v0 := Tryd.zeroValue0
  t2 := Tryd.underlying2
  a2 := Tryd.isAgg2
  z2 := Tryd.sizeOf2
  v2 := Tryd.zeroValue2
  t3 := Tryd.underlying3
  a3 := Tryd.isAgg3
  z3 := Tryd.sizeOf3
  v3 := Tryd.zeroValue3
  t4 := Tryd.underlying4
  a4 := Tryd.isAgg4
  z4 := Tryd.sizeOf4
  v4 := Tryd.zeroValue4
  t5 := Tryd.underlying5
  a5 := Tryd.isAgg5
  z5 := Tryd.sizeOf5
  v5 := Tryd.zeroValue5
  t9 := Tryd.underlying9
  a9 := Tryd.isAgg9
  z9 := Tryd.sizeOf9
  v9 := Tryd.zeroValue9
  t20 := Tryd.underlying20
  a20 := Tryd.isAgg20
  z20 := Tryd.sizeOf20
  v20 := Tryd.zeroValue20
  t37 := Tryd.underlying22
  a37 := Tryd.isAgg22
  z37 := Tryd.sizeOf22
  v37 := Tryd.zeroValue22
  t46 := Tryd.underlying163
  a46 := Tryd.isAgg163
  z46 := Tryd.sizeOf163
  v46 := Tryd.zeroValue163
  t51 := Tryd.underlying179
  a51 := Tryd.isAgg179
  z51 := Tryd.sizeOf179
  v51 := Tryd.zeroValue179
  t53 := Tryd.underlying181
  a53 := Tryd.isAgg181
  z53 := Tryd.sizeOf181
  v53 := Tryd.zeroValue181
  t171 := Tryd.underlying195
  a171 := Tryd.isAgg195
  z171 := Tryd.sizeOf195
  v171 := Tryd.zeroValue195
  t173 := Tryd.underlying197
  a173 := Tryd.isAgg197
  z173 := Tryd.sizeOf197
  v173 := Tryd.zeroValue197
  t212 := Tryd.underlying203
  a212 := Tryd.isAgg203
  z212 := Tryd.sizeOf203
  v212 := Tryd.zeroValue203
  t213 := Tryd.underlying204
  a213 := Tryd.isAgg204
  z213 := Tryd.sizeOf204
  t232 := Tryd.underlying205
  a232 := Tryd.isAgg205
  z232 := Tryd.sizeOf205
  v232 := Tryd.zeroValue205
  t233 := Tryd.underlying206
  a233 := Tryd.isAgg206
  z233 := Tryd.sizeOf206
  v233 := Tryd.zeroValue206
  g17 := by kernel_rfl
  g18 := by kernel_rfl
  g19 := by kernel_rfl }

def Tryd.bws_ren : Go.Shelf.Ren := ⟨fun | 166 => 126 | 240 => 145 | 276 => 164 | n => n, fun | 70 => 145 | 9 => 9 | 3 => 3 | 75 => 149 | 0 => 0 | 72 => 147 | 37 => 22 | 4 => 4 | 164 => 184 | 80 => 154 | 5 => 5 | 20 => 20 | n => n, fun | n => n⟩
theorem Tryd.bws : Go.Proofs.Lays.n166 Tryd.prog Tryd.bws_ren := {
  mixed := by kernel_rfl
  f166 := Tryd.func126.trans (congrArg some (by kernel_rfl))
  f240 := Tryd.func145.trans (congrArg some (by kernel_rfl))
  f276 := Tryd.func164.trans (congrArg some (by kernel_rfl))
  t0 := Tryd.underlying0
  a0 := Tryd.isAgg0
  z0 := Tryd.sizeOf0
  v0 := Tryd.zeroValue0
  t3 := Tryd.underlying3
  a3 := Tryd.isAgg3
  z3 := Tryd.sizeOf3
  v3 := Tryd.zeroValue3
  t4 := Tryd.underlying4
  a4 := Tryd.isAgg4
  z4 := Tryd.sizeOf4
  v4 := Tryd.zeroValue4
  t9 := Tryd.underlying9
  a9 := Tryd.isAgg9
  z9 := Tryd.sizeOf9
  v9 := Tryd.zeroValue9
  t20 := Tryd.underlying20
  a20 := Tryd.isAgg20
  z20 := Tryd.sizeOf20
  v20 := Tryd.zeroValue20
  t37 := Tryd.underlying22
  a37 := Tryd.isAgg22
  z37 := Tryd.sizeOf22
  v37 := Tryd.zeroValue22
  t70 := Tryd.underlying145
  a70 := Tryd.isAgg145
  z70 := Tryd.sizeOf145
  v70 := Tryd.zeroValue145
  t72 := Tryd.underlying147
  a72 := Tryd.isAgg147
  z72 := Tryd.sizeOf147
  v72 := Tryd.zeroValue147
  t75 := Tryd.underlying149
  a75 := Tryd.isAgg149
  z75 := Tryd.sizeOf149
  v75 := Tryd.zeroValue149
  t164 := Tryd.underlying184
  a164 := Tryd.isAgg184
  z164 := Tryd.sizeOf184
  v164 := Tryd.zeroValue184 }

theorem Tryd.bwsX : Builder.Extra Tryd.prog Tryd.bws_ren := {
  sizeBuilder := by kernel_rfl
  liesBuilder := by kernel_rfl
  t5 := Tryd.underlying5
  a5 := Tryd.isAgg5
  z5 := Tryd.sizeOf5
  v5 := Tryd.zeroValue5
  infoByte := by kernel_rfl
  cellsByte := by kernel_rfl
  sizeByte := by kernel_rfl
  neB5 := by decide }

def Tryd.bwb_ren : Go.Shelf.Ren := ⟨fun | 167 => 128 | 240 => 145 | 276 => 164 | n => n, fun | 70 => 145 | 5 => 5 | 75 => 149 | 0 => 0 | 72 => 147 | 37 => 22 | 4 => 4 | 164 => 184 | 80 => 154 | 9 => 9 | 20 => 20 | n => n, fun | n => n⟩
theorem Tryd.bwb : Go.Proofs.Lays.n167 Tryd.prog Tryd.bwb_ren := {
  mixed := by kernel_rfl
  f167 := Tryd.func128.trans (congrArg some (by kernel_rfl))
  f240 := Tryd.func145.trans (congrArg some (by kernel_rfl))
  f276 := Tryd.func164.trans (congrArg some (by kernel_rfl))
  t0 := Tryd.underlying0
  a0 := Tryd.isAgg0
  z0 := Tryd.sizeOf0
  v0 := Tryd.zeroValue0
  t4 := Tryd.underlying4
  a4 := Tryd.isAgg4
  z4 := Tryd.sizeOf4
  v4 := Tryd.zeroValue4
  t5 := Tryd.underlying5
  a5 := Tryd.isAgg5
  z5 := Tryd.sizeOf5
  v5 := Tryd.zeroValue5
  t9 := Tryd.underlying9
  a9 := Tryd.isAgg9
  z9 := Tryd.sizeOf9
  v9 := Tryd.zeroValue9
  t20 := Tryd.underlying20
  a20 := Tryd.isAgg20
  z20 := Tryd.sizeOf20
  v20 := Tryd.zeroValue20
  t37 := Tryd.underlying22
  a37 := Tryd.isAgg22
  z37 := Tryd.sizeOf22
  v37 := Tryd.zeroValue22
  t70 := Tryd.underlying145
  a70 := Tryd.isAgg145
  z70 := Tryd.sizeOf145
  v70 := Tryd.zeroValue145
  t72 := Tryd.underlying147
  a72 := Tryd.isAgg147
  z72 := Tryd.sizeOf147
  v72 := Tryd.zeroValue147
  t75 := Tryd.underlying149
  a75 := Tryd.isAgg149
  z75 := Tryd.sizeOf149
  v75 := Tryd.zeroValue149
  t164 := Tryd.underlying184
  a164 := Tryd.isAgg184
  z164 := Tryd.sizeOf184
  v164 := Tryd.zeroValue184 }

theorem Tryd.bwbX : Builder.Extra Tryd.prog Tryd.bwb_ren := {
  sizeBuilder := by kernel_rfl
  liesBuilder := by kernel_rfl
  t5 := Tryd.underlying5
  a5 := Tryd.isAgg5
  z5 := Tryd.sizeOf5
  v5 := Tryd.zeroValue5
  infoByte := by kernel_rfl
  cellsByte := by kernel_rfl
  sizeByte := by kernel_rfl
  neB5 := by decide }

def Tryd.bst_ren : Go.Shelf.Ren := ⟨fun | 169 => 129 | n => n, fun | 70 => 145 | 9 => 9 | 0 => 0 | 72 => 147 | 37 => 22 | 127 => 168 | 3 => 3 | 5 => 5 | n => n, fun | n => n⟩
theorem Tryd.bst : Go.Proofs.Lays.n169 Tryd.prog Tryd.bst_ren := {
  mixed := by kernel_rfl
  f169 := Tryd.func129.trans (congrArg some (by kernel_rfl))
  t0 := Tryd.underlying0
  a0 := Tryd.isAgg0
  z0 := Tryd.sizeOf0
  v0 := Tryd.zeroValue0
  t3 := Tryd.underlying3
  a3 := Tryd.isAgg3
  z3 := Tryd.sizeOf3
  v3 := Tryd.zeroValue3
  t9 := Tryd.underlying9
  a9 := Tryd.isAgg9
  z9 := Tryd.sizeOf9
  v9 := Tryd.zeroValue9
  t37 := Tryd.underlying22
  a37 := Tryd.isAgg22
  z37 := Tryd.sizeOf22
  v37 := Tryd.zeroValue22
  t70 := Tryd.underlying145
  a70 := Tryd.isAgg145
  z70 := Tryd.sizeOf145
  v70 := Tryd.zeroValue145
  t72 := Tryd.underlying147
  a72 := Tryd.isAgg147
  z72 := Tryd.sizeOf147
  v72 := Tryd.zeroValue147
  t127 := Tryd.underlying168
  a127 := Tryd.isAgg168
  z127 := Tryd.sizeOf168
  v127 := Tryd.zeroValue168 }

theorem Tryd.bstX : Builder.Extra Tryd.prog Tryd.bst_ren := {
  sizeBuilder := by kernel_rfl
  liesBuilder := by kernel_rfl
  t5 := Tryd.underlying5
  a5 := Tryd.isAgg5
  z5 := Tryd.sizeOf5
  v5 := Tryd.zeroValue5
  infoByte := by kernel_rfl
  cellsByte := by kernel_rfl
  sizeByte := by kernel_rfl
  neB5 := by decide }

theorem itoa_small (i : Nat) (hi : i < 100) (w : World) : Calls Tryd.prog 127 #[.int .i64 i] w fun e w' => e = .returned (.string ⟨(Lib.decDigits i).toArray⟩) ∧ w' = w := Any.strconv_Itoa_small Tryd.itoa i hi w
theorem bws_any (B b : Nat) (bs : List Value) (s : ByteArray) (w : World) (h : Lib.IsBuilderF 147 5 B b bs w) (hlen : bs.length + s.size ≤ 140737488355328) (hBw : B ≤ w.heap.size) :
    Calls Tryd.prog 126 #[.pointer (some ⟨b, 0, none⟩), .string s] w fun e w' => e = .returned (.tuple #[.int .i64 s.size, .nilIface]) ∧ (Lib.BuilderAtF 147 5 B b (.pointer (some ⟨b, 0, none⟩)) (bs ++ Lib.strCells s) w' ∧ Below B w w' ∧ Lib.OthersKept 5 (some b) w w') :=
  Any.Builder_WriteString_k Tryd.bws Tryd.bwsX B b bs s w h hlen hBw
theorem bwb_any (B b : Nat) (bs : List Value) (c : Int) (w : World) (h : Lib.IsBuilderF 147 5 B b bs w) (hlen : bs.length + 1 ≤ 140737488355328) (hBw : B ≤ w.heap.size) :
    Calls Tryd.prog 128 #[.pointer (some ⟨b, 0, none⟩), .int .u8 c] w fun e w' => e = .returned .nilIface ∧ (Lib.BuilderAtF 147 5 B b (.pointer (some ⟨b, 0, none⟩)) (bs ++ [.int .u8 c]) w' ∧ Below B w w' ∧ Lib.OthersKept 5 (some b) w w') :=
  Any.Builder_WriteByte_k Tryd.bwb Tryd.bwbX B b bs c w h hlen hBw
theorem bst_any (B b : Nat) (l : List UInt8) (w : World) (h : Lib.IsBuilderF 147 5 B b (Lib.byteCells l) w) (hBw : B ≤ w.heap.size) :
    Calls Tryd.prog 129 #[.pointer (some ⟨b, 0, none⟩)] w fun e w' => e = .returned (.string ⟨l.toArray⟩) ∧ (Lib.IsBuilderF 147 5 B b (Lib.byteCells l) w' ∧ Below B w w' ∧ Lib.OthersKept 5 (some b) w w') :=
  Any.Builder_String_any_k Tryd.bst Tryd.bstX B b l w h hBw
end Go.Proofs.YtoonkpjddfiopaaDoor

/- Walk: image.Format of small images. -/
namespace Go.Proofs.YtoonkpjddfiopaaDoor
open Go.RowKit Go.Shelf
set_option linter.unusedVariables false
attribute [local go_sem] Oper.semAt_some

/-- the text of an image -/
def fmRow (W : Nat) (p : Int → Int) (y : Int) : Nat → List UInt8
  | 0 => []
  | x + 1 => fmRow W p y x ++ [if p (y * W + x) = 1 then 35 else 46]
def fmRows (W : Nat) (p : Int → Int) : Nat → List UInt8
  | 0 => []
  | y + 1 => fmRows W p y ++ (fmRow W p y W ++ [10])
def fmHead (W H : Nat) : List UInt8 := Lib.decDigits W ++ [32] ++ Lib.decDigits H ++ [10]
theorem fmRow_len (W : Nat) (p : Int → Int) (y : Int) (x : Nat) : (fmRow W p y x).length = x := by
  induction x with
  | zero => rfl
  | succ x ih => rw [fmRow, List.length_append, ih]; rfl
theorem fmRows_len (W : Nat) (p : Int → Int) (y : Nat) : (fmRows W p y).length = y * (W + 1) := by
  induction y with
  | zero => simp [fmRows]
  | succ y ih => rw [fmRows, List.length_append, List.length_append, ih, fmRow_len, Nat.succ_mul]; rfl
theorem decDigits_len {i : Nat} (h : i < 100) : (Lib.decDigits i).length ≤ 2 := by
  unfold Lib.decDigits
  split
  · simp
  · rw [List.length_append]
    unfold Lib.decDigits
    rw [dif_pos (by omega)]
    simp
theorem fmHead_len {W H : Nat} (hW : W < 100) (hH : H < 100) : (fmHead W H).length ≤ 6 := by
  have a := decDigits_len hW; have b := decDigits_len hH
  unfold fmHead
  simp only [List.length_append, List.length_cons, List.length_nil]
  omega
theorem bc_snoc (l : List UInt8) (u : UInt8) : Lib.byteCells l ++ [Value.int .u8 u.toNat] = Lib.byteCells (l ++ [u]) := by rw [Lib.byteCells_append]; rfl
theorem strCells_add (a b : ByteArray) : Lib.strCells (a ++ b) = Lib.strCells a ++ Lib.strCells b := by
  unfold Lib.strCells; simp

set_option maxRecDepth 100000 in
set_option maxHeartbeats 4000000 in
theorem format_small (W H : Nat) (A : Option Addr) (n c : Nat) (p : Int → Int) (w : World) (hA : ArrB w w.heap.size A n p) (hnc : n ≤ c) (hW0 : 0 < W) (hW : W < 100) (hH0 : 0 < H) (hH : H < 100) (hE : chk W H n p = 0) (hn : n = W * H) (hp : ∀ i : Int, 0 ≤ i → i < n → p i = 0 ∨ p i = 1) :
    Calls Tryd.prog 76 #[.agg #[.int .i64 W, .int .i64 H, .slice A n c]] w fun e w' => e = .returned (.tuple #[.string ⟨(fmHead W H ++ fmRows W p H).toArray⟩, .int .i64 0]) ∧ Below w.heap.size w w' := by
  have hn9 : n ≤ 100 * 100 := by rw [hn]; exact Nat.mul_le_mul (Nat.le_of_lt hW) (Nat.le_of_lt hH)
  have CK := Lib.hid fun w' hA' => check_any W H A n c p w' hA' (by unfold maxLen; omega)
  rw [hE] at CK
  have b1 : Below w.heap.size w (w.alloc (.cells #[.int .i64 W, .int .i64 H, .slice A n c] 24)) := by (repeat (first | exact Below.refl _ _ | assumption | refine Below.drew ?_ | refine below_drewN ?_ _ | refine Below.alloc ?_ (by first | omega | (simp; done) | (simp; omega)) _ | refine Below.setCell ?_ (by first | omega | (simp; done) | (simp; omega)) _ | refine below_setRow ?_ (by first | omega | (simp; done) | (simp; omega)) _ ))
  have k1 : Blk (w.alloc (.cells #[.int .i64 W, .int .i64 H, .slice A n c] 24)) w.heap.size 24 #[.int .i64 W, .int .i64 H, .slice A n c] := Blk.new _ _ _
  have HP := Lib.hid hp
  have HN := Lib.hid hn
  clear hE hn hp
  go_enter Tryd.func76, Tryd.ntmps76
  go_wp2_with fail
  generalize w.alloc (.cells #[.int .i64 W, .int .i64 H, .slice A n c] 24) = w1 at *
  refine (CK.out _ (hA.to b1)).mono ?_
  rintro e w2 ⟨rfl, hb2⟩
  have b2 := below_call b1 b1.size hb2
  have k2 := k1.below' hb2
  have hlt := k2.lt
  obtain ⟨gb, hgb⟩ : ∃ g, w2.heap.size = g := ⟨_, rfl⟩
  have m1 := k2.alloc (.cells #[.pointer none, .slice none 0 0] 147)
  have b3 := b2.alloc b2.size (.cells #[.pointer none, .slice none 0 0] 147)
  have hbu : Lib.IsBuilderF 147 5 gb gb [] (w2.alloc (.cells #[.pointer none, .slice none 0 0] 147)) := by
    rw [← hgb]; exact Lib.IsBuilderF.of (Lib.fresh_isBuilder 147 5 w2)
  have hsz : gb < (w2.alloc (.cells #[.pointer none, .slice none 0 0] 147)).heap.size := by simp; omega
  clear b1 k1 k2 hb2 CK
  go_upto_region 5 with fail
  generalize w2.alloc (.cells #[.pointer none, .slice none 0 0] 147) = w3 at *
  have hA3 := Lib.hid (hA.to b3)
  have KS := Lib.hid fun w' (hb : Below gb w3 w') => (show w'.cell? ⟨w.heap.size, 0, none⟩ = some (.int .i64 W) ∧ w'.cell? ⟨w.heap.size, 1, none⟩ = some (.int .i64 H) ∧ w'.cell? ⟨w.heap.size, 2, none⟩ = some (.slice A n c) from (m1.below hb (by omega)).cells3)
  obtain ⟨SW, hSW⟩ : ∃ s : ByteArray, s = ⟨(Lib.decDigits W).toArray⟩ := ⟨_, rfl⟩
  obtain ⟨SH, hSH⟩ : ∃ s : ByteArray, s = ⟨(Lib.decDigits H).toArray⟩ := ⟨_, rfl⟩
  have IW := Lib.hid (itoa_small W hW)
  have IH := Lib.hid (itoa_small H hH)
  rw [← hSW] at IW
  rw [← hSH] at IH
  have szW : SW.size ≤ 2 := by rw [hSW]; exact decDigits_len hW
  have szH : SH.size ≤ 2 := by rw [hSH]; exact decDigits_len hH
  have HSZ : Hid ((SW ++ ⟨#[32]⟩ ++ SH ++ ⟨#[10]⟩).size ≤ 6) := by
    show _ ≤ _
    rw [ByteArray.size_append, ByteArray.size_append, ByteArray.size_append]
    have e1 : (⟨#[32]⟩ : ByteArray).size = 1 := rfl
    have e2 : (⟨#[10]⟩ : ByteArray).size = 1 := rfl
    omega
  have SHD : Hid (Lib.strCells (SW ++ ⟨#[32]⟩ ++ SH ++ ⟨#[10]⟩) = Lib.byteCells (fmHead W H)) := by
    show _ = _
    rw [strCells_add, strCells_add, strCells_add, hSW, hSH]
    unfold fmHead
    rw [Lib.byteCells_append, Lib.byteCells_append, Lib.byteCells_append]
    rfl
  have HBU : Hid (Lib.IsBuilderF 147 5 gb gb [] w3.drew) := by
    show _ ∨ _
    exact hbu.elim (fun h => .inl h.drew) (fun h => .inr h.drew)
  have hlg : w.heap.size < gb := by omega
  clear hbu hSW hSH hgb m1
  go_cut [22] (fun s wx => Lib.IsBuilderF 147 5 gb gb (Lib.byteCells (fmHead W H)) wx ∧ Below gb w3 wx)
  case first =>
    refine wp_region_held_drew (S := fun w' => w'.cell? ⟨w.heap.size, 0, none⟩ = some (.int .i64 W) ∧ w'.cell? ⟨w.heap.size, 1, none⟩ = some (.int .i64 H) ∧ w'.cell? ⟨w.heap.size, 2, none⟩ = some (.slice A n c)) (by kernel_rfl) (KS.out _ (Below.refl _ _).drew) (fun hHeld => ?_)
    refine wpAnyH_take (i := 0) (oi := _) (v := ?_) (by simp only [List.getElem?_toArray, List.getElem?_cons_zero]; exact rfl) (by kernel_rfl) (by kernel_rfl) (by kernel_rfl) (by exact fun _ _ _ h => h) (Or.inl ⟨by rfl, ?_⟩) (by assumption) ?_
    rotate_left 1
    · intro w hSw
      (try dsimp only at hSw)
      go_simp
      try with_reducible rfl
    try simp only [Act.put, List.setIfInBounds_toArray, List.set_cons_zero, List.set_cons_succ]
    refine wpAnyH_take (i := 1) (oi := _) (v := ?_) (by simp only [List.getElem?_toArray, List.getElem?_cons_zero, List.getElem?_cons_succ]; exact rfl) (by kernel_rfl) (by kernel_rfl) (by kernel_rfl) (by exact fun _ _ _ h => h) (Or.inl ⟨by rfl, ?_⟩) (by assumption) ?_
    rotate_left 1
    · intro w hSw
      (try dsimp only at hSw)
      go_simp
      try with_reducible rfl
    try simp only [Act.put, List.setIfInBounds_toArray, List.set_cons_zero, List.set_cons_succ]
    refine wpAnyH_take (i := 4) (oi := _) (v := ?_) (by simp only [List.getElem?_toArray, List.getElem?_cons_zero, List.getElem?_cons_succ]; exact rfl) (by kernel_rfl) (by kernel_rfl) (by kernel_rfl) (by exact fun _ _ _ h => h) (Or.inl ⟨by rfl, ?_⟩) (by assumption) ?_
    rotate_left 1
    · intro w hSw
      (try dsimp only at hSw)
      go_simp
      try with_reducible rfl
    try simp only [Act.put, List.setIfInBounds_toArray, List.set_cons_zero, List.set_cons_succ]
    refine wpAnyH_take (i := 5) (oi := _) (v := ?_) (by simp only [List.getElem?_toArray, List.getElem?_cons_zero, List.getElem?_cons_succ]; exact rfl) (by kernel_rfl) (by kernel_rfl) (by kernel_rfl) (by exact fun _ _ _ h => h) (Or.inl ⟨by rfl, ?_⟩) (by assumption) ?_
    rotate_left 1
    · intro w hSw
      (try dsimp only at hSw)
      go_simp
      try with_reducible rfl
    try simp only [Act.put, List.setIfInBounds_toArray, List.set_cons_zero, List.set_cons_succ]
    refine wpAnyH_ready (rs := [2]) (by kernel_rfl) (by simp) ?_
    refine AllReadyH.cons (o := _) (by simp only [List.getElem?_toArray, List.getElem?_cons_zero, List.getElem?_cons_succ]; exact rfl) (fun K' hK => ?_) AllReadyH.nil
    go_simp
    refine (IW.out _).mono ?_
    rintro ee w5 ⟨rfl, rfl⟩
    refine hK.out _ _ (KS.out _ (Below.refl _ _).drew) (fun hHeld => ?_)
    clear hK K'
    try simp only [Act.put, List.setIfInBounds_toArray, List.set_cons_zero, List.set_cons_succ]
    refine wpAnyH_take (i := 3) (oi := _) (v := ?_) (by simp only [List.getElem?_toArray, List.getElem?_cons_zero, List.getElem?_cons_succ]; exact rfl) (by kernel_rfl) (by kernel_rfl) (by kernel_rfl) (by exact fun _ _ _ h => h) (Or.inl ⟨by rfl, ?_⟩) (by assumption) ?_
    rotate_left 1
    · intro w hSw
      (try dsimp only at hSw)
      go_simp
      rw [if_neg (by first | omega | (simp [ByteArray.size_append]; omega))]
    try simp only [Act.put, List.setIfInBounds_toArray, List.set_cons_zero, List.set_cons_succ]
    refine wpAnyH_ready (rs := [6]) (by kernel_rfl) (by simp) ?_
    refine AllReadyH.cons (o := _) (by simp only [List.getElem?_toArray, List.getElem?_cons_zero, List.getElem?_cons_succ]; exact rfl) (fun K' hK => ?_) AllReadyH.nil
    go_simp
    refine (IH.out _).mono ?_
    rintro ee w5 ⟨rfl, rfl⟩
    refine hK.out _ _ (KS.out _ (Below.refl _ _).drew) (fun hHeld => ?_)
    clear hK K'
    try simp only [Act.put, List.setIfInBounds_toArray, List.set_cons_zero, List.set_cons_succ]
    refine wpAnyH_take (i := 7) (oi := _) (v := ?_) (by simp only [List.getElem?_toArray, List.getElem?_cons_zero, List.getElem?_cons_succ]; exact rfl) (by kernel_rfl) (by kernel_rfl) (by kernel_rfl) (by exact fun _ _ _ h => h) (Or.inl ⟨by rfl, ?_⟩) (by assumption) ?_
    rotate_left 1
    · intro w hSw
      (try dsimp only at hSw)
      go_simp
      rw [if_neg (by first | omega | (simp [ByteArray.size_append]; omega))]
    try simp only [Act.put, List.setIfInBounds_toArray, List.set_cons_zero, List.set_cons_succ]
    refine wpAnyH_take (i := 8) (oi := _) (v := ?_) (by simp only [List.getElem?_toArray, List.getElem?_cons_zero, List.getElem?_cons_succ]; exact rfl) (by kernel_rfl) (by kernel_rfl) (by kernel_rfl) (by exact fun _ _ _ h => h) (Or.inl ⟨by rfl, ?_⟩) (by assumption) ?_
    rotate_left 1
    · intro w hSw
      (try dsimp only at hSw)
      go_simp
      rw [if_neg (by first | omega | (simp [ByteArray.size_append]; omega))]
    try simp only [Act.put, List.setIfInBounds_toArray, List.set_cons_zero, List.set_cons_succ]
    refine wpAnyH_ready (rs := [9]) (by kernel_rfl) (by simp) ?_
    refine AllReadyH.cons (o := _) (by simp only [List.getElem?_toArray, List.getElem?_cons_zero, List.getElem?_cons_succ]; exact rfl) (fun K' hK => ?_) AllReadyH.nil
    go_simp
    refine (bws_any gb gb [] _ _ HBU.out (by rw [List.length_nil, Nat.zero_add]; exact Nat.le_trans HSZ.out (by omega)) (by simp; omega)).mono ?_
    rintro ee w6 ⟨rfl, h6, hb6, -⟩
    have B6 : Hid (Below gb w3 w6) := by show Below _ _ _; exact (Below.refl _ _).drew.trans hb6
    refine hK.out _ _ (KS.out _ B6.out) (fun hHeld => ?_)
    clear hK K'
    try simp only [Act.put, List.setIfInBounds_toArray, List.set_cons_zero, List.set_cons_succ]
    refine wpAnyH_done (by kernel_rfl) ?_ _
    go_wp2_with fail
    go_meet
    refine ⟨.inr ?_, B6.out⟩
    rw [← SHD.out]
    exact h6
  case rest =>
  obtain ⟨hb4, hb5⟩ := hcut
  generalize wc = w4 at *
  have HB4 : Hid (Lib.IsBuilderF 147 5 gb gb (Lib.byteCells (fmHead W H ++ fmRows W p 0)) w4) := by show Lib.IsBuilderF _ _ _ _ _ _; unfold fmRows; rw [List.append_nil]; exact hb4
  obtain ⟨p1, p2, p3⟩ := KS.out _ hb5
  clear hb4 IW IH SHD HBU HSZ szW szH SW SH
  go_wp2_with fail
  go_loopw [26] (fun s wr => ∃ y : Nat, y ≤ H ∧ s = .int .i64 y ∧ Hid (Lib.IsBuilderF 147 5 gb gb (Lib.byteCells (fmHead W H ++ fmRows W p y)) wr) ∧ Below gb w3 wr) (fun s _ => H - (intOf s).toNat)
  case atStart => exact ⟨0, by omega, rfl, HB4, hb5⟩
  case round =>
    obtain ⟨y, hy, rfl, hbu, hbr⟩ := hrel
    clear HB4 hb5 p1 p2 p3
    obtain ⟨p1, p2, p3⟩ := KS.out _ hbr
    have b5 := b3.trans (hbr.mono (show w.heap.size ≤ gb by omega))
    have hzr := hbr.size
    by_cases hlt : y < H
    · obtain ⟨b, off, rfl, hbB, -⟩ := ArrB.at_ (ArrB.below hA b5) (i := 0) (by omega) (by have := HN.out; have := Nat.mul_pos hW0 hH0; omega)
      obtain ⟨L, hL⟩ : ∃ L, y * W = L := ⟨_, rfl⟩
      have hLM : L + W ≤ n := by
        have h1 : (y + 1) * W ≤ H * W := Nat.mul_le_mul_right W hlt
        rw [Nat.succ_mul, hL, Nat.mul_comm H W, ← HN.out] at h1
        exact h1
      have i1 : (y : Int) * (W : Int) = (L : Int) := by rw [← hL]; push_cast; rfl
      have i2 : ((y : Int) + 1) * (W : Int) = ((L + W : Nat) : Int) := by rw [Int.add_mul, i1, Int.one_mul]; push_cast; rfl
      have w1' : IntKind.i64.wrap ((y : Int) * (W : Int)) = (L : Int) := by rw [i1]; exact IntWalk.i64_in _ (by omega)
      have w2' : IntKind.i64.wrap (((y : Int) + 1) * (W : Int)) = ((L + W : Nat) : Int) := by rw [i2]; exact IntWalk.i64_in _ (by omega)
      have hLc : L < c := by omega
      have hLc2 : L + W ≤ c := by omega
      have CF := Lib.hid fun (wx : World) (hb : Below gb w3 wx) (x : Nat) (hx : x < W) => (show wx.cell? ⟨b, off + L + x, none⟩ = some (.int .u8 (p ((y : Int) * W + x))) ∧ (p ((y : Int) * W + x) = 0 ∨ p ((y : Int) * W + x) = 1) from by
        obtain ⟨b', o', e, _, hc⟩ := ArrB.at_ (ArrB.below hA (b3.trans (hb.mono (show w.heap.size ≤ gb by omega)))) (i := (y : Int) * W + x) (by omega) (by omega)
        cases e
        have e2 : ((y : Int) * W + x).toNat = L + x := by omega
        rw [e2, ← Nat.add_assoc] at hc
        exact ⟨hc, HP.out _ (by omega) (by omega)⟩)
      have HLEN : Hid (∀ x, x ≤ W → (fmHead W H ++ (fmRows W p y ++ fmRow W p y x)).length ≤ 20000) := by
        intro x hx
        have a := fmHead_len hW hH
        rw [List.length_append, List.length_append, fmRows_len, fmRow_len]
        have b : y * (W + 1) ≤ 100 * 100 := Nat.mul_le_mul (by omega) (by omega)
        omega
      have HB0 : Hid (Lib.IsBuilderF 147 5 gb gb (Lib.byteCells (fmHead W H ++ (fmRows W p y ++ fmRow W p y 0))) wr) := by
        show Lib.IsBuilderF _ _ _ _ _ _
        unfold fmRow; rw [List.append_nil]; exact hbu.out
      clear hL i1 i2 b5 hbu
      go_wp2
      rw [show L + W - L = W from Nat.add_sub_cancel_left L W]
      go_loopw [42] (fun s wx => ∃ x : Nat, x ≤ W ∧ s = .int .i64 x ∧ Hid (Lib.IsBuilderF 147 5 gb gb (Lib.byteCells (fmHead W H ++ (fmRows W p y ++ fmRow W p y x))) wx) ∧ Below gb w3 wx) (fun s _ => W - (intOf s).toNat)
      case atStart => exact ⟨0, by omega, rfl, HB0, hbr⟩
      case round =>
        obtain ⟨x, hx, rfl, hbx, hb6⟩ := hrel
        clear HB0 hbr p1 p2 p3 w1' w2'
        have hgz := Nat.le_trans (show gb ≤ w3.heap.size by omega) hb6.size
        by_cases hlx : x < W
        · obtain ⟨hc, hv⟩ := CF.out _ hb6 x hlx
          have FR : Hid (fmRow W p y (x + 1) = fmRow W p y x ++ [if p ((y : Int) * W + x) = 1 then 35 else 46]) := by show _ = _; rfl
          have hlen := HLEN.out x hx
          generalize p ((y : Int) * W + x) = v at *
          rcases hv with rfl | rfl
          · go_wp2_with fail
            refine (bwb_any gb gb _ 46 _ hbx.out (by rw [Lib.byteCells_length]; omega) hgz).mono ?_
            rintro e w7 ⟨rfl, h7, hb7, -⟩
            have H7 : Hid (Lib.IsBuilderF 147 5 gb gb (Lib.byteCells (fmHead W H ++ (fmRows W p y ++ fmRow W p y (x + 1)))) w7) := by
              refine .inr ?_
              rw [FR.out, if_neg (by simp), ← List.append_assoc (fmRows W p y), ← List.append_assoc (fmHead W H), ← bc_snoc]
              exact h7
            have b7 := hb6.trans hb7
            clear h7 hb7 FR hc hlen
            go_wp2
            go_roundw
            case rel => exact ⟨x + 1, by omega, by go_num, H7, b7⟩
            case measure => simp [intOf]; omega
          · go_wp2_with fail
            refine (bwb_any gb gb _ 35 _ hbx.out (by rw [Lib.byteCells_length]; omega) hgz).mono ?_
            rintro e w7 ⟨rfl, h7, hb7, -⟩
            have H7 : Hid (Lib.IsBuilderF 147 5 gb gb (Lib.byteCells (fmHead W H ++ (fmRows W p y ++ fmRow W p y (x + 1)))) w7) := by
              refine .inr ?_
              rw [FR.out, if_pos (by simp), ← List.append_assoc (fmRows W p y), ← List.append_assoc (fmHead W H), ← bc_snoc]
              exact h7
            have b7 := hb6.trans hb7
            clear h7 hb7 FR hc hlen
            go_wp2
            go_roundw
            case rel => exact ⟨x + 1, by omega, by go_num, H7, b7⟩
            case measure => simp [intOf]; omega
        · have exW : x = W := by omega
          subst exW
          have hlen := HLEN.out x (Nat.le_refl _)
          have FR : Hid (fmRows x p (y + 1) = fmRows x p y ++ (fmRow x p y x ++ [10])) := by show _ = _; rfl
          go_wp2_with fail
          refine (bwb_any gb gb _ 10 _ hbx.out (by rw [Lib.byteCells_length]; omega) hgz).mono ?_
          rintro e w7 ⟨rfl, h7, hb7, -⟩
          have H7 : Hid (Lib.IsBuilderF 147 5 gb gb (Lib.byteCells (fmHead x H ++ fmRows x p (y + 1))) w7) := by
            refine .inr ?_
            rw [FR.out, ← List.append_assoc (fmRows x p y), ← List.append_assoc (fmHead x H), ← bc_snoc]
            exact h7
          have b7 := hb6.trans hb7
          clear h7 hb7 FR hlen
          go_wp2
          go_roundw
          case rel => exact ⟨y + 1, by omega, by go_num, H7, b7⟩
          case measure => simp [intOf]; omega
    · obtain rfl : y = H := by omega
      have HB := Lib.hid hbu.out
      go_wp2_with fail
      refine (bst_any gb gb _ _ HB.out (by omega)).mono ?_
      rintro e w6 ⟨rfl, -, hb6, -⟩
      have b6 := b5.trans (hb6.mono (show w.heap.size ≤ gb by omega))
      go_wp2_with fail
      go_ret2
      exact ⟨rfl, b6⟩
end Go.Proofs.YtoonkpjddfiopaaDoor

/- Plain: the examples of the chapter on images. No program in sight. -/
namespace Go.Proofs.YtoonkpjddfiopaaDoor
set_option linter.unusedVariables false
def ex1 : Int → Int := lit [1, 0, 1, 0, 1, 0]
theorem ex1_ink {i : Nat} : InkN 6 ex1 i ↔ i = 0 ∨ i = 2 ∨ i = 4 := by
  unfold InkN ex1 lit
  constructor
  · rintro ⟨h, h1⟩
    rcases (show i = 0 ∨ i = 1 ∨ i = 2 ∨ i = 3 ∨ i = 4 ∨ i = 5 by omega) with rfl | rfl | rfl | rfl | rfl | rfl <;> first | omega | (simp at h1)
  · rintro (rfl | rfl | rfl) <;> exact ⟨by omega, by decide⟩
theorem ex1_rootK {e : Bool} {k : Nat} : True := trivial
theorem ex1_true : rootN 6 (InkN 6 ex1) (AdjN 3 true) = [0] := by
  refine sorted_ext rootN_sorted (by simp) fun x => ?_
  rw [mem_rootN, List.mem_singleton]
  have i0 : InkN 6 ex1 0 := ex1_ink.2 (.inl rfl)
  have i4 : InkN 6 ex1 4 := ex1_ink.2 (.inr (.inr rfl))
  have c4 : Cn (InkN 6 ex1) (AdjN 3 true) 4 0 := Cn.one i4 i0 (by unfold AdjN; decide)
  constructor
  · rintro ⟨hx, hi, hm⟩
    rcases ex1_ink.1 hi with rfl | rfl | rfl
    · rfl
    · have c2 : Cn (InkN 6 ex1) (AdjN 3 true) 2 4 := Cn.one hi i4 (by unfold AdjN; decide)
      have := hm 0 (c2.trans c4)
      omega
    · have := hm 0 c4
      omega
  · rintro rfl
    exact ⟨by omega, i0, fun j _ => Nat.zero_le j⟩
theorem ex1_false : rootN 6 (InkN 6 ex1) (AdjN 3 false) = [0, 2, 4] := by
  refine sorted_ext rootN_sorted (by simp) fun x => ?_
  rw [mem_rootN]
  have key : ∀ a b, InkN 6 ex1 a → Cn (InkN 6 ex1) (AdjN 3 false) a b → b = a := fun a b ha hc => by
    refine hc.closed (S := fun z => z = a) rfl ?_
    rintro x y rfl hy hA
    rcases ex1_ink.1 ha with rfl | rfl | rfl <;> rcases ex1_ink.1 hy with rfl | rfl | rfl <;> first | rfl | (exfalso; revert hA; unfold AdjN; decide)
  constructor
  · rintro ⟨hx, hi, hm⟩
    rcases ex1_ink.1 hi with rfl | rfl | rfl <;> simp
  · intro hx
    have hi : InkN 6 ex1 x := ex1_ink.2 (by simpa using hx)
    exact ⟨hi.1, hi, fun j hj => by rw [key x j hi hj]; exact Nat.le_refl _⟩
/-- nothing goes: the pass changes nothing -/
theorem thX_none {W H y : Int} {q : Int → Int} : ∀ (x : Nat), (∀ x' : Nat, x' < x → (inkB W H q x' y && goesB (bD W H q x' y)) = false) → thX W H y x q = q
  | 0, _ => rfl
  | x + 1, h => by
    rw [thX, thX_none x fun x' hx => h x' (by omega)]
    unfold thS
    rw [if_neg (by rw [h x (by omega)]; decide)]
theorem thY_none {W H : Int} {Wn : Nat} {q : Int → Int} : ∀ (y : Nat), (∀ y' : Nat, y' < y → ∀ x' : Nat, x' < Wn → (inkB W H q x' y' && goesB (bD W H q x' y')) = false) → thY W H Wn y q = q
  | 0, _ => rfl
  | y + 1, h => by
    rw [thY, thY_none y fun y' hy => h y' (by omega)]
    exact thX_none Wn (h y (by omega))
def ex2 : Int → Int := lit [1, 1, 1, 1, 1, 1]
def ex2' : Int → Int := lit [0, 0, 0, 0, 1, 1]
theorem ex2_fix : ∀ y' : Fin 3, ∀ x' : Fin 2, (inkB 2 3 (thI 2 3 1 ex2) (x'.val : Int) (y'.val : Int) && goesB (bD 2 3 (thI 2 3 1 ex2) (x'.val : Int) (y'.val : Int))) = false := by decide +kernel
theorem ex2_thin : Thinned 2 3 ex2 (thI 2 3 1 ex2) := ⟨⟨1, rfl⟩, thY_none 3 fun y' hy x' hx => ex2_fix ⟨y', hy⟩ ⟨x', hx⟩⟩
theorem ex2_val : ∀ i : Fin 6, thI 2 3 1 ex2 (i.val : Int) = ex2' (i.val : Int) := by decide +kernel
theorem ex2_at {q : Int → Int} (h : Thinned 2 3 ex2 q) (i : Int) (h0 : 0 ≤ i) (h1 : i < 6) : q i = ex2' i := by
  rw [h.uniq ex2_thin]
  have := ex2_val ⟨i.toNat, by omega⟩
  simp only [Int.toNat_of_nonneg h0] at this
  exact this
end Go.Proofs.YtoonkpjddfiopaaDoor

/- Walks: the example, and awake, of the laws of chapter 01. -/
namespace Go.Proofs.YtoonkpjddfiopaaDoor
open Go.RowKit
set_option linter.unusedVariables false

theorem u8s6 (a b c d e f : Int) : #[Value.int .u8 a, .int .u8 b, .int .u8 c, .int .u8 d, .int .u8 e, .int .u8 f] = u8s 6 (lit [a, b, c, d, e, f]) := u8s_lit (l := [a, b, c, d, e, f])
theorem lit_01 {l : List Int} (h : ∀ x ∈ l, x = 0 ∨ x = 1) (i : Int) : lit l i = 0 ∨ lit l i = 1 := by
  unfold lit
  rw [List.getD_eq_getElem?_getD]
  by_cases hi : i.toNat < l.length
  · rw [List.getElem?_eq_getElem hi]; exact h _ (List.getElem_mem hi)
  · rw [List.getElem?_eq_none (by omega)]; exact .inl rfl
theorem ex1_01 (i : Int) : ex1 i = 0 ∨ ex1 i = 1 := lit_01 (by decide) i
theorem ex2_01 (i : Int) : ex2 i = 0 ∨ ex2 i = 1 := lit_01 (by decide) i
theorem ex1_chk : chk 3 2 6 ex1 = 0 := by decide +kernel
theorem ex2_chk : chk 2 3 6 ex2 = 0 := by decide +kernel
theorem dd2 : Lib.decDigits 2 = [50] := by unfold Lib.decDigits; rfl
theorem dd3 : Lib.decDigits 3 = [51] := by unfold Lib.decDigits; rfl
theorem ex1_rows : fmRows 2 (tuQ 3 2 ex1 1) 3 = [46, 35, 10, 35, 46, 10, 46, 35, 10] := by decide +kernel
theorem ex1_text : fmHead 2 3 ++ fmRows 2 (tuQ 3 2 ex1 1) 3 = [50, 32, 51, 10, 46, 35, 10, 35, 46, 10, 46, 35, 10] := by
  unfold fmHead; rw [ex1_rows, dd2, dd3]; rfl
theorem ex1t_chk : chk 2 3 6 (tuQ 3 2 ex1 1) = 0 := by decide +kernel
theorem tuQ_01 (W H : Int) (p : Int → Int) (k : Nat) (i : Int) : tuQ W H p k i = 0 ∨ tuQ W H p k i = 1 := by unfold tuQ byPix qF; split <;> simp
theorem crow_len {w : World} {B T W n : Nat} {e : Bool} {p : Int → Int} {vo : Value} (h : CRow w B T W n e p n vo) : ∃ A c, vo = .slice A (rootN n (InkN n p) (AdjN W e)).length c := by
  obtain ⟨L, h1, h2, -⟩ := h
  have hl : L.length = (rootN n (InkN n p) (AdjN W e)).length := by
    rw [← rootK_n, ← h1, List.length_map]
  rw [← hl]
  obtain ⟨A, c, e, _⟩ := h2.val
  exact ⟨A, c, e⟩
set_option maxHeartbeats 400000 in
theorem example_any (w : World) : Calls Tryd.prog 75 #[] w (New w fun v w' => OutN w w' 3 2 6 ex1 v) := by
  go_enter Tryd.func75, Tryd.ntmps75
  go_wp2_with fail
  refine bodyPost_ret (v := .agg #[.int .i64 3, .int .i64 2, .slice (some ⟨w.heap.size + 1, 0, none⟩) 6 6]) (by simp [results, Tryd.results75, go_sem]) rfl ?_
  refine ⟨_, rfl, ⟨w.heap.size + 1, rfl, by omega, ?_⟩, by (repeat (first | exact Below.refl _ _ | assumption | refine Below.drew ?_ | refine below_drewN ?_ _ | refine Below.alloc ?_ (by first | omega | (simp; done) | (simp; omega)) _ | refine Below.setCell ?_ (by first | omega | (simp; done) | (simp; omega)) _ | refine below_setRow ?_ (by first | omega | (simp; done) | (simp; omega)) _ ))⟩
  unfold ex1
  rw [← u8s6]
  exact Blk.new' (by simp) _ _
set_option maxRecDepth 100000 in
set_option maxHeartbeats 4000000 in
theorem awake1_any (w : World) : Calls Tryd.prog 15 #[] w fun e w' => e = .returned (.bool true) ∧ Below w.heap.size w w' := by
  have C1 : Hid (∀ A c w', ArrB w' w'.heap.size A 6 ex1 → Calls Tryd.prog 25 #[.agg #[.int .i64 3, .int .i64 2, .slice A 6 c], .bool true] w' fun e w'' => (∃ A1 c1, e = .returned (.tuple #[.slice A1 1 c1, .int .i64 0])) ∧ Below w'.heap.size w' w'') := by
    show ∀ A c w', _ → _
    intro A c w' h'
    refine (comps_any 3 2 true A 6 c ex1 w' h' (by omega) (by omega) rfl (fun i _ _ => ex1_01 i)).mono ?_
    rintro e w'' ⟨_, rfl, ⟨vo, rfl, cr⟩, hb⟩
    obtain ⟨A1, c1, rfl⟩ := crow_len cr
    rw [ex1_true]
    exact ⟨⟨A1, c1, rfl⟩, hb⟩
  have C2 : Hid (∀ A c w', ArrB w' w'.heap.size A 6 ex1 → Calls Tryd.prog 25 #[.agg #[.int .i64 3, .int .i64 2, .slice A 6 c], .bool false] w' fun e w'' => (∃ A1 c1, e = .returned (.tuple #[.slice A1 3 c1, .int .i64 0])) ∧ Below w'.heap.size w' w'') := by
    show ∀ A c w', _ → _
    intro A c w' h'
    refine (comps_any 3 2 false A 6 c ex1 w' h' (by omega) (by omega) rfl (fun i _ _ => ex1_01 i)).mono ?_
    rintro e w'' ⟨_, rfl, ⟨vo, rfl, cr⟩, hb⟩
    obtain ⟨A1, c1, rfl⟩ := crow_len cr
    rw [ex1_false]
    exact ⟨⟨A1, c1, rfl⟩, hb⟩
  have TU : Hid (∀ A c w', ArrB w' w'.heap.size A 6 ex1 → Calls Tryd.prog 64 #[.agg #[.int .i64 3, .int .i64 2, .slice A 6 c], .int .i64 1] w' (New w' fun v w'' => ∃ g, v = .tuple #[.agg #[.int .i64 2, .int .i64 3, .slice (some ⟨g, 0, none⟩) 6 6], .int .i64 0] ∧ w'.heap.size ≤ g ∧ Blk w'' g 5 (u8s 6 (tuQ 3 2 ex1 1)))) := by
    show ∀ A c w', _ → _
    intro A c w' h'
    exact turn_ok 3 2 1 A 6 c ex1 w' h' (by unfold maxLen; omega) (isB_01 ex1_01) ex1_chk (by omega)
  have FO : Hid (∀ A w', ArrB w' w'.heap.size A 6 (tuQ 3 2 ex1 1) → Calls Tryd.prog 76 #[.agg #[.int .i64 2, .int .i64 3, .slice A 6 6]] w' fun e w'' => e = .returned (.tuple #[.string ⟨#[50, 32, 51, 10, 46, 35, 10, 35, 46, 10, 46, 35, 10]⟩, .int .i64 0]) ∧ Below w'.heap.size w' w'') := by
    show ∀ A w', _ → _
    intro A w' h'
    have := format_small 2 3 A 6 6 (tuQ 3 2 ex1 1) w' h' (by omega) (by omega) (by omega) (by omega) (by omega) ex1t_chk rfl (fun i _ _ => tuQ_01 _ _ _ _ i)
    rw [ex1_text] at this
    exact this
  have TH : Hid (∀ A c w', ArrB w' w'.heap.size A 6 ex2 → Calls Tryd.prog 20 #[.agg #[.int .i64 2, .int .i64 3, .slice A 6 c]] w' (New w' fun v w'' => ∃ g c' q, v = .tuple #[.agg #[.int .i64 2, .int .i64 3, .slice (some ⟨g, 0, none⟩) 6 c'], .int .i64 0] ∧ w'.heap.size ≤ g ∧ (∀ i : Int, 0 ≤ i → i < (6 : Nat) → q i = ex2' i) ∧ ArrO w'' g 6 q)) := by
    show ∀ A c w', _ → _
    intro A c w' h'
    refine (thin_pos 2 3 A 6 c ex2 w' h' (isB_01 ex2_01) (by omega) (by omega) rfl (by omega) ex2_chk ex2_01).mono ?_
    rintro e w'' ⟨_, rfl, ⟨g, c', q, rfl, hg, ht, ho⟩, hb⟩
    exact ⟨_, rfl, ⟨g, c', q, rfl, hg, fun i a b => ex2_at ht i a (by omega), ho⟩, hb⟩
  have K0 := Kp.nil w
  have b0 := Below.refl w.heap.size w
  go_enter Tryd.func15, Tryd.ntmps15
  go_wp2_with fail
  refine (example_any _).mono ?_
  rintro e v1 ⟨_, rfl, ⟨gq, rfl, hgq, kq⟩, hb1⟩
  have K1a := (K0.below hb1).addA (kq.arrB kq.lt)
  have b1a := below_call b0 b0.size hb1
  have z1 := b1a.size
  have b1 : Below w.heap.size w (v1.alloc (.cells #[.int .i64 3, .int .i64 2, .slice (some ⟨gq, 0, none⟩) 6 6] 24)) := by (repeat (first | exact Below.refl _ _ | assumption | refine Below.drew ?_ | refine below_drewN ?_ _ | refine Below.alloc ?_ (by first | omega | (simp; done) | (simp; omega)) _ | refine Below.setCell ?_ (by first | omega | (simp; done) | (simp; omega)) _ | refine below_setRow ?_ (by first | omega | (simp; done) | (simp; omega)) _ ))
  have K1 := K1a.new 24 #[.int .i64 3, .int .i64 2, .slice (some ⟨gq, 0, none⟩) 6 6]
  clear K0 b0 K1a b1a hb1  z1 hgq kq
  obtain ⟨p1, p2, p3⟩ := (K1.b 0 rfl).cells3
  go_wp2_with fail
  generalize v1.alloc (.cells #[.int .i64 3, .int .i64 2, .slice (some ⟨gq, 0, none⟩) 6 6] 24) = w1 at *
  refine (C1.out _ _ _ (K1.a 0 rfl)).mono ?_
  rintro e v2 ⟨⟨Ac1, cc1, rfl⟩, hb2⟩
  have K2 := K1.below hb2
  have b2 := below_call b1 b1.size hb2
  clear K1 b1 hb2 p1 p2 p3 C1
  obtain ⟨p1, p2, p3⟩ := (K2.b 0 rfl).cells3
  go_wp2_with fail
  refine (C2.out _ _ _ (K2.a 0 rfl)).mono ?_
  rintro e v3 ⟨⟨Ac2, cc2, rfl⟩, hb3⟩
  have K3 := K2.below hb3
  have b3 := below_call b2 b2.size hb3
  clear K2 b2 hb3 p1 p2 p3 C2
  obtain ⟨p1, p2, p3⟩ := (K3.b 0 rfl).cells3
  go_wp2_with fail
  refine (TU.out _ _ _ (K3.a 0 rfl)).mono ?_
  rintro e v4 ⟨_, rfl, ⟨gt, rfl, hgt, kt⟩, hb4⟩
  have K4a := (K3.below hb4).addA (kt.arrB kt.lt)
  have b4a := below_call b3 b3.size hb4
  have z4 := b4a.size
  have b4 : Below w.heap.size w (v4.alloc (.cells #[.int .i64 2, .int .i64 3, .slice (some ⟨gt, 0, none⟩) 6 6] 24)) := by (repeat (first | exact Below.refl _ _ | assumption | refine Below.drew ?_ | refine below_drewN ?_ _ | refine Below.alloc ?_ (by first | omega | (simp; done) | (simp; omega)) _ | refine Below.setCell ?_ (by first | omega | (simp; done) | (simp; omega)) _ | refine below_setRow ?_ (by first | omega | (simp; done) | (simp; omega)) _ ))
  have K4 := K4a.new 24 #[.int .i64 2, .int .i64 3, .slice (some ⟨gt, 0, none⟩) 6 6]
  clear K3 b3 K4a b4a hb4 p1 p2 p3 z4 TU hgt kt
  obtain ⟨p1, p2, p3⟩ := (K4.b 0 rfl).cells3
  go_wp2_with fail
  generalize v4.alloc (.cells #[.int .i64 2, .int .i64 3, .slice (some ⟨gt, 0, none⟩) 6 6] 24) = w4 at *
  refine (FO.out _ _ (K4.a 0 rfl)).mono ?_
  rintro e v5 ⟨rfl, hb5⟩
  have K5 := K4.below hb5
  have b5 := below_call b4 b4.size hb5
  clear K4 b4 hb5 p1 p2 p3 FO
  have kx : Blk (v5.alloc (.cells #[.int .u8 1, .int .u8 1, .int .u8 1, .int .u8 1, .int .u8 1, .int .u8 1] 5)) v5.heap.size 5 (u8s 6 ex2) := by unfold ex2; rw [← u8s6]; exact Blk.new _ _ _
  have K5x := (K5.alloc (.cells #[.int .u8 1, .int .u8 1, .int .u8 1, .int .u8 1, .int .u8 1, .int .u8 1] 5)).addA (kx.arrB kx.lt)
  have b5x := b5.alloc b5.size (.cells #[.int .u8 1, .int .u8 1, .int .u8 1, .int .u8 1, .int .u8 1, .int .u8 1] 5)
  clear K5 b5 kx
  go_wp2_with fail
  generalize v5.alloc (.cells #[.int .u8 1, .int .u8 1, .int .u8 1, .int .u8 1, .int .u8 1, .int .u8 1] 5) = w5 at *
  refine (TH.out _ _ _ (K5x.a 0 rfl)).mono ?_
  rintro e v6 ⟨_, rfl, ⟨gh, ch, qh, rfl, hgh, hqh, oh⟩, hb6⟩
  have K6a := (K5x.below hb6).addA (oh.arr)
  have b6a := below_call b5x b5x.size hb6
  have z6 := b6a.size
  have b6 : Below w.heap.size w (v6.alloc (.cells #[.int .i64 2, .int .i64 3, .slice (some ⟨gh, 0, none⟩) 6 ch] 24)) := by (repeat (first | exact Below.refl _ _ | assumption | refine Below.drew ?_ | refine below_drewN ?_ _ | refine Below.alloc ?_ (by first | omega | (simp; done) | (simp; omega)) _ | refine Below.setCell ?_ (by first | omega | (simp; done) | (simp; omega)) _ | refine below_setRow ?_ (by first | omega | (simp; done) | (simp; omega)) _ ))
  have K6 := K6a.new 24 #[.int .i64 2, .int .i64 3, .slice (some ⟨gh, 0, none⟩) 6 ch]
  clear K5x b5x K6a b6a hb6  z6 TH hgh oh
  have HQH := Lib.hid hqh
  clear hqh
  have ky : Blk ((v6.alloc (.cells #[.int .i64 2, .int .i64 3, .slice (some ⟨gh, 0, none⟩) 6 ch] 24)).alloc (.cells #[.int .u8 0, .int .u8 0, .int .u8 0, .int .u8 0, .int .u8 1, .int .u8 1] 5)) (v6.heap.size + 1) 5 (u8s 6 ex2') := by unfold ex2'; rw [← u8s6]; exact Blk.new' (by simp) _ _
  have K6x := (K6.alloc (.cells #[.int .u8 0, .int .u8 0, .int .u8 0, .int .u8 0, .int .u8 1, .int .u8 1] 5)).addA (ky.arrB ky.lt)
  have b6x := b6.alloc b6.size (.cells #[.int .u8 0, .int .u8 0, .int .u8 0, .int .u8 0, .int .u8 1, .int .u8 1] 5)
  obtain ⟨p1, p2, p3⟩ := (K6.b 0 rfl).cells3
  go_wp2_with fail
  refine (sameInk_true 2 3 (some ⟨gh, 0, none⟩) (some ⟨v6.heap.size + 1, 0, none⟩) 6 ch 6 qh ex2' _ (K6x.a 1 rfl) (K6x.a 0 rfl) (by unfold maxLen; omega) HQH.out).mono ?_
  rintro e v7 ⟨rfl, hb7⟩
  have b7 := below_call b6x b6x.size hb7
  go_wp2
  go_ret
  exact ⟨rfl, b7⟩
end Go.Proofs.YtoonkpjddfiopaaDoor

/- Walks: two images pixel by pixel (image.pair, Or, And, Less, Distance's first step). -/
namespace Go.Proofs.YtoonkpjddfiopaaDoor
open Go.RowKit
set_option linter.unusedVariables false
attribute [local go_sem] Oper.semAt_some

theorem block_lt {w : World} {b o : Nat} {v : Value} (h : w.cell? ⟨b, o, none⟩ = some v) : b < w.heap.size := by
  unfold World.cell? at h
  cases e : w.heap[b]? with
  | none => simp [e] at h
  | some x => exact (Array.getElem?_eq_some_iff.1 e).1
theorem enterPair1 (args : Array Value) (w : World) : (callFunc 144 args).run Tryd.prog w = .ok (.enter 144 args) w := by kernel_rfl
set_option maxRecDepth 100000 in
set_option maxHeartbeats 1000000 in
theorem pair1_any (W H x y : Int) (A B : Option Addr) (n c d bp ba bb : Nat) (p q : Int → Int) (fid : Nat) (F : Int → Int → Int) (w : World) (hf : w.cell? ⟨bp, 0, none⟩ = some (.func (.func fid) #[] #[])) (hka : Blk w ba 24 #[.int .i64 W, .int .i64 H, .slice A n c]) (hkb : Blk w bb 24 #[.int .i64 W, .int .i64 H, .slice B n d])
    (hA : ArrB w w.heap.size A n p) (hB : ArrB w w.heap.size B n q) (h1 : 0 ≤ W) (h2 : W ≤ 640) (h3 : 0 ≤ H) (h4 : H ≤ 640) (hN : (n : Int) = W * H) (x0 : 0 ≤ x) (x1 : x < W) (y0 : 0 ≤ y) (y1 : y < H)
    (hent : ∀ args w, (callFunc fid args).run Tryd.prog w = .ok (.enter fid args) w) (hF : ∀ w', Calls Tryd.prog fid #[.int .u8 (p (y * W + x)), .int .u8 (q (y * W + x))] w' fun e w'' => e = .returned (.int .u8 (F (p (y * W + x)) (q (y * W + x)))) ∧ Below w'.heap.size w' w'') :
    Calls Tryd.prog 144 #[.int .i64 x, .int .i64 y, .pointer (some ⟨bp, 0, none⟩), .pointer (some ⟨ba, 0, none⟩), .pointer (some ⟨bb, 0, none⟩)] w fun e w' => e = .returned (.int .u8 (F (p (y * W + x)) (q (y * W + x)))) ∧ Below w.heap.size w w' := by
  obtain ⟨p1, p2, p3⟩ := hka.cells3
  obtain ⟨q1, q2, q3⟩ := hkb.cells3
  have nb := (area_bd h1 h2 h3 h4).2
  obtain ⟨j1, j2, j3⟩ := idx_lt x0 x1 y0 y1
  rw [Int.mul_comm H W] at j2
  have j4 : y * W + x < (n : Int) := by omega
  have v1 : IntKind.i64.wrap (y * W) = y * W := IntWalk.i64_in _ (by omega)
  have v2 : IntKind.i64.wrap (y * W + x) = y * W + x := IntWalk.i64_in _ (by omega)
  obtain ⟨b, off, rfl, hb, hc⟩ := ArrB.at_ hA j1 j4
  obtain ⟨b', off', rfl, hb', hc'⟩ := ArrB.at_ hB j1 j4
  have HF := Lib.hid hF
  clear hF
  generalize p (y * W + x) = u at *
  generalize q (y * W + x) = v at *
  have KS : Hid (w.drew.cell? ⟨bp, 0, none⟩ = some (.func (.func fid) #[] #[]) ∧ w.drew.cell? ⟨ba, 0, none⟩ = some (.int .i64 W) ∧ w.drew.cell? ⟨ba, 2, none⟩ = some (.slice (some ⟨b, off, none⟩) n c) ∧ w.drew.cell? ⟨bb, 2, none⟩ = some (.slice (some ⟨b', off', none⟩) n d) ∧ w.drew.cell? ⟨b, off + (y * W + x).toNat, none⟩ = some (.int .u8 u) ∧ w.drew.cell? ⟨b', off' + (y * W + x).toNat, none⟩ = some (.int .u8 v)) := by
    show _ ∧ _
    exact ⟨hf, p1, p3, q3, hc, hc'⟩
  have lp : bp < w.heap.size := block_lt hf
  have la := hka.lt
  have lb := hkb.lt
  have KB := Lib.hid fun (w5 : World) (h5 : Below w.drew.heap.size w.drew w5) => (show w5.cell? ⟨bp, 0, none⟩ = some (.func (.func fid) #[] #[]) ∧ w5.cell? ⟨ba, 0, none⟩ = some (.int .i64 W) ∧ w5.cell? ⟨ba, 2, none⟩ = some (.slice (some ⟨b, off, none⟩) n c) ∧ w5.cell? ⟨bb, 2, none⟩ = some (.slice (some ⟨b', off', none⟩) n d) ∧ w5.cell? ⟨b, off + (y * W + x).toNat, none⟩ = some (.int .u8 u) ∧ w5.cell? ⟨b', off' + (y * W + x).toNat, none⟩ = some (.int .u8 v) from
    ⟨(h5.cell (p := ⟨bp, 0, none⟩) lp).trans hf, (h5.cell (p := ⟨ba, 0, none⟩) la).trans p1, (h5.cell (p := ⟨ba, 2, none⟩) la).trans p3, (h5.cell (p := ⟨bb, 2, none⟩) lb).trans q3, (h5.cell (p := ⟨b, off + (y * W + x).toNat, none⟩) hb).trans hc, (h5.cell (p := ⟨b', off' + (y * W + x).toNat, none⟩) hb').trans hc'⟩)
  clear hf p1 p2 p3 q1 q2 q3 hc hc' hA hB hka hkb lp la lb
  go_enter Tryd.func144, Tryd.ntmps144
  go_wp2_with fail

  refine wp_region_held_drew (S := fun w' => w'.cell? ⟨bp, 0, none⟩ = some (.func (.func fid) #[] #[]) ∧ w'.cell? ⟨ba, 0, none⟩ = some (.int .i64 W) ∧ w'.cell? ⟨ba, 2, none⟩ = some (.slice (some ⟨b, off, none⟩) n c) ∧ w'.cell? ⟨bb, 2, none⟩ = some (.slice (some ⟨b', off', none⟩) n d) ∧ w'.cell? ⟨b, off + (y * W + x).toNat, none⟩ = some (.int .u8 u) ∧ w'.cell? ⟨b', off' + (y * W + x).toNat, none⟩ = some (.int .u8 v)) (by kernel_rfl) KS.out (fun hHeld => ?_)
  refine wpAnyH_take (i := 0) (oi := _) (v := ?_) (by simp only [List.getElem?_toArray, List.getElem?_cons_zero]; exact rfl) (by kernel_rfl) (by kernel_rfl) (by kernel_rfl) (by exact fun _ _ _ h => h) (Or.inl ⟨by rfl, ?_⟩) (by assumption) ?_
  rotate_left 1
  · intro w hSw
    (try dsimp only at hSw)
    go_simp
    try with_reducible rfl
  try simp only [Act.put, List.setIfInBounds_toArray, List.set_cons_zero, List.set_cons_succ]
  refine wpAnyH_take (i := 1) (oi := _) (v := ?_) (by simp only [List.getElem?_toArray, List.getElem?_cons_zero, List.getElem?_cons_succ]; exact rfl) (by kernel_rfl) (by kernel_rfl) (by kernel_rfl) (by exact fun _ _ _ h => h) (Or.inl ⟨by rfl, ?_⟩) (by assumption) ?_
  rotate_left 1
  · intro w hSw
    (try dsimp only at hSw)
    go_simp
    try with_reducible rfl
  try simp only [Act.put, List.setIfInBounds_toArray, List.set_cons_zero, List.set_cons_succ]
  refine wpAnyH_take (i := 2) (oi := _) (v := ?_) (by simp only [List.getElem?_toArray, List.getElem?_cons_zero, List.getElem?_cons_succ]; exact rfl) (by kernel_rfl) (by kernel_rfl) (by kernel_rfl) (by exact fun _ _ _ h => h) (Or.inl ⟨by rfl, ?_⟩) (by assumption) ?_
  rotate_left 1
  · intro w hSw
    (try dsimp only at hSw)
    go_simp
    try with_reducible rfl
  try simp only [Act.put, List.setIfInBounds_toArray, List.set_cons_zero, List.set_cons_succ]
  refine wpAnyH_take (i := 3) (oi := _) (v := ?_) (by simp only [List.getElem?_toArray, List.getElem?_cons_zero, List.getElem?_cons_succ]; exact rfl) (by kernel_rfl) (by kernel_rfl) (by kernel_rfl) (by exact fun _ _ _ h => h) (Or.inl ⟨by rfl, ?_⟩) (by assumption) ?_
  rotate_left 1
  · intro w hSw
    (try dsimp only at hSw)
    go_simp
    try with_reducible rfl
  try simp only [Act.put, List.setIfInBounds_toArray, List.set_cons_zero, List.set_cons_succ]
  refine wpAnyH_take (i := 4) (oi := _) (v := ?_) (by simp only [List.getElem?_toArray, List.getElem?_cons_zero, List.getElem?_cons_succ]; exact rfl) (by kernel_rfl) (by kernel_rfl) (by kernel_rfl) (by exact fun _ _ _ h => h) (Or.inl ⟨by rfl, ?_⟩) (by assumption) ?_
  rotate_left 1
  · intro w hSw
    (try dsimp only at hSw)
    go_simp
    try with_reducible rfl
  try simp only [Act.put, List.setIfInBounds_toArray, List.set_cons_zero, List.set_cons_succ]
  refine wpAnyH_take (i := 5) (oi := _) (v := ?_) (by simp only [List.getElem?_toArray, List.getElem?_cons_zero, List.getElem?_cons_succ]; exact rfl) (by kernel_rfl) (by kernel_rfl) (by kernel_rfl) (by exact fun _ _ _ h => h) (Or.inl ⟨by rfl, ?_⟩) (by assumption) ?_
  rotate_left 1
  · intro w hSw
    (try dsimp only at hSw)
    go_simp
    try with_reducible rfl
  try simp only [Act.put, List.setIfInBounds_toArray, List.set_cons_zero, List.set_cons_succ]
  refine wpAnyH_take (i := 6) (oi := _) (v := ?_) (by simp only [List.getElem?_toArray, List.getElem?_cons_zero, List.getElem?_cons_succ]; exact rfl) (by kernel_rfl) (by kernel_rfl) (by kernel_rfl) (by exact fun _ _ _ h => h) (Or.inl ⟨by rfl, ?_⟩) (by assumption) ?_
  rotate_left 1
  · intro w hSw
    (try dsimp only at hSw)
    go_simp
    try with_reducible rfl
  try simp only [Act.put, List.setIfInBounds_toArray, List.set_cons_zero, List.set_cons_succ]
  refine wpAnyH_take (i := 7) (oi := _) (v := ?_) (by simp only [List.getElem?_toArray, List.getElem?_cons_zero, List.getElem?_cons_succ]; exact rfl) (by kernel_rfl) (by kernel_rfl) (by kernel_rfl) (by exact fun _ _ _ h => h) (Or.inl ⟨by rfl, ?_⟩) (by assumption) ?_
  rotate_left 1
  · intro w hSw
    (try dsimp only at hSw)
    go_simp
    try with_reducible rfl
  try simp only [Act.put, List.setIfInBounds_toArray, List.set_cons_zero, List.set_cons_succ]
  refine wpAnyH_take (i := 8) (oi := _) (v := ?_) (by simp only [List.getElem?_toArray, List.getElem?_cons_zero, List.getElem?_cons_succ]; exact rfl) (by kernel_rfl) (by kernel_rfl) (by kernel_rfl) (by exact fun _ _ _ h => h) (Or.inl ⟨by rfl, ?_⟩) (by assumption) ?_
  rotate_left 1
  · intro w hSw
    (try dsimp only at hSw)
    go_simp
    try with_reducible rfl
  try simp only [Act.put, List.setIfInBounds_toArray, List.set_cons_zero, List.set_cons_succ]
  refine wpAnyH_take (i := 9) (oi := _) (v := ?_) (by simp only [List.getElem?_toArray, List.getElem?_cons_zero, List.getElem?_cons_succ]; exact rfl) (by kernel_rfl) (by kernel_rfl) (by kernel_rfl) (by exact fun _ _ _ h => h) (Or.inl ⟨by rfl, ?_⟩) (by assumption) ?_
  rotate_left 1
  · intro w hSw
    (try dsimp only at hSw)
    go_simp
    try with_reducible rfl
  try simp only [Act.put, List.setIfInBounds_toArray, List.set_cons_zero, List.set_cons_succ]
  refine wpAnyH_take (i := 10) (oi := _) (v := ?_) (by simp only [List.getElem?_toArray, List.getElem?_cons_zero, List.getElem?_cons_succ]; exact rfl) (by kernel_rfl) (by kernel_rfl) (by kernel_rfl) (by exact fun _ _ _ h => h) (Or.inl ⟨by rfl, ?_⟩) (by assumption) ?_
  rotate_left 1
  · intro w hSw
    (try dsimp only at hSw)
    go_simp
    try with_reducible rfl
  try simp only [Act.put, List.setIfInBounds_toArray, List.set_cons_zero, List.set_cons_succ]
  refine wpAnyH_take (i := 11) (oi := _) (v := ?_) (by simp only [List.getElem?_toArray, List.getElem?_cons_zero, List.getElem?_cons_succ]; exact rfl) (by kernel_rfl) (by kernel_rfl) (by kernel_rfl) (by exact fun _ _ _ h => h) (Or.inl ⟨by rfl, ?_⟩) (by assumption) ?_
  rotate_left 1
  · intro w hSw
    (try dsimp only at hSw)
    go_simp
    try with_reducible rfl
  try simp only [Act.put, List.setIfInBounds_toArray, List.set_cons_zero, List.set_cons_succ]
  refine wpAnyH_take (i := 12) (oi := _) (v := ?_) (by simp only [List.getElem?_toArray, List.getElem?_cons_zero, List.getElem?_cons_succ]; exact rfl) (by kernel_rfl) (by kernel_rfl) (by kernel_rfl) (by exact fun _ _ _ h => h) (Or.inl ⟨by rfl, ?_⟩) (by assumption) ?_
  rotate_left 1
  · intro w hSw
    (try dsimp only at hSw)
    go_simp
    try with_reducible rfl
  try simp only [Act.put, List.setIfInBounds_toArray, List.set_cons_zero, List.set_cons_succ]
  refine wpAnyH_take (i := 13) (oi := _) (v := ?_) (by simp only [List.getElem?_toArray, List.getElem?_cons_zero, List.getElem?_cons_succ]; exact rfl) (by kernel_rfl) (by kernel_rfl) (by kernel_rfl) (by exact fun _ _ _ h => h) (Or.inl ⟨by rfl, ?_⟩) (by assumption) ?_
  rotate_left 1
  · intro w hSw
    (try dsimp only at hSw)
    go_simp
    try with_reducible rfl
  try simp only [Act.put, List.setIfInBounds_toArray, List.set_cons_zero, List.set_cons_succ]
  refine wpAnyH_take (i := 14) (oi := _) (v := ?_) (by simp only [List.getElem?_toArray, List.getElem?_cons_zero, List.getElem?_cons_succ]; exact rfl) (by kernel_rfl) (by kernel_rfl) (by kernel_rfl) (by exact fun _ _ _ h => h) (Or.inl ⟨by rfl, ?_⟩) (by assumption) ?_
  rotate_left 1
  · intro w hSw
    (try dsimp only at hSw)
    go_simp
    try with_reducible rfl
  try simp only [Act.put, List.setIfInBounds_toArray, List.set_cons_zero, List.set_cons_succ]
  refine wpAnyH_take (i := 15) (oi := _) (v := ?_) (by simp only [List.getElem?_toArray, List.getElem?_cons_zero, List.getElem?_cons_succ]; exact rfl) (by kernel_rfl) (by kernel_rfl) (by kernel_rfl) (by exact fun _ _ _ h => h) (Or.inl ⟨by rfl, ?_⟩) (by assumption) ?_
  rotate_left 1
  · intro w hSw
    (try dsimp only at hSw)
    go_simp
    try with_reducible rfl
  try simp only [Act.put, List.setIfInBounds_toArray, List.set_cons_zero, List.set_cons_succ]
  refine wpAnyH_take (i := 16) (oi := _) (v := ?_) (by simp only [List.getElem?_toArray, List.getElem?_cons_zero, List.getElem?_cons_succ]; exact rfl) (by kernel_rfl) (by kernel_rfl) (by kernel_rfl) (by exact fun _ _ _ h => h) (Or.inl ⟨by rfl, ?_⟩) (by assumption) ?_
  rotate_left 1
  · intro w hSw
    (try dsimp only at hSw)
    go_simp
    try with_reducible rfl
  try simp only [Act.put, List.setIfInBounds_toArray, List.set_cons_zero, List.set_cons_succ]
  refine wpAnyH_take (i := 17) (oi := _) (v := ?_) (by simp only [List.getElem?_toArray, List.getElem?_cons_zero, List.getElem?_cons_succ]; exact rfl) (by kernel_rfl) (by kernel_rfl) (by kernel_rfl) (by exact fun _ _ _ h => h) (Or.inl ⟨by rfl, ?_⟩) (by assumption) ?_
  rotate_left 1
  · intro w hSw
    (try dsimp only at hSw)
    go_simp
    try with_reducible rfl
  try simp only [Act.put, List.setIfInBounds_toArray, List.set_cons_zero, List.set_cons_succ]
  refine wpAnyH_take (i := 18) (oi := _) (v := ?_) (by simp only [List.getElem?_toArray, List.getElem?_cons_zero, List.getElem?_cons_succ]; exact rfl) (by kernel_rfl) (by kernel_rfl) (by kernel_rfl) (by exact fun _ _ _ h => h) (Or.inl ⟨by rfl, ?_⟩) (by assumption) ?_
  rotate_left 1
  · intro w hSw
    (try dsimp only at hSw)
    go_simp
    try with_reducible rfl
  try simp only [Act.put, List.setIfInBounds_toArray, List.set_cons_zero, List.set_cons_succ]
  refine wpAnyH_take (i := 19) (oi := _) (v := ?_) (by simp only [List.getElem?_toArray, List.getElem?_cons_zero, List.getElem?_cons_succ]; exact rfl) (by kernel_rfl) (by kernel_rfl) (by kernel_rfl) (by exact fun _ _ _ h => h) (Or.inl ⟨by rfl, ?_⟩) (by assumption) ?_
  rotate_left 1
  · intro w hSw
    (try dsimp only at hSw)
    go_simp
    try with_reducible rfl
  try simp only [Act.put, List.setIfInBounds_toArray, List.set_cons_zero, List.set_cons_succ]
  refine wpAnyH_take (i := 20) (oi := _) (v := ?_) (by simp only [List.getElem?_toArray, List.getElem?_cons_zero, List.getElem?_cons_succ]; exact rfl) (by kernel_rfl) (by kernel_rfl) (by kernel_rfl) (by exact fun _ _ _ h => h) (Or.inl ⟨by rfl, ?_⟩) (by assumption) ?_
  rotate_left 1
  · intro w hSw
    (try dsimp only at hSw)
    go_simp
    try with_reducible rfl
  try simp only [Act.put, List.setIfInBounds_toArray, List.set_cons_zero, List.set_cons_succ]
  refine wpAnyH_ready (rs := [21]) (by kernel_rfl) (by simp) ?_
  refine AllReadyH.cons (o := _) (by simp only [List.getElem?_toArray, List.getElem?_cons_zero, List.getElem?_cons_succ]; exact rfl) (fun K' hK => ?_) AllReadyH.nil
  go_simp
  refine (HF.out _).mono ?_
  rintro ee w5 ⟨rfl, hb5⟩
  refine hK.out _ _ (KB.out _ hb5) (fun hHeld => ?_)
  clear hK K'
  try simp only [Act.put, List.setIfInBounds_toArray, List.set_cons_zero, List.set_cons_succ]
  refine wpAnyH_take (i := 22) (oi := _) (v := ?_) (by simp only [List.getElem?_toArray, List.getElem?_cons_zero, List.getElem?_cons_succ]; exact rfl) (by kernel_rfl) (by kernel_rfl) (by kernel_rfl) (by exact fun _ _ _ h => h) (Or.inl ⟨by rfl, ?_⟩) (by assumption) ?_
  rotate_left 1
  · intro w hSw
    (try dsimp only at hSw)
    go_simp
    try with_reducible rfl
  try simp only [Act.put, List.setIfInBounds_toArray, List.set_cons_zero, List.set_cons_succ]
  refine wpAnyH_done (by kernel_rfl) ?_ _
  go_wp2_with fail
  go_ret
  exact ⟨rfl, (Below.refl _ _).drew.trans hb5⟩

set_option maxRecDepth 100000 in
set_option maxHeartbeats 2000000 in
/-- two valid images of the same sides -/
theorem pair_ok (W H : Int) (A B : Option Addr) (n c d : Nat) (p q : Int → Int) (fid : Nat) (F : Int → Int → Int) (w : World) (hA : ArrB w w.heap.size A n p) (hB : ArrB w w.heap.size B n q) (hn : n ≤ maxLen) (hEa : chk W H n p = 0) (hEb : chk W H n q = 0)
    (hent : ∀ args w, (callFunc fid args).run Tryd.prog w = .ok (.enter fid args) w) (hF : ∀ i : Int, 0 ≤ i → i < n → ∀ w', Calls Tryd.prog fid #[.int .u8 (p i), .int .u8 (q i)] w' fun e w'' => e = .returned (.int .u8 (F (p i) (q i))) ∧ Below w'.heap.size w' w'') :
    Calls Tryd.prog 120 #[.agg #[.int .i64 W, .int .i64 H, .slice A n c], .agg #[.int .i64 W, .int .i64 H, .slice B n d], .func (.func fid) #[] #[]] w (New w fun v w' => ∃ g, v = .tuple #[.agg #[.int .i64 W, .int .i64 H, .slice (some ⟨g, 0, none⟩) n n], .int .i64 0] ∧ w.heap.size ≤ g ∧ Blk w' g 5 (u8s n (fun i => F (p i) (q i)))) := by
  obtain ⟨h1, h2, h3, h4, hN, -⟩ := chk_ok hEa
  have nb := (area_bd h1 h2 h3 h4).2
  have CA := Lib.hid fun w' hA' => check_any W H A n c p w' hA' hn
  have CB := Lib.hid fun w' hA' => check_any W H B n d q w' hA' hn
  rw [hEa] at CA
  rw [hEb] at CB
  have P1 := Lib.hid fun x y w' hf hka hkb hA' hB' x0 x1 y0 y1 => pair1_any W H x y A B n c d (w.heap.size + 1 + 1) w.heap.size (w.heap.size + 1) p q fid F w' hf hka hkb hA' hB' h1 h2 h3 h4 hN x0 x1 y0 y1 hent (by
    obtain ⟨j1, j2, j3⟩ := idx_lt x0 x1 y0 y1
    rw [Int.mul_comm H W] at j2
    exact hF (y * W + x) j1 (by omega))
  have MD := Lib.hid fun (w' : World) (hf : Blk w' (w.heap.size + 1 + 1) 144 #[.func (.func fid) #[] #[]]) (hka : Blk w' w.heap.size 24 #[.int .i64 W, .int .i64 H, .slice A n c]) (hkb : Blk w' (w.heap.size + 1) 24 #[.int .i64 W, .int .i64 H, .slice B n d]) (hA' : ArrB w' w'.heap.size A n p) (hB' : ArrB w' w'.heap.size B n q) =>
    pixmade_any W H n 144 #[.pointer (some ⟨w.heap.size + 1 + 1, 0, none⟩), .pointer (some ⟨w.heap.size, 0, none⟩), .pointer (some ⟨w.heap.size + 1, 0, none⟩)] (fun x y => F (p (y * W + x)) (q (y * W + x))) w' enterPair1 h1 h2 h3 h4 hN
      (fun x y v x0 x1 y0 y1 hb => by
        show Calls _ _ #[_, _, _, _, _] _ _
        exact P1.out x y v ((hf.below' hb).cells1) (hka.below' hb) (hkb.below' hb) (hA'.to hb) (hB'.to hb) x0 x1 y0 y1)
  have HA := Lib.hid hA
  have HB := Lib.hid hB
  clear hEa hEb hF hN hA hB P1
  go_enter Tryd.func120, Tryd.ntmps120
  go_wp2_with fail
  have hk : Blk (((((w.alloc (.cells #[.int .i64 W, .int .i64 H, .slice A n c] 24)).alloc (.cells #[.int .i64 W, .int .i64 H, .slice B n d] 24)).alloc (.cells #[.func (.func fid) #[] #[]] 144)).alloc (.cells #[.int .i64 0, .int .i64 0, .slice none 0 0] 24)).alloc (.cells #[.int .i64 W, .int .i64 H, .slice A n c, .int .i64 W, .int .i64 H, .slice B n d] 24)) w.heap.size 24 #[.int .i64 W, .int .i64 H, .slice A n c] ∧ Blk (((((w.alloc (.cells #[.int .i64 W, .int .i64 H, .slice A n c] 24)).alloc (.cells #[.int .i64 W, .int .i64 H, .slice B n d] 24)).alloc (.cells #[.func (.func fid) #[] #[]] 144)).alloc (.cells #[.int .i64 0, .int .i64 0, .slice none 0 0] 24)).alloc (.cells #[.int .i64 W, .int .i64 H, .slice A n c, .int .i64 W, .int .i64 H, .slice B n d] 24)) (w.heap.size + 1) 24 #[.int .i64 W, .int .i64 H, .slice B n d] ∧ Blk (((((w.alloc (.cells #[.int .i64 W, .int .i64 H, .slice A n c] 24)).alloc (.cells #[.int .i64 W, .int .i64 H, .slice B n d] 24)).alloc (.cells #[.func (.func fid) #[] #[]] 144)).alloc (.cells #[.int .i64 0, .int .i64 0, .slice none 0 0] 24)).alloc (.cells #[.int .i64 W, .int .i64 H, .slice A n c, .int .i64 W, .int .i64 H, .slice B n d] 24)) (w.heap.size + 1 + 1) 144 #[.func (.func fid) #[] #[]] ∧ Blk (((((w.alloc (.cells #[.int .i64 W, .int .i64 H, .slice A n c] 24)).alloc (.cells #[.int .i64 W, .int .i64 H, .slice B n d] 24)).alloc (.cells #[.func (.func fid) #[] #[]] 144)).alloc (.cells #[.int .i64 0, .int .i64 0, .slice none 0 0] 24)).alloc (.cells #[.int .i64 W, .int .i64 H, .slice A n c, .int .i64 W, .int .i64 H, .slice B n d] 24)) (w.heap.size + 1 + 1 + 1) 24 #[.int .i64 0, .int .i64 0, .slice none 0 0] ∧ Blk (((((w.alloc (.cells #[.int .i64 W, .int .i64 H, .slice A n c] 24)).alloc (.cells #[.int .i64 W, .int .i64 H, .slice B n d] 24)).alloc (.cells #[.func (.func fid) #[] #[]] 144)).alloc (.cells #[.int .i64 0, .int .i64 0, .slice none 0 0] 24)).alloc (.cells #[.int .i64 W, .int .i64 H, .slice A n c, .int .i64 W, .int .i64 H, .slice B n d] 24)) (w.heap.size + 1 + 1 + 1 + 1) 24 #[.int .i64 W, .int .i64 H, .slice A n c, .int .i64 W, .int .i64 H, .slice B n d] :=
    ⟨((((Blk.new _ _ _).alloc _).alloc _).alloc _).alloc _, (((Blk.new' (by simp) _ _).alloc _).alloc _).alloc _, ((Blk.new' (by simp) _ _).alloc _).alloc _, (Blk.new' (by simp) _ _).alloc _, Blk.new' (by simp) _ _⟩
  have b1 : Below w.heap.size w (((((w.alloc (.cells #[.int .i64 W, .int .i64 H, .slice A n c] 24)).alloc (.cells #[.int .i64 W, .int .i64 H, .slice B n d] 24)).alloc (.cells #[.func (.func fid) #[] #[]] 144)).alloc (.cells #[.int .i64 0, .int .i64 0, .slice none 0 0] 24)).alloc (.cells #[.int .i64 W, .int .i64 H, .slice A n c, .int .i64 W, .int .i64 H, .slice B n d] 24)) := by (repeat (first | exact Below.refl _ _ | assumption | refine Below.drew ?_ | refine below_drewN ?_ _ | refine Below.alloc ?_ (by first | omega | (simp; done) | (simp; omega)) _ | refine Below.setCell ?_ (by first | omega | (simp; done) | (simp; omega)) _ | refine below_setRow ?_ (by first | omega | (simp; done) | (simp; omega)) _ ))
  generalize ((((w.alloc (.cells #[.int .i64 W, .int .i64 H, .slice A n c] 24)).alloc (.cells #[.int .i64 W, .int .i64 H, .slice B n d] 24)).alloc (.cells #[.func (.func fid) #[] #[]] 144)).alloc (.cells #[.int .i64 0, .int .i64 0, .slice none 0 0] 24)).alloc (.cells #[.int .i64 W, .int .i64 H, .slice A n c, .int .i64 W, .int .i64 H, .slice B n d] 24) = w1 at *
  obtain ⟨k1, k2, k3, k4, k5⟩ := hk
  generalize hgs : w.heap.size + 1 + 1 + 1 + 1 = gs at *
  have hgs2 : w.heap.size + 1 + 1 + 1 < gs := by omega
  clear hgs
  go_loopw [15] (fun s wr => ∃ i : Nat, i ≤ 2 ∧ s = .int .i64 i ∧ Below w.heap.size w wr ∧ Blk wr w.heap.size 24 #[.int .i64 W, .int .i64 H, .slice A n c] ∧ Blk wr (w.heap.size + 1) 24 #[.int .i64 W, .int .i64 H, .slice B n d] ∧ Blk wr (w.heap.size + 1 + 1) 144 #[.func (.func fid) #[] #[]] ∧ Blk wr (w.heap.size + 1 + 1 + 1) 24 #[.int .i64 0, .int .i64 0, .slice none 0 0] ∧ Blk wr gs 24 #[.int .i64 W, .int .i64 H, .slice A n c, .int .i64 W, .int .i64 H, .slice B n d]) (fun s _ => 2 - (intOf s).toNat)
  case atStart => exact ⟨0, by omega, rfl, b1, k1, k2, k3, k4, k5⟩
  case round =>
    obtain ⟨i, hi, rfl, b2, m1, m2, m3, m4, m5⟩ := hrel
    clear b1 k1 k2 k3 k4 k5
    rcases (show i = 0 ∨ i = 1 ∨ i = 2 by omega) with rfl | rfl | rfl
    · have c0 : wr.cell? ⟨gs, 0, none⟩ = some (.int .i64 W) := by rw [m5.cell]; rfl
      have c1 : wr.cell? ⟨gs, 1, none⟩ = some (.int .i64 H) := by rw [m5.cell]; rfl
      have c2 : wr.cell? ⟨gs, 2, none⟩ = some (.slice A n c) := by rw [m5.cell]; rfl
      have n1 := m1.alloc (.cells #[.int .i64 W, .int .i64 H, .slice A n c] 24)
      have n2 := m2.alloc (.cells #[.int .i64 W, .int .i64 H, .slice A n c] 24)
      have n3 := m3.alloc (.cells #[.int .i64 W, .int .i64 H, .slice A n c] 24)
      have n4 := m4.alloc (.cells #[.int .i64 W, .int .i64 H, .slice A n c] 24)
      have n5 := m5.alloc (.cells #[.int .i64 W, .int .i64 H, .slice A n c] 24)
      have b3 := b2.alloc b2.size (.cells #[.int .i64 W, .int .i64 H, .slice A n c] 24)
      clear m1 m2 m3 m4 m5 b2
      go_wp2_with fail
      generalize wr.alloc (.cells #[.int .i64 W, .int .i64 H, .slice A n c] 24) = w4 at *
      refine (CA.out _ (HA.out.to b3)).mono ?_
      rintro e w5 ⟨rfl, hb5⟩
      have q1 := n1.below' hb5
      have q2 := n2.below' hb5
      have q3 := n3.below' hb5
      have q4 := n4.below' hb5
      have q5 := n5.below' hb5
      have b5 := below_call b3 b3.size hb5
      clear n1 n2 n3 n4 n5 b3 hb5
      go_wp2_with fail
      go_roundw
      case rel => exact ⟨1, by omega, by go_num, b5, q1, q2, q3, q4, q5⟩
      case measure => simp [intOf]
    · have c0 : wr.cell? ⟨gs, 3, none⟩ = some (.int .i64 W) := by rw [m5.cell]; rfl
      have c1 : wr.cell? ⟨gs, 3 + 1, none⟩ = some (.int .i64 H) := by rw [m5.cell]; rfl
      have c2 : wr.cell? ⟨gs, 3 + 2, none⟩ = some (.slice B n d) := by rw [m5.cell]; rfl
      have n1 := m1.alloc (.cells #[.int .i64 W, .int .i64 H, .slice B n d] 24)
      have n2 := m2.alloc (.cells #[.int .i64 W, .int .i64 H, .slice B n d] 24)
      have n3 := m3.alloc (.cells #[.int .i64 W, .int .i64 H, .slice B n d] 24)
      have n4 := m4.alloc (.cells #[.int .i64 W, .int .i64 H, .slice B n d] 24)
      have n5 := m5.alloc (.cells #[.int .i64 W, .int .i64 H, .slice B n d] 24)
      have b3 := b2.alloc b2.size (.cells #[.int .i64 W, .int .i64 H, .slice B n d] 24)
      clear m1 m2 m3 m4 m5 b2
      go_wp2_with fail
      generalize wr.alloc (.cells #[.int .i64 W, .int .i64 H, .slice B n d] 24) = w4 at *
      refine (CB.out _ (HB.out.to b3)).mono ?_
      rintro e w5 ⟨rfl, hb5⟩
      have q1 := n1.below' hb5
      have q2 := n2.below' hb5
      have q3 := n3.below' hb5
      have q4 := n4.below' hb5
      have q5 := n5.below' hb5
      have b5 := below_call b3 b3.size hb5
      clear n1 n2 n3 n4 n5 b3 hb5
      go_wp2_with fail
      go_roundw
      case rel => exact ⟨2, by omega, by go_num, b5, q1, q2, q3, q4, q5⟩
      case measure => simp [intOf]
    · obtain ⟨x1, x2, x3⟩ := m1.cells3
      obtain ⟨y1, y2, y3⟩ := m2.cells3
      have MDX := Lib.hid (MD.out wr m3 m1 m2 (HA.out.to b2) (HB.out.to b2))
      have hmf : ∀ (fn : Fn) (first cap : Array Value) (w : World), (Instr.makeFunc fn first cap).run Tryd.prog w = .ok (.func fn first cap) w := fun _ _ _ _ => rfl
      have l4 := m4.lt
      clear m1 m2 m3 m5
      go_wp2_with fail
      refine MDX.out.mono ?_
      rintro e w5 ⟨_, rfl, ⟨gp, rfl, hgp, kp⟩, hb5⟩
      have b5 := below_call b2 b2.size hb5
      have q4 := m4.below' hb5
      obtain ⟨t1, t2, t3⟩ := q4.cells3
      obtain ⟨f1, f2, f3⟩ := q4.frozen3
      have hne : gp ≠ w.heap.size + 1 + 1 + 1 := by omega
      have k9 := ((q4.set_ 0 (.int .i64 W)).set_ 1 (.int .i64 H)).set_ 2 (.slice (some ⟨gp, 0, none⟩) n n)
      obtain ⟨s1, s2, s3⟩ := Blk.cells3 (a := .int .i64 W) (b := .int .i64 H) (c := .slice (some ⟨gp, 0, none⟩) n n) k9
      have KP := Lib.hid (((kp.far (p := ⟨w.heap.size + 1 + 1 + 1, 0, none⟩) hne (.int .i64 W)).far (p := ⟨w.heap.size + 1 + 1 + 1, 1, none⟩) hne (.int .i64 H)).far (p := ⟨w.heap.size + 1 + 1 + 1, 2, none⟩) hne (.slice (some ⟨gp, 0, none⟩) n n))
      have B5 := Lib.hid (((b5.setCell (p := ⟨w.heap.size + 1 + 1 + 1, 0, none⟩) (by simp; omega) (.int .i64 W)).setCell (p := ⟨w.heap.size + 1 + 1 + 1, 1, none⟩) (by simp; omega) (.int .i64 H)).setCell (p := ⟨w.heap.size + 1 + 1 + 1, 2, none⟩) (by simp; omega) (.slice (some ⟨gp, 0, none⟩) n n))
      clear kp b5 b2 m4 q4 k9 MDX MD hb5 x1 x2 x3 y1 y2 y3
      go_wp2_with fail
      refine bodyPost_ret (v := .tuple #[.agg #[.int .i64 W, .int .i64 H, .slice (some ⟨gp, 0, none⟩) n n], .int .i64 0]) (by simp [results, Tryd.results120, go_sem, s1, s2, s3]) rfl ?_
      refine ⟨_, rfl, ⟨gp, rfl, by omega, ?_⟩, B5.out⟩
      refine KP.out.u8conv fun i i0 i1 => ?_
      unfold byPix
      have := Int.emod_add_mul_ediv i W
      rw [Int.mul_comm] at this
      show F (p (i / W * W + i % W)) (q (i / W * W + i % W)) = _
      rw [show i / W * W + i % W = i by omega]
end Go.Proofs.YtoonkpjddfiopaaDoor

/- Walk: how many pixels are ink (image.Count), of an image without any. -/
namespace Go.Proofs.YtoonkpjddfiopaaDoor
open Go.RowKit Go.Shelf
set_option linter.unusedVariables false

set_option maxHeartbeats 2000000 in
set_option maxRecDepth 1000000 in
theorem bcount_any (A : Option Addr) (B n c b2 o2 d : Nat) (q : Int → Int) (cv : Int) (w : World) (hn : 0 < n) (hA : ArrB w B A n q) (hc2 : w.cell? ⟨b2, o2, none⟩ = some (.int .u8 cv)) :
    Calls Tryd.prog 116 #[.slice A n c, .slice (some ⟨b2, o2, none⟩) 1 d] w fun e w' => e = .returned (.int .i64 (Lib.countByte (Lib.bytesOf ((List.range n).map fun (j : Nat) => q j)) cv.toNat.toUInt8)) ∧ w' = w := by
  obtain ⟨b, off, rfl, hb, hc⟩ := hA.fn hn
  have hx : ((List.range n).map fun (j : Nat) => q j).length = n := by simp
  have hcs : ∀ i, i < n → w.cell? ⟨b, off + i, none⟩ = some (.int .u8 (((List.range n).map fun (j : Nat) => q j).getD i 0)) := fun i hi => by
    have h := hc (i : Int) (by omega) (by omega)
    rw [Int.toNat_natCast] at h
    rw [h, List.getD_eq_getElem?_getD, List.getElem?_map, List.getElem?_range hi]
    rfl
  have RC := Lib.hid (Lib.run_countSlice (P := Tryd.prog) w b off n c _ hx hcs cv)
  clear hx hcs hc hA hb
  generalize Lib.countByte (Lib.bytesOf ((List.range n).map fun (j : Nat) => q j)) cv.toNat.toUInt8 = r at *
  go_enter Tryd.func116, Tryd.ntmps116
  go_wp2
  rw [run_callFunc_extern Tryd.func142 (by kernel_rfl) (by kernel_rfl) (by kernel_rfl) (e := Extern.BytealgCount.count) (by kernel_rfl), RC.out]
  simp only [Result.andThen]
  rw [Oper.upon_value]
  go_wp2
  go_ret
  exact ⟨rfl, rfl⟩
theorem count_none {n : Nat} {q : Int → Int} (h : ∀ i : Int, 0 ≤ i → i < n → q i = 0) : Lib.countByte (Lib.bytesOf ((List.range n).map fun (j : Nat) => q j)) (1 : Int).toNat.toUInt8 = 0 := by
  unfold Lib.countByte
  rw [List.count_eq_zero]
  intro hm
  unfold Lib.bytesOf at hm
  rw [List.mem_map] at hm
  obtain ⟨x, hx, e⟩ := hm
  rw [List.mem_map] at hx
  obtain ⟨j, hj, rfl⟩ := hx
  rw [h j (by omega) (by have := List.mem_range.1 hj; omega)] at e
  exact absurd e (by decide)
set_option maxHeartbeats 2000000 in
theorem count_zero (W H : Int) (A : Option Addr) (n c : Nat) (q : Int → Int) (w : World) (hA : ArrB w w.heap.size A n q) (hn : 0 < n) (hnm : n ≤ maxLen) (hE : chk W H n q = 0) (hz : ∀ i : Int, 0 ≤ i → i < n → q i = 0) :
    Calls Tryd.prog 63 #[.agg #[.int .i64 W, .int .i64 H, .slice A n c]] w fun e w' => e = .returned (.tuple #[.int .i64 0, .int .i64 0]) ∧ Below w.heap.size w w' := by
  have CK := Lib.hid fun w' hA' => check_any W H A n c q w' hA' hnm
  rw [hE] at CK
  have HA := Lib.hid hA
  have CZ := Lib.hid (count_none hz)
  clear hE hz hA
  go_enter Tryd.func63, Tryd.ntmps63
  go_wp2_with fail
  have k1 := Blk.new w 24 #[.int .i64 W, .int .i64 H, .slice A n c]
  have b1 : Below w.heap.size w (w.alloc (.cells #[.int .i64 W, .int .i64 H, .slice A n c] 24)) := (Below.refl _ _).alloc (Nat.le_refl _) _
  generalize w.alloc (.cells #[.int .i64 W, .int .i64 H, .slice A n c] 24) = w1 at *
  refine (CK.out w1 (HA.out.to b1)).mono ?_
  rintro e w2 ⟨rfl, hb2⟩
  have k2 := k1.below' hb2
  have b2 := below_call b1 b1.size hb2
  obtain ⟨p1, p2, p3⟩ := k2.cells3
  have kn := Blk.new w2 5 #[.int .u8 1]
  have bn : Below w2.heap.size w2 (w2.alloc (.cells #[.int .u8 1] 5)) := (Below.refl _ _).alloc (Nat.le_refl _) _
  have hA3 := (HA.out.to b2).to bn
  have b3 := b2.trans (bn.mono b2.size)
  clear k1 b1 hb2
  go_wp2_with fail
  refine (bcount_any A _ n c w2.heap.size 0 1 q 1 _ hn hA3 (kn.cell 0)).mono ?_
  rintro e w4 ⟨rfl, rfl⟩
  rw [CZ.out]
  go_wp2
  refine bodyPost_ret (results_tmp2 rfl _ _ _) rfl ?_
  exact ⟨rfl, b3⟩
end Go.Proofs.YtoonkpjddfiopaaDoor

/- Walks: Or, And, Less of two images; how many pixels are ink (Count); the distance of two images. -/
namespace Go.Proofs.YtoonkpjddfiopaaDoor
open Go.RowKit Go.Shelf
set_option linter.unusedVariables false

def orF (a b : Int) : Int := if a = 1 ∨ b = 1 then 1 else 0
def andF (a b : Int) : Int := if a = 1 ∧ b = 1 then 1 else 0
def lessF (a b : Int) : Int := if a = 1 ∧ b ≠ 1 then 1 else 0
def xorF (a b : Int) : Int := if a = b then 0 else 1
theorem orF_01 (a b : Int) : orF a b = 0 ∨ orF a b = 1 := by unfold orF; split <;> simp
theorem andF_01 (a b : Int) : andF a b = 0 ∨ andF a b = 1 := by unfold andF; split <;> simp
theorem lessF_01 (a b : Int) : lessF a b = 0 ∨ lessF a b = 1 := by unfold lessF; split <;> simp
theorem xorF_01 (a b : Int) : xorF a b = 0 ∨ xorF a b = 1 := by unfold xorF; split <;> simp
theorem bits_or_00 : bits .or .u8 0 0 = 0 := by decide
theorem bits_or_01 : bits .or .u8 0 1 = 1 := by decide
theorem bits_or_10 : bits .or .u8 1 0 = 1 := by decide
theorem bits_or_11 : bits .or .u8 1 1 = 1 := by decide
theorem bits_and_00 : bits .and .u8 0 0 = 0 := by decide
theorem bits_and_01 : bits .and .u8 0 1 = 0 := by decide
theorem bits_and_10 : bits .and .u8 1 0 = 0 := by decide
theorem bits_and_11 : bits .and .u8 1 1 = 1 := by decide
theorem bits_an_00 : bits .andNot .u8 0 0 = 0 := by decide
theorem bits_an_01 : bits .andNot .u8 0 1 = 0 := by decide
theorem bits_an_10 : bits .andNot .u8 1 0 = 1 := by decide
theorem bits_an_11 : bits .andNot .u8 1 1 = 0 := by decide
theorem bits_xor_00 : bits .xor .u8 0 0 = 0 := by decide
theorem bits_xor_01 : bits .xor .u8 0 1 = 1 := by decide
theorem bits_xor_10 : bits .xor .u8 1 0 = 1 := by decide
theorem bits_xor_11 : bits .xor .u8 1 1 = 0 := by decide
theorem enter_or (args : Array Value) (w : World) : (callFunc 121 args).run Tryd.prog w = .ok (.enter 121 args) w := by kernel_rfl
set_option maxHeartbeats 400000 in
theorem or1_any (a b : Int) (ha : a = 0 ∨ a = 1) (hb : b = 0 ∨ b = 1) (w : World) : Calls Tryd.prog 121 #[.int .u8 a, .int .u8 b] w fun e w' => e = .returned (.int .u8 (orF a b)) ∧ Below w.heap.size w w' := by
  have e0 := bits_or_00
  have e1 := bits_or_01
  have e2 := bits_or_10
  have e3 := bits_or_11
  rcases ha with rfl | rfl <;> rcases hb with rfl | rfl
  all_goals
    go_enter Tryd.func121, Tryd.ntmps121
    go_wp2
    go_ret
    exact ⟨by first | rfl | (unfold orF; simp), Below.refl _ _⟩
theorem enter_and (args : Array Value) (w : World) : (callFunc 122 args).run Tryd.prog w = .ok (.enter 122 args) w := by kernel_rfl
set_option maxHeartbeats 400000 in
theorem and1_any (a b : Int) (ha : a = 0 ∨ a = 1) (hb : b = 0 ∨ b = 1) (w : World) : Calls Tryd.prog 122 #[.int .u8 a, .int .u8 b] w fun e w' => e = .returned (.int .u8 (andF a b)) ∧ Below w.heap.size w w' := by
  have e0 := bits_and_00
  have e1 := bits_and_01
  have e2 := bits_and_10
  have e3 := bits_and_11
  rcases ha with rfl | rfl <;> rcases hb with rfl | rfl
  all_goals
    go_enter Tryd.func122, Tryd.ntmps122
    go_wp2
    go_ret
    exact ⟨by first | rfl | (unfold andF; simp), Below.refl _ _⟩
theorem enter_less (args : Array Value) (w : World) : (callFunc 123 args).run Tryd.prog w = .ok (.enter 123 args) w := by kernel_rfl
set_option maxHeartbeats 400000 in
theorem less1_any (a b : Int) (ha : a = 0 ∨ a = 1) (hb : b = 0 ∨ b = 1) (w : World) : Calls Tryd.prog 123 #[.int .u8 a, .int .u8 b] w fun e w' => e = .returned (.int .u8 (lessF a b)) ∧ Below w.heap.size w w' := by
  have e0 := bits_an_00
  have e1 := bits_an_01
  have e2 := bits_an_10
  have e3 := bits_an_11
  rcases ha with rfl | rfl <;> rcases hb with rfl | rfl
  all_goals
    go_enter Tryd.func123, Tryd.ntmps123
    go_wp2
    go_ret
    exact ⟨by first | rfl | (unfold lessF; simp), Below.refl _ _⟩
theorem enter_xor (args : Array Value) (w : World) : (callFunc 125 args).run Tryd.prog w = .ok (.enter 125 args) w := by kernel_rfl
set_option maxHeartbeats 400000 in
theorem xor1_any (a b : Int) (ha : a = 0 ∨ a = 1) (hb : b = 0 ∨ b = 1) (w : World) : Calls Tryd.prog 125 #[.int .u8 a, .int .u8 b] w fun e w' => e = .returned (.int .u8 (xorF a b)) ∧ Below w.heap.size w w' := by
  have e0 := bits_xor_00
  have e1 := bits_xor_01
  have e2 := bits_xor_10
  have e3 := bits_xor_11
  rcases ha with rfl | rfl <;> rcases hb with rfl | rfl
  all_goals
    go_enter Tryd.func125, Tryd.ntmps125
    go_wp2
    go_ret
    exact ⟨by first | rfl | (unfold xorF; simp), Below.refl _ _⟩
set_option maxHeartbeats 1000000 in
theorem or_ok (W H : Int) (A B : Option Addr) (n c d : Nat) (p q : Int → Int) (w : World) (hA : ArrB w w.heap.size A n p) (hB : ArrB w w.heap.size B n q) (hn : n ≤ maxLen) (hEa : chk W H n p = 0) (hEb : chk W H n q = 0) (hp : IsB p) (hq : IsB q) :
    Calls Tryd.prog 70 #[.agg #[.int .i64 W, .int .i64 H, .slice A n c], .agg #[.int .i64 W, .int .i64 H, .slice B n d]] w (New w fun v w' => ∃ g, v = .tuple #[.agg #[.int .i64 W, .int .i64 H, .slice (some ⟨g, 0, none⟩) n n], .int .i64 0] ∧ w.heap.size ≤ g ∧ Blk w' g 5 (u8s n (fun i => orF (p i) (q i)))) := by
  obtain ⟨-, -, -, -, -, hpa⟩ := chk_ok hEa
  obtain ⟨-, -, -, -, -, hqa⟩ := chk_ok hEb
  have PR := Lib.hid fun w' h1 h2 => pair_ok W H A B n c d p q 121 orF w' h1 h2 hn hEa hEb enter_or (fun i a b w' => or1_any _ _ (by have := hpa i a b; have := (hp i).1; omega) (by have := hqa i a b; have := (hq i).1; omega) w')
  have k3 : Blk (((w.alloc (.cells #[.int .i64 W, .int .i64 H, .slice A n c] 24)).alloc (.cells #[.int .i64 W, .int .i64 H, .slice B n d] 24)).alloc (.cells #[.int .i64 0, .int .i64 0, .slice none 0 0] 24)) (w.heap.size + 1 + 1) 24 #[.int .i64 0, .int .i64 0, .slice none 0 0] := Blk.new' (by simp) _ _
  have b1 : Below w.heap.size w (((w.alloc (.cells #[.int .i64 W, .int .i64 H, .slice A n c] 24)).alloc (.cells #[.int .i64 W, .int .i64 H, .slice B n d] 24)).alloc (.cells #[.int .i64 0, .int .i64 0, .slice none 0 0] 24)) := by (repeat (first | exact Below.refl _ _ | assumption | refine Below.drew ?_ | refine below_drewN ?_ _ | refine Below.alloc ?_ (by first | omega | (simp; done) | (simp; omega)) _ | refine Below.setCell ?_ (by first | omega | (simp; done) | (simp; omega)) _ | refine below_setRow ?_ (by first | omega | (simp; done) | (simp; omega)) _ ))
  have hA1 := hA.to b1
  have hB1 := hB.to b1
  clear hEa hEb hp hq hpa hqa hA hB
  go_enter Tryd.func70, Tryd.ntmps70
  go_wp2_with fail
  generalize ((w.alloc (.cells #[.int .i64 W, .int .i64 H, .slice A n c] 24)).alloc (.cells #[.int .i64 W, .int .i64 H, .slice B n d] 24)).alloc (.cells #[.int .i64 0, .int .i64 0, .slice none 0 0] 24) = w1 at *
  refine (PR.out _ hA1 hB1).mono ?_
  rintro e w2 ⟨_, rfl, ⟨g, rfl, hg, kg⟩, hb2⟩
  have b2 := below_call b1 b1.size hb2
  have q4 := k3.below' hb2
  have l3 := k3.lt
  obtain ⟨t1, t2, t3⟩ := q4.cells3
  obtain ⟨f1, f2, f3⟩ := q4.frozen3
  have hne : g ≠ w.heap.size + 1 + 1 := by omega
  have k9 := ((q4.set_ 0 (.int .i64 W)).set_ 1 (.int .i64 H)).set_ 2 (.slice (some ⟨g, 0, none⟩) n n)
  obtain ⟨s1, s2, s3⟩ := Blk.cells3 (a := .int .i64 W) (b := .int .i64 H) (c := .slice (some ⟨g, 0, none⟩) n n) k9
  have KP := Lib.hid (((kg.far (p := ⟨w.heap.size + 1 + 1, 0, none⟩) hne (.int .i64 W)).far (p := ⟨w.heap.size + 1 + 1, 1, none⟩) hne (.int .i64 H)).far (p := ⟨w.heap.size + 1 + 1, 2, none⟩) hne (.slice (some ⟨g, 0, none⟩) n n))
  have B5 := Lib.hid (((b2.setCell (p := ⟨w.heap.size + 1 + 1, 0, none⟩) (by simp; omega) (.int .i64 W)).setCell (p := ⟨w.heap.size + 1 + 1, 1, none⟩) (by simp; omega) (.int .i64 H)).setCell (p := ⟨w.heap.size + 1 + 1, 2, none⟩) (by simp; omega) (.slice (some ⟨g, 0, none⟩) n n))
  clear kg b2 b1 k3 q4 k9 PR hb2 hA1 hB1
  go_wp2_with fail
  refine bodyPost_ret (v := .tuple #[.agg #[.int .i64 W, .int .i64 H, .slice (some ⟨g, 0, none⟩) n n], .int .i64 0]) (by simp [results, Tryd.results70, go_sem, s1, s2, s3]) rfl ?_
  exact ⟨_, rfl, ⟨g, rfl, by omega, KP.out⟩, B5.out⟩
set_option maxHeartbeats 1000000 in
theorem and_ok (W H : Int) (A B : Option Addr) (n c d : Nat) (p q : Int → Int) (w : World) (hA : ArrB w w.heap.size A n p) (hB : ArrB w w.heap.size B n q) (hn : n ≤ maxLen) (hEa : chk W H n p = 0) (hEb : chk W H n q = 0) (hp : IsB p) (hq : IsB q) :
    Calls Tryd.prog 71 #[.agg #[.int .i64 W, .int .i64 H, .slice A n c], .agg #[.int .i64 W, .int .i64 H, .slice B n d]] w (New w fun v w' => ∃ g, v = .tuple #[.agg #[.int .i64 W, .int .i64 H, .slice (some ⟨g, 0, none⟩) n n], .int .i64 0] ∧ w.heap.size ≤ g ∧ Blk w' g 5 (u8s n (fun i => andF (p i) (q i)))) := by
  obtain ⟨-, -, -, -, -, hpa⟩ := chk_ok hEa
  obtain ⟨-, -, -, -, -, hqa⟩ := chk_ok hEb
  have PR := Lib.hid fun w' h1 h2 => pair_ok W H A B n c d p q 122 andF w' h1 h2 hn hEa hEb enter_and (fun i a b w' => and1_any _ _ (by have := hpa i a b; have := (hp i).1; omega) (by have := hqa i a b; have := (hq i).1; omega) w')
  have k3 : Blk (((w.alloc (.cells #[.int .i64 W, .int .i64 H, .slice A n c] 24)).alloc (.cells #[.int .i64 W, .int .i64 H, .slice B n d] 24)).alloc (.cells #[.int .i64 0, .int .i64 0, .slice none 0 0] 24)) (w.heap.size + 1 + 1) 24 #[.int .i64 0, .int .i64 0, .slice none 0 0] := Blk.new' (by simp) _ _
  have b1 : Below w.heap.size w (((w.alloc (.cells #[.int .i64 W, .int .i64 H, .slice A n c] 24)).alloc (.cells #[.int .i64 W, .int .i64 H, .slice B n d] 24)).alloc (.cells #[.int .i64 0, .int .i64 0, .slice none 0 0] 24)) := by (repeat (first | exact Below.refl _ _ | assumption | refine Below.drew ?_ | refine below_drewN ?_ _ | refine Below.alloc ?_ (by first | omega | (simp; done) | (simp; omega)) _ | refine Below.setCell ?_ (by first | omega | (simp; done) | (simp; omega)) _ | refine below_setRow ?_ (by first | omega | (simp; done) | (simp; omega)) _ ))
  have hA1 := hA.to b1
  have hB1 := hB.to b1
  clear hEa hEb hp hq hpa hqa hA hB
  go_enter Tryd.func71, Tryd.ntmps71
  go_wp2_with fail
  generalize ((w.alloc (.cells #[.int .i64 W, .int .i64 H, .slice A n c] 24)).alloc (.cells #[.int .i64 W, .int .i64 H, .slice B n d] 24)).alloc (.cells #[.int .i64 0, .int .i64 0, .slice none 0 0] 24) = w1 at *
  refine (PR.out _ hA1 hB1).mono ?_
  rintro e w2 ⟨_, rfl, ⟨g, rfl, hg, kg⟩, hb2⟩
  have b2 := below_call b1 b1.size hb2
  have q4 := k3.below' hb2
  have l3 := k3.lt
  obtain ⟨t1, t2, t3⟩ := q4.cells3
  obtain ⟨f1, f2, f3⟩ := q4.frozen3
  have hne : g ≠ w.heap.size + 1 + 1 := by omega
  have k9 := ((q4.set_ 0 (.int .i64 W)).set_ 1 (.int .i64 H)).set_ 2 (.slice (some ⟨g, 0, none⟩) n n)
  obtain ⟨s1, s2, s3⟩ := Blk.cells3 (a := .int .i64 W) (b := .int .i64 H) (c := .slice (some ⟨g, 0, none⟩) n n) k9
  have KP := Lib.hid (((kg.far (p := ⟨w.heap.size + 1 + 1, 0, none⟩) hne (.int .i64 W)).far (p := ⟨w.heap.size + 1 + 1, 1, none⟩) hne (.int .i64 H)).far (p := ⟨w.heap.size + 1 + 1, 2, none⟩) hne (.slice (some ⟨g, 0, none⟩) n n))
  have B5 := Lib.hid (((b2.setCell (p := ⟨w.heap.size + 1 + 1, 0, none⟩) (by simp; omega) (.int .i64 W)).setCell (p := ⟨w.heap.size + 1 + 1, 1, none⟩) (by simp; omega) (.int .i64 H)).setCell (p := ⟨w.heap.size + 1 + 1, 2, none⟩) (by simp; omega) (.slice (some ⟨g, 0, none⟩) n n))
  clear kg b2 b1 k3 q4 k9 PR hb2 hA1 hB1
  go_wp2_with fail
  refine bodyPost_ret (v := .tuple #[.agg #[.int .i64 W, .int .i64 H, .slice (some ⟨g, 0, none⟩) n n], .int .i64 0]) (by simp [results, Tryd.results71, go_sem, s1, s2, s3]) rfl ?_
  exact ⟨_, rfl, ⟨g, rfl, by omega, KP.out⟩, B5.out⟩
set_option maxHeartbeats 1000000 in
theorem less_ok (W H : Int) (A B : Option Addr) (n c d : Nat) (p q : Int → Int) (w : World) (hA : ArrB w w.heap.size A n p) (hB : ArrB w w.heap.size B n q) (hn : n ≤ maxLen) (hEa : chk W H n p = 0) (hEb : chk W H n q = 0) (hp : IsB p) (hq : IsB q) :
    Calls Tryd.prog 72 #[.agg #[.int .i64 W, .int .i64 H, .slice A n c], .agg #[.int .i64 W, .int .i64 H, .slice B n d]] w (New w fun v w' => ∃ g, v = .tuple #[.agg #[.int .i64 W, .int .i64 H, .slice (some ⟨g, 0, none⟩) n n], .int .i64 0] ∧ w.heap.size ≤ g ∧ Blk w' g 5 (u8s n (fun i => lessF (p i) (q i)))) := by
  obtain ⟨-, -, -, -, -, hpa⟩ := chk_ok hEa
  obtain ⟨-, -, -, -, -, hqa⟩ := chk_ok hEb
  have PR := Lib.hid fun w' h1 h2 => pair_ok W H A B n c d p q 123 lessF w' h1 h2 hn hEa hEb enter_less (fun i a b w' => less1_any _ _ (by have := hpa i a b; have := (hp i).1; omega) (by have := hqa i a b; have := (hq i).1; omega) w')
  have k3 : Blk (((w.alloc (.cells #[.int .i64 W, .int .i64 H, .slice A n c] 24)).alloc (.cells #[.int .i64 W, .int .i64 H, .slice B n d] 24)).alloc (.cells #[.int .i64 0, .int .i64 0, .slice none 0 0] 24)) (w.heap.size + 1 + 1) 24 #[.int .i64 0, .int .i64 0, .slice none 0 0] := Blk.new' (by simp) _ _
  have b1 : Below w.heap.size w (((w.alloc (.cells #[.int .i64 W, .int .i64 H, .slice A n c] 24)).alloc (.cells #[.int .i64 W, .int .i64 H, .slice B n d] 24)).alloc (.cells #[.int .i64 0, .int .i64 0, .slice none 0 0] 24)) := by (repeat (first | exact Below.refl _ _ | assumption | refine Below.drew ?_ | refine below_drewN ?_ _ | refine Below.alloc ?_ (by first | omega | (simp; done) | (simp; omega)) _ | refine Below.setCell ?_ (by first | omega | (simp; done) | (simp; omega)) _ | refine below_setRow ?_ (by first | omega | (simp; done) | (simp; omega)) _ ))
  have hA1 := hA.to b1
  have hB1 := hB.to b1
  clear hEa hEb hp hq hpa hqa hA hB
  go_enter Tryd.func72, Tryd.ntmps72
  go_wp2_with fail
  generalize ((w.alloc (.cells #[.int .i64 W, .int .i64 H, .slice A n c] 24)).alloc (.cells #[.int .i64 W, .int .i64 H, .slice B n d] 24)).alloc (.cells #[.int .i64 0, .int .i64 0, .slice none 0 0] 24) = w1 at *
  refine (PR.out _ hA1 hB1).mono ?_
  rintro e w2 ⟨_, rfl, ⟨g, rfl, hg, kg⟩, hb2⟩
  have b2 := below_call b1 b1.size hb2
  have q4 := k3.below' hb2
  have l3 := k3.lt
  obtain ⟨t1, t2, t3⟩ := q4.cells3
  obtain ⟨f1, f2, f3⟩ := q4.frozen3
  have hne : g ≠ w.heap.size + 1 + 1 := by omega
  have k9 := ((q4.set_ 0 (.int .i64 W)).set_ 1 (.int .i64 H)).set_ 2 (.slice (some ⟨g, 0, none⟩) n n)
  obtain ⟨s1, s2, s3⟩ := Blk.cells3 (a := .int .i64 W) (b := .int .i64 H) (c := .slice (some ⟨g, 0, none⟩) n n) k9
  have KP := Lib.hid (((kg.far (p := ⟨w.heap.size + 1 + 1, 0, none⟩) hne (.int .i64 W)).far (p := ⟨w.heap.size + 1 + 1, 1, none⟩) hne (.int .i64 H)).far (p := ⟨w.heap.size + 1 + 1, 2, none⟩) hne (.slice (some ⟨g, 0, none⟩) n n))
  have B5 := Lib.hid (((b2.setCell (p := ⟨w.heap.size + 1 + 1, 0, none⟩) (by simp; omega) (.int .i64 W)).setCell (p := ⟨w.heap.size + 1 + 1, 1, none⟩) (by simp; omega) (.int .i64 H)).setCell (p := ⟨w.heap.size + 1 + 1, 2, none⟩) (by simp; omega) (.slice (some ⟨g, 0, none⟩) n n))
  clear kg b2 b1 k3 q4 k9 PR hb2 hA1 hB1
  go_wp2_with fail
  refine bodyPost_ret (v := .tuple #[.agg #[.int .i64 W, .int .i64 H, .slice (some ⟨g, 0, none⟩) n n], .int .i64 0]) (by simp [results, Tryd.results72, go_sem, s1, s2, s3]) rfl ?_
  exact ⟨_, rfl, ⟨g, rfl, by omega, KP.out⟩, B5.out⟩
/-- how many pixels are ink -/
theorem count_sum {n : Nat} {q : Int → Int} (h : ∀ i : Int, 0 ≤ i → i < n → q i = 0 ∨ q i = 1) : (Lib.countByte (Lib.bytesOf ((List.range n).map fun (j : Nat) => q j)) (1 : Int).toNat.toUInt8 : Int) = sumN n q := by
  induction n with
  | zero => rfl
  | succ n ih =>
    have ih := ih fun i a b => h i a (by omega)
    unfold Lib.countByte Lib.bytesOf at ih ⊢
    rw [List.range_succ, List.map_append, List.map_append, List.count_append, sumN, ← ih, Int.natCast_add]
    congr 1
    rcases h n (by omega) (by omega) with e | e <;> (simp [e])
set_option maxHeartbeats 2000000 in
theorem count_pos (W H : Int) (A : Option Addr) (n c : Nat) (q : Int → Int) (w : World) (hA : ArrB w w.heap.size A n q) (hn : 0 < n) (hnm : n ≤ maxLen) (hE : chk W H n q = 0) (hz : ∀ i : Int, 0 ≤ i → i < n → q i = 0 ∨ q i = 1) :
    Calls Tryd.prog 63 #[.agg #[.int .i64 W, .int .i64 H, .slice A n c]] w fun e w' => e = .returned (.tuple #[.int .i64 (sumN n q), .int .i64 0]) ∧ Below w.heap.size w w' := by
  have CK := Lib.hid fun w' hA' => check_any W H A n c q w' hA' hnm
  rw [hE] at CK
  have HA := Lib.hid hA
  have CZ := Lib.hid (count_sum hz)
  clear hE hz hA
  go_enter Tryd.func63, Tryd.ntmps63
  go_wp2_with fail
  have k1 := Blk.new w 24 #[.int .i64 W, .int .i64 H, .slice A n c]
  have b1 : Below w.heap.size w (w.alloc (.cells #[.int .i64 W, .int .i64 H, .slice A n c] 24)) := (Below.refl _ _).alloc (Nat.le_refl _) _
  generalize w.alloc (.cells #[.int .i64 W, .int .i64 H, .slice A n c] 24) = w1 at *
  refine (CK.out w1 (HA.out.to b1)).mono ?_
  rintro e w2 ⟨rfl, hb2⟩
  have k2 := k1.below' hb2
  have b2 := below_call b1 b1.size hb2
  obtain ⟨p1, p2, p3⟩ := k2.cells3
  have kn := Blk.new w2 5 #[.int .u8 1]
  have bn : Below w2.heap.size w2 (w2.alloc (.cells #[.int .u8 1] 5)) := (Below.refl _ _).alloc (Nat.le_refl _) _
  have hA3 := (HA.out.to b2).to bn
  have b3 := b2.trans (bn.mono b2.size)
  clear k1 b1 hb2
  go_wp2_with fail
  refine (bcount_any A _ n c w2.heap.size 0 1 q 1 _ hn hA3 (kn.cell 0)).mono ?_
  rintro e w4 ⟨rfl, rfl⟩
  rw [CZ.out]
  go_wp2
  refine bodyPost_ret (results_tmp2 rfl _ _ _) rfl ?_
  exact ⟨rfl, b3⟩
end Go.Proofs.YtoonkpjddfiopaaDoor
