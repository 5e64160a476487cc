/- Walk: the cheapest path of an image. -/
import Derived.Test.YtdimlpcbbkokiaaT6
import Derived.Test.YtdimlpcbbkokiaaW14
import Derived.Test.YtdimlpcbbkokiaaT8
import Derived.Test.YtdimlpcbbkokiaaW10
import Derived.Test.YtdimlpcbbkokiaaT10
namespace Go.Proofs.Ytdimlpcbbkokiaa
open Go.RowKit Go.Shelf
set_option linter.unusedVariables false
attribute [local go_sem] Oper.semAt_some

theorem Arr.far1 {w : World} {B n : Nat} {A : Option Addr} {f : Int → Value} (h : Arr w B A n f) {p : Addr} (hp : ∀ a, A = some a → a.block ≠ p.block) (u : Value) : Arr (w.setCell p u) B A n f := fun hn => by
  obtain ⟨b, off, e, hb, hc⟩ := h hn
  exact ⟨b, off, e, hb, fun i h0 hi => (World.cell?_of_block (heap_setCell_other w p b u (hp _ e))).trans (hc i h0 hi)⟩
theorem BestK.store {w : World} {W H : Int} {Bf Bw Bh Br Bi gr N : Nat} {Fa A : Option Addr} {fc n c : Nat} {fb : Int → Bool} {R p : Int → Int} (k : BestK w W H Bf Bw Bh Br Bi gr N Fa A fc n c fb R p)
    (hf : Bf ≠ gr) (hw : Bw ≠ gr) (hh : Bh ≠ gr) (hr : Br ≠ gr) (hi : Bi ≠ gr) (hF : ∀ a, Fa = some a → a.block ≠ gr) (hA : ∀ a, A = some a → a.block ≠ gr) (i : Int) (h0 : 0 ≤ i) (v : Int) :
    BestK (w.setCell ⟨gr, i.toNat, none⟩ (.int .i64 v)) W H Bf Bw Bh Br Bi gr N Fa A fc n c fb (upd R i v) p :=
  ⟨k.kf.far (p := ⟨gr, i.toNat, none⟩) hf _, k.kw.far (p := ⟨gr, i.toNat, none⟩) hw _, k.kh.far (p := ⟨gr, i.toNat, none⟩) hh _, k.kr.far (p := ⟨gr, i.toNat, none⟩) hr _, k.kR.i64set i h0 v, k.ki.far (p := ⟨gr, i.toNat, none⟩) hi _,
    by rw [World.size_setCell]; exact k.aF.far1 (p := ⟨gr, i.toNat, none⟩) hF _, by rw [World.size_setCell]; exact ArrB.far1 k.aA (p := ⟨gr, i.toNat, none⟩) hA _⟩
theorem BestK.conv {w : World} {W H : Int} {Bf Bw Bh Br Bi gr N : Nat} {Fa A : Option Addr} {fc n c : Nat} {fb : Int → Bool} {R R' p : Int → Int} (k : BestK w W H Bf Bw Bh Br Bi gr N Fa A fc n c fb R p) (h : ∀ i : Int, 0 ≤ i → i < N → R i = R' i) : BestK w W H Bf Bw Bh Br Bi gr N Fa A fc n c fb R' p :=
  ⟨k.kf, k.kw, k.kh, k.kr, k.kR.i64conv h, k.ki, k.aF, k.aA⟩

/-- the search for the next row: none of these rows was the one; or the last one was -/
structure NxI {h : Int} (B12 : Nat) (f : Int → Bool) (a : Int) (w12 : World) (pre : List (RowIn h)) (W' : World) : Prop where
  bt : But w12.heap.size B12 w12 W'
  k : Blk W' B12 3 #[.int .i64 a]
  no : ∀ t ∈ pre, f t.1 = false
structure NxX {h : Int} (B12 : Nat) (f : Int → Bool) (w12 : World) (id : Nat) (c : Code) (pre : List (RowIn h)) (W' : World) : Prop where
  e : c = Code.exit id
  bt : But w12.heap.size B12 w12 W'
  ex : ∃ q t, pre = q ++ [t] ∧ (∀ s ∈ q, f s.1 = false) ∧ f t.1 = true ∧ Blk W' B12 3 #[.int .i64 t.1]

/-- what best returns: a cheapest path and its cost, or none -/
def BestOut (w : World) (W H : Int) (p : Int → Int) (fb : Int → Bool) (e : Ending) (w' : World) : Prop :=
  ((gAt 1073741824 W H (cst p W) (fun x y => fb (y * W + x)) 0 (pathP 1073741824 W H (cst p W) (fun x y => fb (y * W + x)) 0) = 1073741824 ∧ e = .returned (.tuple #[.slice none 0 0, .int .i64 0])) ∨
   (gAt 1073741824 W H (cst p W) (fun x y => fb (y * W + x)) 0 (pathP 1073741824 W H (cst p W) (fun x y => fb (y * W + x)) 0) < 1073741824 ∧
     ∃ v, e = .returned (.tuple #[v, .int .i64 (gAt 1073741824 W H (cst p W) (fun x y => fb (y * W + x)) 0 (pathP 1073741824 W H (cst p W) (fun x y => fb (y * W + x)) 0))]) ∧ w'.ownsRow w.heap.size 3 1 v W.toNat ((List.range W.toNat).map fun j => Value.int .i64 (pathP 1073741824 W H (cst p W) (fun x y => fb (y * W + x)) j)))) ∧
  Below w.heap.size w w'

set_option maxRecDepth 100000 in
set_option maxHeartbeats 4000000 in
theorem best_any (W H : Int) (A Fa : Option Addr) (n c N fc : Nat) (fb : Int → Bool) (p : Int → Int) (w : World) (hA : ArrB w w.heap.size A n p) (hF : Arr w w.heap.size Fa N (fun i => .bool (fb i))) (hB : IsB p) (hE : chk W H n p = 0) (hN : (N : Int) = W * H) (hW : 1 ≤ W) (hH : 1 ≤ H) :
    Calls Try.prog 63 #[.agg #[.int .i64 W, .int .i64 H, .slice A n c], .slice Fa N fc] w fun e w' => BestOut w W H p fb e w' := by
  obtain ⟨hW1, hW2, hH1, hH2, hnn, -⟩ := chk_ok hE
  obtain ⟨m1, m2⟩ := area_bd hW1 hW2 hH1 hH2
  have hmk := makeI (W * H) m1 (by omega)
  rw [show (W * H).toNat = N by omega] at hmk
  have v1 : IntKind.i64.wrap (W * H) = W * H := IntWalk.i64_in _ (by omega)
  have hNp : 0 < W * H := Int.mul_pos (by omega) (by omega)
  obtain ⟨ba, oa, rfl, hba, -⟩ := hA (by omega)
  obtain ⟨bf, of', rfl, hbf, -⟩ := hF (by omega)
  have HN := Lib.hid hN
  have HE := Lib.hid hE
  clear hE hnn hN
  refine (callsIn_wide (n := 5)).1 ?_
  refine callsIn_of_wp_marks Try.func63 rfl trivial ?_ rfl
  simp only [Try.ntmps63, List.size_toArray, List.length_cons, List.length_nil, Nat.reduceAdd, Nat.reduceSub, Array.replicate_succ, Array.replicate_zero, List.push_toArray, List.append_toArray, List.nil_append, List.cons_append]
  refine wpIn_wide.2 ?_
  go_wp2_with fail
  have ki : Blk ((w.alloc (.cells #[.int .i64 W, .int .i64 H, .slice (some ⟨ba, oa, none⟩) n c] 24)).alloc (.cells #[.slice (some ⟨bf, of', none⟩) N fc] 67)) w.heap.size 24 #[.int .i64 W, .int .i64 H, .slice (some ⟨ba, oa, none⟩) n c] := (Blk.new _ _ _).alloc _
  have kf : Blk ((w.alloc (.cells #[.int .i64 W, .int .i64 H, .slice (some ⟨ba, oa, none⟩) n c] 24)).alloc (.cells #[.slice (some ⟨bf, of', none⟩) N fc] 67)) (w.heap.size + 1) 67 #[.slice (some ⟨bf, of', none⟩) N fc] := Blk.new' (by simp) _ _
  have b2 : Below w.heap.size w ((w.alloc (.cells #[.int .i64 W, .int .i64 H, .slice (some ⟨ba, oa, none⟩) n c] 24)).alloc (.cells #[.slice (some ⟨bf, of', none⟩) N fc] 67)) := by (repeat (first | exact Below.refl _ _ | assumption | refine Below.drew ?_ | refine below_drewN ?_ _ | refine Below.alloc ?_ (by first | omega | (simp; done) | (simp; omega)) _ | refine Below.setCell ?_ (by first | omega | (simp; done) | (simp; omega)) _ | refine below_setRow ?_ (by first | omega | (simp; done) | (simp; omega)) _ ))
  generalize (w.alloc (.cells #[.int .i64 W, .int .i64 H, .slice (some ⟨ba, oa, none⟩) n c] 24)).alloc (.cells #[.slice (some ⟨bf, of', none⟩) N fc] 67) = w2 at *
  have Z1 := ki.lt; have Z2 := kf.lt
  obtain ⟨p1, p2, p3⟩ := ki.cells3
  go_upto_region 1 with fail
  go_cut [6, 7] from 20 to 23 (fun a b wx => ∃ Bw Bh, a = .pointer (some ⟨Bw, 0, none⟩) ∧ b = .pointer (some ⟨Bh, 0, none⟩) ∧ Below w2.heap.size w2 wx ∧ w2.heap.size ≤ Bw ∧ w2.heap.size ≤ Bh ∧ Blk wx Bw 3 #[.int .i64 W] ∧ Blk wx Bh 3 #[.int .i64 H])
  case first =>
    go_region_held3 (fun w' => w'.cell? ⟨w.heap.size, 0, none⟩ = some (.int .i64 W) ∧ w'.cell? ⟨w.heap.size, 1, none⟩ = some (.int .i64 H))
      (simp [go_sem, *]) (fail)
    all_goals
      go_wp2_with fail
      go_meet
    · exact ⟨w2.heap.size, w2.heap.size + 1, rfl, rfl, by (repeat (first | exact Below.refl _ _ | assumption | refine Below.drew ?_ | refine below_drewN ?_ _ | refine Below.alloc ?_ (by first | omega | (simp; done) | (simp; omega)) _ | refine Below.setCell ?_ (by first | omega | (simp; done) | (simp; omega)) _ | refine below_setRow ?_ (by first | omega | (simp; done) | (simp; omega)) _ )), by omega, by omega, ((Blk.new _ _ _).alloc _).drew, (Blk.new' (by simp) _ _).drew⟩
    · exact ⟨w2.heap.size + 1, w2.heap.size, rfl, rfl, by (repeat (first | exact Below.refl _ _ | assumption | refine Below.drew ?_ | refine below_drewN ?_ _ | refine Below.alloc ?_ (by first | omega | (simp; done) | (simp; omega)) _ | refine Below.setCell ?_ (by first | omega | (simp; done) | (simp; omega)) _ | refine below_setRow ?_ (by first | omega | (simp; done) | (simp; omega)) _ )), by omega, by omega, (Blk.new' (by simp) _ _).drew, ((Blk.new _ _ _).alloc _).drew⟩
  case rest =>
  obtain ⟨Bw, Bh, rfl, rfl, hb3, hBw, hBh, kw, kh⟩ := hcut
  have b3 := below_call b2 b2.size hb3
  replace ki := ki.below' hb3
  replace kf := kf.below' hb3
  clear hb3 p1 p2 p3
  have Z3 := kw.lt; have Z4 := kh.lt
  have q1 := kw.at0; have q2 := kh.at0
  go_wp2_with fail
  have bW : Below w.heap.size w ((wc.alloc (.cells (i64s N (fun _ => 0)) 3)).alloc (.cells #[.slice (some ⟨wc.heap.size, 0, none⟩) N N] 25)) := by (repeat (first | exact Below.refl _ _ | assumption | refine Below.drew ?_ | refine below_drewN ?_ _ | refine Below.alloc ?_ (by first | omega | (simp; done) | (simp; omega)) _ | refine Below.setCell ?_ (by first | omega | (simp; done) | (simp; omega)) _ | refine below_setRow ?_ (by first | omega | (simp; done) | (simp; omega)) _ ))
  have K0 : BestK ((wc.alloc (.cells (i64s N (fun _ => 0)) 3)).alloc (.cells #[.slice (some ⟨wc.heap.size, 0, none⟩) N N] 25)) W H (w.heap.size + 1) Bw Bh (wc.heap.size + 1) w.heap.size wc.heap.size N (some ⟨bf, of', none⟩) (some ⟨ba, oa, none⟩) fc n c fb (fun _ => 0) p :=
    ⟨(kf.alloc _).alloc _, (kw.alloc _).alloc _, (kh.alloc _).alloc _, Blk.new' (by simp) _ _, (Blk.new _ _ _).alloc _, (ki.alloc _).alloc _, Arr.more (Arr.below hF bW) bW.size, hA.to bW⟩
  have z5 : w.heap.size + 1 < wc.heap.size := kf.lt
  clear ki kf kw kh hmk v1 b3 q1 q2 Z1 Z2
  generalize (wc.alloc (.cells (i64s N (fun _ => 0)) 3)).alloc (.cells #[.slice (some ⟨wc.heap.size, 0, none⟩) N N] 25) = w5 at *
  generalize wc.heap.size = gr at *
  have n1 : Bw ≠ gr := by omega
  have n2 : Bh ≠ gr := by omega
  have n3 : w.heap.size ≠ gr := by omega
  have n4 : w.heap.size + 1 ≠ gr := by omega
  have n5 : ba ≠ gr := by omega
  have n6 : bf ≠ gr := by omega
  have n7 : w.heap.size ≤ gr := by omega
  have FA := Lib.hid fun x y R w' k' x0 x1 y0 y1 hR => from_all W H x y (w.heap.size + 1) Bw Bh (gr + 1) w.heap.size gr N (some ⟨bf, of', none⟩) (some ⟨ba, oa, none⟩) fc n c fb R p w' k' HE.out hB HN.out x0 x1 y0 y1 hR
  generalize hG : gAt 1073741824 W H (cst p W) (fun x y => fb (y * W + x)) = G at *
  have HG := Lib.hid hG; clear hG
  have GB : Hid (∀ x y, 0 ≤ x → x < W → 0 ≤ y → y < H → 0 ≤ G x y ∧ G x y ≤ 1073741824) := by
    show ∀ _, _
    intro x y x0 x1 y0 y1
    have := gAt_bd (N := 1073741824) (W := W) (H := H) (F := fun x y => fb (y * W + x)) (cst_bd p W) (by omega) x0 x1 y0 y1
    rw [HG.out] at this
    omega
  go_loopw [10] (fun s wr => ∃ x : Int, -1 ≤ x ∧ x < W ∧ s = .int .i64 x ∧ Below w.heap.size w wr ∧ BestK wr W H (w.heap.size + 1) Bw Bh (gr + 1) w.heap.size gr N (some ⟨bf, of', none⟩) (some ⟨ba, oa, none⟩) fc n c fb (restR W G x 0) p) (fun s _ => (intOf s + 1).toNat)
  case atStart => exact ⟨W - 1, by omega, by omega, rfl, bW, K0.conv fun i h0 _ => (restR_start (by omega) h0).symm⟩
  case round =>
    obtain ⟨x, xm, x1, rfl, b6, k6⟩ := hrel
    clear bW K0
    have q1 := k6.kw.at0; have q2 := k6.kh.at0; have q3 := k6.kr.at0
    by_cases x0 : 0 ≤ x
    · go_wp2_with fail
      go_loopw [36] (fun s wr => ∃ y : Int, 0 ≤ y ∧ y ≤ H ∧ s = .int .i64 y ∧ Below w.heap.size w wr ∧ BestK wr W H (w.heap.size + 1) Bw Bh (gr + 1) w.heap.size gr N (some ⟨bf, of', none⟩) (some ⟨ba, oa, none⟩) fc n c fb (restR W G x y) p) (fun s _ => (H - intOf s).toNat)
      case atStart => exact ⟨0, by omega, by omega, rfl, b6, k6⟩
      case round =>
        obtain ⟨y, y0, ym, rfl, b7, k7⟩ := hrel
        clear b6 k6 q1 q2 q3
        have q1 := k7.kw.at0; have q2 := k7.kh.at0; have q3 := k7.kr.at0
        by_cases y1 : y < H
        · obtain ⟨i1, i2, i3⟩ := idx_lt x0 x1 y0 y1
          rw [Int.mul_comm H W] at i2
          have i4 : y * W + x < (N : Int) := by have := HN.out; omega
          have v1 : IntKind.i64.wrap (y * W) = y * W := IntWalk.i64_in _ (by omega)
          have v2 : IntKind.i64.wrap (y * W + x) = y * W + x := IntWalk.i64_in _ (by omega)
          have FX := Lib.hid fun w' k' => FA.out x y (restR W G x y) w' k' x0 x1 y0 y1 (fun hx t t0 t1 => restR_at (by omega) (by omega) (by omega))
          have K7 := Lib.hid k7; have B7 := Lib.hid b7
          have RS := Lib.hid fun i => restR_set (G := G) (y := y) x0 x1 i
          clear k7 b7
          go_wp2_with fail
          go_region_held3 (fun w' => w'.cell? ⟨gr + 1, 0, none⟩ = some (.slice (some ⟨gr, 0, none⟩) N N) ∧ w'.cell? ⟨Bw, 0, none⟩ = some (.int .i64 W))
            (simp [go_sem, *])
            ((go_at_call 103
              refine (FX.out _ (K7.out.below (drewN_below 1))).mono ?_
              rintro e w8 ⟨rfl, hb8⟩
              have k8 := (K7.out.below (drewN_below 1)).below hb8
              have x1' := k8.kw.at0; have x2' := k8.kr.at0
              have hr := k8.kR.i64at i1 i4
              have fr := k8.kR.frozen (y * W + x).toNat
              have b8 := below_call B7.out.drew B7.out.drew.size hb8))
          clear v1 v2
          go_wp2
          go_roundw
          case rel =>
            exact ⟨y + 1, by omega, by omega, by go_num, by (repeat (first | exact Below.refl _ _ | assumption | refine Below.drew ?_ | refine below_drewN ?_ _ | refine Below.alloc ?_ (by first | omega | (simp; done) | (simp; omega)) _ | refine Below.setCell ?_ (by first | omega | (simp; done) | (simp; omega)) _ | refine below_setRow ?_ (by first | omega | (simp; done) | (simp; omega)) _ )), (k8.store n4 n1 n2 (by omega) n3 (fun a e => by cases e; exact n6) (fun a e => by cases e; exact n5) (y * W + x) i1 (G x y)).conv fun i _ _ => RS.out i⟩
          case measure => simp [intOf]; omega
        · obtain rfl : y = H := by omega
          go_wp2
          go_roundw
          case rel => exact ⟨x - 1, by omega, by omega, by go_num, b7, k7.conv fun i h0 hi => restR_col (by omega) h0 (by have := HN.out; omega)⟩
          case measure => simp [intOf]; omega
    · obtain rfl : x = -1 := by omega
      have KB := k6.toB.below ((Below.refl _ _).alloc (Nat.le_refl _) (.cells #[.int .i64 0] 3))
      have kb := Blk.new wr 3 #[.int .i64 0]
      have b7 := b6.alloc b6.size (.cells #[.int .i64 0] 3)
      have hz := b6.size
      have z8 := k6.kR.lt
      have q9 := KB.kh.1.at0
      go_wp2_with fail
      generalize wr.alloc (.cells #[.int .i64 0] 3) = w7 at *
      generalize wr.heap.size = B12 at *
      clear q1 q2 q3 k6 b6
      clear q9
      go_loopw [52] (fun s wr => ∃ y : Nat, (y : Int) ≤ H ∧ s = .int .i64 y ∧ Below w.heap.size w wr ∧ BestB B12 wr W H (w.heap.size + 1) Bw Bh (gr + 1) w.heap.size gr N (some ⟨bf, of', none⟩) (some ⟨ba, oa, none⟩) fc n c fb (restR W G (-1) 0) p ∧ Blk wr B12 3 #[.int .i64 (fmin (G 0) y)]) (fun s _ => (H - intOf s).toNat)
      case atStart => exact ⟨0, by omega, rfl, b7, KB, kb⟩
      case round =>
        obtain ⟨y, ym, rfl, b8, K8, k8⟩ := hrel
        clear b7 KB kb
        have q1 := K8.kw.1.at0; have q3 := K8.kr.1.at0; have q4 := k8.at0; have q5 := k8.frozen 0
        obtain ⟨f1, f2⟩ := fmin_bd (G 0) y
        by_cases y1 : (y : Int) < H
        · have FS : Hid (fmin (G 0) (y + 1) = if G 0 y < G 0 (fmin (G 0) y) then (y : Int) else fmin (G 0) y) := by show _ = _; rfl
          have hfm : fmin (G 0) y < H := by
            by_cases h : 0 < y
            · have := f2 h; omega
            · obtain rfl : y = 0 := by omega
              show (0 : Int) < H; omega
          clear f2
          generalize fmin (G 0) y = a at *
          obtain ⟨i1, i2, i3⟩ := idx_lt (x := 0) (y := (y : Int)) (W := W) (H := H) (by omega) (by omega) (by omega) y1
          obtain ⟨j1, j2, j3⟩ := idx_lt (x := 0) (y := a) (W := W) (H := H) (by omega) (by omega) f1 hfm
          rw [Int.add_zero, Int.mul_comm H W] at i2 j2
          have i4 : (y : Int) * W < (N : Int) := by have := HN.out; omega
          have j4 : a * W < (N : Int) := by have := HN.out; omega
          have c1 := K8.kR.1.i64at i3 i4
          have c2 := K8.kR.1.i64at j3 j4
          rw [show restR W G (-1) 0 ((y : Int) * W) = G 0 y by rw [← Int.add_zero ((y : Int) * W)]; exact restR_at (by omega) (by omega) (by omega)] at c1
          rw [show restR W G (-1) 0 (a * W) = G 0 a by rw [← Int.add_zero (a * W)]; exact restR_at (by omega) (by omega) (by omega)] at c2
          have v1 : IntKind.i64.wrap ((y : Int) * W) = (y : Int) * W := IntWalk.i64_in _ (by omega)
          have v2 : IntKind.i64.wrap (a * W) = a * W := IntWalk.i64_in _ (by omega)
          clear i1 j1
          by_cases hlt : G 0 y < G 0 a
          · rw [if_pos hlt] at FS
            generalize G 0 y = g1 at *
            generalize G 0 a = g2 at *
            go_wp2_with fail
            go_quiet (fail)
            clear v1 v2
            go_wp2
            go_roundw
            case rel => exact ⟨y + 1, by omega, by go_num, by have := below_drewN b8 nq; (repeat (first | exact Below.refl _ _ | assumption | refine Below.drew ?_ | refine below_drewN ?_ _ | refine Below.alloc ?_ (by first | omega | (simp; done) | (simp; omega)) _ | refine Below.setCell ?_ (by first | omega | (simp; done) | (simp; omega)) _ | refine below_setRow ?_ (by first | omega | (simp; done) | (simp; omega)) _ )), K8.below (by have := below_drewN (Below.refl B12 wr) nq; (repeat (first | exact Below.refl _ _ | assumption | refine Below.drew ?_ | refine below_drewN ?_ _ | refine Below.alloc ?_ (by first | omega | (simp; done) | (simp; omega)) _ | refine Below.setCell ?_ (by first | omega | (simp; done) | (simp; omega)) _ | refine below_setRow ?_ (by first | omega | (simp; done) | (simp; omega)) _ ))), by rw [FS.out]; exact (k8.drewN nq).set_ 0 _⟩
            case measure => simp [intOf]; omega
          · rw [if_neg hlt] at FS
            generalize G 0 y = g1 at *
            generalize G 0 a = g2 at *
            go_wp2_with fail
            go_quiet (fail)
            clear v1 v2
            go_wp2
            go_roundw
            case rel => exact ⟨y + 1, by omega, by go_num, below_drewN b8 nq, K8.below (below_drewN (Below.refl B12 wr) nq), by rw [FS.out]; exact k8.drewN nq⟩
            case measure => simp [intOf]; omega
        · obtain ⟨Hn, rfl⟩ : ∃ Hn : Nat, H = Hn := ⟨H.toNat, by omega⟩
          obtain rfl : y = Hn := by omega
          have q1 := K8.kw.1.at0; have q3 := K8.kr.1.at0; have q4 := k8.at0
          obtain ⟨f1, f2⟩ := fmin_bd (G 0) y
          have f2 := f2 (by omega)
          have PE : Hid (pathP 1073741824 W y (cst p W) (fun x y => fb (y * W + x)) 0 = fmin (G 0) y) := by show _ = _; rw [← HG.out]; rfl
          generalize fmin (G 0) y = a at *
          obtain ⟨j1, j2, j3⟩ := idx_lt (x := 0) (y := a) (W := W) (H := (y : Int)) (by omega) (by omega) f1 f2
          rw [Int.add_zero, Int.mul_comm (y : Int) W] at j2
          have j4 : a * W < (N : Int) := by have := HN.out; omega
          have c2 := K8.kR.1.i64at j3 j4
          rw [show restR W G (-1) 0 (a * W) = G 0 a by rw [← Int.add_zero (a * W)]; exact restR_at (by omega) (by omega) (by omega)] at c2
          have v2 : IntKind.i64.wrap (a * W) = a * W := IntWalk.i64_in _ (by omega)
          have gb := GB.out 0 a (by omega) (by omega) f1 f2
          obtain ⟨gb1, gb2⟩ := gb
          have BO : Hid (gAt 1073741824 W y (cst p W) (fun x y => fb (y * W + x)) 0 (pathP 1073741824 W y (cst p W) (fun x y => fb (y * W + x)) 0) = G 0 a) := by show _ = _; rw [PE.out, HG.out]
          by_cases hc : G 0 a < 1073741824
          · have hf := BO.out
            have PO := path_ok (N := 1073741824) (W := W) (H := y) (c := cst p W) (F := fun x y => fb (y * W + x)) (cst_bd p W) (by omega) (by omega) (by omega) (by rw [hf]; exact hc)
            rw [HG.out] at PO
            have PN : Hid (∀ x : Nat, pathP 1073741824 W y (cst p W) (fun x y => fb (y * W + x)) (x + 1) = ((nbT (pathP 1073741824 W y (cst p W) (fun x y => fb (y * W + x)) x) (nxN y (pathP 1073741824 W y (cst p W) (fun x y => fb (y * W + x)) x))).find? (fun t => decide (goTo (G (x + 1)) (pathP 1073741824 W y (cst p W) (fun x y => fb (y * W + x)) x) t = G x (pathP 1073741824 W y (cst p W) (fun x y => fb (y * W + x)) x) - cst p W x (pathP 1073741824 W y (cst p W) (fun x y => fb (y * W + x)) x)))).getD (pathP 1073741824 W y (cst p W) (fun x y => fb (y * W + x)) x)) := by
              show ∀ _, _
              intro x
              rw [← HG.out]
              exact nxt_find _ _ _ _ _ _ _
            generalize hP : pathP 1073741824 W y (cst p W) (fun x y => fb (y * W + x)) = P at *
            have HP := Lib.hid hP
            replace PO := Lib.hid PO
            have PX := Lib.hid fun x' y' w' hA' x0 x1 y0 y1 => paper_any W y (some ⟨ba, oa, none⟩) n c p x' y' w' hA' hB HE.out x0 x1 y0 y1
            clear hP hf
            have z9 : B12 < wr.heap.size := k8.lt
            have b9 : Below w.heap.size w ((wr.alloc (.cells #[.int .i64 a] 3)).alloc (.cells #[.int .i64 1] 3)) := by (repeat (first | exact Below.refl _ _ | assumption | refine Below.drew ?_ | refine below_drewN ?_ _ | refine Below.alloc ?_ (by first | omega | (simp; done) | (simp; omega)) _ | refine Below.setCell ?_ (by first | omega | (simp; done) | (simp; omega)) _ | refine below_setRow ?_ (by first | omega | (simp; done) | (simp; omega)) _ ))
            have K9 : BestB B12 ((wr.alloc (.cells #[.int .i64 a] 3)).alloc (.cells #[.int .i64 1] 3)) W y (w.heap.size + 1) Bw Bh (gr + 1) w.heap.size gr N (some ⟨bf, of', none⟩) (some ⟨ba, oa, none⟩) fc n c fb (restR W G (-1) 0) p := K8.below (by (repeat (first | exact Below.refl _ _ | assumption | refine Below.drew ?_ | refine below_drewN ?_ _ | refine Below.alloc ?_ (by first | omega | (simp; done) | (simp; omega)) _ | refine Below.setCell ?_ (by first | omega | (simp; done) | (simp; omega)) _ | refine below_setRow ?_ (by first | omega | (simp; done) | (simp; omega)) _ )))
            have k9 : Blk ((wr.alloc (.cells #[.int .i64 a] 3)).alloc (.cells #[.int .i64 1] 3)) B12 3 #[.int .i64 (P 0)] := by rw [PE.out]; exact (k8.alloc _).alloc _
            have r9 : ((wr.alloc (.cells #[.int .i64 a] 3)).alloc (.cells #[.int .i64 1] 3)).ownsRow (B12 + 1) 3 1 (.slice (some ⟨wr.heap.size, 0, none⟩) 1 1) 1 [.int .i64 a] := own_one ((Blk.new _ _ _).alloc _) (by omega)
            have kx9 : Blk ((wr.alloc (.cells #[.int .i64 a] 3)).alloc (.cells #[.int .i64 1] 3)) (wr.heap.size + 1) 3 #[.int .i64 1] := Blk.new' (by simp) _ _
            go_wp2_with fail
            clear k8 K8 b8
            refine wp_loop (fun a' w' => ∃ (Ds : List Nat) (u15 u16 u17 u18 u19 u80 u81 u82 u83 u84 u85 u86 u87 u88 u89 u90 u91 u92 u93 u94 u95 u96 u97 u98 u99 u100 u101 u102 u104 u105 u106 u107 u108 u109 u110 u111 u112 u113 u114 u115 u116 u117 u118 u119 u120 u121 u122 u123 u124 u125 : Value), (∃ x Bx : Nat, (x : Int) + 1 ≤ W ∧ u16 = .pointer (some ⟨Bx, 0, none⟩) ∧ w'.ownsRow (B12 + 1) 3 1 u15 (x + 1) ((List.range (x + 1)).map fun j => Value.int .i64 (P j)) ∧ Below w.heap.size w w' ∧ BestB B12 w' W y (w.heap.size + 1) Bw Bh (gr + 1) w.heap.size gr N (some ⟨bf, of', none⟩) (some ⟨ba, oa, none⟩) fc n c fb (restR W G (-1) 0) p ∧ Blk w' B12 3 #[.int .i64 (P x)] ∧ Blk w' Bx 3 #[.int .i64 ((x : Int) + 1)] ∧ B12 < Bx ∧ u15.ownBlock ≠ some Bx ∧ Held w' Ds ∧ ∀ D ∈ Ds, B12 < D) ∧ a' = (⟨#[.agg #[.int .i64 W, .int .i64 y, .slice (some ⟨ba, oa, none⟩) n c], .slice (some ⟨bf, of', none⟩) N fc, .pointer (some ⟨w.heap.size, 0, none⟩), .pointer (some ⟨w.heap.size + 1, 0, none⟩), .slice none 0 0, .int .i64 0, .pointer (some ⟨Bw, 0, none⟩), .pointer (some ⟨Bh, 0, none⟩), .pointer (some ⟨gr + 1, 0, none⟩), .func (.func 103) #[] #[.pointer (some ⟨w.heap.size + 1, 0, none⟩), .pointer (some ⟨Bw, 0, none⟩), .pointer (some ⟨Bh, 0, none⟩), .pointer (some ⟨gr + 1, 0, none⟩), .pointer (some ⟨w.heap.size, 0, none⟩)], .int .i64 (-1), u11, .pointer (some ⟨B12, 0, none⟩), u13, .int .i64 (G 0 a), u15, u16, u17, u18, u19, u20, u21, u22, u23, .int .i64 W, .int .i64 y, .int .i64 (W * y), .slice (some ⟨gr, 0, none⟩) N N, .func (.func 103) #[] #[.pointer (some ⟨w.heap.size + 1, 0, none⟩), .pointer (some ⟨Bw, 0, none⟩), .pointer (some ⟨Bh, 0, none⟩), .pointer (some ⟨gr + 1, 0, none⟩), .pointer (some ⟨w.heap.size, 0, none⟩)], .int .i64 W, .int .i64 (W - 1), .int .i64 (-1), .bool false, u33, u34, u35, u36, u37, u38, u39, u40, u41, u42, u43, u44, u45, u46, u47, u48, u49, u50, .int .i64 y, .int .i64 y, .bool false, u54, u55, u56, u57, u58, u59, u60, u61, u62, u63, u64, u65, u66, u67, u68, u69, .slice (some ⟨gr, 0, none⟩) N N, .int .i64 a, .int .i64 W, .int .i64 (a * W), .pointer (some ⟨gr, (a * W).toNat, none⟩), .int .i64 (G 0 a), .int .i64 (G 0 a), .bool (decide (1073741824 ≤ G 0 a)), .int .i64 a, .slice (some ⟨wr.heap.size, 0, none⟩) 1 1, u80, u81, u82, u83, u84, u85, u86, u87, u88, u89, u90, u91, u92, u93, u94, u95, u96, u97, u98, u99, u100, u101, u102, undef, u104, u105, u106, u107, u108, u109, u110, u111, u112, u113, u114, u115, u116, u117, u118, u119, u120, u121, u122, u123, u124, u125, undef, undef], marks Ds⟩ : Act)) (fun a' _ => (W - lenV (a'.tmps.getD 15 undef)).toNat) ?start ?round
            case start => exact ⟨[], _, _, _, _, _, _, _, _, _, _, _, _, _, _, _, _, _, _, _, _, _, _, _, _, _, _, _, _, _, _, _, _, _, _, _, _, _, _, _, _, _, _, _, _, _, _, _, _, _, _, ⟨0, wr.heap.size + 1, by omega, rfl, by rw [← PE.out] at r9 ⊢; exact r9, b9, K9, k9, kx9, by omega, by simp [Value.ownBlock], Held.nil _, by simp⟩, rfl⟩
            case round =>
              rintro _ wr ⟨Ds, u15, u16, u17, u18, u19, u80, u81, u82, u83, u84, u85, u86, u87, u88, u89, u90, u91, u92, u93, u94, u95, u96, u97, u98, u99, u100, u101, u102, u104, u105, u106, u107, u108, u109, u110, u111, u112, u113, u114, u115, u116, u117, u118, u119, u120, u121, u122, u123, u124, u125, hrel, rfl⟩
              dsimp only
              obtain ⟨x, Bx, hx, rfl, hown, b10, K10, k10, kx, zx, nx, hD, hDs⟩ := hrel
              clear b9 K9 k9 r9 kx9
              have PS := PN.out x
              obtain ⟨p0, p1, p2⟩ := PO.out x (by omega)
              have ex : ∃ X : Int, (x : Int) + 1 = X := ⟨_, rfl⟩
              obtain ⟨X, eX⟩ := ex
              have ex : (x : Int) = X - 1 := by omega
              rw [eX, ex] at PS
              rw [eX] at hx kx
              rw [ex] at p2
              replace PS := Lib.hid PS
              generalize hPa : P x = a' at *
              have HPa := Lib.hid hPa; clear hPa
              have q1 := K10.kw.1.at0; have q2 := K10.kh.1.at0; have q3 := K10.kr.1.at0; have q4 := k10.at0; have q5 := k10.frozen 0; have q6 := kx.at0
              have X0 : 1 ≤ X := by omega
              have EX := Lib.hid eX; have EX' := Lib.hid ex
              clear eX ex
              by_cases hlt : X < W
              · obtain ⟨g0, g1⟩ := GB.out (X - 1) a' (by omega) (by omega) p0 p1
                obtain ⟨i1, i2, i3⟩ := idx_lt (x := X - 1) (y := a') (W := W) (H := (y : Int)) (by omega) (by omega) p0 p1
                rw [Int.mul_comm (y : Int) W] at i2
                have i4 : a' * W + X - 1 < (N : Int) := by have := HN.out; omega
                have i5 : 0 ≤ a' * W + X - 1 := by omega
                have c3 := K10.kR.1.i64at i5 i4
                rw [show restR W G (-1) 0 (a' * W + X - 1) = G (X - 1) a' by rw [show a' * W + X - 1 = a' * W + (X - 1) by omega]; exact restR_at (by omega) (by omega) (by omega)] at c3
                have cb := cst_bd p W (X - 1) a'
                obtain ⟨cb1, cb2⟩ := cb
                have PX' := Lib.hid fun w' hA' => PX.out (X - 1) a' w' hA' (by omega) (by omega) p0 p1
                generalize hci : cst p W (X - 1) a' = ci at *
                generalize hgi : G (X - 1) a' = gi at *
                have HCI := Lib.hid hci; have HGI := Lib.hid hgi
                clear hci hgi
                have v1 : IntKind.i64.wrap (a' * W) = a' * W := IntWalk.i64_in _ (by omega)
                have v2 : IntKind.i64.wrap (a' * W + X) = a' * W + X := IntWalk.i64_in _ (by omega)
                have v3 : IntKind.i64.wrap (a' * W + X - 1) = a' * W + X - 1 := IntWalk.i64_in _ (by omega)
                have v4 : IntKind.i64.wrap (X - 1) = X - 1 := IntWalk.i64_in _ (by omega)
                have v5 : IntKind.i64.wrap (gi - ci) = gi - ci := IntWalk.i64_in _ (by omega)
                clear i1 i2
                generalize hJ : a' * W + X - 1 = J at *
                have v3' : IntKind.i64.wrap (a' * W + X - 1) = J := by rw [hJ]; exact v3
                have HJ := Lib.hid hJ; clear hJ v3
                have KA := Lib.hid (K10.aA.more (Nat.le_of_lt (Nat.lt_trans zx kx.lt)))
                obtain ⟨r1, r2, r3⟩ := K10.ki.1.cells3
                go_wp2_with fail
                go_cut [17] from 85 to 99 (fun v wx => ∃ Bl, v = .pointer (some ⟨Bl, 0, none⟩) ∧ wr.heap.size ≤ Bl ∧ Below wr.heap.size wr wx ∧ Blk wx Bl 3 #[.int .i64 (gi - ci)])
                case first =>
                  have y1 := World.new_ne wr _ q1; have y2 := World.new_ne wr _ q3; have y3 := World.new_ne wr _ q4; have y4 := World.new_ne wr _ q6; have y5 := World.new_ne wr _ c3; have y6 := World.new_ne wr _ r1; have y7 := World.new_ne wr _ r2; have y8 := World.new_ne wr _ r3
                  go_region_held3 (fun w' => w'.cell? ⟨gr + 1, 0, none⟩ = some (.slice (some ⟨gr, 0, none⟩) N N) ∧ w'.cell? ⟨Bw, 0, none⟩ = some (.int .i64 W) ∧ w'.cell? ⟨B12, 0, none⟩ = some (.int .i64 a') ∧ w'.cell? ⟨Bx, 0, none⟩ = some (.int .i64 X) ∧ w'.cell? ⟨gr, J.toNat, none⟩ = some (.int .i64 gi) ∧ w'.cell? ⟨w.heap.size, 0, none⟩ = some (.int .i64 W) ∧ w'.cell? ⟨w.heap.size, 1, none⟩ = some (.int .i64 y) ∧ w'.cell? ⟨w.heap.size, 2, none⟩ = some (.slice (some ⟨ba, oa, none⟩) n c))
                    (first | (simp [go_sem, *]; done) | (go_keep; done))
                    ((go_at_call 60
                      first
                        | refine (PX'.out _ KA.out.drew1).mono ?_
                        | refine (PX'.out _ (KA.out.drew1.alloc1 _)).mono ?_
                      rintro e w6 ⟨rfl, hb6⟩
                      have b6 : Below wr.heap.size wr w6 := by first | exact below_call (Below.refl _ _).drew (Nat.le_refl _) hb6 | exact below_call ((Below.refl _ _).drew.alloc (Nat.le_refl _) _) (by simp) hb6
                      have x1 := (K10.kr.1.below' b6).at0; have x2 := (K10.kw.1.below' b6).at0; have x3 := (k10.below' b6).at0; have x4 := (kx.below' b6).at0
                      have x5 : w6.cell? ⟨gr, J.toNat, none⟩ = some (.int .i64 gi) := (bcell b6).1 _ _ K10.kR.1.lt |>.trans c3
                      obtain ⟨x6, x7, x8⟩ := (K10.ki.1.below' b6).cells3
                      have y1 := World.new_ne w6 _ x1; have y2 := World.new_ne w6 _ x2; have y3 := World.new_ne w6 _ x3; have y4 := World.new_ne w6 _ x4; have y5 := World.new_ne w6 _ x5; have y6 := World.new_ne w6 _ x6; have y7 := World.new_ne w6 _ x7; have y8 := World.new_ne w6 _ x8
                      try have x9 : w6.cell? ⟨wr.heap.size, 0, none⟩ = some (.int .i64 0) := ((Blk.new wr.drew 3 #[.int .i64 0]).below' hb6).at0
                      try have x10 : w6.frozen? ⟨wr.heap.size, 0, none⟩ = false := ((Blk.new wr.drew 3 #[.int .i64 0]).below' hb6).frozen 0))
                  all_goals
                    go_wp2_with fail
                    go_meet
                    first
                      | exact ⟨_, rfl, b6.size, b6.alloc b6.size _, Blk.new _ _ _⟩
                      | exact ⟨_, rfl, Nat.le_refl _, b6.setCell (Nat.le_refl _) _, ((Blk.new wr.drew 3 #[.int .i64 0]).below' hb6).set_ 0 _⟩
                case rest =>
                  obtain ⟨Bl, rfl, hBl, hbl, kl⟩ := hcut
                  have zr := kx.lt
                  have b11 := below_call b10 b10.size hbl
                  have K11 := K10.below (hbl.mono (by omega))
                  have k11 := k10.below' hbl
                  have kx11 := kx.below' hbl
                  have own11 := own_below hown hbl
                  have hD11 := hD.below hbl
                  have rl := own_len hown
                  have zl := kl.lt
                  have rb : ∀ k, u15.ownBlock = some k → k < wr.heap.size := fun k hk => (own_ge hown hk).2
                  clear b10 K10 k10 kx hown hD hbl q1 q2 q3 q4 q5 q6 c3 r1 r2 r3 KA v1 v2 v3' v4 v5
                  have q1 := K11.kw.1.at0; have q2 := K11.kh.1.at0; have q4 := k11.at0
                  go_wp2_with fail
                  refine (next_any _ _ _).mono ?_
                  rintro e w12 ⟨_, rfl, ⟨rfl, ky, kh⟩, hb12⟩
                  have b12 := below_call b11 b11.size hb12
                  have K12 := K11.below (hb12.mono (by omega))
                  have k12 := k11.below' hb12
                  have kx12 := kx11.below' hb12
                  have kl12 := kl.below' hb12
                  have own12 := own_below own11 hb12
                  have hD12 := hD11.below hb12
                  have zc := kh.lt
                  clear b11 K11 k11 kx11 own11 hD11 hb12 q1 q2 q4 kl
                  go_wp2_with fail
                  refine (wpIn_wide (n := 5)).1 ?_
                  generalize hb1 : wc.heap.size = b1 at *
                  clear hb1
                  have z13 : b1 + 1 < w12.heap.size := zc
                  obtain ⟨f, hf⟩ : ∃ f : Int → Bool, f = fun t => decide (goTo (G X) a' t = gi - ci) := ⟨_, rfl⟩
                  replace PS := PS.out
                  rw [← hf] at PS
                  replace PS := Lib.hid PS; have HF := Lib.hid hf
                  clear hf
                  have CNT := Lib.hid (But.refl B12 (Nat.le_refl w12.heap.size))
                  have MM := Lib.hid k12
                  refine wpIn_rangeFunc_ownF (F := Fence.wide) (n := 5) rfl (by omega) (gf := 121) (lb := #[.pointer (some ⟨b1, 0, none⟩), .pointer (some ⟨b1 + 1, 0, none⟩)]) rfl trivial (enters_of Try.func121 (by kernel_rfl) rfl) (next_stops Fence.wide 4 trivial rfl (by omega) a' y b1 (b1 + 1) w12 ky kh p0 p1 hH2)
                    (fun h k => KpB.trans h k) (fun W' l o o' hl ho _ _ => by
                      have hlt := (Array.getElem?_eq_some_iff.1 ho).1
                      exact ⟨(grownBy_putObj' W' l o').block b1 (by omega) (by intro e; cases e; omega), (grownBy_putObj' W' l o').block (b1 + 1) (by omega) (by intro e; cases e; omega)⟩) (Below.refl _ _) (fun _ => rfl)
                    (NxI B12 f a' w12) (NxX B12 f w12 8)
                    (ownFrom_of_below (fun s X Y hs hXY => ⟨hs.bt.then hXY, hs.k.below hXY (by omega), hs.no⟩) (fun s X hs => hs.bt.size))
                    (fun c => ownFrom_of_below (fun s X Y hs hXY => by
                      obtain ⟨q, t, h2, h3, h4, h6⟩ := hs.ex
                      exact ⟨hs.e, hs.bt.then hXY, q, t, h2, h3, h4, h6.below hXY (by omega)⟩) (fun s X hs => hs.bt.size))
                    ⟨CNT.out, k12, fun _ h => by simp at h⟩ ?fr ?assign ?body ?done ?stop
                  case assign =>
                    intro l t W' K hK
                    gi_wp2
                    exact hK
                  case body =>
                    rintro l pre ⟨t, t0, t1⟩ W' ⟨hbt, hk, hpre⟩ _
                    have K13 := K12.below (hbt.to rfl (Nat.le_refl _) (by omega))
                    have kx13 := kx12.but hbt kx12.lt (by omega)
                    have kl13 := kl12.but hbt kl12.lt (by omega)
                    have r1 := K13.kr.1.at0; have r2 := K13.kw.1.at0; have r3 := kx13.at0; have r4 := hk.at0; have r5 := hk.frozen 0; have r6 := kl13.at0
                    obtain ⟨l1, l2, l3⟩ := idx_lt (x := X) (y := t) (W := W) (H := (y : Int)) (by omega) (by omega) t0 t1
                    rw [Int.mul_comm (y : Int) W] at l2
                    have l4 : t * W + X < (N : Int) := by have := HN.out; omega
                    have hr := K13.kR.1.i64at (i := t * W + X) l1 l4
                    rw [show restR W G (-1) 0 (t * W + X) = G X t from restR_at (by omega) (by omega) (by omega)] at hr
                    obtain ⟨d1, d2⟩ := GB.out X t (by omega) (by omega) t0 t1
                    have v1 : IntKind.i64.wrap (t * W) = t * W := IntWalk.i64_in _ (by omega)
                    have v2 : IntKind.i64.wrap (t * W + X) = t * W + X := IntWalk.i64_in _ (by omega)
                    have FINn : Hid (f t = false → KeepsOthers W' W' ∧ KpB b1 (b1 + 1) W' W' ∧ NxI B12 f a' w12 (pre ++ [(⟨t, t0, t1⟩ : RowIn (y : Int))]) W') := by
                      show _ → _
                      intro h
                      refine ⟨KeepsOthers.refl _, ⟨rfl, rfl⟩, hbt, hk, fun s hs => ?_⟩
                      rcases List.mem_append.1 hs with hs | hs
                      · exact hpre s hs
                      · obtain rfl := List.mem_singleton.1 hs; exact h
                    have FINx : Hid (f t = true → KeepsOthers W' (W'.setCell ⟨B12, 0, none⟩ (.int .i64 t)) ∧ NxX B12 f w12 8 (.exit 8) (pre ++ [(⟨t, t0, t1⟩ : RowIn (y : Int))]) (W'.setCell ⟨B12, 0, none⟩ (.int .i64 t))) := by
                      show _ → _
                      intro h
                      exact ⟨KeepsOthers.setCell _ _ _, rfl, hbt.set _ _, pre, ⟨t, t0, t1⟩, rfl, hpre, h, hk.set_ 0 _⟩
                    have FT : Hid (f t = decide (G X t + (if t = a' then 0 else 1) = gi - ci)) := by show _ = _; rw [HF.out]; rfl
                    clear K13 kx13 kl13 hbt hk hpre
                    generalize G X t = gt at *
                    generalize gi - ci = L at *
                    by_cases e : t = a'
                    · rw [if_pos e, Int.add_zero] at FT
                      have hb : (t != a') = false := by simp [e]
                      have E := Lib.hid e; clear e
                      by_cases hm : gt = L
                      · have hb2 : (gt == L) = true := by simp [hm]
                        have HM := Lib.hid hm; clear hm
                        gi_wp2
                        exact FINx.out (by rw [FT.out]; simp [HM.out])
                      · have hb2 : (gt == L) = false := by simp [hm]
                        have HM := Lib.hid hm; clear hm
                        gi_wp2
                        exact FINn.out (by rw [FT.out]; simp [HM.out])
                    · rw [if_neg e] at FT
                      have hb : (t != a') = true := by simp [e]
                      have E := Lib.hid e; clear e
                      by_cases hm : gt + 1 = L
                      · have hb2 : (gt + 1 == L) = true := by simp [hm]
                        have HM := Lib.hid hm; clear hm
                        gi_wp2
                        exact FINx.out (by rw [FT.out]; simp [HM.out])
                      · have hb2 : (gt + 1 == L) = false := by simp [hm]
                        have HM := Lib.hid hm; clear hm
                        gi_wp2
                        exact FINn.out (by rw [FT.out]; simp [HM.out])
                  case done =>
                    rintro D xs W' hDw hS ⟨bt, hk, hno⟩ hKd
                    have hP' : P (x + 1) = a' := PS.out.trans (find_none hS hno a')
                    have k14 : Blk W' B12 3 #[.int .i64 (P (x + 1))] := by rw [hP']; exact hk
                    clear hk hP' hno hS
                    have b14 := b12.trans (bt.to rfl (by omega) (by omega))
                    have K14 := K12.below (bt.to rfl (Nat.le_refl _) (by omega))
                    have kx14 := kx12.but bt kx12.lt (by omega)
                    have own14 := own_but own12 bt rfl (by omega)
                    have hD14 := (hD12.but bt rfl ⟨_, _, k12⟩).cons hKd (fun hm => by have := hD12.lt hm; omega)
                    have hDs14 : ∀ E ∈ D :: Ds, B12 < E := fun E hE => by
                      rcases List.mem_cons.1 hE with rfl | hE
                      · omega
                      · exact hDs E hE
                    have z14 := bt.size
                    clear bt hDw hKd b12 K12 k12 kx12 kl12 own12 hD12 ky kh CNT MM PX' PX
                    have q4 := k14.at0; have q6 := kx14.at0
                    obtain ⟨i0, hi0, hz0, hz1, hz2⟩ := info_parts infoInt
                    go_wp2_with (at_builtin; refine wpList_append_own _ rfl (.tmp 121) (.tmp 123) 25 rfl (B12 + 1) 3 i0 (.int .i64 0) 1 8 Try.underlying25 hi0 hz0 hz1 hz2 rfl (by decide) _ _ _ rfl (own14.alloc _) ⟨W'.heap.size, 0, none⟩ 1 1 [.int .i64 (P (x + 1))] rfl rfl ?c1 ?c2 ?c3 ?c4 ?c5 ?_)
                    case c1 => exact cell_one_new _ _ _
                    case c2 => simp [Value.oneCell']
                    case c3 => unfold maxLen; have := EX.out; omega
                    case c4 => have := EX.out; omega
                    case c5 => simp; omega
                    intro v' w15 own15 hg _
                    have b15 : Below w.heap.size w w15 := (show Below w.heap.size w (W'.alloc (.cells #[.int .i64 (P (x + 1))] 3)) by (repeat (first | exact Below.refl _ _ | assumption | refine Below.drew ?_ | refine below_drewN ?_ _ | refine Below.alloc ?_ (by first | omega | (simp; done) | (simp; omega)) _ | refine Below.setCell ?_ (by first | omega | (simp; done) | (simp; omega)) _ | refine below_setRow ?_ (by first | omega | (simp; done) | (simp; omega)) _ ))).grown hg (by simp; omega) (fun k hk => by have := (own_ge own14 hk).1; omega)
                    have K15 := K14.below (((Below.refl B12 W').alloc (by omega) (.cells #[.int .i64 (P (x + 1))] 3)).grown hg (by simp; omega) (fun k hk => by have := (own_ge own14 hk).1; omega))
                    have k15 := (k14.alloc (.cells #[.int .i64 (P (x + 1))] 3)).grown hg (own_ne own14 (by omega))
                    have kx15 := (kx14.alloc (.cells #[.int .i64 (P (x + 1))] 3)).grown hg (fun e => nx e.symm)
                    have hD15 := (hD14.below ((Below.refl _ _).alloc (Nat.le_refl _) (.cells #[.int .i64 (P (x + 1))] 3))).grown (own14.alloc _) hg
                    have z15 := Nat.le_trans (show w12.heap.size ≤ (W'.alloc (.cells #[.int .i64 (P (x + 1))] 3)).heap.size by simp; omega) hg.size
                    clear b14 K14 k14 kx14 own14 hD14 hg q4 q6
                    have ln := own_len own15
                    have ow := own_below own15 ((Below.refl _ _).alloc (Nat.le_refl _) (.cells #[.int .i64 (X + 1)] 3))
                    have hv : ∀ k, v'.ownBlock = some k → k < w15.heap.size := fun k hk => (own_ge own15 hk).2
                    have q6 := kx15.at0
                    have v8 : IntKind.i64.wrap (X + 1) = X + 1 := IntWalk.i64_in _ (by omega)
                    go_wp2
                    refine ⟨⟨D :: Ds, _, _, _, _, _, _, _, _, _, _, _, _, _, _, _, _, _, _, _, _, _, _, _, _, _, _, _, _, _, _, _, _, _, _, _, _, _, _, _, _, _, _, _, _, _, _, _, _, _, _, ?rel, rfl⟩, ?measure⟩
                    case rel => exact ⟨x + 1, w15.heap.size, by have := EX.out; omega, rfl, by rw [range_snoc, range_snoc, List.append_assoc]; exact ow, by (repeat (first | exact Below.refl _ _ | assumption | refine Below.drew ?_ | refine below_drewN ?_ _ | refine Below.alloc ?_ (by first | omega | (simp; done) | (simp; omega)) _ | refine Below.setCell ?_ (by first | omega | (simp; done) | (simp; omega)) _ | refine below_setRow ?_ (by first | omega | (simp; done) | (simp; omega)) _ )), K15.below (by (repeat (first | exact Below.refl _ _ | assumption | refine Below.drew ?_ | refine below_drewN ?_ _ | refine Below.alloc ?_ (by first | omega | (simp; done) | (simp; omega)) _ | refine Below.setCell ?_ (by first | omega | (simp; done) | (simp; omega)) _ | refine below_setRow ?_ (by first | omega | (simp; done) | (simp; omega)) _ ))), k15.alloc _, by rw [show ((x + 1 : Nat) : Int) + 1 = X + 1 by have := EX.out; omega]; exact Blk.new _ _ _, by omega, fun e => by have := hv _ e; omega, hD15.below (by (repeat (first | exact Below.refl _ _ | assumption | refine Below.drew ?_ | refine below_drewN ?_ _ | refine Below.alloc ?_ (by first | omega | (simp; done) | (simp; omega)) _ | refine Below.setCell ?_ (by first | omega | (simp; done) | (simp; omega)) _ | refine below_setRow ?_ (by first | omega | (simp; done) | (simp; omega)) _ ))), hDs14⟩
                    case measure => simp [rl, ln]; have := EX.out; omega
                  case stop =>
                    rintro D c pre W' hDw hS ⟨rfl, bt, q, t, e1, e2, e3, k14⟩ hKd
                    have hP' : P (x + 1) = t.1 := PS.out.trans (find_some hS e1 e2 e3 a')
                    rw [← hP'] at k14
                    clear hP' e1 e2 e3 hS
                    have b14 := b12.trans (bt.to rfl (by omega) (by omega))
                    have K14 := K12.below (bt.to rfl (Nat.le_refl _) (by omega))
                    have kx14 := kx12.but bt kx12.lt (by omega)
                    have own14 := own_but own12 bt rfl (by omega)
                    have hD14 := (hD12.but bt rfl ⟨_, _, k12⟩).cons hKd (fun hm => by have := hD12.lt hm; omega)
                    have hDs14 : ∀ E ∈ D :: Ds, B12 < E := fun E hE => by
                      rcases List.mem_cons.1 hE with rfl | hE
                      · omega
                      · exact hDs E hE
                    have z14 := bt.size
                    clear bt hDw hKd b12 K12 k12 kx12 kl12 own12 hD12 ky kh CNT MM PX' PX
                    have q4 := k14.at0; have q6 := kx14.at0
                    obtain ⟨i0, hi0, hz0, hz1, hz2⟩ := info_parts infoInt
                    refine wpIn_wide.2 ?_
                    go_wp2_with (at_builtin; refine wpList_append_own _ rfl (.tmp 121) (.tmp 123) 25 rfl (B12 + 1) 3 i0 (.int .i64 0) 1 8 Try.underlying25 hi0 hz0 hz1 hz2 rfl (by decide) _ _ _ rfl (own14.alloc _) ⟨W'.heap.size, 0, none⟩ 1 1 [.int .i64 (P (x + 1))] rfl rfl ?c1 ?c2 ?c3 ?c4 ?c5 ?_)
                    case c1 => exact cell_one_new _ _ _
                    case c2 => simp [Value.oneCell']
                    case c3 => unfold maxLen; have := EX.out; omega
                    case c4 => have := EX.out; omega
                    case c5 => simp; omega
                    intro v' w15 own15 hg _
                    have b15 : Below w.heap.size w w15 := (show Below w.heap.size w (W'.alloc (.cells #[.int .i64 (P (x + 1))] 3)) by (repeat (first | exact Below.refl _ _ | assumption | refine Below.drew ?_ | refine below_drewN ?_ _ | refine Below.alloc ?_ (by first | omega | (simp; done) | (simp; omega)) _ | refine Below.setCell ?_ (by first | omega | (simp; done) | (simp; omega)) _ | refine below_setRow ?_ (by first | omega | (simp; done) | (simp; omega)) _ ))).grown hg (by simp; omega) (fun k hk => by have := (own_ge own14 hk).1; omega)
                    have K15 := K14.below (((Below.refl B12 W').alloc (by omega) (.cells #[.int .i64 (P (x + 1))] 3)).grown hg (by simp; omega) (fun k hk => by have := (own_ge own14 hk).1; omega))
                    have k15 := (k14.alloc (.cells #[.int .i64 (P (x + 1))] 3)).grown hg (own_ne own14 (by omega))
                    have kx15 := (kx14.alloc (.cells #[.int .i64 (P (x + 1))] 3)).grown hg (fun e => nx e.symm)
                    have hD15 := (hD14.below ((Below.refl _ _).alloc (Nat.le_refl _) (.cells #[.int .i64 (P (x + 1))] 3))).grown (own14.alloc _) hg
                    have z15 := Nat.le_trans (show w12.heap.size ≤ (W'.alloc (.cells #[.int .i64 (P (x + 1))] 3)).heap.size by simp; omega) hg.size
                    clear b14 K14 k14 kx14 own14 hD14 hg q4 q6
                    have ln := own_len own15
                    have ow := own_below own15 ((Below.refl _ _).alloc (Nat.le_refl _) (.cells #[.int .i64 (X + 1)] 3))
                    have hv : ∀ k, v'.ownBlock = some k → k < w15.heap.size := fun k hk => (own_ge own15 hk).2
                    have q6 := kx15.at0
                    have v8 : IntKind.i64.wrap (X + 1) = X + 1 := IntWalk.i64_in _ (by omega)
                    go_wp2
                    refine ⟨⟨D :: Ds, _, _, _, _, _, _, _, _, _, _, _, _, _, _, _, _, _, _, _, _, _, _, _, _, _, _, _, _, _, _, _, _, _, _, _, _, _, _, _, _, _, _, _, _, _, _, _, _, _, _, ?rel, rfl⟩, ?measure⟩
                    case rel => exact ⟨x + 1, w15.heap.size, by have := EX.out; omega, rfl, by rw [range_snoc, range_snoc, List.append_assoc]; exact ow, by (repeat (first | exact Below.refl _ _ | assumption | refine Below.drew ?_ | refine below_drewN ?_ _ | refine Below.alloc ?_ (by first | omega | (simp; done) | (simp; omega)) _ | refine Below.setCell ?_ (by first | omega | (simp; done) | (simp; omega)) _ | refine below_setRow ?_ (by first | omega | (simp; done) | (simp; omega)) _ )), K15.below (by (repeat (first | exact Below.refl _ _ | assumption | refine Below.drew ?_ | refine below_drewN ?_ _ | refine Below.alloc ?_ (by first | omega | (simp; done) | (simp; omega)) _ | refine Below.setCell ?_ (by first | omega | (simp; done) | (simp; omega)) _ | refine below_setRow ?_ (by first | omega | (simp; done) | (simp; omega)) _ ))), k15.alloc _, by rw [show ((x + 1 : Nat) : Int) + 1 = X + 1 by have := EX.out; omega]; exact Blk.new _ _ _, by omega, fun e => by have := hv _ e; omega, hD15.below (by (repeat (first | exact Below.refl _ _ | assumption | refine Below.drew ?_ | refine below_drewN ?_ _ | refine Below.alloc ?_ (by first | omega | (simp; done) | (simp; omega)) _ | refine Below.setCell ?_ (by first | omega | (simp; done) | (simp; omega)) _ | refine below_setRow ?_ (by first | omega | (simp; done) | (simp; omega)) _ ))), hDs14⟩
                    case measure => simp [rl, ln]; have := EX.out; omega
              · obtain rfl : X = W := by omega
                clear k10 kx
                go_wp2_with fail
                refine leavesM_marks (B := B12) Ds wr hD (fun D h => Nat.le_of_lt (hDs D h)) fun w' hb hk => ?_
                have BG : gAt 1073741824 X y (cst p X) (fun x_1 y_1 => fb (y_1 * X + x_1)) 0 (pathP 1073741824 X y (cst p X) (fun x_1 y_1 => fb (y_1 * X + x_1)) 0) = G 0 a := by rw [HP.out]; exact BO.out
                have ex : x + 1 = X.toNat := by have := EX.out; omega
                refine ⟨_, results_tmp2 rfl _ _ _, .inr ⟨by rw [BG]; exact hc, _, by rw [BG]; rfl, ?_⟩, b10.trans (hb.mono (by omega))⟩
                rw [← ex, HP.out]
                exact own_base (own_held hown hD hk) (by omega)
          · have hc2 : G 0 a = 1073741824 := by omega
            rw [hc2] at BO c2
            clear v2 hc2 hc gb1 gb2
            go_wp2_with fail
            exact ⟨_, results_tmp2 rfl _ _ _, ⟨.inl ⟨BO.out, rfl⟩, b8⟩⟩
end Go.Proofs.Ytdimlpcbbkokiaa
