/- Texts of mine in build order: T7, T11, S5, T12, S6. Conditions: each theorem's own. -/
import Derived.Test.YtdimlpcbbkokiaaMStaveRunsx3
import Derived.Shelf.SlSortCmp.Whole1
import Derived.Shelf.SlSortCmp.NoneTotal
import Derived.Lib.LazyBuf
/- Walk: the cheapest path of an image. -/
namespace Go.Proofs.Ytdimlpcbbkokiaa
open Go.RowKit Go.Shelf
set_option linter.unusedVariables false
attribute [local go_sem] Oper.semAt_some

theorem Arr.far1 {w : World} {B n : Nat} {A : Option Addr} {f : Int → Value} (h : Arr w B A n f) {p : Addr} (hp : ∀ a, A = some a → a.block ≠ p.block) (u : Value) : Arr (w.setCell p u) B A n f := fun hn => by
  obtain ⟨b, off, e, hb, hc⟩ := h hn
  exact ⟨b, off, e, hb, fun i h0 hi => (World.cell?_of_block (heap_setCell_other w p b u (hp _ e))).trans (hc i h0 hi)⟩
theorem BestK.store {w : World} {W H : Int} {Bf Bw Bh Br Bi gr N : Nat} {Fa A : Option Addr} {fc n c : Nat} {fb : Int → Bool} {R p : Int → Int} (k : BestK w W H Bf Bw Bh Br Bi gr N Fa A fc n c fb R p)
    (hf : Bf ≠ gr) (hw : Bw ≠ gr) (hh : Bh ≠ gr) (hr : Br ≠ gr) (hi : Bi ≠ gr) (hF : ∀ a, Fa = some a → a.block ≠ gr) (hA : ∀ a, A = some a → a.block ≠ gr) (i : Int) (h0 : 0 ≤ i) (v : Int) :
    BestK (w.setCell ⟨gr, i.toNat, none⟩ (.int .i64 v)) W H Bf Bw Bh Br Bi gr N Fa A fc n c fb (upd R i v) p :=
  ⟨k.kf.far (p := ⟨gr, i.toNat, none⟩) hf _, k.kw.far (p := ⟨gr, i.toNat, none⟩) hw _, k.kh.far (p := ⟨gr, i.toNat, none⟩) hh _, k.kr.far (p := ⟨gr, i.toNat, none⟩) hr _, k.kR.i64set i h0 v, k.ki.far (p := ⟨gr, i.toNat, none⟩) hi _,
    by rw [World.size_setCell]; exact k.aF.far1 (p := ⟨gr, i.toNat, none⟩) hF _, by rw [World.size_setCell]; exact ArrB.far1 k.aA (p := ⟨gr, i.toNat, none⟩) hA _⟩
theorem BestK.conv {w : World} {W H : Int} {Bf Bw Bh Br Bi gr N : Nat} {Fa A : Option Addr} {fc n c : Nat} {fb : Int → Bool} {R R' p : Int → Int} (k : BestK w W H Bf Bw Bh Br Bi gr N Fa A fc n c fb R p) (h : ∀ i : Int, 0 ≤ i → i < N → R i = R' i) : BestK w W H Bf Bw Bh Br Bi gr N Fa A fc n c fb R' p :=
  ⟨k.kf, k.kw, k.kh, k.kr, k.kR.i64conv h, k.ki, k.aF, k.aA⟩

/-- the search for the next row: none of these rows was the one; or the last one was -/
structure NxI {h : Int} (B12 : Nat) (f : Int → Bool) (a : Int) (w12 : World) (pre : List (RowIn h)) (W' : World) : Prop where
  bt : But w12.heap.size B12 w12 W'
  k : Blk W' B12 3 #[.int .i64 a]
  no : ∀ t ∈ pre, f t.1 = false
structure NxX {h : Int} (B12 : Nat) (f : Int → Bool) (w12 : World) (id : Nat) (c : Code) (pre : List (RowIn h)) (W' : World) : Prop where
  e : c = Code.exit id
  bt : But w12.heap.size B12 w12 W'
  ex : ∃ q t, pre = q ++ [t] ∧ (∀ s ∈ q, f s.1 = false) ∧ f t.1 = true ∧ Blk W' B12 3 #[.int .i64 t.1]

/-- what best returns: a cheapest path and its cost, or none -/
def BestOut (w : World) (W H : Int) (p : Int → Int) (fb : Int → Bool) (e : Ending) (w' : World) : Prop :=
  ((gAt 1073741824 W H (cst p W) (fun x y => fb (y * W + x)) 0 (pathP 1073741824 W H (cst p W) (fun x y => fb (y * W + x)) 0) = 1073741824 ∧ e = .returned (.tuple #[.slice none 0 0, .int .i64 0])) ∨
   (gAt 1073741824 W H (cst p W) (fun x y => fb (y * W + x)) 0 (pathP 1073741824 W H (cst p W) (fun x y => fb (y * W + x)) 0) < 1073741824 ∧
     ∃ v, e = .returned (.tuple #[v, .int .i64 (gAt 1073741824 W H (cst p W) (fun x y => fb (y * W + x)) 0 (pathP 1073741824 W H (cst p W) (fun x y => fb (y * W + x)) 0))]) ∧ w'.ownsRow w.heap.size 3 1 v W.toNat ((List.range W.toNat).map fun j => Value.int .i64 (pathP 1073741824 W H (cst p W) (fun x y => fb (y * W + x)) j)))) ∧
  Below w.heap.size w w'

set_option maxRecDepth 100000 in
set_option maxHeartbeats 4000000 in
theorem best_any (W H : Int) (A Fa : Option Addr) (n c N fc : Nat) (fb : Int → Bool) (p : Int → Int) (w : World) (hA : ArrB w w.heap.size A n p) (hF : Arr w w.heap.size Fa N (fun i => .bool (fb i))) (hB : IsB p) (hE : chk W H n p = 0) (hN : (N : Int) = W * H) (hW : 1 ≤ W) (hH : 1 ≤ H) :
    Calls Try.prog 63 #[.agg #[.int .i64 W, .int .i64 H, .slice A n c], .slice Fa N fc] w fun e w' => BestOut w W H p fb e w' := by
  obtain ⟨hW1, hW2, hH1, hH2, hnn, -⟩ := chk_ok hE
  obtain ⟨m1, m2⟩ := area_bd hW1 hW2 hH1 hH2
  have hmk := makeI (W * H) m1 (by omega)
  rw [show (W * H).toNat = N by omega] at hmk
  have v1 : IntKind.i64.wrap (W * H) = W * H := IntWalk.i64_in _ (by omega)
  have hNp : 0 < W * H := Int.mul_pos (by omega) (by omega)
  obtain ⟨ba, oa, rfl, hba, -⟩ := hA (by omega)
  obtain ⟨bf, of', rfl, hbf, -⟩ := hF (by omega)
  have HN := Lib.hid hN
  have HE := Lib.hid hE
  clear hE hnn hN
  refine (callsIn_wide (n := 5)).1 ?_
  refine callsIn_of_wp_marks Try.func63 rfl trivial ?_ rfl
  simp only [Try.ntmps63, List.size_toArray, List.length_cons, List.length_nil, Nat.reduceAdd, Nat.reduceSub, Array.replicate_succ, Array.replicate_zero, List.push_toArray, List.append_toArray, List.nil_append, List.cons_append]
  refine wpIn_wide.2 ?_
  go_wp2_with fail
  have ki : Blk ((w.alloc (.cells #[.int .i64 W, .int .i64 H, .slice (some ⟨ba, oa, none⟩) n c] 24)).alloc (.cells #[.slice (some ⟨bf, of', none⟩) N fc] 67)) w.heap.size 24 #[.int .i64 W, .int .i64 H, .slice (some ⟨ba, oa, none⟩) n c] := (Blk.new _ _ _).alloc _
  have kf : Blk ((w.alloc (.cells #[.int .i64 W, .int .i64 H, .slice (some ⟨ba, oa, none⟩) n c] 24)).alloc (.cells #[.slice (some ⟨bf, of', none⟩) N fc] 67)) (w.heap.size + 1) 67 #[.slice (some ⟨bf, of', none⟩) N fc] := Blk.new' (by simp) _ _
  have b2 : Below w.heap.size w ((w.alloc (.cells #[.int .i64 W, .int .i64 H, .slice (some ⟨ba, oa, none⟩) n c] 24)).alloc (.cells #[.slice (some ⟨bf, of', none⟩) N fc] 67)) := by (repeat (first | exact Below.refl _ _ | assumption | refine Below.drew ?_ | refine below_drewN ?_ _ | refine Below.alloc ?_ (by first | omega | (simp; done) | (simp; omega)) _ | refine Below.setCell ?_ (by first | omega | (simp; done) | (simp; omega)) _ | refine below_setRow ?_ (by first | omega | (simp; done) | (simp; omega)) _ ))
  generalize (w.alloc (.cells #[.int .i64 W, .int .i64 H, .slice (some ⟨ba, oa, none⟩) n c] 24)).alloc (.cells #[.slice (some ⟨bf, of', none⟩) N fc] 67) = w2 at *
  have Z1 := ki.lt; have Z2 := kf.lt
  obtain ⟨p1, p2, p3⟩ := ki.cells3
  go_upto_region 1 with fail
  go_cut [6, 7] from 20 to 23 (fun a b wx => ∃ Bw Bh, a = .pointer (some ⟨Bw, 0, none⟩) ∧ b = .pointer (some ⟨Bh, 0, none⟩) ∧ Below w2.heap.size w2 wx ∧ w2.heap.size ≤ Bw ∧ w2.heap.size ≤ Bh ∧ Blk wx Bw 3 #[.int .i64 W] ∧ Blk wx Bh 3 #[.int .i64 H])
  case first =>
    go_region_held3 (fun w' => w'.cell? ⟨w.heap.size, 0, none⟩ = some (.int .i64 W) ∧ w'.cell? ⟨w.heap.size, 1, none⟩ = some (.int .i64 H))
      (simp [go_sem, *]) (fail)
    all_goals
      go_wp2_with fail
      go_meet
    · exact ⟨w2.heap.size, w2.heap.size + 1, rfl, rfl, by (repeat (first | exact Below.refl _ _ | assumption | refine Below.drew ?_ | refine below_drewN ?_ _ | refine Below.alloc ?_ (by first | omega | (simp; done) | (simp; omega)) _ | refine Below.setCell ?_ (by first | omega | (simp; done) | (simp; omega)) _ | refine below_setRow ?_ (by first | omega | (simp; done) | (simp; omega)) _ )), by omega, by omega, ((Blk.new _ _ _).alloc _).drew, (Blk.new' (by simp) _ _).drew⟩
    · exact ⟨w2.heap.size + 1, w2.heap.size, rfl, rfl, by (repeat (first | exact Below.refl _ _ | assumption | refine Below.drew ?_ | refine below_drewN ?_ _ | refine Below.alloc ?_ (by first | omega | (simp; done) | (simp; omega)) _ | refine Below.setCell ?_ (by first | omega | (simp; done) | (simp; omega)) _ | refine below_setRow ?_ (by first | omega | (simp; done) | (simp; omega)) _ )), by omega, by omega, (Blk.new' (by simp) _ _).drew, ((Blk.new _ _ _).alloc _).drew⟩
  case rest =>
  obtain ⟨Bw, Bh, rfl, rfl, hb3, hBw, hBh, kw, kh⟩ := hcut
  have b3 := below_call b2 b2.size hb3
  replace ki := ki.below' hb3
  replace kf := kf.below' hb3
  clear hb3 p1 p2 p3
  have Z3 := kw.lt; have Z4 := kh.lt
  have q1 := kw.at0; have q2 := kh.at0
  go_wp2_with fail
  have bW : Below w.heap.size w ((wc.alloc (.cells (i64s N (fun _ => 0)) 3)).alloc (.cells #[.slice (some ⟨wc.heap.size, 0, none⟩) N N] 25)) := by (repeat (first | exact Below.refl _ _ | assumption | refine Below.drew ?_ | refine below_drewN ?_ _ | refine Below.alloc ?_ (by first | omega | (simp; done) | (simp; omega)) _ | refine Below.setCell ?_ (by first | omega | (simp; done) | (simp; omega)) _ | refine below_setRow ?_ (by first | omega | (simp; done) | (simp; omega)) _ ))
  have K0 : BestK ((wc.alloc (.cells (i64s N (fun _ => 0)) 3)).alloc (.cells #[.slice (some ⟨wc.heap.size, 0, none⟩) N N] 25)) W H (w.heap.size + 1) Bw Bh (wc.heap.size + 1) w.heap.size wc.heap.size N (some ⟨bf, of', none⟩) (some ⟨ba, oa, none⟩) fc n c fb (fun _ => 0) p :=
    ⟨(kf.alloc _).alloc _, (kw.alloc _).alloc _, (kh.alloc _).alloc _, Blk.new' (by simp) _ _, (Blk.new _ _ _).alloc _, (ki.alloc _).alloc _, Arr.more (Arr.below hF bW) bW.size, hA.to bW⟩
  have z5 : w.heap.size + 1 < wc.heap.size := kf.lt
  clear ki kf kw kh hmk v1 b3 q1 q2 Z1 Z2
  generalize (wc.alloc (.cells (i64s N (fun _ => 0)) 3)).alloc (.cells #[.slice (some ⟨wc.heap.size, 0, none⟩) N N] 25) = w5 at *
  generalize wc.heap.size = gr at *
  have n1 : Bw ≠ gr := by omega
  have n2 : Bh ≠ gr := by omega
  have n3 : w.heap.size ≠ gr := by omega
  have n4 : w.heap.size + 1 ≠ gr := by omega
  have n5 : ba ≠ gr := by omega
  have n6 : bf ≠ gr := by omega
  have n7 : w.heap.size ≤ gr := by omega
  have FA := Lib.hid fun x y R w' k' x0 x1 y0 y1 hR => from_all W H x y (w.heap.size + 1) Bw Bh (gr + 1) w.heap.size gr N (some ⟨bf, of', none⟩) (some ⟨ba, oa, none⟩) fc n c fb R p w' k' HE.out hB HN.out x0 x1 y0 y1 hR
  generalize hG : gAt 1073741824 W H (cst p W) (fun x y => fb (y * W + x)) = G at *
  have HG := Lib.hid hG; clear hG
  have GB : Hid (∀ x y, 0 ≤ x → x < W → 0 ≤ y → y < H → 0 ≤ G x y ∧ G x y ≤ 1073741824) := by
    show ∀ _, _
    intro x y x0 x1 y0 y1
    have := gAt_bd (N := 1073741824) (W := W) (H := H) (F := fun x y => fb (y * W + x)) (cst_bd p W) (by omega) x0 x1 y0 y1
    rw [HG.out] at this
    omega
  go_loopw [10] (fun s wr => ∃ x : Int, -1 ≤ x ∧ x < W ∧ s = .int .i64 x ∧ Below w.heap.size w wr ∧ BestK wr W H (w.heap.size + 1) Bw Bh (gr + 1) w.heap.size gr N (some ⟨bf, of', none⟩) (some ⟨ba, oa, none⟩) fc n c fb (restR W G x 0) p) (fun s _ => (intOf s + 1).toNat)
  case atStart => exact ⟨W - 1, by omega, by omega, rfl, bW, K0.conv fun i h0 _ => (restR_start (by omega) h0).symm⟩
  case round =>
    obtain ⟨x, xm, x1, rfl, b6, k6⟩ := hrel
    clear bW K0
    have q1 := k6.kw.at0; have q2 := k6.kh.at0; have q3 := k6.kr.at0
    by_cases x0 : 0 ≤ x
    · go_wp2_with fail
      go_loopw [36] (fun s wr => ∃ y : Int, 0 ≤ y ∧ y ≤ H ∧ s = .int .i64 y ∧ Below w.heap.size w wr ∧ BestK wr W H (w.heap.size + 1) Bw Bh (gr + 1) w.heap.size gr N (some ⟨bf, of', none⟩) (some ⟨ba, oa, none⟩) fc n c fb (restR W G x y) p) (fun s _ => (H - intOf s).toNat)
      case atStart => exact ⟨0, by omega, by omega, rfl, b6, k6⟩
      case round =>
        obtain ⟨y, y0, ym, rfl, b7, k7⟩ := hrel
        clear b6 k6 q1 q2 q3
        have q1 := k7.kw.at0; have q2 := k7.kh.at0; have q3 := k7.kr.at0
        by_cases y1 : y < H
        · obtain ⟨i1, i2, i3⟩ := idx_lt x0 x1 y0 y1
          rw [Int.mul_comm H W] at i2
          have i4 : y * W + x < (N : Int) := by have := HN.out; omega
          have v1 : IntKind.i64.wrap (y * W) = y * W := IntWalk.i64_in _ (by omega)
          have v2 : IntKind.i64.wrap (y * W + x) = y * W + x := IntWalk.i64_in _ (by omega)
          have FX := Lib.hid fun w' k' => FA.out x y (restR W G x y) w' k' x0 x1 y0 y1 (fun hx t t0 t1 => restR_at (by omega) (by omega) (by omega))
          have K7 := Lib.hid k7; have B7 := Lib.hid b7
          have RS := Lib.hid fun i => restR_set (G := G) (y := y) x0 x1 i
          clear k7 b7
          go_wp2_with fail
          go_region_held3 (fun w' => w'.cell? ⟨gr + 1, 0, none⟩ = some (.slice (some ⟨gr, 0, none⟩) N N) ∧ w'.cell? ⟨Bw, 0, none⟩ = some (.int .i64 W))
            (simp [go_sem, *])
            ((go_at_call 103
              refine (FX.out _ (K7.out.below (drewN_below 1))).mono ?_
              rintro e w8 ⟨rfl, hb8⟩
              have k8 := (K7.out.below (drewN_below 1)).below hb8
              have x1' := k8.kw.at0; have x2' := k8.kr.at0
              have hr := k8.kR.i64at i1 i4
              have fr := k8.kR.frozen (y * W + x).toNat
              have b8 := below_call B7.out.drew B7.out.drew.size hb8))
          clear v1 v2
          go_wp2
          go_roundw
          case rel =>
            exact ⟨y + 1, by omega, by omega, by go_num, by (repeat (first | exact Below.refl _ _ | assumption | refine Below.drew ?_ | refine below_drewN ?_ _ | refine Below.alloc ?_ (by first | omega | (simp; done) | (simp; omega)) _ | refine Below.setCell ?_ (by first | omega | (simp; done) | (simp; omega)) _ | refine below_setRow ?_ (by first | omega | (simp; done) | (simp; omega)) _ )), (k8.store n4 n1 n2 (by omega) n3 (fun a e => by cases e; exact n6) (fun a e => by cases e; exact n5) (y * W + x) i1 (G x y)).conv fun i _ _ => RS.out i⟩
          case measure => simp [intOf]; omega
        · obtain rfl : y = H := by omega
          go_wp2
          go_roundw
          case rel => exact ⟨x - 1, by omega, by omega, by go_num, b7, k7.conv fun i h0 hi => restR_col (by omega) h0 (by have := HN.out; omega)⟩
          case measure => simp [intOf]; omega
    · obtain rfl : x = -1 := by omega
      have KB := k6.toB.below ((Below.refl _ _).alloc (Nat.le_refl _) (.cells #[.int .i64 0] 3))
      have kb := Blk.new wr 3 #[.int .i64 0]
      have b7 := b6.alloc b6.size (.cells #[.int .i64 0] 3)
      have hz := b6.size
      have z8 := k6.kR.lt
      have q9 := KB.kh.1.at0
      go_wp2_with fail
      generalize wr.alloc (.cells #[.int .i64 0] 3) = w7 at *
      generalize wr.heap.size = B12 at *
      clear q1 q2 q3 k6 b6
      clear q9
      go_loopw [52] (fun s wr => ∃ y : Nat, (y : Int) ≤ H ∧ s = .int .i64 y ∧ Below w.heap.size w wr ∧ BestB B12 wr W H (w.heap.size + 1) Bw Bh (gr + 1) w.heap.size gr N (some ⟨bf, of', none⟩) (some ⟨ba, oa, none⟩) fc n c fb (restR W G (-1) 0) p ∧ Blk wr B12 3 #[.int .i64 (fmin (G 0) y)]) (fun s _ => (H - intOf s).toNat)
      case atStart => exact ⟨0, by omega, rfl, b7, KB, kb⟩
      case round =>
        obtain ⟨y, ym, rfl, b8, K8, k8⟩ := hrel
        clear b7 KB kb
        have q1 := K8.kw.1.at0; have q3 := K8.kr.1.at0; have q4 := k8.at0; have q5 := k8.frozen 0
        obtain ⟨f1, f2⟩ := fmin_bd (G 0) y
        by_cases y1 : (y : Int) < H
        · have FS : Hid (fmin (G 0) (y + 1) = if G 0 y < G 0 (fmin (G 0) y) then (y : Int) else fmin (G 0) y) := by show _ = _; rfl
          have hfm : fmin (G 0) y < H := by
            by_cases h : 0 < y
            · have := f2 h; omega
            · obtain rfl : y = 0 := by omega
              show (0 : Int) < H; omega
          clear f2
          generalize fmin (G 0) y = a at *
          obtain ⟨i1, i2, i3⟩ := idx_lt (x := 0) (y := (y : Int)) (W := W) (H := H) (by omega) (by omega) (by omega) y1
          obtain ⟨j1, j2, j3⟩ := idx_lt (x := 0) (y := a) (W := W) (H := H) (by omega) (by omega) f1 hfm
          rw [Int.add_zero, Int.mul_comm H W] at i2 j2
          have i4 : (y : Int) * W < (N : Int) := by have := HN.out; omega
          have j4 : a * W < (N : Int) := by have := HN.out; omega
          have c1 := K8.kR.1.i64at i3 i4
          have c2 := K8.kR.1.i64at j3 j4
          rw [show restR W G (-1) 0 ((y : Int) * W) = G 0 y by rw [← Int.add_zero ((y : Int) * W)]; exact restR_at (by omega) (by omega) (by omega)] at c1
          rw [show restR W G (-1) 0 (a * W) = G 0 a by rw [← Int.add_zero (a * W)]; exact restR_at (by omega) (by omega) (by omega)] at c2
          have v1 : IntKind.i64.wrap ((y : Int) * W) = (y : Int) * W := IntWalk.i64_in _ (by omega)
          have v2 : IntKind.i64.wrap (a * W) = a * W := IntWalk.i64_in _ (by omega)
          clear i1 j1
          by_cases hlt : G 0 y < G 0 a
          · rw [if_pos hlt] at FS
            generalize G 0 y = g1 at *
            generalize G 0 a = g2 at *
            go_wp2_with fail
            go_quiet (fail)
            clear v1 v2
            go_wp2
            go_roundw
            case rel => exact ⟨y + 1, by omega, by go_num, by have := below_drewN b8 nq; (repeat (first | exact Below.refl _ _ | assumption | refine Below.drew ?_ | refine below_drewN ?_ _ | refine Below.alloc ?_ (by first | omega | (simp; done) | (simp; omega)) _ | refine Below.setCell ?_ (by first | omega | (simp; done) | (simp; omega)) _ | refine below_setRow ?_ (by first | omega | (simp; done) | (simp; omega)) _ )), K8.below (by have := below_drewN (Below.refl B12 wr) nq; (repeat (first | exact Below.refl _ _ | assumption | refine Below.drew ?_ | refine below_drewN ?_ _ | refine Below.alloc ?_ (by first | omega | (simp; done) | (simp; omega)) _ | refine Below.setCell ?_ (by first | omega | (simp; done) | (simp; omega)) _ | refine below_setRow ?_ (by first | omega | (simp; done) | (simp; omega)) _ ))), by rw [FS.out]; exact (k8.drewN nq).set_ 0 _⟩
            case measure => simp [intOf]; omega
          · rw [if_neg hlt] at FS
            generalize G 0 y = g1 at *
            generalize G 0 a = g2 at *
            go_wp2_with fail
            go_quiet (fail)
            clear v1 v2
            go_wp2
            go_roundw
            case rel => exact ⟨y + 1, by omega, by go_num, below_drewN b8 nq, K8.below (below_drewN (Below.refl B12 wr) nq), by rw [FS.out]; exact k8.drewN nq⟩
            case measure => simp [intOf]; omega
        · obtain ⟨Hn, rfl⟩ : ∃ Hn : Nat, H = Hn := ⟨H.toNat, by omega⟩
          obtain rfl : y = Hn := by omega
          have q1 := K8.kw.1.at0; have q3 := K8.kr.1.at0; have q4 := k8.at0
          obtain ⟨f1, f2⟩ := fmin_bd (G 0) y
          have f2 := f2 (by omega)
          have PE : Hid (pathP 1073741824 W y (cst p W) (fun x y => fb (y * W + x)) 0 = fmin (G 0) y) := by show _ = _; rw [← HG.out]; rfl
          generalize fmin (G 0) y = a at *
          obtain ⟨j1, j2, j3⟩ := idx_lt (x := 0) (y := a) (W := W) (H := (y : Int)) (by omega) (by omega) f1 f2
          rw [Int.add_zero, Int.mul_comm (y : Int) W] at j2
          have j4 : a * W < (N : Int) := by have := HN.out; omega
          have c2 := K8.kR.1.i64at j3 j4
          rw [show restR W G (-1) 0 (a * W) = G 0 a by rw [← Int.add_zero (a * W)]; exact restR_at (by omega) (by omega) (by omega)] at c2
          have v2 : IntKind.i64.wrap (a * W) = a * W := IntWalk.i64_in _ (by omega)
          have gb := GB.out 0 a (by omega) (by omega) f1 f2
          obtain ⟨gb1, gb2⟩ := gb
          have BO : Hid (gAt 1073741824 W y (cst p W) (fun x y => fb (y * W + x)) 0 (pathP 1073741824 W y (cst p W) (fun x y => fb (y * W + x)) 0) = G 0 a) := by show _ = _; rw [PE.out, HG.out]
          by_cases hc : G 0 a < 1073741824
          · have hf := BO.out
            have PO := path_ok (N := 1073741824) (W := W) (H := y) (c := cst p W) (F := fun x y => fb (y * W + x)) (cst_bd p W) (by omega) (by omega) (by omega) (by rw [hf]; exact hc)
            rw [HG.out] at PO
            have PN : Hid (∀ x : Nat, pathP 1073741824 W y (cst p W) (fun x y => fb (y * W + x)) (x + 1) = ((nbT (pathP 1073741824 W y (cst p W) (fun x y => fb (y * W + x)) x) (nxN y (pathP 1073741824 W y (cst p W) (fun x y => fb (y * W + x)) x))).find? (fun t => decide (goTo (G (x + 1)) (pathP 1073741824 W y (cst p W) (fun x y => fb (y * W + x)) x) t = G x (pathP 1073741824 W y (cst p W) (fun x y => fb (y * W + x)) x) - cst p W x (pathP 1073741824 W y (cst p W) (fun x y => fb (y * W + x)) x)))).getD (pathP 1073741824 W y (cst p W) (fun x y => fb (y * W + x)) x)) := by
              show ∀ _, _
              intro x
              rw [← HG.out]
              exact nxt_find _ _ _ _ _ _ _
            generalize hP : pathP 1073741824 W y (cst p W) (fun x y => fb (y * W + x)) = P at *
            have HP := Lib.hid hP
            replace PO := Lib.hid PO
            have PX := Lib.hid fun x' y' w' hA' x0 x1 y0 y1 => paper_any W y (some ⟨ba, oa, none⟩) n c p x' y' w' hA' hB HE.out x0 x1 y0 y1
            clear hP hf
            have z9 : B12 < wr.heap.size := k8.lt
            have b9 : Below w.heap.size w ((wr.alloc (.cells #[.int .i64 a] 3)).alloc (.cells #[.int .i64 1] 3)) := by (repeat (first | exact Below.refl _ _ | assumption | refine Below.drew ?_ | refine below_drewN ?_ _ | refine Below.alloc ?_ (by first | omega | (simp; done) | (simp; omega)) _ | refine Below.setCell ?_ (by first | omega | (simp; done) | (simp; omega)) _ | refine below_setRow ?_ (by first | omega | (simp; done) | (simp; omega)) _ ))
            have K9 : BestB B12 ((wr.alloc (.cells #[.int .i64 a] 3)).alloc (.cells #[.int .i64 1] 3)) W y (w.heap.size + 1) Bw Bh (gr + 1) w.heap.size gr N (some ⟨bf, of', none⟩) (some ⟨ba, oa, none⟩) fc n c fb (restR W G (-1) 0) p := K8.below (by (repeat (first | exact Below.refl _ _ | assumption | refine Below.drew ?_ | refine below_drewN ?_ _ | refine Below.alloc ?_ (by first | omega | (simp; done) | (simp; omega)) _ | refine Below.setCell ?_ (by first | omega | (simp; done) | (simp; omega)) _ | refine below_setRow ?_ (by first | omega | (simp; done) | (simp; omega)) _ )))
            have k9 : Blk ((wr.alloc (.cells #[.int .i64 a] 3)).alloc (.cells #[.int .i64 1] 3)) B12 3 #[.int .i64 (P 0)] := by rw [PE.out]; exact (k8.alloc _).alloc _
            have r9 : ((wr.alloc (.cells #[.int .i64 a] 3)).alloc (.cells #[.int .i64 1] 3)).ownsRow (B12 + 1) 3 1 (.slice (some ⟨wr.heap.size, 0, none⟩) 1 1) 1 [.int .i64 a] := own_one ((Blk.new _ _ _).alloc _) (by omega)
            have kx9 : Blk ((wr.alloc (.cells #[.int .i64 a] 3)).alloc (.cells #[.int .i64 1] 3)) (wr.heap.size + 1) 3 #[.int .i64 1] := Blk.new' (by simp) _ _
            go_wp2_with fail
            clear k8 K8 b8
            refine wp_loop (fun a' w' => ∃ (Ds : List Nat) (u15 u16 u17 u18 u19 u80 u81 u82 u83 u84 u85 u86 u87 u88 u89 u90 u91 u92 u93 u94 u95 u96 u97 u98 u99 u100 u101 u102 u104 u105 u106 u107 u108 u109 u110 u111 u112 u113 u114 u115 u116 u117 u118 u119 u120 u121 u122 u123 u124 u125 : Value), (∃ x Bx : Nat, (x : Int) + 1 ≤ W ∧ u16 = .pointer (some ⟨Bx, 0, none⟩) ∧ w'.ownsRow (B12 + 1) 3 1 u15 (x + 1) ((List.range (x + 1)).map fun j => Value.int .i64 (P j)) ∧ Below w.heap.size w w' ∧ BestB B12 w' W y (w.heap.size + 1) Bw Bh (gr + 1) w.heap.size gr N (some ⟨bf, of', none⟩) (some ⟨ba, oa, none⟩) fc n c fb (restR W G (-1) 0) p ∧ Blk w' B12 3 #[.int .i64 (P x)] ∧ Blk w' Bx 3 #[.int .i64 ((x : Int) + 1)] ∧ B12 < Bx ∧ u15.ownBlock ≠ some Bx ∧ Held w' Ds ∧ ∀ D ∈ Ds, B12 < D) ∧ a' = (⟨#[.agg #[.int .i64 W, .int .i64 y, .slice (some ⟨ba, oa, none⟩) n c], .slice (some ⟨bf, of', none⟩) N fc, .pointer (some ⟨w.heap.size, 0, none⟩), .pointer (some ⟨w.heap.size + 1, 0, none⟩), .slice none 0 0, .int .i64 0, .pointer (some ⟨Bw, 0, none⟩), .pointer (some ⟨Bh, 0, none⟩), .pointer (some ⟨gr + 1, 0, none⟩), .func (.func 103) #[] #[.pointer (some ⟨w.heap.size + 1, 0, none⟩), .pointer (some ⟨Bw, 0, none⟩), .pointer (some ⟨Bh, 0, none⟩), .pointer (some ⟨gr + 1, 0, none⟩), .pointer (some ⟨w.heap.size, 0, none⟩)], .int .i64 (-1), u11, .pointer (some ⟨B12, 0, none⟩), u13, .int .i64 (G 0 a), u15, u16, u17, u18, u19, u20, u21, u22, u23, .int .i64 W, .int .i64 y, .int .i64 (W * y), .slice (some ⟨gr, 0, none⟩) N N, .func (.func 103) #[] #[.pointer (some ⟨w.heap.size + 1, 0, none⟩), .pointer (some ⟨Bw, 0, none⟩), .pointer (some ⟨Bh, 0, none⟩), .pointer (some ⟨gr + 1, 0, none⟩), .pointer (some ⟨w.heap.size, 0, none⟩)], .int .i64 W, .int .i64 (W - 1), .int .i64 (-1), .bool false, u33, u34, u35, u36, u37, u38, u39, u40, u41, u42, u43, u44, u45, u46, u47, u48, u49, u50, .int .i64 y, .int .i64 y, .bool false, u54, u55, u56, u57, u58, u59, u60, u61, u62, u63, u64, u65, u66, u67, u68, u69, .slice (some ⟨gr, 0, none⟩) N N, .int .i64 a, .int .i64 W, .int .i64 (a * W), .pointer (some ⟨gr, (a * W).toNat, none⟩), .int .i64 (G 0 a), .int .i64 (G 0 a), .bool (decide (1073741824 ≤ G 0 a)), .int .i64 a, .slice (some ⟨wr.heap.size, 0, none⟩) 1 1, u80, u81, u82, u83, u84, u85, u86, u87, u88, u89, u90, u91, u92, u93, u94, u95, u96, u97, u98, u99, u100, u101, u102, undef, u104, u105, u106, u107, u108, u109, u110, u111, u112, u113, u114, u115, u116, u117, u118, u119, u120, u121, u122, u123, u124, u125, undef, undef], marks Ds⟩ : Act)) (fun a' _ => (W - lenV (a'.tmps.getD 15 undef)).toNat) ?start ?round
            case start => exact ⟨[], _, _, _, _, _, _, _, _, _, _, _, _, _, _, _, _, _, _, _, _, _, _, _, _, _, _, _, _, _, _, _, _, _, _, _, _, _, _, _, _, _, _, _, _, _, _, _, _, _, _, ⟨0, wr.heap.size + 1, by omega, rfl, by rw [← PE.out] at r9 ⊢; exact r9, b9, K9, k9, kx9, by omega, by simp [Value.ownBlock], Held.nil _, by simp⟩, rfl⟩
            case round =>
              rintro _ wr ⟨Ds, u15, u16, u17, u18, u19, u80, u81, u82, u83, u84, u85, u86, u87, u88, u89, u90, u91, u92, u93, u94, u95, u96, u97, u98, u99, u100, u101, u102, u104, u105, u106, u107, u108, u109, u110, u111, u112, u113, u114, u115, u116, u117, u118, u119, u120, u121, u122, u123, u124, u125, hrel, rfl⟩
              dsimp only
              obtain ⟨x, Bx, hx, rfl, hown, b10, K10, k10, kx, zx, nx, hD, hDs⟩ := hrel
              clear b9 K9 k9 r9 kx9
              have PS := PN.out x
              obtain ⟨p0, p1, p2⟩ := PO.out x (by omega)
              have ex : ∃ X : Int, (x : Int) + 1 = X := ⟨_, rfl⟩
              obtain ⟨X, eX⟩ := ex
              have ex : (x : Int) = X - 1 := by omega
              rw [eX, ex] at PS
              rw [eX] at hx kx
              rw [ex] at p2
              replace PS := Lib.hid PS
              generalize hPa : P x = a' at *
              have HPa := Lib.hid hPa; clear hPa
              have q1 := K10.kw.1.at0; have q2 := K10.kh.1.at0; have q3 := K10.kr.1.at0; have q4 := k10.at0; have q5 := k10.frozen 0; have q6 := kx.at0
              have X0 : 1 ≤ X := by omega
              have EX := Lib.hid eX; have EX' := Lib.hid ex
              clear eX ex
              by_cases hlt : X < W
              · obtain ⟨g0, g1⟩ := GB.out (X - 1) a' (by omega) (by omega) p0 p1
                obtain ⟨i1, i2, i3⟩ := idx_lt (x := X - 1) (y := a') (W := W) (H := (y : Int)) (by omega) (by omega) p0 p1
                rw [Int.mul_comm (y : Int) W] at i2
                have i4 : a' * W + X - 1 < (N : Int) := by have := HN.out; omega
                have i5 : 0 ≤ a' * W + X - 1 := by omega
                have c3 := K10.kR.1.i64at i5 i4
                rw [show restR W G (-1) 0 (a' * W + X - 1) = G (X - 1) a' by rw [show a' * W + X - 1 = a' * W + (X - 1) by omega]; exact restR_at (by omega) (by omega) (by omega)] at c3
                have cb := cst_bd p W (X - 1) a'
                obtain ⟨cb1, cb2⟩ := cb
                have PX' := Lib.hid fun w' hA' => PX.out (X - 1) a' w' hA' (by omega) (by omega) p0 p1
                generalize hci : cst p W (X - 1) a' = ci at *
                generalize hgi : G (X - 1) a' = gi at *
                have HCI := Lib.hid hci; have HGI := Lib.hid hgi
                clear hci hgi
                have v1 : IntKind.i64.wrap (a' * W) = a' * W := IntWalk.i64_in _ (by omega)
                have v2 : IntKind.i64.wrap (a' * W + X) = a' * W + X := IntWalk.i64_in _ (by omega)
                have v3 : IntKind.i64.wrap (a' * W + X - 1) = a' * W + X - 1 := IntWalk.i64_in _ (by omega)
                have v4 : IntKind.i64.wrap (X - 1) = X - 1 := IntWalk.i64_in _ (by omega)
                have v5 : IntKind.i64.wrap (gi - ci) = gi - ci := IntWalk.i64_in _ (by omega)
                clear i1 i2
                generalize hJ : a' * W + X - 1 = J at *
                have v3' : IntKind.i64.wrap (a' * W + X - 1) = J := by rw [hJ]; exact v3
                have HJ := Lib.hid hJ; clear hJ v3
                have KA := Lib.hid (K10.aA.more (Nat.le_of_lt (Nat.lt_trans zx kx.lt)))
                obtain ⟨r1, r2, r3⟩ := K10.ki.1.cells3
                go_wp2_with fail
                go_cut [17] from 85 to 99 (fun v wx => ∃ Bl, v = .pointer (some ⟨Bl, 0, none⟩) ∧ wr.heap.size ≤ Bl ∧ Below wr.heap.size wr wx ∧ Blk wx Bl 3 #[.int .i64 (gi - ci)])
                case first =>
                  have y1 := World.new_ne wr _ q1; have y2 := World.new_ne wr _ q3; have y3 := World.new_ne wr _ q4; have y4 := World.new_ne wr _ q6; have y5 := World.new_ne wr _ c3; have y6 := World.new_ne wr _ r1; have y7 := World.new_ne wr _ r2; have y8 := World.new_ne wr _ r3
                  go_region_held3 (fun w' => w'.cell? ⟨gr + 1, 0, none⟩ = some (.slice (some ⟨gr, 0, none⟩) N N) ∧ w'.cell? ⟨Bw, 0, none⟩ = some (.int .i64 W) ∧ w'.cell? ⟨B12, 0, none⟩ = some (.int .i64 a') ∧ w'.cell? ⟨Bx, 0, none⟩ = some (.int .i64 X) ∧ w'.cell? ⟨gr, J.toNat, none⟩ = some (.int .i64 gi) ∧ w'.cell? ⟨w.heap.size, 0, none⟩ = some (.int .i64 W) ∧ w'.cell? ⟨w.heap.size, 1, none⟩ = some (.int .i64 y) ∧ w'.cell? ⟨w.heap.size, 2, none⟩ = some (.slice (some ⟨ba, oa, none⟩) n c))
                    (first | (simp [go_sem, *]; done) | (go_keep; done))
                    ((go_at_call 60
                      first
                        | refine (PX'.out _ KA.out.drew1).mono ?_
                        | refine (PX'.out _ (KA.out.drew1.alloc1 _)).mono ?_
                      rintro e w6 ⟨rfl, hb6⟩
                      have b6 : Below wr.heap.size wr w6 := by first | exact below_call (Below.refl _ _).drew (Nat.le_refl _) hb6 | exact below_call ((Below.refl _ _).drew.alloc (Nat.le_refl _) _) (by simp) hb6
                      have x1 := (K10.kr.1.below' b6).at0; have x2 := (K10.kw.1.below' b6).at0; have x3 := (k10.below' b6).at0; have x4 := (kx.below' b6).at0
                      have x5 : w6.cell? ⟨gr, J.toNat, none⟩ = some (.int .i64 gi) := (bcell b6).1 _ _ K10.kR.1.lt |>.trans c3
                      obtain ⟨x6, x7, x8⟩ := (K10.ki.1.below' b6).cells3
                      have y1 := World.new_ne w6 _ x1; have y2 := World.new_ne w6 _ x2; have y3 := World.new_ne w6 _ x3; have y4 := World.new_ne w6 _ x4; have y5 := World.new_ne w6 _ x5; have y6 := World.new_ne w6 _ x6; have y7 := World.new_ne w6 _ x7; have y8 := World.new_ne w6 _ x8
                      try have x9 : w6.cell? ⟨wr.heap.size, 0, none⟩ = some (.int .i64 0) := ((Blk.new wr.drew 3 #[.int .i64 0]).below' hb6).at0
                      try have x10 : w6.frozen? ⟨wr.heap.size, 0, none⟩ = false := ((Blk.new wr.drew 3 #[.int .i64 0]).below' hb6).frozen 0))
                  all_goals
                    go_wp2_with fail
                    go_meet
                    first
                      | exact ⟨_, rfl, b6.size, b6.alloc b6.size _, Blk.new _ _ _⟩
                      | exact ⟨_, rfl, Nat.le_refl _, b6.setCell (Nat.le_refl _) _, ((Blk.new wr.drew 3 #[.int .i64 0]).below' hb6).set_ 0 _⟩
                case rest =>
                  obtain ⟨Bl, rfl, hBl, hbl, kl⟩ := hcut
                  have zr := kx.lt
                  have b11 := below_call b10 b10.size hbl
                  have K11 := K10.below (hbl.mono (by omega))
                  have k11 := k10.below' hbl
                  have kx11 := kx.below' hbl
                  have own11 := own_below hown hbl
                  have hD11 := hD.below hbl
                  have rl := own_len hown
                  have zl := kl.lt
                  have rb : ∀ k, u15.ownBlock = some k → k < wr.heap.size := fun k hk => (own_ge hown hk).2
                  clear b10 K10 k10 kx hown hD hbl q1 q2 q3 q4 q5 q6 c3 r1 r2 r3 KA v1 v2 v3' v4 v5
                  have q1 := K11.kw.1.at0; have q2 := K11.kh.1.at0; have q4 := k11.at0
                  go_wp2_with fail
                  refine (next_any _ _ _).mono ?_
                  rintro e w12 ⟨_, rfl, ⟨rfl, ky, kh⟩, hb12⟩
                  have b12 := below_call b11 b11.size hb12
                  have K12 := K11.below (hb12.mono (by omega))
                  have k12 := k11.below' hb12
                  have kx12 := kx11.below' hb12
                  have kl12 := kl.below' hb12
                  have own12 := own_below own11 hb12
                  have hD12 := hD11.below hb12
                  have zc := kh.lt
                  clear b11 K11 k11 kx11 own11 hD11 hb12 q1 q2 q4 kl
                  go_wp2_with fail
                  refine (wpIn_wide (n := 5)).1 ?_
                  generalize hb1 : wc.heap.size = b1 at *
                  clear hb1
                  have z13 : b1 + 1 < w12.heap.size := zc
                  obtain ⟨f, hf⟩ : ∃ f : Int → Bool, f = fun t => decide (goTo (G X) a' t = gi - ci) := ⟨_, rfl⟩
                  replace PS := PS.out
                  rw [← hf] at PS
                  replace PS := Lib.hid PS; have HF := Lib.hid hf
                  clear hf
                  have CNT := Lib.hid (But.refl B12 (Nat.le_refl w12.heap.size))
                  have MM := Lib.hid k12
                  refine wpIn_rangeFunc_ownF (F := Fence.wide) (n := 5) rfl (by omega) (gf := 121) (lb := #[.pointer (some ⟨b1, 0, none⟩), .pointer (some ⟨b1 + 1, 0, none⟩)]) rfl trivial (enters_of Try.func121 (by kernel_rfl) rfl) (next_stops Fence.wide 4 trivial rfl (by omega) a' y b1 (b1 + 1) w12 ky kh p0 p1 hH2)
                    (fun h k => KpB.trans h k) (fun W' l o o' hl ho _ _ => by
                      have hlt := (Array.getElem?_eq_some_iff.1 ho).1
                      exact ⟨(grownBy_putObj' W' l o').block b1 (by omega) (by intro e; cases e; omega), (grownBy_putObj' W' l o').block (b1 + 1) (by omega) (by intro e; cases e; omega)⟩) (Below.refl _ _) (fun _ => rfl)
                    (NxI B12 f a' w12) (NxX B12 f w12 8)
                    (ownFrom_of_below (fun s X Y hs hXY => ⟨hs.bt.then hXY, hs.k.below hXY (by omega), hs.no⟩) (fun s X hs => hs.bt.size))
                    (fun c => ownFrom_of_below (fun s X Y hs hXY => by
                      obtain ⟨q, t, h2, h3, h4, h6⟩ := hs.ex
                      exact ⟨hs.e, hs.bt.then hXY, q, t, h2, h3, h4, h6.below hXY (by omega)⟩) (fun s X hs => hs.bt.size))
                    ⟨CNT.out, k12, fun _ h => by simp at h⟩ ?fr ?assign ?body ?done ?stop
                  case assign =>
                    intro l t W' K hK
                    gi_wp2
                    exact hK
                  case body =>
                    rintro l pre ⟨t, t0, t1⟩ W' ⟨hbt, hk, hpre⟩ _
                    have K13 := K12.below (hbt.to rfl (Nat.le_refl _) (by omega))
                    have kx13 := kx12.but hbt kx12.lt (by omega)
                    have kl13 := kl12.but hbt kl12.lt (by omega)
                    have r1 := K13.kr.1.at0; have r2 := K13.kw.1.at0; have r3 := kx13.at0; have r4 := hk.at0; have r5 := hk.frozen 0; have r6 := kl13.at0
                    obtain ⟨l1, l2, l3⟩ := idx_lt (x := X) (y := t) (W := W) (H := (y : Int)) (by omega) (by omega) t0 t1
                    rw [Int.mul_comm (y : Int) W] at l2
                    have l4 : t * W + X < (N : Int) := by have := HN.out; omega
                    have hr := K13.kR.1.i64at (i := t * W + X) l1 l4
                    rw [show restR W G (-1) 0 (t * W + X) = G X t from restR_at (by omega) (by omega) (by omega)] at hr
                    obtain ⟨d1, d2⟩ := GB.out X t (by omega) (by omega) t0 t1
                    have v1 : IntKind.i64.wrap (t * W) = t * W := IntWalk.i64_in _ (by omega)
                    have v2 : IntKind.i64.wrap (t * W + X) = t * W + X := IntWalk.i64_in _ (by omega)
                    have FINn : Hid (f t = false → KeepsOthers W' W' ∧ KpB b1 (b1 + 1) W' W' ∧ NxI B12 f a' w12 (pre ++ [(⟨t, t0, t1⟩ : RowIn (y : Int))]) W') := by
                      show _ → _
                      intro h
                      refine ⟨KeepsOthers.refl _, ⟨rfl, rfl⟩, hbt, hk, fun s hs => ?_⟩
                      rcases List.mem_append.1 hs with hs | hs
                      · exact hpre s hs
                      · obtain rfl := List.mem_singleton.1 hs; exact h
                    have FINx : Hid (f t = true → KeepsOthers W' (W'.setCell ⟨B12, 0, none⟩ (.int .i64 t)) ∧ NxX B12 f w12 8 (.exit 8) (pre ++ [(⟨t, t0, t1⟩ : RowIn (y : Int))]) (W'.setCell ⟨B12, 0, none⟩ (.int .i64 t))) := by
                      show _ → _
                      intro h
                      exact ⟨KeepsOthers.setCell _ _ _, rfl, hbt.set _ _, pre, ⟨t, t0, t1⟩, rfl, hpre, h, hk.set_ 0 _⟩
                    have FT : Hid (f t = decide (G X t + (if t = a' then 0 else 1) = gi - ci)) := by show _ = _; rw [HF.out]; rfl
                    clear K13 kx13 kl13 hbt hk hpre
                    generalize G X t = gt at *
                    generalize gi - ci = L at *
                    by_cases e : t = a'
                    · rw [if_pos e, Int.add_zero] at FT
                      have hb : (t != a') = false := by simp [e]
                      have E := Lib.hid e; clear e
                      by_cases hm : gt = L
                      · have hb2 : (gt == L) = true := by simp [hm]
                        have HM := Lib.hid hm; clear hm
                        gi_wp2
                        exact FINx.out (by rw [FT.out]; simp [HM.out])
                      · have hb2 : (gt == L) = false := by simp [hm]
                        have HM := Lib.hid hm; clear hm
                        gi_wp2
                        exact FINn.out (by rw [FT.out]; simp [HM.out])
                    · rw [if_neg e] at FT
                      have hb : (t != a') = true := by simp [e]
                      have E := Lib.hid e; clear e
                      by_cases hm : gt + 1 = L
                      · have hb2 : (gt + 1 == L) = true := by simp [hm]
                        have HM := Lib.hid hm; clear hm
                        gi_wp2
                        exact FINx.out (by rw [FT.out]; simp [HM.out])
                      · have hb2 : (gt + 1 == L) = false := by simp [hm]
                        have HM := Lib.hid hm; clear hm
                        gi_wp2
                        exact FINn.out (by rw [FT.out]; simp [HM.out])
                  case done =>
                    rintro D xs W' hDw hS ⟨bt, hk, hno⟩ hKd
                    have hP' : P (x + 1) = a' := PS.out.trans (find_none hS hno a')
                    have k14 : Blk W' B12 3 #[.int .i64 (P (x + 1))] := by rw [hP']; exact hk
                    clear hk hP' hno hS
                    have b14 := b12.trans (bt.to rfl (by omega) (by omega))
                    have K14 := K12.below (bt.to rfl (Nat.le_refl _) (by omega))
                    have kx14 := kx12.but bt kx12.lt (by omega)
                    have own14 := own_but own12 bt rfl (by omega)
                    have hD14 := (hD12.but bt rfl ⟨_, _, k12⟩).cons hKd (fun hm => by have := hD12.lt hm; omega)
                    have hDs14 : ∀ E ∈ D :: Ds, B12 < E := fun E hE => by
                      rcases List.mem_cons.1 hE with rfl | hE
                      · omega
                      · exact hDs E hE
                    have z14 := bt.size
                    clear bt hDw hKd b12 K12 k12 kx12 kl12 own12 hD12 ky kh CNT MM PX' PX
                    have q4 := k14.at0; have q6 := kx14.at0
                    obtain ⟨i0, hi0, hz0, hz1, hz2⟩ := info_parts infoInt
                    go_wp2_with (at_builtin; refine wpList_append_own _ rfl (.tmp 121) (.tmp 123) 25 rfl (B12 + 1) 3 i0 (.int .i64 0) 1 8 Try.underlying25 hi0 hz0 hz1 hz2 rfl (by decide) _ _ _ rfl (own14.alloc _) ⟨W'.heap.size, 0, none⟩ 1 1 [.int .i64 (P (x + 1))] rfl rfl ?c1 ?c2 ?c3 ?c4 ?c5 ?_)
                    case c1 => exact cell_one_new _ _ _
                    case c2 => simp [Value.oneCell']
                    case c3 => unfold maxLen; have := EX.out; omega
                    case c4 => have := EX.out; omega
                    case c5 => simp; omega
                    intro v' w15 own15 hg _
                    have b15 : Below w.heap.size w w15 := (show Below w.heap.size w (W'.alloc (.cells #[.int .i64 (P (x + 1))] 3)) by (repeat (first | exact Below.refl _ _ | assumption | refine Below.drew ?_ | refine below_drewN ?_ _ | refine Below.alloc ?_ (by first | omega | (simp; done) | (simp; omega)) _ | refine Below.setCell ?_ (by first | omega | (simp; done) | (simp; omega)) _ | refine below_setRow ?_ (by first | omega | (simp; done) | (simp; omega)) _ ))).grown hg (by simp; omega) (fun k hk => by have := (own_ge own14 hk).1; omega)
                    have K15 := K14.below (((Below.refl B12 W').alloc (by omega) (.cells #[.int .i64 (P (x + 1))] 3)).grown hg (by simp; omega) (fun k hk => by have := (own_ge own14 hk).1; omega))
                    have k15 := (k14.alloc (.cells #[.int .i64 (P (x + 1))] 3)).grown hg (own_ne own14 (by omega))
                    have kx15 := (kx14.alloc (.cells #[.int .i64 (P (x + 1))] 3)).grown hg (fun e => nx e.symm)
                    have hD15 := (hD14.below ((Below.refl _ _).alloc (Nat.le_refl _) (.cells #[.int .i64 (P (x + 1))] 3))).grown (own14.alloc _) hg
                    have z15 := Nat.le_trans (show w12.heap.size ≤ (W'.alloc (.cells #[.int .i64 (P (x + 1))] 3)).heap.size by simp; omega) hg.size
                    clear b14 K14 k14 kx14 own14 hD14 hg q4 q6
                    have ln := own_len own15
                    have ow := own_below own15 ((Below.refl _ _).alloc (Nat.le_refl _) (.cells #[.int .i64 (X + 1)] 3))
                    have hv : ∀ k, v'.ownBlock = some k → k < w15.heap.size := fun k hk => (own_ge own15 hk).2
                    have q6 := kx15.at0
                    have v8 : IntKind.i64.wrap (X + 1) = X + 1 := IntWalk.i64_in _ (by omega)
                    go_wp2
                    refine ⟨⟨D :: Ds, _, _, _, _, _, _, _, _, _, _, _, _, _, _, _, _, _, _, _, _, _, _, _, _, _, _, _, _, _, _, _, _, _, _, _, _, _, _, _, _, _, _, _, _, _, _, _, _, _, _, ?rel, rfl⟩, ?measure⟩
                    case rel => exact ⟨x + 1, w15.heap.size, by have := EX.out; omega, rfl, by rw [range_snoc, range_snoc, List.append_assoc]; exact ow, by (repeat (first | exact Below.refl _ _ | assumption | refine Below.drew ?_ | refine below_drewN ?_ _ | refine Below.alloc ?_ (by first | omega | (simp; done) | (simp; omega)) _ | refine Below.setCell ?_ (by first | omega | (simp; done) | (simp; omega)) _ | refine below_setRow ?_ (by first | omega | (simp; done) | (simp; omega)) _ )), K15.below (by (repeat (first | exact Below.refl _ _ | assumption | refine Below.drew ?_ | refine below_drewN ?_ _ | refine Below.alloc ?_ (by first | omega | (simp; done) | (simp; omega)) _ | refine Below.setCell ?_ (by first | omega | (simp; done) | (simp; omega)) _ | refine below_setRow ?_ (by first | omega | (simp; done) | (simp; omega)) _ ))), k15.alloc _, by rw [show ((x + 1 : Nat) : Int) + 1 = X + 1 by have := EX.out; omega]; exact Blk.new _ _ _, by omega, fun e => by have := hv _ e; omega, hD15.below (by (repeat (first | exact Below.refl _ _ | assumption | refine Below.drew ?_ | refine below_drewN ?_ _ | refine Below.alloc ?_ (by first | omega | (simp; done) | (simp; omega)) _ | refine Below.setCell ?_ (by first | omega | (simp; done) | (simp; omega)) _ | refine below_setRow ?_ (by first | omega | (simp; done) | (simp; omega)) _ ))), hDs14⟩
                    case measure => simp [rl, ln]; have := EX.out; omega
                  case stop =>
                    rintro D c pre W' hDw hS ⟨rfl, bt, q, t, e1, e2, e3, k14⟩ hKd
                    have hP' : P (x + 1) = t.1 := PS.out.trans (find_some hS e1 e2 e3 a')
                    rw [← hP'] at k14
                    clear hP' e1 e2 e3 hS
                    have b14 := b12.trans (bt.to rfl (by omega) (by omega))
                    have K14 := K12.below (bt.to rfl (Nat.le_refl _) (by omega))
                    have kx14 := kx12.but bt kx12.lt (by omega)
                    have own14 := own_but own12 bt rfl (by omega)
                    have hD14 := (hD12.but bt rfl ⟨_, _, k12⟩).cons hKd (fun hm => by have := hD12.lt hm; omega)
                    have hDs14 : ∀ E ∈ D :: Ds, B12 < E := fun E hE => by
                      rcases List.mem_cons.1 hE with rfl | hE
                      · omega
                      · exact hDs E hE
                    have z14 := bt.size
                    clear bt hDw hKd b12 K12 k12 kx12 kl12 own12 hD12 ky kh CNT MM PX' PX
                    have q4 := k14.at0; have q6 := kx14.at0
                    obtain ⟨i0, hi0, hz0, hz1, hz2⟩ := info_parts infoInt
                    refine wpIn_wide.2 ?_
                    go_wp2_with (at_builtin; refine wpList_append_own _ rfl (.tmp 121) (.tmp 123) 25 rfl (B12 + 1) 3 i0 (.int .i64 0) 1 8 Try.underlying25 hi0 hz0 hz1 hz2 rfl (by decide) _ _ _ rfl (own14.alloc _) ⟨W'.heap.size, 0, none⟩ 1 1 [.int .i64 (P (x + 1))] rfl rfl ?c1 ?c2 ?c3 ?c4 ?c5 ?_)
                    case c1 => exact cell_one_new _ _ _
                    case c2 => simp [Value.oneCell']
                    case c3 => unfold maxLen; have := EX.out; omega
                    case c4 => have := EX.out; omega
                    case c5 => simp; omega
                    intro v' w15 own15 hg _
                    have b15 : Below w.heap.size w w15 := (show Below w.heap.size w (W'.alloc (.cells #[.int .i64 (P (x + 1))] 3)) by (repeat (first | exact Below.refl _ _ | assumption | refine Below.drew ?_ | refine below_drewN ?_ _ | refine Below.alloc ?_ (by first | omega | (simp; done) | (simp; omega)) _ | refine Below.setCell ?_ (by first | omega | (simp; done) | (simp; omega)) _ | refine below_setRow ?_ (by first | omega | (simp; done) | (simp; omega)) _ ))).grown hg (by simp; omega) (fun k hk => by have := (own_ge own14 hk).1; omega)
                    have K15 := K14.below (((Below.refl B12 W').alloc (by omega) (.cells #[.int .i64 (P (x + 1))] 3)).grown hg (by simp; omega) (fun k hk => by have := (own_ge own14 hk).1; omega))
                    have k15 := (k14.alloc (.cells #[.int .i64 (P (x + 1))] 3)).grown hg (own_ne own14 (by omega))
                    have kx15 := (kx14.alloc (.cells #[.int .i64 (P (x + 1))] 3)).grown hg (fun e => nx e.symm)
                    have hD15 := (hD14.below ((Below.refl _ _).alloc (Nat.le_refl _) (.cells #[.int .i64 (P (x + 1))] 3))).grown (own14.alloc _) hg
                    have z15 := Nat.le_trans (show w12.heap.size ≤ (W'.alloc (.cells #[.int .i64 (P (x + 1))] 3)).heap.size by simp; omega) hg.size
                    clear b14 K14 k14 kx14 own14 hD14 hg q4 q6
                    have ln := own_len own15
                    have ow := own_below own15 ((Below.refl _ _).alloc (Nat.le_refl _) (.cells #[.int .i64 (X + 1)] 3))
                    have hv : ∀ k, v'.ownBlock = some k → k < w15.heap.size := fun k hk => (own_ge own15 hk).2
                    have q6 := kx15.at0
                    have v8 : IntKind.i64.wrap (X + 1) = X + 1 := IntWalk.i64_in _ (by omega)
                    go_wp2
                    refine ⟨⟨D :: Ds, _, _, _, _, _, _, _, _, _, _, _, _, _, _, _, _, _, _, _, _, _, _, _, _, _, _, _, _, _, _, _, _, _, _, _, _, _, _, _, _, _, _, _, _, _, _, _, _, _, _, ?rel, rfl⟩, ?measure⟩
                    case rel => exact ⟨x + 1, w15.heap.size, by have := EX.out; omega, rfl, by rw [range_snoc, range_snoc, List.append_assoc]; exact ow, by (repeat (first | exact Below.refl _ _ | assumption | refine Below.drew ?_ | refine below_drewN ?_ _ | refine Below.alloc ?_ (by first | omega | (simp; done) | (simp; omega)) _ | refine Below.setCell ?_ (by first | omega | (simp; done) | (simp; omega)) _ | refine below_setRow ?_ (by first | omega | (simp; done) | (simp; omega)) _ )), K15.below (by (repeat (first | exact Below.refl _ _ | assumption | refine Below.drew ?_ | refine below_drewN ?_ _ | refine Below.alloc ?_ (by first | omega | (simp; done) | (simp; omega)) _ | refine Below.setCell ?_ (by first | omega | (simp; done) | (simp; omega)) _ | refine below_setRow ?_ (by first | omega | (simp; done) | (simp; omega)) _ ))), k15.alloc _, by rw [show ((x + 1 : Nat) : Int) + 1 = X + 1 by have := EX.out; omega]; exact Blk.new _ _ _, by omega, fun e => by have := hv _ e; omega, hD15.below (by (repeat (first | exact Below.refl _ _ | assumption | refine Below.drew ?_ | refine below_drewN ?_ _ | refine Below.alloc ?_ (by first | omega | (simp; done) | (simp; omega)) _ | refine Below.setCell ?_ (by first | omega | (simp; done) | (simp; omega)) _ | refine below_setRow ?_ (by first | omega | (simp; done) | (simp; omega)) _ ))), hDs14⟩
                    case measure => simp [rl, ln]; have := EX.out; omega
              · obtain rfl : X = W := by omega
                clear k10 kx
                go_wp2_with fail
                refine leavesM_marks (B := B12) Ds wr hD (fun D h => Nat.le_of_lt (hDs D h)) fun w' hb hk => ?_
                have BG : gAt 1073741824 X y (cst p X) (fun x_1 y_1 => fb (y_1 * X + x_1)) 0 (pathP 1073741824 X y (cst p X) (fun x_1 y_1 => fb (y_1 * X + x_1)) 0) = G 0 a := by rw [HP.out]; exact BO.out
                have ex : x + 1 = X.toNat := by have := EX.out; omega
                refine ⟨_, results_tmp2 rfl _ _ _, .inr ⟨by rw [BG]; exact hc, _, by rw [BG]; rfl, ?_⟩, b10.trans (hb.mono (by omega))⟩
                rw [← ex, HP.out]
                exact own_base (own_held hown hD hk) (by omega)
          · have hc2 : G 0 a = 1073741824 := by omega
            rw [hc2] at BO c2
            clear v2 hc2 hc gb1 gb2
            go_wp2_with fail
            exact ⟨_, results_tmp2 rfl _ _ _, ⟨.inl ⟨BO.out, rfl⟩, b8⟩⟩
end Go.Proofs.Ytdimlpcbbkokiaa

/- The library's sort at the lines: the contract laid at this program, and what it says of a row of slices. -/
namespace Go.Proofs.Ytdimlpcbbkokiaa
open Go.RowKit Go.Shelf Go.Sort
set_option linter.unusedVariables false
attribute [local go_sem] Oper.semAt_some

def Try.sortLines_ren : Go.Shelf.Ren := ⟨fun | 6 => 64 | 15 => 106 | 14 => 105 | 28 => 130 | 29 => 131 | 20 => 122 | 21 => 123 | 22 => 124 | 23 => 125 | 24 => 126 | 25 => 127 | 26 => 128 | 27 => 129 | 46 => 147 | 47 => 148 | 48 => 149 | 49 => 150 | 50 => 151 | 57 => 157 | n => n, fun | 22 => 34 | 24 => 25 | 25 => 96 | 3 => 3 | 39 => 130 | 0 => 0 | 53 => 152 | 55 => 154 | 4 => 4 | 46 => 145 | 45 => 144 | 50 => 149 | 5 => 5 | 9 => 9 | 66 => 163 | 70 => 167 | 76 => 173 | 77 => 80 | n => n, fun | n => n⟩
theorem Try.sortLines : Go.Proofs.SlLaysF.n6 Try.prog Try.sortLines_ren := {
  mixed := by kernel_rfl
  f6 := ⟨Try.f64.name, by decide, Try.func64.trans (congrArg some (by kernel_rfl))⟩
  f14 := ⟨Try.f105.name, by decide, Try.func105.trans (congrArg some (by kernel_rfl))⟩
  f15 := Try.func106.trans (congrArg some (by kernel_rfl))
  f20 := ⟨Try.f122.name, by decide, Try.func122.trans (congrArg some (by kernel_rfl))⟩
  f21 := ⟨Try.f123.name, by decide, Try.func123.trans (congrArg some (by kernel_rfl))⟩
  f22 := ⟨Try.f124.name, by decide, Try.func124.trans (congrArg some (by kernel_rfl))⟩
  f23 := ⟨Try.f125.name, by decide, Try.func125.trans (congrArg some (by kernel_rfl))⟩
  f24 := ⟨Try.f126.name, by decide, Try.func126.trans (congrArg some (by kernel_rfl))⟩
  f25 := ⟨Try.f127.name, by decide, Try.func127.trans (congrArg some (by kernel_rfl))⟩
  f26 := ⟨Try.f128.name, by decide, Try.func128.trans (congrArg some (by kernel_rfl))⟩
  f27 := ⟨Try.f129.name, by decide, Try.func129.trans (congrArg some (by kernel_rfl))⟩
  f28 := Try.func130.trans (congrArg some (by kernel_rfl))
  f29 := Try.func131.trans (congrArg some (by kernel_rfl))
  f46 := ⟨Try.f147.name, by decide, Try.func147.trans (congrArg some (by kernel_rfl))⟩
  f47 := Try.func148.trans (congrArg some (by kernel_rfl))
  f48 := Try.func149.trans (congrArg some (by kernel_rfl))
  f49 := ⟨Try.f150.name, by decide, Try.func150.trans (congrArg some (by kernel_rfl))⟩
  f50 := ⟨Try.f151.name, by decide, Try.func151.trans (congrArg some (by kernel_rfl))⟩
  f57 := ⟨Try.f157.name, by decide, Try.func157.trans (congrArg some (by kernel_rfl))⟩
  t0 := Try.underlying0
  a0 := Try.isAgg0
  z0 := Try.sizeOf0
  v0 := Try.zeroValue0
  t3 := Try.underlying3
  a3 := Try.isAgg3
  z3 := Try.sizeOf3
  v3 := Try.zeroValue3
  t4 := Try.underlying4
  a4 := Try.isAgg4
  z4 := Try.sizeOf4
  v4 := Try.zeroValue4
  t5 := Try.underlying5
  a5 := Try.isAgg5
  z5 := Try.sizeOf5
  v5 := Try.zeroValue5
  t9 := Try.underlying9
  a9 := Try.isAgg9
  z9 := Try.sizeOf9
  v9 := Try.zeroValue9
  t22 := Try.underlying34
  a22 := Try.isAgg34
  z22 := Try.sizeOf34
  v22 := Try.zeroValue34
  a24 := Try.isAgg25
  z24 := Try.sizeOf25
  t25 := Try.underlying96
  a25 := Try.isAgg96
  z25 := Try.sizeOf96
  v25 := Try.zeroValue96
  t39 := Try.underlying130
  a39 := Try.isAgg130
  z39 := Try.sizeOf130
  v39 := Try.zeroValue130
  t45 := Try.underlying144
  a45 := Try.isAgg144
  z45 := Try.sizeOf144
  v45 := Try.zeroValue144
  t46 := Try.underlying145
  a46 := Try.isAgg145
  z46 := Try.sizeOf145
  v46 := Try.zeroValue145
  t50 := Try.underlying149
  a50 := Try.isAgg149
  z50 := Try.sizeOf149
  v50 := Try.zeroValue149
  t53 := Try.underlying152
  a53 := Try.isAgg152
  z53 := Try.sizeOf152
  v53 := Try.zeroValue152
  t55 := Try.underlying154
  a55 := Try.isAgg154
  z55 := Try.sizeOf154
  v55 := Try.zeroValue154
  t66 := Try.underlying163
  a66 := Try.isAgg163
  z66 := Try.sizeOf163
  v66 := Try.zeroValue163
  t70 := Try.underlying167
  a70 := Try.isAgg167
  z70 := Try.sizeOf167
  v70 := Try.zeroValue167
  t76 := Try.underlying173
  a76 := Try.isAgg173
  z76 := Try.sizeOf173
  v76 := Try.zeroValue173
  t77 := Try.underlying80
  a77 := Try.isAgg80
  z77 := Try.sizeOf80
  v77 := Try.zeroValue80 }

set_option maxHeartbeats 1000000 in
theorem cmp_any (A A' : Option Addr) (m c m' c' : Nat) (q q' : Int → Int) (w : World) (h : ArrI w w.heap.size A m q) (h' : ArrI w w.heap.size A' m' q') (hm : 0 < m) (hm' : 0 < m') (hq : 0 ≤ q 0 ∧ q 0 ≤ 1000) (hq' : 0 ≤ q' 0 ∧ q' 0 ≤ 1000) :
    Calls Try.prog 65 #[.slice A m c, .slice A' m' c'] w fun e w' => e = .returned (.int .i64 (q 0 - q' 0)) ∧ ∃ k, w' = w.drewN k := by
  obtain ⟨b, off, rfl, hb, hc⟩ := ArrI.at_ h (i := 0) (by omega) (by omega)
  obtain ⟨b', off', rfl, hb', hc'⟩ := ArrI.at_ h' (i := 0) (by omega) (by omega)
  rw [show off + (0 : Int).toNat = off from rfl] at hc
  rw [show off' + (0 : Int).toNat = off' from rfl] at hc'
  obtain ⟨q1, q2⟩ := hq
  obtain ⟨q3, q4⟩ := hq'
  generalize q 0 = a at *
  generalize q' 0 = a' at *
  have v1 : IntKind.i64.wrap (a - a') = a - a' := IntWalk.i64_in _ (by omega)
  clear h h'
  go_enter Try.func65, Try.ntmps65
  go_wp2_with fail
  go_quiet (fail)
  go_wp2
  go_ret
  exact ⟨rfl, _, rfl⟩

theorem heap_sortWorld {α : Type} [Inhabited α] (enc : α → Value) (w : World) (blk off m : Nat) (d : Array α) (os : Array Obj) {k : Nat} (hk : k < w.heap.size) (hn : k ≠ blk) : (Go.Proofs.sortWorld enc w blk off m d os).heap[k]? = w.heap[k]? := by
  unfold Go.Proofs.sortWorld
  rw [heap_grow_old _ _ (by simpa [putRow, mapBlock, ahead] using hk)]
  show (w.heap.modify blk _)[k]? = _
  rw [Array.getElem?_modify, if_neg (fun e => hn e.symm)]
theorem heap_sortWorld_row {α : Type} [Inhabited α] (enc : α → Value) (w : World) (blk off m : Nat) (d : Array α) (os : Array Obj) {cs : Array Value} {e : TypeId} (h : w.heap[blk]? = some (.cells cs e (0, 0))) : (Go.Proofs.sortWorld enc w blk off m d os).heap[blk]? = some (.cells (putCells enc off d cs) e (0, 0)) := by
  have hk := (Array.getElem?_eq_some_iff.1 h).1
  unfold Go.Proofs.sortWorld
  rw [heap_grow_old _ _ (by simpa [putRow, mapBlock, ahead] using hk)]
  show (w.heap.modify blk _)[blk]? = _
  rw [Array.getElem?_modify, if_pos rfl, h]; rfl
theorem size_sortWorld {α : Type} [Inhabited α] (enc : α → Value) (w : World) (blk off m : Nat) (d : Array α) (os : Array Obj) : w.heap.size ≤ (Go.Proofs.sortWorld enc w blk off m d os).heap.size := by
  unfold Go.Proofs.sortWorld
  rw [size_grow]
  simp [putRow, mapBlock]
theorem putCells_take {α : Type} [Inhabited α] (enc : α → Value) (d : Array α) (cs : Array Value) (h : d.size ≤ cs.size) : (putCells enc 0 d cs).toList.take d.size = d.toList.map enc := by
  apply List.ext_getElem?
  intro i
  rw [List.getElem?_take]
  by_cases hi : i < d.size
  · rw [if_pos hi, List.getElem?_map]
    show (putCells enc 0 d cs).toList[i]? = _
    rw [Array.getElem?_toList]
    unfold putCells
    rw [Array.getElem?_mapIdx, Array.getElem?_eq_getElem (by omega), Option.map_some, if_pos (by omega), Nat.sub_zero, Array.getElem?_toList, Array.getElem?_eq_getElem hi, getElem!_pos d i hi]
    rfl
  · rw [if_neg hi, List.getElem?_map, Array.getElem?_toList, Array.getElem?_eq_none (by omega)]; rfl

set_option maxHeartbeats 1000000 in
/-- the lines are put in the order of their first rows -/
theorem sort_any (K cap blk base m : Nat) (v : Nat → Value) (q : Nat → Int → Int) (w : World) (h0 : 0 < K) (hK : K ≤ 60)
    (hown : w.ownsRow base 25 1 (.slice (some ⟨blk, 0, none⟩) K cap) K ((List.range K).map v))
    (hl : ∀ i, i < K → ∃ b off c, v i = .slice (some ⟨b, off, none⟩) m c ∧ b ≠ blk ∧ ArrI w w.heap.size (some ⟨b, off, none⟩) m (q i)) (hm : 0 < m) (hq : ∀ i, i < K → 0 ≤ q i 0 ∧ q i 0 ≤ 1000) :
    Calls Try.prog 64 #[.slice (some ⟨blk, 0, none⟩) K cap, .func (.func 65) #[] #[]] w fun e w' => e = .returned (.tuple #[]) ∧
      ∃ l : List Nat, l.Perm (List.range K) ∧ l.Pairwise (fun i j => q i 0 ≤ q j 0) ∧ w'.ownsRow base 25 1 (.slice (some ⟨blk, 0, none⟩) K cap) K (l.map v) ∧ But w.heap.size blk w w' := by
  obtain ⟨hlen, hh⟩ := hown
  rcases hh with ⟨h, -⟩ | ⟨g, cap', cur, hv, hg, hcell, hcap, hmax, hsz, htake⟩
  · cases h
  injection hv with hv1 hv2 hv3
  injection hv1 with hv1
  injection hv1 with hv1
  subst hv1 hv3
  rw [Nat.mul_one] at hsz htake
  obtain ⟨enc, henc⟩ : ∃ enc : Nat → Value, enc = fun i => v (if i < K then i else 0) := ⟨_, rfl⟩
  obtain ⟨key, hkey⟩ : ∃ key : Nat → Int, key = fun i => q (if i < K then i else 0) 0 := ⟨_, rfl⟩
  have hin : ∀ i, (if i < K then i else 0) < K := fun i => by split <;> omega
  have h1 : OneCell enc := fun x => by
    obtain ⟨b, off, c, e, -⟩ := hl _ (hin x)
    rw [henc]; show (v _).oneCell' = true
    rw [e]; rfl
  have hO : SWO (ltOf fun i j => key i - key j) := ⟨fun x => by simp [ltOf], fun x y z a b => by simp only [ltOf, decide_eq_true_eq] at *; omega, fun x y z a b => by simp only [ltOf, decide_eq_false_iff_not] at *; omega⟩
  have hH : Holds enc w blk 0 (List.range K).toArray := fun j hj => by
    rw [List.size_toArray, List.length_range] at hj
    rw [Nat.zero_add]
    refine ⟨?_, frozen_of_row w blk j cur _ hcell⟩
    rw [cell_of_row w blk j cur _ (0, 0) hcell, getElem!_pos _ j (by simpa using hj)]
    have : (cur.toList.take K)[j]? = ((List.range K).map v)[j]? := by rw [htake]
    rw [List.getElem?_take, if_pos hj, List.getElem?_map, List.getElem?_range hj, Array.getElem?_toList] at this
    rw [this]
    simp [henc, hj]
  have hcmp : CmpReads Try.prog 65 #[] enc (fun i j => key i - key j) blk 0 K w := fun n os dk hdk x y => by
    obtain ⟨b, off, c, e, hb, ha⟩ := hl _ (hin x)
    obtain ⟨b', off', c', e', hb', ha'⟩ := hl _ (hin y)
    rw [henc, hkey]
    show Calls Try.prog _ #[v _, v _] _ _
    rw [e, e']
    have hk : ∀ {b off : Nat} {f : Int → Int}, b ≠ blk → ArrI w w.heap.size (some ⟨b, off, none⟩) m f → ArrI (Go.Proofs.sortWorld (fun i => v (if i < K then i else 0)) w blk 0 n dk os) (Go.Proofs.sortWorld (fun i => v (if i < K then i else 0)) w blk 0 n dk os).heap.size (some ⟨b, off, none⟩) m f := fun hn hf hm => by
      obtain ⟨b1, off1, e1, hlt, hc⟩ := hf hm
      cases e1
      refine ⟨_, _, rfl, Nat.lt_of_lt_of_le hlt (size_sortWorld _ _ _ _ _ _ _), fun i i0 i1 => ?_⟩
      rw [← hc i i0 i1]
      exact World.cell?_of_block (heap_sortWorld _ _ _ _ _ _ _ hlt hn)
    exact cmp_any _ _ m c m c' _ _ _ (hk hb ha) (hk hb' ha') hm hm (hq _ (hin x)) (hq _ (hin y))
  have eg : ∀ args w, (callFunc 65 args).run Try.prog w = .ok (.enter 65 args) w := enters_of Try.func65 (by kernel_rfl) rfl
  have hlt := (Array.getElem?_eq_some_iff.1 hcell).1
  have hcon := Any.slices_SortFunc Try.sortLines enc h1 (fun i j => key i - key j) hO 65 #[] blk 0 cap (List.range K).toArray w eg (by rw [List.size_toArray, List.length_range]; exact hcmp.lays) hH hlt (by rw [List.size_toArray, List.length_range]; omega)
  rw [List.size_toArray, List.length_range] at hcon
  refine hcon.mono ?_
  rintro e w' ⟨rfl, d', n, os, hp, hs, rfl⟩
  obtain ⟨p1, -, p3⟩ := hp
  have p1 : d'.size = K := by simpa using p1
  have p3 : d'.toList.Perm (List.range K) := by
    have e1 : d'.extract 0 K = d' := by rw [← p1]; exact Array.extract_size
    have e2 : (List.range K).toArray.extract 0 K = (List.range K).toArray := by simp
    rw [e1, e2] at p3
    exact p3
  have hmem : ∀ i ∈ d'.toList, i < K := fun i hi => List.mem_range.1 (p3.mem_iff.1 hi)
  refine ⟨rfl, d'.toList, p3, ?_, ⟨by simp [p1], .inr ⟨blk, cap, putCells enc 0 d' cur, rfl, hg, heap_sortWorld_row _ _ _ _ _ _ _ hcell, hcap, hmax, by rw [Nat.mul_one]; simp [putCells, hsz], ?_⟩⟩, ⟨rfl, rfl, rfl, size_sortWorld _ _ _ _ _ _ _, fun j hj hn => heap_sortWorld _ _ _ _ _ _ _ hj hn⟩⟩
  · rw [List.pairwise_iff_getElem]
    intro i j hi hj hij
    rw [Array.length_toList, p1] at hi hj
    have := hs i j (Nat.zero_le _) hij hj
    rw [getElem!_pos d' i (by omega), getElem!_pos d' j (by omega)] at this
    simp only [ltOf, decide_eq_false_iff_not, hkey] at this
    have hi' := hmem d'[i] (by simp)
    have hj' := hmem d'[j] (by simp)
    rw [if_pos hi', if_pos hj'] at this
    simp only [Array.getElem_toList]
    omega
  · rw [Nat.mul_one, ← p1, putCells_take enc d' cur (by omega)]
    apply List.map_congr_left
    intro i hi
    rw [henc]; show v _ = v i
    rw [if_pos (hmem i hi)]
end Go.Proofs.Ytdimlpcbbkokiaa

/- Plain: the lines that are found one after the other, and what each marks as forbidden. No program in sight. -/
namespace Go.Proofs.Ytdimlpcbbkokiaa
open Go.RowKit
set_option linter.unusedVariables false

/-- what is forbidden behind a line -/
def mkF (W : Int) (f : Int → Bool) (P : Nat → Int) : Int → Bool := fun i => f i || decide (P (i % W).toNat - 2 ≤ i / W ∧ i / W ≤ P (i % W).toNat + 2)
/-- the same while it is marked: the columns before x, and column x up to row t -/
def mkR (W : Int) (f : Int → Bool) (P : Nat → Int) (x : Nat) (t : Int) : Int → Bool := fun i =>
  f i || decide ((i % W < x ∧ P (i % W).toNat - 2 ≤ i / W ∧ i / W ≤ P (i % W).toNat + 2) ∨ (i % W = x ∧ P (i % W).toNat - 2 ≤ i / W ∧ i / W < t))
section
variable {W H : Int} {f : Int → Bool} {P : Nat → Int}
theorem bool_or_congr {a : Bool} {p q : Prop} [Decidable p] [Decidable q] (h : p ↔ q) : (a || decide p) = (a || decide q) := by
  rw [show decide p = decide q from by simp [h]]
theorem mkR_zero {i : Int} (hW : 0 < W) : mkR W f P 0 (P 0 - 2) i = f i := by
  unfold mkR
  have h1 : 0 ≤ i % W := Int.emod_nonneg _ (by omega)
  rw [show decide _ = false from decide_eq_false ?_, Bool.or_false]
  rintro (⟨h, -, -⟩ | ⟨h, h2, h3⟩)
  · omega
  · rw [h] at h2
    simp only [Int.natCast_zero, Int.toNat_zero] at h2
    omega
theorem mkR_start {x : Nat} {t i : Int} (h0 : 0 ≤ i) (hW : 0 < W) (ht : t = if P x - 2 < 0 then 0 else P x - 2) : mkR W f P x (P x - 2) i = mkR W f P x t i := by
  unfold mkR
  have h2 : 0 ≤ i / W := Int.ediv_nonneg h0 (by omega)
  refine bool_or_congr (or_congr Iff.rfl ?_)
  refine and_congr_right fun h => ?_
  rw [h, Int.toNat_natCast]
  split at ht <;> omega
theorem mkR_set {x : Nat} {t : Int} (hx : (x : Int) < W) (h1 : P x - 2 ≤ t) (i : Int) : (if i = t * W + x then true else mkR W f P x t i) = mkR W f P x (t + 1) i := by
  have a := idx_mod (x := (x : Int)) (y := t) (W := W) (by omega) hx
  have b := idx_div (x := (x : Int)) (y := t) (W := W) (by omega) hx
  by_cases e : i = t * W + x
  · rw [if_pos e]
    subst e
    unfold mkR
    rw [a, b, Int.toNat_natCast, show decide _ = true from decide_eq_true (.inr ⟨rfl, h1, by omega⟩), Bool.or_true]
  · rw [if_neg e]
    unfold mkR
    refine bool_or_congr (or_congr Iff.rfl ?_)
    refine and_congr_right fun h => ?_
    have : i / W ≠ t := fun h2 => e (by
      have := Int.emod_add_mul_ediv i W
      rw [h, h2, Int.mul_comm] at this; omega)
    omega
theorem mkR_col {x : Nat} {t i : Int} (h0 : 0 ≤ i) (hi : i < W * H) (hW : 0 < W) (ht : (if P x + 2 < H - 1 then P x + 2 else H - 1) < t) (ht2 : t ≤ P x + 3) : mkR W f P x t i = mkR W f P (x + 1) (P (x + 1) - 2) i := by
  have h1 : i / W < H := Int.ediv_lt_of_lt_mul hW (by rw [Int.mul_comm]; exact hi)
  unfold mkR
  refine bool_or_congr ?_
  constructor
  · rintro (⟨a, b, c⟩ | ⟨a, b, c⟩)
    · exact .inl ⟨by omega, b, c⟩
    · refine .inl ⟨by omega, b, ?_⟩
      rw [a, Int.toNat_natCast]
      omega
  · rintro (⟨a, b, c⟩ | ⟨a, b, c⟩)
    · by_cases e : i % W = x
      · refine .inr ⟨e, b, ?_⟩
        rw [e, Int.toNat_natCast] at c
        split at ht <;> omega
      · exact .inl ⟨by omega, b, c⟩
    · rw [a, Int.toNat_natCast] at b
      omega
theorem mkR_end {n : Nat} {i : Int} (hW : 0 < W) (hn : (n : Int) = W) : mkR W f P n (P n - 2) i = mkF W f P i := by
  unfold mkR mkF
  have h1 : i % W < W := Int.emod_lt_of_pos _ hW
  refine bool_or_congr ?_
  constructor
  · rintro (⟨a, b, c⟩ | ⟨a, b, c⟩)
    · exact ⟨b, c⟩
    · omega
  · rintro ⟨b, c⟩
    exact .inl ⟨by omega, b, c⟩
end

section
variable (N W H : Int) (c : Int → Int → Int)
/-- what is forbidden when k lines are found -/
def FB : Nat → Int → Bool
  | 0 => fun _ => false
  | k + 1 => mkF W (FB k) (pathP N W H c fun x y => FB k (y * W + x))
/-- line number k, in the order of finding, and its cost -/
def LN (k : Nat) : Nat → Int := pathP N W H c fun x y => FB N W H c k (y * W + x)
def GC (k : Nat) : Int := gAt N W H c (fun x y => FB N W H c k (y * W + x)) 0 (LN N W H c k 0)
def Good (k : Nat) : Prop := GC N W H c k < N ∧ 8 * GC N W H c k ≤ W
/-- so many lines are found -/
def Many (k : Nat) : Prop := k ≤ 60 ∧ (∀ j, j < k → Good N W H c j) ∧ (k < 60 → ¬ Good N W H c k)
end
theorem Many.uniq {N W H : Int} {c : Int → Int → Int} {k k' : Nat} (h : Many N W H c k) (h' : Many N W H c k') : k = k' := by
  rcases Nat.lt_trichotomy k k' with g | g | g
  · exact absurd (h'.2.1 k g) (h.2.2 (by have := h'.1; omega))
  · exact g
  · exact absurd (h.2.1 k' g) (h'.2.2 (by have := h.1; omega))

theorem ln_ok {N W H : Int} {c : Int → Int → Int} {k : Nat} (hc : ∀ x y, 0 ≤ c x y ∧ c x y ≤ 2) (hN : 3 * W < N) (hW : 0 < W) (hH : 0 < H) (hg : GC N W H c k < N) (x : Nat) (hx : (x : Int) < W) :
    0 ≤ LN N W H c k x ∧ LN N W H c k x < H ∧ FB N W H c k (LN N W H c k x * W + x) = false := by
  obtain ⟨h1, h2, h3⟩ := path_ok (F := fun x y => FB N W H c k (y * W + x)) hc hN hH hW hg x hx
  refine ⟨h1, h2, ?_⟩
  cases hF : FB N W H c k (LN N W H c k x * W + x) with
  | false => rfl
  | true =>
    exfalso
    have hF' : (fun x y => FB N W H c k (y * W + x)) (x : Int) (pathP N W H c (fun x y => FB N W H c k (y * W + x)) x) = true := hF
    by_cases hl : (x : Int) < W - 1
    · rw [gAt_step (by omega) hl, if_pos hF'] at h3; omega
    · have e : (x : Int) = W - 1 := by omega
      rw [e] at h3 hF'
      rw [gAt_last, if_pos hF'] at h3; omega

/-- the cells of a row of truth values -/
def bools (n : Nat) (f : Int → Bool) : Array Value := cellsF n fun j => .bool (f j)
theorem bools_congr {n : Nat} {f f' : Int → Bool} (he : ∀ i : Int, 0 ≤ i → i < n → f i = f' i) : bools n f = bools n f' := cellsF_congr fun j a b => by rw [he j a b]
theorem Blk.bset {w : World} {g t n : Nat} {f : Int → Bool} (h : Blk w g t (bools n f)) (i : Int) (h0 : 0 ≤ i) (b : Bool) : Blk (w.setCell ⟨g, i.toNat, none⟩ (.bool b)) g t (bools n fun j => if j = i then b else f j) := by
  have e : (bools n f).setIfInBounds i.toNat (.bool b) = bools n fun j => if j = i then b else f j := by
    unfold bools
    rw [cellsF_set n _ i h0]
    exact cellsF_congr fun j _ _ => by
      show (if j = i then Value.bool b else Value.bool (f j)) = Value.bool (if j = i then b else f j)
      split <;> rfl
  rw [← e]
  exact h.set_ i.toNat (.bool b)
theorem Blk.bconv {w : World} {g t n : Nat} {f f' : Int → Bool} (h : Blk w g t (bools n f)) (he : ∀ i : Int, 0 ≤ i → i < n → f i = f' i) : Blk w g t (bools n f') := by
  rw [← bools_congr he]; exact h
theorem bools_zero (n : Nat) : Array.replicate n (Value.bool false) = bools n (fun _ => false) := replicate_cellsF _ _
end Go.Proofs.Ytdimlpcbbkokiaa

/- Walk: the lines of an image (stave.Trace). -/
namespace Go.Proofs.Ytdimlpcbbkokiaa
open Go.RowKit Go.Shelf
set_option linter.unusedVariables false
attribute [local go_sem] Oper.semAt_some

theorem infoBool : (Try.prog.info? 4).map (fun i => (i.zero, i.size, i.bytes)) = some (some (.bool false), 1, 1) := by kernel_rfl
theorem infoInts : (Try.prog.info? 25).map (fun i => (i.zero, i.size, i.bytes)) = some (some (.slice none 0 0), 1, 24) := by kernel_rfl
theorem makeO (n : Int) (h0 : 0 ≤ n) (h : n ≤ 140737488355328) (w : World) : (Instr.makeSlice 67 (.int .i64 n) (.int .i64 n)).run Try.prog w =
    .ok (.slice (some ⟨w.heap.size, 0, none⟩) n.toNat n.toNat) (w.alloc (.cells (bools n.toNat (fun _ => false)) 4)) := by
  obtain ⟨i, hi, hz, hs, hb⟩ := info_parts infoBool
  have := run_make (P := Try.prog) w 67 4 i _ Try.underlying67 hi hz .i64 .i64 n n h0 (Int.le_refl _) (by rw [hb]; omega) (by omega)
  rw [this, hs]
  have e : madeCells (Value.bool false).cells (n.toNat * 1) = bools n.toNat (fun _ => false) := by
    rw [← bools_zero]
    apply Array.ext_getElem?
    intro j
    simp only [madeCells, Value.cells, Nat.mul_one]
    by_cases hj : j < n.toNat <;> simp [hj, Nat.mod_one]
  rw [e]

/-- k lines, a slice each, in memory of the call's own -/
structure Found (B : Nat) (w : World) (m : Nat) (ln : Nat → Nat → Int) (k : Nat) (vo : Value) (v : Nat → Value) : Prop where
  row : w.ownsRow B 25 1 vo k ((List.range k).map v)
  lines : ∀ i, i < k → w.ownsRow B 3 1 (v i) m ((List.range m).map fun j => Value.int .i64 (ln i j))
theorem Found.below {B : Nat} {w w' : World} {m : Nat} {ln : Nat → Nat → Int} {k : Nat} {vo : Value} {v : Nat → Value} (h : Found B w m ln k vo v) (hb : Below w.heap.size w w') : Found B w' m ln k vo v :=
  ⟨own_below h.row hb, fun i hi => own_below (h.lines i hi) hb⟩
theorem Found.far {B : Nat} {w : World} {m g t : Nat} {cs : Array Value} {ln : Nat → Nat → Int} {k : Nat} {vo : Value} {v : Nat → Value} (h : Found B w m ln k vo v) (hb : Blk w g t cs) (h1 : t ≠ 25) (h2 : t ≠ 3) (o : Nat) (u : Value) : Found B (w.setCell ⟨g, o, none⟩ u) m ln k vo v :=
  ⟨own_far h.row hb h1.symm o u, fun i hi => own_far (h.lines i hi) hb h2.symm o u⟩

/-- an owned row of numbers, read -/
theorem own_arrI {w : World} {B m : Nat} {v : Value} {q : Nat → Int} (h : w.ownsRow B 3 1 v m ((List.range m).map fun j => Value.int .i64 (q j))) : ∃ A c, v = .slice A m c ∧ ArrI w w.heap.size A m (fun j => q j.toNat) := by
  obtain ⟨A, c, e, -, ha⟩ := own_arr h
  refine ⟨A, c, e, Arr.congr ha fun i i0 i1 => ?_⟩
  rw [List.getD_eq_getElem?_getD, List.getElem?_map, List.getElem?_range (by omega)]
  rfl
theorem own_some {w : World} {B e m : Nat} {v : Value} {xs : List Value} (h : w.ownsRow B e 1 v m xs) (hm : 0 < m) : ∃ g c, v = .slice (some ⟨g, 0, none⟩) m c := by
  rcases h.2 with ⟨-, h2⟩ | ⟨g, cap, cur, hv, -⟩
  · omega
  · exact ⟨g, cap, hv⟩

theorem sort_found (B m k : Nat) (ln : Nat → Nat → Int) (vo : Value) (v : Nat → Value) (w : World) (h : Found B w m ln k vo v) (hk : k ≤ 60) (hm : 0 < m) (hq : ∀ i, i < k → 0 ≤ ln i 0 ∧ ln i 0 ≤ 1000) :
    Calls Try.prog 64 #[vo, .func (.func 65) #[] #[]] w fun e w' => e = .returned (.tuple #[]) ∧
      ∃ l : List Nat, l.Perm (List.range k) ∧ l.Pairwise (fun i j => ln i 0 ≤ ln j 0) ∧ w'.ownsRow B 25 1 vo k (l.map v) ∧ (∀ i, i < k → w'.ownsRow B 3 1 (v i) m ((List.range m).map fun j => Value.int .i64 (ln i j))) ∧ w.grownBy w' vo.ownBlock := by
  by_cases h0 : 0 < k
  · obtain ⟨blk, cap, rfl⟩ := own_some h.row h0
    refine (sort_any k cap blk B m v (fun i j => ln i j.toNat) w h0 hk h.row (fun i hi => ?_) hm (fun i hi => hq i hi)).mono ?_
    · obtain ⟨g, c, e⟩ := own_some (h.lines i hi) hm
      obtain ⟨A, c', e', ha⟩ := own_arrI (h.lines i hi)
      rw [e] at e'
      cases e'
      refine ⟨g, 0, c, e, fun hg => ?_, ha⟩
      exact own_apart h.row (h.lines i hi) (by decide) (k := blk) rfl (by rw [e, hg]; rfl)
    · rintro e w' ⟨rfl, l, l1, l2, l3, l4⟩
      have hg : w.grownBy w' (Value.slice (some ⟨blk, 0, none⟩) k cap).ownBlock := ⟨l4.os, l4.tape, l4.output, l4.size, fun j hj hn => l4.block j hj (fun e => hn (by rw [e]; rfl))⟩
      exact ⟨rfl, l, l1, l2, l3, fun i hi => own_grown (h.lines i hi) h.row (by decide) hg, hg⟩
  · obtain rfl : k = 0 := by omega
    obtain ⟨A, c, rfl, -, -⟩ := own_arr h.row
    refine (AnyF.slices_SortFunc_none (P := Try.prog) (ρ := Try.sortLines_ren) { Try.sortLines with } A c (.func (.func 65) #[] #[]) w).mono ?_
    rintro e w' ⟨rfl, rfl⟩
    exact ⟨rfl, [], List.Perm.refl _, List.Pairwise.nil, h.row, h.lines, World.grownBy.refl _ _⟩

/-- what Trace returns: so many lines, in the order of their first rows -/
def TraceOut (w : World) (W H : Int) (p : Int → Int) (v : Value) (w' : World) : Prop :=
  ∃ (k : Nat) (l : List Nat) (vs : Nat → Value), Many 1073741824 W H (cst p W) k ∧ l.Perm (List.range k) ∧ l.Pairwise (fun i j => LN 1073741824 W H (cst p W) i 0 ≤ LN 1073741824 W H (cst p W) j 0) ∧
    w'.ownsRow w.heap.size 25 1 v k (l.map vs) ∧ ∀ i, i < k → w'.ownsRow w.heap.size 3 1 (vs i) W.toNat ((List.range W.toNat).map fun j => Value.int .i64 (LN 1073741824 W H (cst p W) i j))

set_option maxRecDepth 100000 in
set_option maxHeartbeats 4000000 in
theorem trace_ok (W H : Int) (A : Option Addr) (n c : Nat) (p : Int → Int) (w : World) (hA : ArrB w w.heap.size A n p) (hn : n ≤ maxLen) (hB : IsB p) (hE : chk W H n p = 0) (hW : 1 ≤ W) (hH : 1 ≤ H) :
    Calls Try.prog 19 #[.agg #[.int .i64 W, .int .i64 H, .slice A n c]] w (New w fun v w' => ∃ vo, v = .tuple #[vo, .int .i64 0] ∧ TraceOut w W H p vo w') := by
  obtain ⟨hW1, hW2, hH1, hH2, hnn, -⟩ := chk_ok hE
  obtain ⟨m1, m2⟩ := area_bd hW1 hW2 hH1 hH2
  have CK := Lib.hid fun w' hA' => check_any W H A n c p w' hA' hn
  rw [hE] at CK
  have BE := Lib.hid fun f fb w' hA' hF' => best_any W H A f n c n n fb p w' hA' hF' hB hE hnn hW hH
  have hmk := makeO (n : Int) (by omega) (by omega)
  rw [Int.toNat_natCast] at hmk
  have bW : (W == 0) = false := by simp; omega
  have bH : (H == 0) = false := by simp; omega
  have KI : Blk (w.alloc (.cells #[.int .i64 W, .int .i64 H, .slice A n c] 24)) w.heap.size 24 #[.int .i64 W, .int .i64 H, .slice A n c] := Blk.new _ _ _
  have KA := hA.alloc1 (.cells #[.int .i64 W, .int .i64 H, .slice A n c] 24)
  have B1 : Below w.heap.size w (w.alloc (.cells #[.int .i64 W, .int .i64 H, .slice A n c] 24)) := by (repeat (first | exact Below.refl _ _ | assumption | refine Below.drew ?_ | refine below_drewN ?_ _ | refine Below.alloc ?_ (by first | omega | (simp; done) | (simp; omega)) _ | refine Below.setCell ?_ (by first | omega | (simp; done) | (simp; omega)) _ | refine below_setRow ?_ (by first | omega | (simp; done) | (simp; omega)) _ ))
  have HN := Lib.hid hnn
  clear hE hnn hB
  go_enter Try.func19, Try.ntmps19
  go_wp2_with fail
  refine (CK.out _ KA).mono ?_
  rintro e w1 ⟨rfl, hb1⟩
  have b1 := below_call B1 B1.size hb1
  have k1 := KI.below' hb1
  have a1 := KA.to hb1
  have z1 := k1.lt
  clear KI KA B1 hb1
  obtain ⟨q1, q2, q3⟩ := k1.cells3
  go_wp2_with fail
  have E0 : ∀ W, (binOp .eql 25 (.slice none 0 0) (.slice none 0 0)).run Try.prog W = .ok (.bool true) W := fun W => Go.run_eql_slice_nil W _ _ _ _ _ Try.underlying25
  have E1 : ∀ W g l c, (binOp .eql 25 (.slice (some ⟨g, 0, none⟩) l c) (.slice none 0 0)).run Try.prog W = .ok (.bool false) W := fun W g l c => Go.run_eql_slice_nil W _ _ _ _ _ Try.underlying25
  obtain ⟨i0, hi0, hz0, hz1, hz2⟩ := info_parts infoInts
  have LB : Hid (∀ i, Good 1073741824 W H (cst p W) i → 0 ≤ LN 1073741824 W H (cst p W) i 0 ∧ LN 1073741824 W H (cst p W) i 0 ≤ 1000) := by
    show ∀ _, _
    intro i hi
    have := ln_ok (cst_bd p W) (by omega) (by omega) (by omega) hi.1 0 (by omega)
    omega
  have b2 : Below w.heap.size w (w1.alloc (.cells (bools n (fun _ => false)) 4)) := b1.alloc b1.size _
  have k2 := k1.alloc (.cells (bools n (fun _ => false)) 4)
  have kf2 : Blk (w1.alloc (.cells (bools n (fun _ => false)) 4)) w1.heap.size 4 (bools n (FB 1073741824 W H (cst p W) 0)) := Blk.new _ _ _
  have F2 : Found w.heap.size (w1.alloc (.cells (bools n (fun _ => false)) 4)) W.toNat (LN 1073741824 W H (cst p W)) 0 (.slice none 0 0) (fun _ => .slice none 0 0) := ⟨World.ownsRow_nil _ _ _ _, fun i hi => by omega⟩
  generalize hgf : w1.heap.size = gf at *
  clear hgf q1 q2 q3 k1 b1 a1
  go_loopw [5] (fun vo wr => ∃ (k : Nat) (v : Nat → Value), k ≤ 60 ∧ (∀ j, j < k → Good 1073741824 W H (cst p W) j) ∧ Found w.heap.size wr W.toNat (LN 1073741824 W H (cst p W)) k vo v ∧ Below w.heap.size w wr ∧ Blk wr w.heap.size 24 #[.int .i64 W, .int .i64 H, .slice A n c] ∧ Blk wr gf 4 (bools n (FB 1073741824 W H (cst p W) k))) (fun vo _ => 60 - lenV vo)
  case atStart => exact ⟨0, _, by omega, fun j hj => by omega, F2, b2, k2, kf2⟩
  case round =>
    obtain ⟨k, v, hk, hg, hF, b3, ki, kf⟩ := hrel
    clear b2 k2 kf2 F2
    have rl := own_len hF.row
    obtain ⟨Ao, co, rfl, -, -⟩ := own_arr hF.row
    obtain ⟨p1, p2, p3⟩ := ki.cells3
    have a3 := hA.to b3
    have HK := Lib.hid hk
    clear hk
    by_cases h60 : (k : Int) < 60
    · have CB : 0 ≤ GC 1073741824 W H (cst p W) k ∧ GC 1073741824 W H (cst p W) k ≤ 1073741824 := by
        have h0 : LN 1073741824 W H (cst p W) k 0 = fmin _ H.toNat := rfl
        have := fmin_bd (gAt 1073741824 W H (cst p W) (fun x y => FB 1073741824 W H (cst p W) k (y * W + x)) 0) H.toNat
        have := gAt_bd (N := 1073741824) (W := W) (H := H) (c := cst p W) (F := fun x y => FB 1073741824 W H (cst p W) k (y * W + x)) (cst_bd p W) (by omega) (x := 0) (y := LN 1073741824 W H (cst p W) k 0) (by omega) (by omega) (by rw [h0]; omega) (by rw [h0]; have := this.2 (by omega); omega)
        unfold GC
        omega
      go_wp2_with fail
      refine (BE.out (some ⟨gf, 0, none⟩) (FB 1073741824 W H (cst p W) k) _ a3 (Blk.arr (f := fun i => .bool (FB 1073741824 W H (cst p W) k i)) kf kf.lt)).mono ?_
      rintro e w6 ⟨hout, hb6⟩
      have F6 := hF.below hb6
      have b6 := below_call b3 b3.size hb6
      have k6 := ki.below' hb6
      have kf6 := kf.below' hb6
      have z6 := kf.lt
      have z7 := b3.size
      have z8 : w.heap.size ≤ wr.heap.size := b3.size
      have z9 := b6.size
      clear hF b3 ki kf hb6 a3 p1 p2 p3
      obtain ⟨p1, p2, p3⟩ := k6.cells3
      rcases hout with ⟨hN, rfl⟩ | ⟨hlt, vp, rfl, hown⟩
      · replace hN : GC 1073741824 W H (cst p W) k = 1073741824 := hN
        have HN2 := Lib.hid hN
        clear hN CB
        go_wp2_with fail
        have MK : Many 1073741824 W H (cst p W) k := ⟨HK.out, hg, fun _ h => by have := h.1; have := HN2.out; omega⟩
        refine (sort_found w.heap.size W.toNat k (LN 1073741824 W H (cst p W)) _ v _ F6 (by have := HK.out; omega) (by omega) (fun i hi => by have := LB.out i (hg i hi); omega)).mono ?_
        rintro e w9 ⟨rfl, l, l1, l2, l3, l4, l5⟩
        have b9 := b6.grown l5 b6.size (fun j hj => (own_ge F6.row hj).1)
        go_wp2
        refine bodyPost_ret (results_tmp2 rfl _ _ _) rfl ?_
        exact ⟨_, rfl, ⟨_, rfl, k, l, v, MK, l1, l2, l3, l4⟩, b9⟩
      · replace hlt : GC 1073741824 W H (cst p W) k < 1073741824 := hlt
        replace hown : w6.ownsRow wr.heap.size 3 1 vp W.toNat ((List.range W.toNat).map fun j => Value.int .i64 (LN 1073741824 W H (cst p W) k j)) := hown
        obtain ⟨g, cp, rfl⟩ := own_some hown (by omega)
        obtain ⟨CB1, CB2⟩ := CB
        have hC : Hid (GC 1073741824 W H (cst p W) k = gAt 1073741824 W H (cst p W) (fun x y => FB 1073741824 W H (cst p W) k (y * W + x)) 0 (pathP 1073741824 W H (cst p W) (fun x y => FB 1073741824 W H (cst p W) k (y * W + x)) 0)) := by show _ = _; rfl
        have PL := Lib.hid fun x hx => ln_ok (cst_bd p W) (by omega) (by omega) (by omega) hlt x hx
        rw [← hC.out]
        have GD := Lib.hid (show 8 * GC 1073741824 W H (cst p W) k ≤ W → Good 1073741824 W H (cst p W) k from fun h => ⟨hlt, h⟩)
        have NG := Lib.hid (show ¬ 8 * GC 1073741824 W H (cst p W) k ≤ W → ¬ Good 1073741824 W H (cst p W) k from fun h g => h g.2)
        generalize GC 1073741824 W H (cst p W) k = C at *
        clear hC
        have v1 : IntKind.i64.wrap (8 * C) = 8 * C := IntWalk.i64_in _ (by omega)
        by_cases hc : 8 * C ≤ W
        · go_wp2_with (at_builtin; refine wpList_append_own _ rfl (.tmp 47) (.tmp 49) 34 rfl w.heap.size 25 i0 (.slice none 0 0) 1 24 Try.underlying34 hi0 hz0 hz1 hz2 rfl (by decide) _ _ _ rfl (F6.row.alloc _) ⟨w6.heap.size, 0, none⟩ 1 1 [.slice (some ⟨g, 0, none⟩) W.toNat cp] rfl rfl ?c1 ?c2 ?c3 ?c4 ?c5 ?_)
          case c1 => exact cell_one_new _ _ _
          case c2 => simp [Value.oneCell']
          case c3 => unfold maxLen; omega
          case c4 => omega
          case c5 => simp; omega
          intro v' w7 own7 hg7 _
          have G1 := GD.out hc
          obtain ⟨vf, hv1⟩ : ∃ vf : Nat → Value, vf = fun i => if i = k then .slice (some ⟨g, 0, none⟩) W.toNat cp else v i := ⟨_, rfl⟩
          have F7 : Found w.heap.size w7 W.toNat (LN 1073741824 W H (cst p W)) (k + 1) v' vf := by
            refine ⟨?_, fun i hi => ?_⟩
            · rw [range_snoc, hv1]
              simp only [if_true]
              rw [show (List.range k).map (fun i => if i = k then Value.slice (some ⟨g, 0, none⟩) W.toNat cp else v i) = (List.range k).map v from List.map_congr_left fun i hi => by rw [if_neg]; have := List.mem_range.1 hi; omega]
              exact own7
            · rw [hv1]
              show World.ownsRow _ _ _ _ (if i = k then _ else v i) _ _
              by_cases e : i = k
              · subst e
                rw [if_pos rfl]
                exact own_grown ((own_base hown z8).alloc _) (F6.row.alloc _) (by decide) hg7
              · rw [if_neg e]
                exact own_grown ((F6.lines i (by omega)).alloc _) (F6.row.alloc _) (by decide) hg7
          have b7 : Below w.heap.size w w7 := (show Below w.heap.size w (w6.alloc (.cells #[.slice (some ⟨g, 0, none⟩) W.toNat cp] 25)) by (repeat (first | exact Below.refl _ _ | assumption | refine Below.drew ?_ | refine below_drewN ?_ _ | refine Below.alloc ?_ (by first | omega | (simp; done) | (simp; omega)) _ | refine Below.setCell ?_ (by first | omega | (simp; done) | (simp; omega)) _ | refine below_setRow ?_ (by first | omega | (simp; done) | (simp; omega)) _ ))).grown hg7 (by simp; omega) (fun j hj => (own_ge F6.row hj).1)
          have k7 := (k6.alloc (.cells #[.slice (some ⟨g, 0, none⟩) W.toNat cp] 25)).grown hg7 (own_neB F6.row k6 (by decide))
          have kf7 := (kf6.alloc (.cells #[.slice (some ⟨g, 0, none⟩) W.toNat cp] 25)).grown hg7 (own_neB F6.row kf6 (by decide))
          have v1k : vf k = .slice (some ⟨g, 0, none⟩) W.toNat cp := by rw [hv1]; simp
          have V1K := Lib.hid v1k
          have ZG : Hid (w.heap.size ≠ gf) := by
            show _ ≠ _
            intro e
            have h1 : w6.heap[gf]? = _ := kf6
            rw [← e] at h1
            have h2 : w6.heap[w.heap.size]? = _ := k6
            rw [h2] at h1
            exact absurd (congrArg (fun o : Option Obj => match o with | some (.cells _ t _) => t | _ => 0) h1) (show ¬ ((24 : Nat) = 4) by decide)
          have ln7 := own_len own7
          clear hv1 v1k k6 kf6 F6 b6 own7 hg7 hown v1 p1 p2 p3
          go_wp2_with fail
          go_loopw [53] (fun s wr => ∃ x : Nat, (x : Int) ≤ W ∧ s = .int .i64 x ∧ Found w.heap.size wr W.toNat (LN 1073741824 W H (cst p W)) (k + 1) v' vf ∧ Below w.heap.size w wr ∧ Blk wr w.heap.size 24 #[.int .i64 W, .int .i64 H, .slice A n c] ∧ Blk wr gf 4 (bools n (mkR W (FB 1073741824 W H (cst p W) k) (LN 1073741824 W H (cst p W) k) x (LN 1073741824 W H (cst p W) k x - 2)))) (fun s _ => (W - intOf s).toNat)
          case atStart => exact ⟨0, by omega, rfl, F7, b7, k7, kf7.bconv fun i i0 _ => (mkR_zero (by omega)).symm⟩
          case round =>
            obtain ⟨x, xm, rfl, F8, b8, k8, kf8⟩ := hrel
            clear F7 b7 k7 kf7
            by_cases xW : (x : Int) < W
            · have hl := F8.lines k (Nat.lt_succ_self k)
              rw [V1K.out] at hl
              obtain ⟨A9, c9, e9, ha9⟩ := own_arrI hl
              cases e9
              obtain ⟨b9', off9, e9, -, hc9⟩ := ArrI.at_ ha9 (i := (x : Int)) (by omega) (by omega)
              cases e9
              rw [Int.toNat_natCast, Nat.zero_add] at hc9
              obtain ⟨y0, y1, -⟩ := PL.out x xW
              have HY : Hid (∃ y, LN 1073741824 W H (cst p W) k x = y) := by show ∃ y, _; exact ⟨_, rfl⟩
              obtain ⟨y, hy⟩ := HY.out
              rw [hy] at hc9 y0 y1
              clear HY hl ha9
              have HY := Lib.hid hy
              clear hy
              have v2 : IntKind.i64.wrap (y - 2) = y - 2 := IntWalk.i64_in _ (by omega)
              have v3 : IntKind.i64.wrap (y + 2) = y + 2 := IntWalk.i64_in _ (by omega)
              have v4 : IntKind.i64.wrap (H - 1) = H - 1 := IntWalk.i64_in _ (by omega)
              by_cases hm : y - 2 < 0
              · go_wp2_with fail
                go_loopw [11] (fun s wr => ∃ t : Int, y - 2 ≤ t ∧ 0 ≤ t ∧ t ≤ y + 3 ∧ t ≤ H ∧ s = .int .i64 t ∧ Found w.heap.size wr W.toNat (LN 1073741824 W H (cst p W)) (k + 1) v' vf ∧ Below w.heap.size w wr ∧ Blk wr w.heap.size 24 #[.int .i64 W, .int .i64 H, .slice A n c] ∧ Blk wr gf 4 (bools n (mkR W (FB 1073741824 W H (cst p W) k) (LN 1073741824 W H (cst p W) k) x t))) (fun s _ => (H + 3 - intOf s).toNat)
                case atStart => exact ⟨0, by omega, by omega, by omega, by omega, by go_num, F8, b8, k8, kf8.bconv fun i i0 _ => mkR_start i0 (by omega) (by rw [HY.out]; split <;> omega)⟩
                case round =>
                  obtain ⟨t, t1, t2, t3, t4, rfl, F9, b9, k9, kf9⟩ := hrel
                  clear F8 b8 k8 kf8
                  obtain ⟨p1, p2, p3⟩ := k9.cells3
                  by_cases hM : y + 2 < H - 1
                  · by_cases hT : t ≤ y + 2
                    · obtain ⟨i1, i2, i3⟩ := idx_lt (x := (x : Int)) (y := t) (W := W) (H := H) (by omega) xW t2 (by omega)
                      rw [Int.mul_comm H W] at i2
                      have i4 : t * W + x < (n : Int) := by have := HN.out; omega
                      have v5 : IntKind.i64.wrap (t * W) = t * W := IntWalk.i64_in _ (by omega)
                      have v6 : IntKind.i64.wrap (t * W + x) = t * W + x := IntWalk.i64_in _ (by omega)
                      have fr := kf9.frozen (t * W + x).toNat
                      have cc : (wr.cell? ⟨gf, (t * W + x).toNat, none⟩).isSome = true := by rw [kf9.cell]; unfold bools; rw [cellsF_at i1 i4]; rfl
                      obtain ⟨u0, hu0⟩ := Option.isSome_iff_exists.1 cc
                      clear cc
                      go_wp2_with fail
                      go_roundw
                      case rel => exact ⟨t + 1, by omega, by omega, by omega, by omega, by go_num, F9.far kf9 (by decide) (by decide) _ _, by (repeat (first | exact Below.refl _ _ | assumption | refine Below.drew ?_ | refine below_drewN ?_ _ | refine Below.alloc ?_ (by first | omega | (simp; done) | (simp; omega)) _ | refine Below.setCell ?_ (by first | omega | (simp; done) | (simp; omega)) _ | refine below_setRow ?_ (by first | omega | (simp; done) | (simp; omega)) _ )), k9.far (p := ⟨gf, (t * W + x).toNat, none⟩) (by have := ZG.out; simp; omega) _, (kf9.bset (t * W + x) i1 true).bconv fun i _ _ => mkR_set xW (by rw [HY.out]; omega) i⟩
                      case measure => simp [intOf]; omega

                    · have hT' : y + 2 < t := by omega
                      clear hT
                      go_wp2_with fail
                      go_roundw
                      case rel => exact ⟨x + 1, by omega, by go_num, F9, b9, k9, kf9.bconv fun i i0 i1 => mkR_col (H := H) i0 (by have := HN.out; omega) (by omega) (by rw [HY.out]; split <;> omega) (by rw [HY.out]; omega)⟩
                      case measure => simp [intOf]; omega

                  · have hM' : H - 1 ≤ y + 2 := by omega
                    by_cases hT : t ≤ H - 1
                    · obtain ⟨i1, i2, i3⟩ := idx_lt (x := (x : Int)) (y := t) (W := W) (H := H) (by omega) xW t2 (by omega)
                      rw [Int.mul_comm H W] at i2
                      have i4 : t * W + x < (n : Int) := by have := HN.out; omega
                      have v5 : IntKind.i64.wrap (t * W) = t * W := IntWalk.i64_in _ (by omega)
                      have v6 : IntKind.i64.wrap (t * W + x) = t * W + x := IntWalk.i64_in _ (by omega)
                      have fr := kf9.frozen (t * W + x).toNat
                      have cc : (wr.cell? ⟨gf, (t * W + x).toNat, none⟩).isSome = true := by rw [kf9.cell]; unfold bools; rw [cellsF_at i1 i4]; rfl
                      obtain ⟨u0, hu0⟩ := Option.isSome_iff_exists.1 cc
                      clear cc
                      go_wp2_with fail
                      go_roundw
                      case rel => exact ⟨t + 1, by omega, by omega, by omega, by omega, by go_num, F9.far kf9 (by decide) (by decide) _ _, by (repeat (first | exact Below.refl _ _ | assumption | refine Below.drew ?_ | refine below_drewN ?_ _ | refine Below.alloc ?_ (by first | omega | (simp; done) | (simp; omega)) _ | refine Below.setCell ?_ (by first | omega | (simp; done) | (simp; omega)) _ | refine below_setRow ?_ (by first | omega | (simp; done) | (simp; omega)) _ )), k9.far (p := ⟨gf, (t * W + x).toNat, none⟩) (by have := ZG.out; simp; omega) _, (kf9.bset (t * W + x) i1 true).bconv fun i _ _ => mkR_set xW (by rw [HY.out]; omega) i⟩
                      case measure => simp [intOf]; omega

                    · have hT' : H - 1 < t := by omega
                      clear hT
                      go_wp2_with fail
                      go_roundw
                      case rel => exact ⟨x + 1, by omega, by go_num, F9, b9, k9, kf9.bconv fun i i0 i1 => mkR_col (H := H) i0 (by have := HN.out; omega) (by omega) (by rw [HY.out]; split <;> omega) (by rw [HY.out]; omega)⟩
                      case measure => simp [intOf]; omega
              · go_wp2_with fail
                go_loopw [11] (fun s wr => ∃ t : Int, y - 2 ≤ t ∧ 0 ≤ t ∧ t ≤ y + 3 ∧ t ≤ H ∧ s = .int .i64 t ∧ Found w.heap.size wr W.toNat (LN 1073741824 W H (cst p W)) (k + 1) v' vf ∧ Below w.heap.size w wr ∧ Blk wr w.heap.size 24 #[.int .i64 W, .int .i64 H, .slice A n c] ∧ Blk wr gf 4 (bools n (mkR W (FB 1073741824 W H (cst p W) k) (LN 1073741824 W H (cst p W) k) x t))) (fun s _ => (H + 3 - intOf s).toNat)
                case atStart => exact ⟨y - 2, by omega, by omega, by omega, by omega, by go_num, F8, b8, k8, kf8.bconv fun i i0 _ => mkR_start i0 (by omega) (by rw [HY.out]; split <;> omega)⟩
                case round =>
                  obtain ⟨t, t1, t2, t3, t4, rfl, F9, b9, k9, kf9⟩ := hrel
                  clear F8 b8 k8 kf8
                  obtain ⟨p1, p2, p3⟩ := k9.cells3
                  by_cases hM : y + 2 < H - 1
                  · by_cases hT : t ≤ y + 2
                    · obtain ⟨i1, i2, i3⟩ := idx_lt (x := (x : Int)) (y := t) (W := W) (H := H) (by omega) xW t2 (by omega)
                      rw [Int.mul_comm H W] at i2
                      have i4 : t * W + x < (n : Int) := by have := HN.out; omega
                      have v5 : IntKind.i64.wrap (t * W) = t * W := IntWalk.i64_in _ (by omega)
                      have v6 : IntKind.i64.wrap (t * W + x) = t * W + x := IntWalk.i64_in _ (by omega)
                      have fr := kf9.frozen (t * W + x).toNat
                      have cc : (wr.cell? ⟨gf, (t * W + x).toNat, none⟩).isSome = true := by rw [kf9.cell]; unfold bools; rw [cellsF_at i1 i4]; rfl
                      obtain ⟨u0, hu0⟩ := Option.isSome_iff_exists.1 cc
                      clear cc
                      go_wp2_with fail
                      go_roundw
                      case rel => exact ⟨t + 1, by omega, by omega, by omega, by omega, by go_num, F9.far kf9 (by decide) (by decide) _ _, by (repeat (first | exact Below.refl _ _ | assumption | refine Below.drew ?_ | refine below_drewN ?_ _ | refine Below.alloc ?_ (by first | omega | (simp; done) | (simp; omega)) _ | refine Below.setCell ?_ (by first | omega | (simp; done) | (simp; omega)) _ | refine below_setRow ?_ (by first | omega | (simp; done) | (simp; omega)) _ )), k9.far (p := ⟨gf, (t * W + x).toNat, none⟩) (by have := ZG.out; simp; omega) _, (kf9.bset (t * W + x) i1 true).bconv fun i _ _ => mkR_set xW (by rw [HY.out]; omega) i⟩
                      case measure => simp [intOf]; omega

                    · have hT' : y + 2 < t := by omega
                      clear hT
                      go_wp2_with fail
                      go_roundw
                      case rel => exact ⟨x + 1, by omega, by go_num, F9, b9, k9, kf9.bconv fun i i0 i1 => mkR_col (H := H) i0 (by have := HN.out; omega) (by omega) (by rw [HY.out]; split <;> omega) (by rw [HY.out]; omega)⟩
                      case measure => simp [intOf]; omega

                  · have hM' : H - 1 ≤ y + 2 := by omega
                    by_cases hT : t ≤ H - 1
                    · obtain ⟨i1, i2, i3⟩ := idx_lt (x := (x : Int)) (y := t) (W := W) (H := H) (by omega) xW t2 (by omega)
                      rw [Int.mul_comm H W] at i2
                      have i4 : t * W + x < (n : Int) := by have := HN.out; omega
                      have v5 : IntKind.i64.wrap (t * W) = t * W := IntWalk.i64_in _ (by omega)
                      have v6 : IntKind.i64.wrap (t * W + x) = t * W + x := IntWalk.i64_in _ (by omega)
                      have fr := kf9.frozen (t * W + x).toNat
                      have cc : (wr.cell? ⟨gf, (t * W + x).toNat, none⟩).isSome = true := by rw [kf9.cell]; unfold bools; rw [cellsF_at i1 i4]; rfl
                      obtain ⟨u0, hu0⟩ := Option.isSome_iff_exists.1 cc
                      clear cc
                      go_wp2_with fail
                      go_roundw
                      case rel => exact ⟨t + 1, by omega, by omega, by omega, by omega, by go_num, F9.far kf9 (by decide) (by decide) _ _, by (repeat (first | exact Below.refl _ _ | assumption | refine Below.drew ?_ | refine below_drewN ?_ _ | refine Below.alloc ?_ (by first | omega | (simp; done) | (simp; omega)) _ | refine Below.setCell ?_ (by first | omega | (simp; done) | (simp; omega)) _ | refine below_setRow ?_ (by first | omega | (simp; done) | (simp; omega)) _ )), k9.far (p := ⟨gf, (t * W + x).toNat, none⟩) (by have := ZG.out; simp; omega) _, (kf9.bset (t * W + x) i1 true).bconv fun i _ _ => mkR_set xW (by rw [HY.out]; omega) i⟩
                      case measure => simp [intOf]; omega

                    · have hT' : H - 1 < t := by omega
                      clear hT
                      go_wp2_with fail
                      go_roundw
                      case rel => exact ⟨x + 1, by omega, by go_num, F9, b9, k9, kf9.bconv fun i i0 i1 => mkR_col (H := H) i0 (by have := HN.out; omega) (by omega) (by rw [HY.out]; split <;> omega) (by rw [HY.out]; omega)⟩
                      case measure => simp [intOf]; omega
            · obtain rfl : (x : Int) = W := by omega
              go_wp2_with fail
              go_roundw
              case rel => exact ⟨k + 1, vf, by omega, fun j hj => by (rcases Nat.lt_succ_iff_lt_or_eq.1 hj with h | rfl; exact hg j h; exact G1), F8, b8, k8, kf8.bconv fun i _ _ => mkR_end (by omega) rfl⟩
              case measure => simp [rl, ln7]; omega
        · go_wp2_with fail
          have MK : Many 1073741824 W H (cst p W) k := ⟨HK.out, hg, fun _ => NG.out hc⟩
          refine (sort_found w.heap.size W.toNat k (LN 1073741824 W H (cst p W)) _ v _ F6 (by have := HK.out; omega) (by omega) (fun i hi => by have := LB.out i (hg i hi); omega)).mono ?_
          rintro e w9 ⟨rfl, l, l1, l2, l3, l4, l5⟩
          have b9 := b6.grown l5 b6.size (fun j hj => (own_ge F6.row hj).1)
          go_wp2
          refine bodyPost_ret (results_tmp2 rfl _ _ _) rfl ?_
          exact ⟨_, rfl, ⟨_, rfl, k, l, v, MK, l1, l2, l3, l4⟩, b9⟩
    · go_wp2_with fail
      have MK : Many 1073741824 W H (cst p W) k := ⟨HK.out, hg, fun h => by omega⟩
      refine (sort_found w.heap.size W.toNat k (LN 1073741824 W H (cst p W)) _ v _ hF (by have := HK.out; omega) (by omega) (fun i hi => by have := LB.out i (hg i hi); omega)).mono ?_
      rintro e w9 ⟨rfl, l, l1, l2, l3, l4, l5⟩
      have b9 := b3.grown l5 b3.size (fun j hj => (own_ge hF.row hj).1)
      go_wp2
      refine bodyPost_ret (results_tmp2 rfl _ _ _) rfl ?_
      exact ⟨_, rfl, ⟨_, rfl, k, l, v, MK, l1, l2, l3, l4⟩, b9⟩
end Go.Proofs.Ytdimlpcbbkokiaa

/- Plain: the least costs column by column as lists, to reckon examples. No program in sight. -/
namespace Go.Proofs.Ytdimlpcbbkokiaa
open Go.RowKit
set_option linter.unusedVariables false

section
variable (N W H : Int) (c : Int → Int → Int) (F : Int → Int → Bool)
def stepL (d : List Int) (x : Int) : List Int := (List.range H.toNat).map fun (y : Nat) => if F x y then N else min (mfold N (goTo (fun t => d.getD t.toNat 0) y) (nxLo y) (nxN H y) + c x y) N
def colL : Nat → List Int
  | 0 => (List.range H.toNat).map fun (y : Nat) => if F (W - 1) y then N else min (c (W - 1) y) N
  | k + 1 => stepL N H c F (colL k) (W - 1 - (k + 1 : Nat))
def nxtL (d : List Int) (g cc a : Int) : Int := ((nbT a (nxN H a)).find? fun t => decide (goTo (fun t => d.getD t.toNat 0) a t = g - cc)).getD a
def pathL : Nat → Int
  | 0 => fmin (fun t => (colL N W H c F (W - 1).toNat).getD t.toNat 0) H.toNat
  | x + 1 => nxtL H (colL N W H c F (W - 1 - (x + 1 : Nat)).toNat) ((colL N W H c F (W - 1 - x).toNat).getD (pathL x).toNat 0) (c x (pathL x)) (pathL x)
end
theorem mfold_congr {N : Int} {f g : Int → Int} {lo : Int} {j : Nat} (h : ∀ i : Nat, i < j → f (lo + i) = g (lo + i)) : mfold N f lo j = mfold N g lo j := by
  induction j with
  | zero => rfl
  | succ j ih => rw [mfold, mfold, ih (fun i hi => h i (by omega)), h j (by omega)]
theorem fmin_congr {f g : Int → Int} {n : Nat} (h : ∀ i : Int, 0 ≤ i → i < n → f i = g i) : fmin f n = fmin g n := by
  induction n with
  | zero => rfl
  | succ n ih =>
    have e := ih fun i a b => h i a (by omega)
    have b := fmin_bd g n
    rw [fmin, fmin, e, h n (by omega) (by omega)]
    by_cases hn : 0 < n
    · rw [h (fmin g n) b.1 (by have := b.2 hn; omega)]
    · obtain rfl : n = 0 := by omega
      rw [show fmin g 0 = (0 : Nat) from rfl, h (0 : Nat) (by omega) (by omega)]
theorem getD_range_map (n : Nat) (f : Nat → Int) (y : Int) (h0 : 0 ≤ y) (h : y < n) : ((List.range n).map f).getD y.toNat 0 = f y.toNat := by
  rw [List.getD_eq_getElem?_getD, List.getElem?_map, List.getElem?_range (by omega)]; rfl
theorem colL_eq {N W H : Int} {c : Int → Int → Int} {F : Int → Int → Bool} (k : Nat) (y : Int) (h0 : 0 ≤ y) (h : y < H) : gcol N W H c F k y = (colL N W H c F k).getD y.toNat 0 := by
  induction k generalizing y with
  | zero =>
    rw [colL, getD_range_map _ _ _ h0 (by omega), gcol, Int.toNat_of_nonneg h0]
  | succ k ih =>
    rw [colL, stepL, getD_range_map _ _ _ h0 (by omega), gcol, Int.toNat_of_nonneg h0]
    have : mfold N (goTo (gcol N W H c F k) y) (nxLo y) (nxN H y) = mfold N (goTo (fun t => (colL N W H c F k).getD t.toNat 0) y) (nxLo y) (nxN H y) := mfold_congr fun i hi => by
      have h1 := (nx_in h0 h i).1 hi
      unfold goTo
      rw [ih (nxLo y + i) (by unfold nxLo; split <;> omega) h1.1]
    rw [this]
theorem nb_mem {H a t : Int} (a0 : 0 ≤ a) (a1 : a < H) (h : t ∈ nbT a (nxN H a)) : 0 ≤ t ∧ t < H := by
  obtain ⟨j, hj, rfl⟩ := List.mem_map.1 h
  have h1 := (nx_in a0 a1 j).1 (List.mem_range.1 hj)
  have : 0 ≤ nxLo a := by unfold nxLo; split <;> omega
  omega
theorem find_congr {f g : Int → Bool} {l : List Int} (h : ∀ t ∈ l, f t = g t) : l.find? f = l.find? g := by
  induction l with
  | nil => rfl
  | cons a l ih => rw [List.find?_cons, List.find?_cons, h a (List.mem_cons_self ..), ih fun t ht => h t (List.mem_cons_of_mem _ ht)]
theorem nxt_in {N W H : Int} {c : Int → Int → Int} {F : Int → Int → Bool} {x a : Int} (a0 : 0 ≤ a) (a1 : a < H) : 0 ≤ nxt N W H c F x a ∧ nxt N W H c F x a < H := by
  rw [nxt_find]
  cases h : (nbT a (nxN H a)).find? (fun t => decide (goTo (gAt N W H c F (x + 1)) a t = gAt N W H c F x a - c x a)) with
  | none => exact ⟨a0, a1⟩
  | some t => exact nb_mem a0 a1 (List.mem_of_find?_eq_some h)
theorem pathL_eq {N W H : Int} {c : Int → Int → Int} {F : Int → Int → Bool} (hH : 0 < H) (x : Nat) : pathP N W H c F x = pathL N W H c F x ∧ 0 ≤ pathP N W H c F x ∧ pathP N W H c F x < H := by
  induction x with
  | zero =>
    have b := fmin_bd (gAt N W H c F 0) H.toNat
    refine ⟨?_, b.1, by have := b.2 (by omega); show fmin _ _ < _; omega⟩
    show fmin _ _ = fmin _ _
    refine fmin_congr fun i a b => ?_
    unfold gAt
    rw [colL_eq _ i a (by omega), Int.sub_zero]
  | succ x ih =>
    obtain ⟨e, i0, i1⟩ := ih
    refine ⟨?_, nxt_in i0 i1⟩
    show nxt N W H c F x (pathP N W H c F x) = _
    rw [nxt_find, pathL, ← e, nxtL]
    congr 1
    refine find_congr fun t ht => ?_
    obtain ⟨t0, t1⟩ := nb_mem i0 i1 ht
    have h1 : gAt N W H c F (x + 1) t = (colL N W H c F (W - 1 - (x + 1 : Nat)).toNat).getD t.toNat 0 := colL_eq _ t t0 t1
    have h2 : gAt N W H c F x (pathP N W H c F x) = (colL N W H c F (W - 1 - x).toNat).getD (pathP N W H c F x).toNat 0 := colL_eq _ _ i0 i1
    unfold goTo
    rw [h1, h2]

def rowQ (hole : Int) : Int → Int := fun i => if 32 ≤ i ∧ i < 48 ∧ i - 32 ≠ hole then 1 else 0
def rowQ2 : Int → Int := fun i => if i = 23 then 1 else rowQ 7 i
theorem rowQ_B (h : Int) : IsB (rowQ h) := fun i => by unfold rowQ; split <;> omega
theorem rowQ2_B : IsB rowQ2 := fun i => by unfold rowQ2; split; omega; exact rowQ_B 7 i
theorem aw1 : allN 16 (fun i => decide (pathL 1073741824 16 5 (cst (rowQ 7) 16) (fun _ _ => false) i.toNat = 2)) = true := by decide +kernel
theorem aw2 : (colL 1073741824 16 5 (cst (rowQ 7) 16) (fun _ _ => false) 15).getD 2 0 = 2 := by decide +kernel
theorem aw3 : pathL 1073741824 16 5 (cst rowQ2 16) (fun _ _ => false) 0 = 2 ∧ pathL 1073741824 16 5 (cst rowQ2 16) (fun _ _ => false) 7 = 1 := by decide +kernel
theorem aw4 : (colL 1073741824 16 5 (cst rowQ2 16) (fun _ _ => false) 15).getD 2 0 = 2 := by decide +kernel
theorem aw1' : pathL 1073741824 16 5 (cst (rowQ 7) 16) (fun _ _ => false) 0 = 2 := of_decide_eq_true (allN_iff.1 aw1 0 (by decide) (by decide))
theorem aw1'' (i : Int) (h0 : 0 ≤ i) (h : i < (16 : Nat)) : LN 1073741824 16 5 (cst (rowQ 7) 16) 0 i.toNat = 2 := (pathL_eq (by decide) i.toNat).1.trans (of_decide_eq_true (allN_iff.1 aw1 i h0 h))
theorem aw3' : LN 1073741824 16 5 (cst rowQ2 16) 0 7 = 1 := (pathL_eq (by decide) 7).1.trans aw3.2
/-- one line, if the first path is cheap and begins in row 2 of five rows -/
theorem many_one {p : Int → Int} (h0 : pathL 1073741824 16 5 (cst p 16) (fun _ _ => false) 0 = 2) (h1 : (colL 1073741824 16 5 (cst p 16) (fun _ _ => false) 15).getD 2 0 = 2) : Many 1073741824 16 5 (cst p 16) 1 := by
  have e0 : LN 1073741824 16 5 (cst p 16) 0 0 = 2 := (pathL_eq (by decide) 0).1.trans h0
  have g0 : GC 1073741824 16 5 (cst p 16) 0 = 2 := by
    unfold GC
    rw [e0]
    exact (colL_eq (15 : Nat) 2 (by decide) (by decide)).trans h1
  refine ⟨by decide, fun j hj => ?_, fun _ hg => ?_⟩
  · obtain rfl : j = 0 := by omega
    exact ⟨by rw [g0]; decide, by rw [g0]; decide⟩
  · have b := (pathL_eq (N := 1073741824) (W := 16) (H := 5) (c := cst p 16) (F := fun x y => FB 1073741824 16 5 (cst p 16) 1 (y * 16 + x)) (by decide) 0).2
    have h2 := hg.1
    unfold GC at h2
    rw [gAt_step (by decide) (by decide), if_pos] at h2
    · omega
    · show FB 1073741824 16 5 (cst p 16) (0 + 1) (LN 1073741824 16 5 (cst p 16) 1 0 * 16 + 0) = true
      have b' : 0 ≤ LN 1073741824 16 5 (cst p 16) 1 0 ∧ LN 1073741824 16 5 (cst p 16) 1 0 < 5 := b
      rw [FB]
      unfold mkF
      rw [show (LN 1073741824 16 5 (cst p 16) 1 0 * 16 + 0) % 16 = 0 by omega, show (LN 1073741824 16 5 (cst p 16) 1 0 * 16 + 0) / 16 = LN 1073741824 16 5 (cst p 16) 1 0 by omega]
      show (_ || decide (LN 1073741824 16 5 (cst p 16) 0 0 - 2 ≤ _ ∧ _ ≤ LN 1073741824 16 5 (cst p 16) 0 0 + 2)) = true
      rw [e0, Bool.or_eq_true]
      exact .inr (decide_eq_true (by omega))
end Go.Proofs.Ytdimlpcbbkokiaa
