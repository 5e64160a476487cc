/- Texts of mine in build order: I1, I2, T11, S16, T7, S5, T12, S6, T13, T14, T27, T28, T35, T36, B1, T37, T47, G2. Conditions: each theorem's own. -/
import Derived.Test.YtoonkpjddfiopaaMCleanRecipesx4
import Derived.Deep.RegionHeld3
import Derived.Deep.DeepCutAuto
import Derived.Deep.Cut
import Derived.Deep.CutBlock
import Derived.Shelf.SlSortCmp.Whole1
import Derived.Shelf.SlSortCmp.NoneTotal
import Derived.Lib.LazyBuf
import Derived.Deep.AppendLies
import Derived.StillTailTactics
import Derived.Shelf.SlSortCmp.WholeK
/- Walks: image.at anywhere; the eight neighbours (image.around); the least rectangle of some points (image.box). -/
namespace Go.Proofs.Ytoonkpjddfiopaa
open Go.RowKit Go.Shelf
set_option linter.unusedVariables false
attribute [local go_sem] Oper.semAt_some

set_option maxHeartbeats 2000000 in
/-- a pixel, or paper -/
theorem at_all (W H : Int) (A : Option Addr) (n c : Nat) (x y : Int) (p : Int → Int) (w : World) (hA : ArrB w w.heap.size A n p) (hW0 : 0 ≤ W) (hW : W ≤ 640) (hH0 : 0 ≤ H) (hH : H ≤ 640) (hn : (n : Int) = W * H) (hp : ∀ i : Int, 0 ≤ i → i < n → p i = 0 ∨ p i = 1) :
    Calls Try.prog 79 #[.agg #[.int .i64 W, .int .i64 H, .slice A n c], .int .i64 x, .int .i64 y] w fun e w' => e = .returned (.int .u8 (if inkB W H p x y then 1 else 0)) ∧ Below w.heap.size w w' := by
  by_cases a : x < 0
  · have hr : inkB W H p x y = false := Bool.eq_false_iff.2 fun e => by have := inkB_iff.1 e; omega
    rw [hr]
    go_enter Try.func79, Try.ntmps79
    go_wp2
    go_ret
    exact ⟨rfl, by (repeat (first | exact Below.refl _ _ | assumption | refine Below.drew ?_ | refine below_drewN ?_ _ | refine Below.alloc ?_ (by first | omega | (simp; done) | (simp; omega)) _ | refine Below.setCell ?_ (by first | omega | (simp; done) | (simp; omega)) _ | refine below_setRow ?_ (by first | omega | (simp; done) | (simp; omega)) _ ))⟩
  · by_cases b : W ≤ x
    · have hr : inkB W H p x y = false := Bool.eq_false_iff.2 fun e => by have := inkB_iff.1 e; omega
      rw [hr]
      go_enter Try.func79, Try.ntmps79
      go_wp2
      go_ret
      exact ⟨rfl, by (repeat (first | exact Below.refl _ _ | assumption | refine Below.drew ?_ | refine below_drewN ?_ _ | refine Below.alloc ?_ (by first | omega | (simp; done) | (simp; omega)) _ | refine Below.setCell ?_ (by first | omega | (simp; done) | (simp; omega)) _ | refine below_setRow ?_ (by first | omega | (simp; done) | (simp; omega)) _ ))⟩
    · by_cases c' : y < 0
      · have hr : inkB W H p x y = false := Bool.eq_false_iff.2 fun e => by have := inkB_iff.1 e; omega
        rw [hr]
        go_enter Try.func79, Try.ntmps79
        go_wp2
        go_ret
        exact ⟨rfl, by (repeat (first | exact Below.refl _ _ | assumption | refine Below.drew ?_ | refine below_drewN ?_ _ | refine Below.alloc ?_ (by first | omega | (simp; done) | (simp; omega)) _ | refine Below.setCell ?_ (by first | omega | (simp; done) | (simp; omega)) _ | refine below_setRow ?_ (by first | omega | (simp; done) | (simp; omega)) _ ))⟩
      · by_cases d : H ≤ y
        · have hr : inkB W H p x y = false := Bool.eq_false_iff.2 fun e => by have := inkB_iff.1 e; omega
          rw [hr]
          go_enter Try.func79, Try.ntmps79
          go_wp2
          go_ret
          exact ⟨rfl, by (repeat (first | exact Below.refl _ _ | assumption | refine Below.drew ?_ | refine below_drewN ?_ _ | refine Below.alloc ?_ (by first | omega | (simp; done) | (simp; omega)) _ | refine Below.setCell ?_ (by first | omega | (simp; done) | (simp; omega)) _ | refine below_setRow ?_ (by first | omega | (simp; done) | (simp; omega)) _ ))⟩
        · obtain ⟨i1, i2, i3⟩ := idx_lt (x := x) (y := y) (W := W) (H := H) (by omega) (by omega) (by omega) (by omega)
          rw [Int.mul_comm H W] at i2
          have i4 : y * W + x < n := by omega
          have j6 := (area_bd hW0 hW hH0 hH).2
          have v1 : IntKind.i64.wrap (y * W) = y * W := IntWalk.i64_in _ (by omega)
          have v2 : IntKind.i64.wrap (y * W + x) = y * W + x := IntWalk.i64_in _ (by omega)
          obtain ⟨b', off, rfl, hbB, hcell⟩ := ArrB.at_ (hA.to (w' := w.alloc (.cells #[.int .i64 W, .int .i64 H, .slice A n c] 29)) (by (repeat (first | exact Below.refl _ _ | assumption | refine Below.drew ?_ | refine below_drewN ?_ _ | refine Below.alloc ?_ (by first | omega | (simp; done) | (simp; omega)) _ | refine Below.setCell ?_ (by first | omega | (simp; done) | (simp; omega)) _ | refine below_setRow ?_ (by first | omega | (simp; done) | (simp; omega)) _ )))) i1 i4
          have hv : (if inkB W H p x y then (1 : Int) else 0) = p (y * W + x) := by
            rw [inkB_in (by omega) (by omega) (by omega) (by omega)]
            rcases hp _ i1 i4 with e | e <;> rw [e] <;> rfl
          rw [hv]
          generalize p (y * W + x) = v at *
          have y0 : 0 ≤ y := by omega
          have x0 : 0 ≤ x := by omega
          have x1 : x < W := by omega
          have y1 : y < H := by omega
          clear hA hv hp
          go_enter Try.func79, Try.ntmps79
          go_wp2
          go_ret
          exact ⟨rfl, by (repeat (first | exact Below.refl _ _ | assumption | refine Below.drew ?_ | refine below_drewN ?_ _ | refine Below.alloc ?_ (by first | omega | (simp; done) | (simp; omega)) _ | refine Below.setCell ?_ (by first | omega | (simp; done) | (simp; omega)) _ | refine below_setRow ?_ (by first | omega | (simp; done) | (simp; omega)) _ ))⟩
/-- the eight neighbours, as a value -/
def aroundV : Value := .agg #[.int .i64 0, .int .i64 (-1), .int .i64 1, .int .i64 (-1), .int .i64 1, .int .i64 0, .int .i64 1, .int .i64 1, .int .i64 0, .int .i64 1, .int .i64 (-1), .int .i64 1, .int .i64 (-1), .int .i64 0, .int .i64 (-1), .int .i64 (-1)]
set_option maxRecDepth 100000 in
set_option maxHeartbeats 2000000 in
theorem around_any (w : World) : Calls Try.prog 78 #[] w fun e w' => e = .returned aroundV ∧ Below w.heap.size w w' := by
  go_enter Try.func78, Try.ntmps78
  go_wp2_with fail
  have k := Blk.new w 115 #[Value.int .i64 0, .int .i64 (-1), .int .i64 1, .int .i64 (-1), .int .i64 1, .int .i64 0, .int .i64 1, .int .i64 1, .int .i64 0, .int .i64 1, .int .i64 (-1), .int .i64 1, .int .i64 (-1), .int .i64 0, .int .i64 (-1), .int .i64 (-1)]
  have hc := k.cell
  have b1 : Below w.heap.size w (w.alloc (.cells #[Value.int .i64 0, .int .i64 (-1), .int .i64 1, .int .i64 (-1), .int .i64 1, .int .i64 0, .int .i64 1, .int .i64 1, .int .i64 0, .int .i64 1, .int .i64 (-1), .int .i64 1, .int .i64 (-1), .int .i64 0, .int .i64 (-1), .int .i64 (-1)] 115)) := by (repeat (first | exact Below.refl _ _ | assumption | refine Below.drew ?_ | refine below_drewN ?_ _ | refine Below.alloc ?_ (by first | omega | (simp; done) | (simp; omega)) _ | refine Below.setCell ?_ (by first | omega | (simp; done) | (simp; omega)) _ | refine below_setRow ?_ (by first | omega | (simp; done) | (simp; omega)) _ ))
  refine bodyPost_ret (v := aroundV) (by simp [results, Try.results78, go_sem, aroundV, hc]) rfl ?_
  exact ⟨rfl, b1⟩
/-- the rectangle of corners -/
def boxV (b : Int × Int × Int × Int) : Value := .agg #[.int .i64 b.1, .int .i64 b.2.1, .int .i64 b.2.2.1, .int .i64 b.2.2.2]
end Go.Proofs.Ytoonkpjddfiopaa

/- Walk: the least rectangle of some points (image.box). -/
namespace Go.Proofs.Ytoonkpjddfiopaa
open Go.RowKit Go.Shelf
set_option linter.unusedVariables false
attribute [local go_sem] Oper.semAt_some

section
variable {w : World} {g t : Nat} {a b a' b' : Value}
theorem Blk.cells2 (h : Blk w g t #[a, b]) : w.cell? ⟨g, 0, none⟩ = some a ∧ w.cell? ⟨g, 1, none⟩ = some b := ⟨by rw [h.cell]; rfl, by rw [h.cell]; rfl⟩
theorem Blk.frozen2 (h : Blk w g t #[a, b]) : w.frozen? ⟨g, 0, none⟩ = false ∧ w.frozen? ⟨g, 1, none⟩ = false := ⟨h.frozen _, h.frozen _⟩
theorem Blk.fill2 (h : Blk w g t #[a, b]) : Blk ((w.setCell ⟨g, 0, none⟩ a').setCell ⟨g, 1, none⟩ b') g t #[a', b'] := (h.set_ 0 a').set_ 1 b'
theorem Blk.conv2 {x y x' y' : Int} (h : Blk w g t #[.int .i64 x, .int .i64 y]) (e1 : x = x') (e2 : y = y') : Blk w g t #[.int .i64 x', .int .i64 y'] := by subst e1 e2; exact h
theorem Blk.far2 {k : Nat} {cs : Array Value} (h : Blk w k t cs) (hk : k ≠ g) : Blk ((w.setCell ⟨g, 0, none⟩ a').setCell ⟨g, 1, none⟩ b') k t cs := (h.far (p := ⟨g, 0, none⟩) hk _).far (p := ⟨g, 1, none⟩) hk _
end
set_option maxRecDepth 100000 in
set_option maxHeartbeats 4000000 in
theorem box_any (W : Nat) (A : Option Addr) (l : List Nat) (c : Nat) (w : World) (hA : EArr w w.heap.size 2 (encP W) A l) (hs : ∀ i ∈ l, i < 1000000) (hl : l.length ≤ 1000000) :
    Calls Try.prog 83 #[.slice A l.length c] w fun e w' => ∃ b, e = .returned (boxV b) ∧ IsBox W l b ∧ Below w.heap.size w w' := by
  cases l with
  | nil =>
    have k := Blk.new w 92 #[Value.int .i64 0, .int .i64 0, .int .i64 0, .int .i64 0]
    have hc := k.cell
    show Calls Try.prog 83 #[.slice A 0 c] w _
    clear hA hs hl
    go_enter Try.func83, Try.ntmps83
    go_wp2_with fail
    refine bodyPost_ret (v := boxV (0, 0, 0, 0)) (by simp [results, Try.results83, go_sem, boxV, hc]) rfl ?_
    exact ⟨_, rfl, .inl ⟨rfl, rfl⟩, by (repeat (first | exact Below.refl _ _ | assumption | refine Below.drew ?_ | refine below_drewN ?_ _ | refine Below.alloc ?_ (by first | omega | (simp; done) | (simp; omega)) _ | refine Below.setCell ?_ (by first | omega | (simp; done) | (simp; omega)) _ | refine below_setRow ?_ (by first | omega | (simp; done) | (simp; omega)) _ ))⟩
  | cons i0 l =>
    obtain ⟨g, rfl, hg, hcell⟩ := hA (by simp)
    have c0 := hcell 0 i0 (by simp) 0 (by omega)
    have c1 := hcell 0 i0 (by simp) 1 (by omega)
    rw [show 0 * 2 + 0 = 0 from rfl] at c0
    rw [show 0 * 2 + 1 = 1 from rfl] at c1
    change _ = some (Value.int .i64 ((i0 % W : Nat) : Int)) at c0
    change _ = some (Value.int .i64 ((i0 / W : Nat) : Int)) at c1
    obtain ⟨L, hL⟩ : ∃ L, (i0 :: l).length = L := ⟨_, rfl⟩
    have hL0 : L = l.length + 1 := by rw [← hL]; rfl
    have hL1 : (1 : Int) ≤ (L : Int) := by omega
    have hL2 : (0 : Int) < (L : Int) := by omega
    have hLn : ¬ (L : Int) = 0 := by omega
    have HC := Lib.hid hcell
    have HL := Lib.hid hL
    obtain ⟨x0, hx0⟩ : ∃ x0 : Int, ((i0 % W : Nat) : Int) = x0 := ⟨_, rfl⟩
    obtain ⟨y0, hy0⟩ : ∃ y0 : Int, ((i0 / W : Nat) : Int) = y0 := ⟨_, rfl⟩
    rw [hx0] at c0
    rw [hy0] at c1
    have HX := Lib.hid hx0; have HY := Lib.hid hy0
    rw [hL] at hl
    rw [hL]
    have HS := Lib.hid hs
    have hL3 : 0 < L := by omega
    clear hA hcell hs hL hL0 hx0 hy0
    go_enter Try.func83, Try.ntmps83
    go_upto_region 3 with fail
    have kr := Blk.new w 92 #[Value.int .i64 0, .int .i64 0, .int .i64 0, .int .i64 0]
    have b1 : Below w.heap.size w (w.alloc (.cells #[.int .i64 0, .int .i64 0, .int .i64 0, .int .i64 0] 92)) := by (repeat (first | exact Below.refl _ _ | assumption | refine Below.drew ?_ | refine below_drewN ?_ _ | refine Below.alloc ?_ (by first | omega | (simp; done) | (simp; omega)) _ | refine Below.setCell ?_ (by first | omega | (simp; done) | (simp; omega)) _ | refine below_setRow ?_ (by first | omega | (simp; done) | (simp; omega)) _ ))
    have d0 : (w.alloc (.cells #[.int .i64 0, .int .i64 0, .int .i64 0, .int .i64 0] 92)).cell? ⟨g, 0, none⟩ = _ := (b1.cell (p := ⟨g, 0, none⟩) hg).trans c0
    have d1 : (w.alloc (.cells #[.int .i64 0, .int .i64 0, .int .i64 0, .int .i64 0] 92)).cell? ⟨g, 1, none⟩ = _ := (b1.cell (p := ⟨g, 1, none⟩) hg).trans c1
    have zr := kr.lt
    generalize w.alloc (.cells #[.int .i64 0, .int .i64 0, .int .i64 0, .int .i64 0] 92) = w1 at *
    go_cut [3, 4] (fun t3 t4 wx => ∃ ga gb, t3 = .pointer (some ⟨ga, 0, none⟩) ∧ t4 = .pointer (some ⟨gb, 0, none⟩) ∧ ga ≠ gb ∧ w1.heap.size ≤ ga ∧ w1.heap.size ≤ gb ∧ Blk wx ga 97 #[.int .i64 x0, .int .i64 y0] ∧ Blk wx gb 97 #[.int .i64 x0, .int .i64 y0] ∧ Below w1.heap.size w1 wx)
    case first =>
      go_region_held3 (fun w' => w'.cell? ⟨g, 0, none⟩ = some (.int .i64 x0) ∧ w'.cell? ⟨g, 1, none⟩ = some (.int .i64 y0)) ((first | (simp [go_sem, *]; done) | (go_keep; done))) (fail)
      all_goals
        go_wp2_with fail
        go_meet
      · exact ⟨_, _, rfl, rfl, by omega, by omega, by omega, ((Blk.new _ _ _).alloc _).drew, (Blk.new' (by simp) _ _).drew, by (repeat (first | exact Below.refl _ _ | assumption | refine Below.drew ?_ | refine below_drewN ?_ _ | refine Below.alloc ?_ (by first | omega | (simp; done) | (simp; omega)) _ | refine Below.setCell ?_ (by first | omega | (simp; done) | (simp; omega)) _ | refine below_setRow ?_ (by first | omega | (simp; done) | (simp; omega)) _ ))⟩
      · exact ⟨_, _, rfl, rfl, by omega, by omega, by omega, (Blk.new' (by simp) _ _).drew, ((Blk.new _ _ _).alloc _).drew, by (repeat (first | exact Below.refl _ _ | assumption | refine Below.drew ?_ | refine below_drewN ?_ _ | refine Below.alloc ?_ (by first | omega | (simp; done) | (simp; omega)) _ | refine Below.setCell ?_ (by first | omega | (simp; done) | (simp; omega)) _ | refine below_setRow ?_ (by first | omega | (simp; done) | (simp; omega)) _ ))⟩
    case rest =>
    obtain ⟨ga, gb, rfl, rfl, hne, hga, hgb, ka, kb, b2⟩ := hcut
    have kr2 := kr.below' b2
    generalize wc = w2 at *
    clear d0 d1 c0 c1
    have b12 := b1.trans (b2.mono b1.size)
    have zg : g < w1.heap.size := by omega
    have za := ka.lt
    have zb := kb.lt
    have CN := Lib.hid (Corn.one W i0)
    rw [HX.out, HY.out] at CN
    go_wp2_with fail
    go_loopw [19] (fun s wr => ∃ (k : Nat) (ax ay bx b_y : Int), k ≤ L ∧ s = .int .i64 k ∧ Below w1.heap.size w1 wr ∧ Blk wr ga 97 #[.int .i64 ax, .int .i64 ay] ∧ Blk wr gb 97 #[.int .i64 bx, .int .i64 b_y] ∧ Hid (Corn W (i0 :: (i0 :: l).take k) ax ay bx b_y)) (fun s _ => L - (intOf s).toNat)
    case atStart => exact ⟨0, _, _, _, _, by omega, rfl, b2, ka, kb, CN⟩
    case round =>
      obtain ⟨k, ax, ay, bx, b_y, hk, rfl, b3, ma, mb, HCo⟩ := hrel
      clear ka kb
      by_cases kl : (k : Int) < L
      · obtain ⟨i, hi⟩ : ∃ i, (i0 :: l)[k]? = some i := ⟨(i0 :: l)[k]'(by rw [HL.out]; omega), List.getElem?_eq_getElem _⟩
        have HI := Lib.hid hi
        have bb : Below w.heap.size w wr := b1.trans (b3.mono b1.size)
        have e0 := (bb.cell (p := ⟨g, k * 2 + 0, none⟩) hg).trans (HC.out k i hi 0 (by omega))
        have e1 := (bb.cell (p := ⟨g, k * 2 + 1, none⟩) hg).trans (HC.out k i hi 1 (by omega))
        change _ = some (Value.int .i64 ((i % W : Nat) : Int)) at e0
        change _ = some (Value.int .i64 ((i / W : Nat) : Int)) at e1
        rw [Nat.add_zero] at e0
        obtain ⟨u, hu⟩ : ∃ u : Int, ((i % W : Nat) : Int) = u := ⟨_, rfl⟩
        obtain ⟨v, hv⟩ : ∃ v : Int, ((i / W : Nat) : Int) = v := ⟨_, rfl⟩
        rw [hu] at e0
        rw [hv] at e1
        have HU := Lib.hid hu; have HV := Lib.hid hv
        clear hi hu hv
        obtain ⟨gq, hgq⟩ : ∃ q, wr.heap.size = q := ⟨_, rfl⟩
        go_upto_region 7 with fail
        have kq := Blk.new wr 97 #[.int .i64 u, .int .i64 v]
        have bq : Below wr.heap.size wr (wr.alloc (.cells #[.int .i64 u, .int .i64 v] 97)) := (Below.refl _ _).alloc (Nat.le_refl _) _
        have na := ma.below' bq
        have nb := mb.below' bq
        have b4 : Below w1.heap.size w1 _ := b3.trans (bq.mono b3.size)
        have zq : wr.heap.size ≠ ga := fun e => by have := ma.lt; omega
        have zq2 : wr.heap.size ≠ gb := fun e => by have := mb.lt; omega
        generalize wr.alloc (.cells #[.int .i64 u, .int .i64 v] 97) = w3 at *
        rw [hgq] at kq zq zq2
        clear e0 e1 bb ma mb b3 bq
        go_cut [19] (fun s wx => s = .int .i64 k ∧ Blk wx ga 97 #[.int .i64 (min ax u), .int .i64 (min ay v)] ∧ Blk wx gb 97 #[.int .i64 bx, .int .i64 b_y] ∧ Blk wx gq 97 #[.int .i64 u, .int .i64 v] ∧ Below w1.heap.size w1 wx)
        case first =>
          obtain ⟨f1, f2⟩ := na.cells2
          obtain ⟨f3, f4⟩ := kq.cells2
          obtain ⟨f5, f6⟩ := na.frozen2
          by_cases t1 : u < ax
          all_goals by_cases t2 : v < ay
          all_goals
            go_wp2_with fail
            go_meet
            refine ⟨rfl, ?_, nb.far2 (Ne.symm hne), kq.far2 zq, (b4.setCell (by show w1.heap.size ≤ ga; omega) _).setCell (by show w1.heap.size ≤ ga; omega) _⟩
            exact (na.fill2).conv2 (by omega) (by omega)
        case rest =>
        obtain ⟨rfl, pa, pb, pq, b5⟩ := hcut
        clear na nb kq b4
        generalize wc = w4 at *
        have HT : Hid ((i0 :: l).take (k + 1) = (i0 :: l).take k ++ [i]) := Lib.hid (by rw [List.take_add_one, HI.out]; rfl)
        obtain ⟨f1, f2⟩ := pb.cells2
        obtain ⟨f3, f4⟩ := pq.cells2
        obtain ⟨f5, f6⟩ := pb.frozen2
        by_cases t1 : bx < u
        all_goals by_cases t2 : b_y < v
        all_goals
          go_wp2_with fail
          go_roundw
          case rel =>
            refine ⟨k + 1, _, _, max bx u, max b_y v, by omega, by go_num, (b5.setCell (by show w1.heap.size ≤ gb; omega) _).setCell (by show w1.heap.size ≤ gb; omega) _, pa.far2 hne, (pb.fill2).conv2 (by omega) (by omega), Lib.hid ?_⟩
            rw [HT.out, ← List.cons_append, ← HU.out, ← HV.out]
            exact HCo.out.snoc i
          case measure => simp [intOf]; omega
      · have ek : k = L := by omega
        have CB : Corn W (i0 :: i0 :: l) ax ay bx b_y := by
          have := HCo.out
          rw [ek, ← HL.out, List.take_length] at this
          exact this
        have BX := CB.box
        have hbd : ax ≤ bx ∧ ay ≤ b_y ∧ 0 ≤ ax ∧ 0 ≤ ay ∧ bx ≤ 1000000 ∧ b_y ≤ 1000000 := by
          obtain ⟨j1, m1, e1⟩ := CB.ax
          obtain ⟨j2, m2, e2⟩ := CB.bx
          obtain ⟨j3, m3, e3⟩ := CB.ay
          obtain ⟨j4, m4, e4⟩ := CB.by'
          have n1 := CB.in_ j1 m1
          have hj : ∀ j ∈ i0 :: i0 :: l, j < 1000000 := fun j hj => HS.out j (by
            rcases List.mem_cons.1 hj with rfl | h
            · exact List.mem_cons_self ..
            · exact h)
          have s2 : j2 % W ≤ j2 := Nat.mod_le _ _
          have s4 : j4 / W ≤ j4 := Nat.div_le_self _ _
          have h2 := hj j2 m2; have h4 := hj j4 m4
          have p1 : (0 : Int) ≤ ((j1 % W : Nat) : Int) := Int.natCast_nonneg _
          have p3 : (0 : Int) ≤ ((j3 / W : Nat) : Int) := Int.natCast_nonneg _
          have s2' : ((j2 % W : Nat) : Int) ≤ 1000000 := by omega
          have s4' : ((j4 / W : Nat) : Int) ≤ 1000000 := by omega
          omega
        obtain ⟨o1, o2, o3, o4, o5, o6⟩ := hbd
        have kr3 := kr.below' b3
        obtain ⟨f1, f2⟩ := ma.cells2
        obtain ⟨f3, f4⟩ := mb.cells2
        have v1 : IntKind.i64.wrap (bx - ax) = bx - ax := IntWalk.i64_in _ (by omega)
        have v2 : IntKind.i64.wrap (bx - ax + 1) = bx - ax + 1 := IntWalk.i64_in _ (by omega)
        have v3 : IntKind.i64.wrap (b_y - ay) = b_y - ay := IntWalk.i64_in _ (by omega)
        have v4 : IntKind.i64.wrap (b_y - ay + 1) = b_y - ay + 1 := IntWalk.i64_in _ (by omega)
        have fz := fun i => kr3.frozen i
        have f5 := fz 0; have f6 := fz 1; have f7 := fz 2; have f8 := fz 3
        have hcr := kr3.cell
        have g5 := hcr 0; have g6 := hcr 1; have g7 := hcr 2; have g8 := hcr 3
        change _ = some _ at g5 g6 g7 g8
        clear fz hcr
        go_wp2_with fail
        have k9 := (((kr3.set_ 0 (.int .i64 ax)).set_ 1 (.int .i64 ay)).set_ 2 (.int .i64 (bx - ax + 1))).set_ 3 (.int .i64 (b_y - ay + 1))
        have e0 := k9.cell 0; have e1 := k9.cell 1; have e2 := k9.cell 2; have e3 := k9.cell 3
        change _ = some (Value.int .i64 (ax)) at e0
        change _ = some (Value.int .i64 (ay)) at e1
        change _ = some (Value.int .i64 ((bx - ax + 1))) at e2
        change _ = some (Value.int .i64 (b_y - ay + 1)) at e3
        refine bodyPost_ret (v := boxV (ax, ay, bx - ax + 1, b_y - ay + 1)) (by simp [results, Try.results83, go_sem, boxV, e0, e1, e2, e3]) rfl ?_
        have b9 : Below w.heap.size w wr := b1.trans (b3.mono b1.size)
        refine ⟨_, _, _, _, rfl, BX.perm fun i => by simp, ?_⟩
        exact (((b9.setCell (Nat.le_refl _) _).setCell (Nat.le_refl _) _).setCell (Nat.le_refl _) _).setCell (Nat.le_refl _) _
end Go.Proofs.Ytoonkpjddfiopaa

/- The library's sort at the lines: the contract laid at this program, and what it says of a row of slices. -/
namespace Go.Proofs.Ytoonkpjddfiopaa
open Go.RowKit Go.Shelf Go.Sort
set_option linter.unusedVariables false
attribute [local go_sem] Oper.semAt_some

theorem heap_sortWorld {α : Type} [Inhabited α] (enc : α → Value) (w : World) (blk off m : Nat) (d : Array α) (os : Array Obj) {k : Nat} (hk : k < w.heap.size) (hn : k ≠ blk) : (Go.Proofs.sortWorld enc w blk off m d os).heap[k]? = w.heap[k]? := by
  unfold Go.Proofs.sortWorld
  rw [heap_grow_old _ _ (by simpa [putRow, mapBlock, ahead] using hk)]
  show (w.heap.modify blk _)[k]? = _
  rw [Array.getElem?_modify, if_neg (fun e => hn e.symm)]
theorem heap_sortWorld_row {α : Type} [Inhabited α] (enc : α → Value) (w : World) (blk off m : Nat) (d : Array α) (os : Array Obj) {cs : Array Value} {e : TypeId} (h : w.heap[blk]? = some (.cells cs e (0, 0))) : (Go.Proofs.sortWorld enc w blk off m d os).heap[blk]? = some (.cells (putCells enc off d cs) e (0, 0)) := by
  have hk := (Array.getElem?_eq_some_iff.1 h).1
  unfold Go.Proofs.sortWorld
  rw [heap_grow_old _ _ (by simpa [putRow, mapBlock, ahead] using hk)]
  show (w.heap.modify blk _)[blk]? = _
  rw [Array.getElem?_modify, if_pos rfl, h]; rfl
theorem size_sortWorld {α : Type} [Inhabited α] (enc : α → Value) (w : World) (blk off m : Nat) (d : Array α) (os : Array Obj) : w.heap.size ≤ (Go.Proofs.sortWorld enc w blk off m d os).heap.size := by
  unfold Go.Proofs.sortWorld
  rw [size_grow]
  simp [putRow, mapBlock]
theorem putCells_take {α : Type} [Inhabited α] (enc : α → Value) (d : Array α) (cs : Array Value) (h : d.size ≤ cs.size) : (putCells enc 0 d cs).toList.take d.size = d.toList.map enc := by
  apply List.ext_getElem?
  intro i
  rw [List.getElem?_take]
  by_cases hi : i < d.size
  · rw [if_pos hi, List.getElem?_map]
    show (putCells enc 0 d cs).toList[i]? = _
    rw [Array.getElem?_toList]
    unfold putCells
    rw [Array.getElem?_mapIdx, Array.getElem?_eq_getElem (by omega), Option.map_some, if_pos (by omega), Nat.sub_zero, Array.getElem?_toList, Array.getElem?_eq_getElem hi, getElem!_pos d i hi]
    rfl
  · rw [if_neg hi, List.getElem?_map, Array.getElem?_toList, Array.getElem?_eq_none (by omega)]; rfl

end Go.Proofs.Ytoonkpjddfiopaa

/- Plain: runs of columns; neighbours that are alike struck from a list. No program in sight. -/
namespace Go.Proofs.Ytoonkpjddfiopaa
open Go.RowKit
set_option linter.unusedVariables false
abbrev Rn := Int × Int × Int
def encR (r : Rn) : List Value := [.int .i64 r.1, .int .i64 r.2.1, .int .i64 r.2.2]
/-- neighbours that are alike are struck -/
def dd : List Rn → List Rn
  | [] => []
  | [a] => [a]
  | a :: b :: t => if a = b then dd (b :: t) else a :: dd (b :: t)
theorem dd_cons_ne (a : Rn) : ∀ t : List Rn, dd (a :: t) ≠ []
  | [] => by simp [dd]
  | b :: t => by
    unfold dd
    split
    · exact dd_cons_ne b t
    · simp
theorem dd_snoc : ∀ (l : List Rn) (a b : Rn), dd (l ++ [a] ++ [b]) = if a = b then dd (l ++ [a]) else dd (l ++ [a]) ++ [b]
  | [], a, b => by
    by_cases h : a = b
    · subst h; simp [dd]
    · simp [dd, h]
  | [c], a, b => by
    have ih := dd_snoc [] a b
    simp only [List.nil_append, List.cons_append] at ih ⊢
    show dd (c :: a :: [b]) = if a = b then dd (c :: [a]) else dd (c :: [a]) ++ [b]
    unfold dd
    by_cases h : c = a
    · rw [if_pos h, if_pos h]; exact ih
    · rw [if_neg h, if_neg h, ih]
      split <;> simp
  | c :: d :: l, a, b => by
    have ih := dd_snoc (d :: l) a b
    simp only [List.cons_append] at ih ⊢
    have e1 : ∀ t, dd (c :: d :: t) = if c = d then dd (d :: t) else c :: dd (d :: t) := fun t => by rw [dd]
    rw [e1, e1, ih]
    by_cases h : c = d
    · rw [if_pos h, if_pos h]
    · rw [if_neg h, if_neg h]
      split <;> simp
theorem mem_dd : ∀ (l : List Rn) (r : Rn), r ∈ dd l ↔ r ∈ l
  | [], r => by simp [dd]
  | [a], r => by simp [dd]
  | a :: b :: t, r => by
    rw [dd]
    by_cases h : a = b
    · rw [if_pos h, mem_dd (b :: t) r]
      subst h; simp
    · rw [if_neg h, List.mem_cons, mem_dd (b :: t) r, List.mem_cons (a := r) (b := a)]
theorem dd_sub : ∀ l : List Rn, (dd l).Sublist l
  | [] => by simp [dd]
  | [a] => by simp [dd]
  | a :: b :: t => by
    rw [dd]
    split
    · exact (dd_sub (b :: t)).cons _
    · exact (dd_sub (b :: t)).cons_cons _
theorem dd_len (l : List Rn) : (dd l).length ≤ l.length := (dd_sub l).length_le
/-- before, by column and first row -/
def ltR (a b : Rn) : Prop := a.1 < b.1 ∨ (a.1 = b.1 ∧ a.2.1 < b.2.1)
def leR (a b : Rn) : Prop := a.1 < b.1 ∨ (a.1 = b.1 ∧ a.2.1 ≤ b.2.1)
theorem leR_trans {a b c : Rn} (h : leR a b) (h' : leR b c) : leR a c := by unfold leR at *; omega
/-- a list in order, of runs that their column and first row tell apart, has each once behind the striking -/
theorem dd_sorted : ∀ (l : List Rn), l.Pairwise leR → (∀ a ∈ l, ∀ b ∈ l, a.1 = b.1 → a.2.1 = b.2.1 → a = b) → (dd l).Pairwise ltR
  | [], _, _ => by simp [dd]
  | [a], _, _ => by simp [dd]
  | a :: b :: t, h, hk => by
    rw [dd]
    have h2 := (List.pairwise_cons.1 h).2
    have hk2 : ∀ x ∈ b :: t, ∀ y ∈ b :: t, x.1 = y.1 → x.2.1 = y.2.1 → x = y := fun x hx y hy => hk x (List.mem_cons_of_mem _ hx) y (List.mem_cons_of_mem _ hy)
    by_cases e : a = b
    · rw [if_pos e]; exact dd_sorted (b :: t) h2 hk2
    · rw [if_neg e, List.pairwise_cons]
      refine ⟨fun r hr => ?_, dd_sorted (b :: t) h2 hk2⟩
      have hr2 := (mem_dd _ r).1 hr
      have hab := (List.pairwise_cons.1 h).1 b (by simp)
      have hne : ltR a b := by
        unfold leR at hab
        unfold ltR
        by_cases c : a.1 = b.1 ∧ a.2.1 = b.2.1
        · exact absurd (hk a (by simp) b (by simp) c.1 c.2) e
        · omega
      rcases List.mem_cons.1 hr2 with rfl | hr3
      · exact hne
      · have := (List.pairwise_cons.1 h2).1 r hr3
        unfold leR at this
        unfold ltR at *
        omega
/-- strictly sorted lists with the same members are one -/
theorem ltR_uniq : ∀ {l l' : List Rn}, l.Pairwise ltR → l'.Pairwise ltR → (∀ r, r ∈ l ↔ r ∈ l') → l = l'
  | [], [], _, _, _ => rfl
  | [], b :: t, _, _, h => by have := (h b).2 (by simp); simp at this
  | a :: t, [], _, _, h => by have := (h a).1 (by simp); simp at this
  | a :: s, b :: t, h1, h2, h => by
    have irr : ∀ x : Rn, ¬ ltR x x := fun x hx => by unfold ltR at hx; omega
    have asy : ∀ x y : Rn, ltR x y → ¬ ltR y x := fun x y hx hy => by unfold ltR at *; omega
    have e : a = b := by
      rcases List.mem_cons.1 ((h a).1 (by simp)) with e | e
      · exact e
      · rcases List.mem_cons.1 ((h b).2 (by simp)) with e2 | e2
        · exact e2.symm
        · exact absurd ((List.pairwise_cons.1 h1).1 b e2) (asy _ _ ((List.pairwise_cons.1 h2).1 a e))
    subst e
    congr 1
    refine ltR_uniq (List.pairwise_cons.1 h1).2 (List.pairwise_cons.1 h2).2 fun r => ?_
    constructor
    · intro hr
      rcases List.mem_cons.1 ((h r).1 (List.mem_cons_of_mem _ hr)) with e | e
      · subst e; exact absurd ((List.pairwise_cons.1 h1).1 r hr) (irr r)
      · exact e
    · intro hr
      rcases List.mem_cons.1 ((h r).2 (List.mem_cons_of_mem _ hr)) with e | e
      · subst e; exact absurd ((List.pairwise_cons.1 h2).1 r hr) (irr r)
      · exact e
/-! ### the run of a column that holds a row -/
/-- its first row -/
def topN (p : Int → Int) (W x : Int) : Nat → Nat
  | 0 => 0
  | y + 1 => if p ((y : Int) * W + x) = 1 then topN p W x y else y + 1
/-- its last row: k rows lie below -/
def botN (p : Int → Int) (W x : Int) : Nat → Nat → Nat
  | 0, y => y
  | k + 1, y => if p (((y : Int) + 1) * W + x) = 1 then botN p W x k (y + 1) else y
theorem topN_le (p : Int → Int) (W x : Int) : ∀ y, topN p W x y ≤ y
  | 0 => Nat.le_refl _
  | y + 1 => by
    unfold topN; split
    · have := topN_le p W x y; omega
    · exact Nat.le_refl _
theorem botN_bd (p : Int → Int) (W x : Int) : ∀ k y, y ≤ botN p W x k y ∧ botN p W x k y ≤ y + k
  | 0, y => by simp [botN]
  | k + 1, y => by
    unfold botN; split
    · have := botN_bd p W x k (y + 1); omega
    · omega
/-- all rows between are ink -/
theorem topN_ink (p : Int → Int) (W x : Int) : ∀ y j, topN p W x y ≤ j → j < y → p ((j : Int) * W + x) = 1
  | 0, j, _, h => by omega
  | y + 1, j, h1, h2 => by
    unfold topN at h1
    by_cases c : p ((y : Int) * W + x) = 1
    · rw [if_pos c] at h1
      by_cases e : j = y
      · subst e; exact c
      · exact topN_ink p W x y j h1 (by omega)
    · rw [if_neg c] at h1; omega
/-- above it is no ink -/
theorem topN_up (p : Int → Int) (W x : Int) : ∀ y j, j + 1 = topN p W x y → p ((j : Int) * W + x) ≠ 1
  | 0, j, h => by simp [topN] at h
  | y + 1, j, h => by
    unfold topN at h
    by_cases c : p ((y : Int) * W + x) = 1
    · rw [if_pos c] at h; exact topN_up p W x y j h
    · rw [if_neg c] at h
      obtain rfl : j = y := by omega
      exact c
theorem botN_ink (p : Int → Int) (W x : Int) : ∀ k y j, y < j → j ≤ botN p W x k y → p ((j : Int) * W + x) = 1
  | 0, y, j, h1, h2 => by simp [botN] at h2; omega
  | k + 1, y, j, h1, h2 => by
    unfold botN at h2
    by_cases c : p (((y : Int) + 1) * W + x) = 1
    · rw [if_pos c] at h2
      by_cases e : j = y + 1
      · subst e; simpa using c
      · exact botN_ink p W x k (y + 1) j (by omega) h2
    · rw [if_neg c] at h2; omega
theorem botN_down (p : Int → Int) (W x : Int) : ∀ k y, botN p W x k y < y + k → p (((botN p W x k y : Nat) + 1 : Int) * W + x) ≠ 1
  | 0, y, h => by simp [botN] at h
  | k + 1, y, h => by
    unfold botN at h ⊢
    by_cases c : p (((y : Int) + 1) * W + x) = 1
    · rw [if_pos c] at h ⊢; exact botN_down p W x k (y + 1) (by omega)
    · rw [if_neg c]; exact c
end Go.Proofs.Ytoonkpjddfiopaa

/- Walk: the cheapest path of an image. -/
namespace Go.Proofs.Ytoonkpjddfiopaa
open Go.RowKit Go.Shelf
set_option linter.unusedVariables false
attribute [local go_sem] Oper.semAt_some

theorem Arr.far1 {w : World} {B n : Nat} {A : Option Addr} {f : Int → Value} (h : Arr w B A n f) {p : Addr} (hp : ∀ a, A = some a → a.block ≠ p.block) (u : Value) : Arr (w.setCell p u) B A n f := fun hn => by
  obtain ⟨b, off, e, hb, hc⟩ := h hn
  exact ⟨b, off, e, hb, fun i h0 hi => (World.cell?_of_block (heap_setCell_other w p b u (hp _ e))).trans (hc i h0 hi)⟩
/-- the search for the next row: none of these rows was the one; or the last one was -/
structure NxI {h : Int} (B12 : Nat) (f : Int → Bool) (a : Int) (w12 : World) (pre : List (RowIn h)) (W' : World) : Prop where
  bt : But w12.heap.size B12 w12 W'
  k : Blk W' B12 3 #[.int .i64 a]
  no : ∀ t ∈ pre, f t.1 = false
structure NxX {h : Int} (B12 : Nat) (f : Int → Bool) (w12 : World) (id : Nat) (c : Code) (pre : List (RowIn h)) (W' : World) : Prop where
  e : c = Code.exit id
  bt : But w12.heap.size B12 w12 W'
  ex : ∃ q t, pre = q ++ [t] ∧ (∀ s ∈ q, f s.1 = false) ∧ f t.1 = true ∧ Blk W' B12 3 #[.int .i64 t.1]

/-- what best returns: a cheapest path and its cost, or none -/
def BestOut (w : World) (W H : Int) (p : Int → Int) (fb : Int → Bool) (e : Ending) (w' : World) : Prop :=
  ((gAt 1073741824 W H (cst p W) (fun x y => fb (y * W + x)) 0 (pathP 1073741824 W H (cst p W) (fun x y => fb (y * W + x)) 0) = 1073741824 ∧ e = .returned (.tuple #[.slice none 0 0, .int .i64 0])) ∨
   (gAt 1073741824 W H (cst p W) (fun x y => fb (y * W + x)) 0 (pathP 1073741824 W H (cst p W) (fun x y => fb (y * W + x)) 0) < 1073741824 ∧
     ∃ v, e = .returned (.tuple #[v, .int .i64 (gAt 1073741824 W H (cst p W) (fun x y => fb (y * W + x)) 0 (pathP 1073741824 W H (cst p W) (fun x y => fb (y * W + x)) 0))]) ∧ w'.ownsRow w.heap.size 3 1 v W.toNat ((List.range W.toNat).map fun j => Value.int .i64 (pathP 1073741824 W H (cst p W) (fun x y => fb (y * W + x)) j)))) ∧
  Below w.heap.size w w'

end Go.Proofs.Ytoonkpjddfiopaa

/- Plain: the lines that are found one after the other, and what each marks as forbidden. No program in sight. -/
namespace Go.Proofs.Ytoonkpjddfiopaa
open Go.RowKit
set_option linter.unusedVariables false

/-- what is forbidden behind a line -/
def mkF (W : Int) (f : Int → Bool) (P : Nat → Int) : Int → Bool := fun i => f i || decide (P (i % W).toNat - 2 ≤ i / W ∧ i / W ≤ P (i % W).toNat + 2)
/-- the same while it is marked: the columns before x, and column x up to row t -/
def mkR (W : Int) (f : Int → Bool) (P : Nat → Int) (x : Nat) (t : Int) : Int → Bool := fun i =>
  f i || decide ((i % W < x ∧ P (i % W).toNat - 2 ≤ i / W ∧ i / W ≤ P (i % W).toNat + 2) ∨ (i % W = x ∧ P (i % W).toNat - 2 ≤ i / W ∧ i / W < t))
section
variable {W H : Int} {f : Int → Bool} {P : Nat → Int}
theorem bool_or_congr {a : Bool} {p q : Prop} [Decidable p] [Decidable q] (h : p ↔ q) : (a || decide p) = (a || decide q) := by
  rw [show decide p = decide q from by simp [h]]
theorem mkR_zero {i : Int} (hW : 0 < W) : mkR W f P 0 (P 0 - 2) i = f i := by
  unfold mkR
  have h1 : 0 ≤ i % W := Int.emod_nonneg _ (by omega)
  rw [show decide _ = false from decide_eq_false ?_, Bool.or_false]
  rintro (⟨h, -, -⟩ | ⟨h, h2, h3⟩)
  · omega
  · rw [h] at h2
    simp only [Int.natCast_zero, Int.toNat_zero] at h2
    omega
theorem mkR_start {x : Nat} {t i : Int} (h0 : 0 ≤ i) (hW : 0 < W) (ht : t = if P x - 2 < 0 then 0 else P x - 2) : mkR W f P x (P x - 2) i = mkR W f P x t i := by
  unfold mkR
  have h2 : 0 ≤ i / W := Int.ediv_nonneg h0 (by omega)
  refine bool_or_congr (or_congr Iff.rfl ?_)
  refine and_congr_right fun h => ?_
  rw [h, Int.toNat_natCast]
  split at ht <;> omega
theorem mkR_set {x : Nat} {t : Int} (hx : (x : Int) < W) (h1 : P x - 2 ≤ t) (i : Int) : (if i = t * W + x then true else mkR W f P x t i) = mkR W f P x (t + 1) i := by
  have a := idx_mod (x := (x : Int)) (y := t) (W := W) (by omega) hx
  have b := idx_div (x := (x : Int)) (y := t) (W := W) (by omega) hx
  by_cases e : i = t * W + x
  · rw [if_pos e]
    subst e
    unfold mkR
    rw [a, b, Int.toNat_natCast, show decide _ = true from decide_eq_true (.inr ⟨rfl, h1, by omega⟩), Bool.or_true]
  · rw [if_neg e]
    unfold mkR
    refine bool_or_congr (or_congr Iff.rfl ?_)
    refine and_congr_right fun h => ?_
    have : i / W ≠ t := fun h2 => e (by
      have := Int.emod_add_mul_ediv i W
      rw [h, h2, Int.mul_comm] at this; omega)
    omega
theorem mkR_col {x : Nat} {t i : Int} (h0 : 0 ≤ i) (hi : i < W * H) (hW : 0 < W) (ht : (if P x + 2 < H - 1 then P x + 2 else H - 1) < t) (ht2 : t ≤ P x + 3) : mkR W f P x t i = mkR W f P (x + 1) (P (x + 1) - 2) i := by
  have h1 : i / W < H := Int.ediv_lt_of_lt_mul hW (by rw [Int.mul_comm]; exact hi)
  unfold mkR
  refine bool_or_congr ?_
  constructor
  · rintro (⟨a, b, c⟩ | ⟨a, b, c⟩)
    · exact .inl ⟨by omega, b, c⟩
    · refine .inl ⟨by omega, b, ?_⟩
      rw [a, Int.toNat_natCast]
      omega
  · rintro (⟨a, b, c⟩ | ⟨a, b, c⟩)
    · by_cases e : i % W = x
      · refine .inr ⟨e, b, ?_⟩
        rw [e, Int.toNat_natCast] at c
        split at ht <;> omega
      · exact .inl ⟨by omega, b, c⟩
    · rw [a, Int.toNat_natCast] at b
      omega
theorem mkR_end {n : Nat} {i : Int} (hW : 0 < W) (hn : (n : Int) = W) : mkR W f P n (P n - 2) i = mkF W f P i := by
  unfold mkR mkF
  have h1 : i % W < W := Int.emod_lt_of_pos _ hW
  refine bool_or_congr ?_
  constructor
  · rintro (⟨a, b, c⟩ | ⟨a, b, c⟩)
    · exact ⟨b, c⟩
    · omega
  · rintro ⟨b, c⟩
    exact .inl ⟨by omega, b, c⟩
end

section
variable (N W H : Int) (c : Int → Int → Int)
/-- what is forbidden when k lines are found -/
def FB : Nat → Int → Bool
  | 0 => fun _ => false
  | k + 1 => mkF W (FB k) (pathP N W H c fun x y => FB k (y * W + x))
/-- line number k, in the order of finding, and its cost -/
def LN (k : Nat) : Nat → Int := pathP N W H c fun x y => FB N W H c k (y * W + x)
def GC (k : Nat) : Int := gAt N W H c (fun x y => FB N W H c k (y * W + x)) 0 (LN N W H c k 0)
def Good (k : Nat) : Prop := GC N W H c k < N ∧ 8 * GC N W H c k ≤ W
/-- so many lines are found -/
def Many (k : Nat) : Prop := k ≤ 60 ∧ (∀ j, j < k → Good N W H c j) ∧ (k < 60 → ¬ Good N W H c k)
end
theorem Many.uniq {N W H : Int} {c : Int → Int → Int} {k k' : Nat} (h : Many N W H c k) (h' : Many N W H c k') : k = k' := by
  rcases Nat.lt_trichotomy k k' with g | g | g
  · exact absurd (h'.2.1 k g) (h.2.2 (by have := h'.1; omega))
  · exact g
  · exact absurd (h.2.1 k' g) (h'.2.2 (by have := h.1; omega))

theorem ln_ok {N W H : Int} {c : Int → Int → Int} {k : Nat} (hc : ∀ x y, 0 ≤ c x y ∧ c x y ≤ 2) (hN : 3 * W < N) (hW : 0 < W) (hH : 0 < H) (hg : GC N W H c k < N) (x : Nat) (hx : (x : Int) < W) :
    0 ≤ LN N W H c k x ∧ LN N W H c k x < H ∧ FB N W H c k (LN N W H c k x * W + x) = false := by
  obtain ⟨h1, h2, h3⟩ := path_ok (F := fun x y => FB N W H c k (y * W + x)) hc hN hH hW hg x hx
  refine ⟨h1, h2, ?_⟩
  cases hF : FB N W H c k (LN N W H c k x * W + x) with
  | false => rfl
  | true =>
    exfalso
    have hF' : (fun x y => FB N W H c k (y * W + x)) (x : Int) (pathP N W H c (fun x y => FB N W H c k (y * W + x)) x) = true := hF
    by_cases hl : (x : Int) < W - 1
    · rw [gAt_step (by omega) hl, if_pos hF'] at h3; omega
    · have e : (x : Int) = W - 1 := by omega
      rw [e] at h3 hF'
      rw [gAt_last, if_pos hF'] at h3; omega

/-- the cells of a row of truth values -/
def bools (n : Nat) (f : Int → Bool) : Array Value := cellsF n fun j => .bool (f j)
theorem bools_congr {n : Nat} {f f' : Int → Bool} (he : ∀ i : Int, 0 ≤ i → i < n → f i = f' i) : bools n f = bools n f' := cellsF_congr fun j a b => by rw [he j a b]
theorem Blk.bset {w : World} {g t n : Nat} {f : Int → Bool} (h : Blk w g t (bools n f)) (i : Int) (h0 : 0 ≤ i) (b : Bool) : Blk (w.setCell ⟨g, i.toNat, none⟩ (.bool b)) g t (bools n fun j => if j = i then b else f j) := by
  have e : (bools n f).setIfInBounds i.toNat (.bool b) = bools n fun j => if j = i then b else f j := by
    unfold bools
    rw [cellsF_set n _ i h0]
    exact cellsF_congr fun j _ _ => by
      show (if j = i then Value.bool b else Value.bool (f j)) = Value.bool (if j = i then b else f j)
      split <;> rfl
  rw [← e]
  exact h.set_ i.toNat (.bool b)
theorem Blk.bconv {w : World} {g t n : Nat} {f f' : Int → Bool} (h : Blk w g t (bools n f)) (he : ∀ i : Int, 0 ≤ i → i < n → f i = f' i) : Blk w g t (bools n f') := by
  rw [← bools_congr he]; exact h
theorem bools_zero (n : Nat) : Array.replicate n (Value.bool false) = bools n (fun _ => false) := replicate_cellsF _ _
end Go.Proofs.Ytoonkpjddfiopaa

/- Walk: the lines of an image (stave.Trace). -/
namespace Go.Proofs.Ytoonkpjddfiopaa
open Go.RowKit Go.Shelf
set_option linter.unusedVariables false
attribute [local go_sem] Oper.semAt_some

theorem infoBool : (Try.prog.info? 4).map (fun i => (i.zero, i.size, i.bytes)) = some (some (.bool false), 1, 1) := by kernel_rfl
theorem infoInts : (Try.prog.info? 53).map (fun i => (i.zero, i.size, i.bytes)) = some (some (.slice none 0 0), 1, 24) := by kernel_rfl
/-- k lines, a slice each, in memory of the call's own -/
structure Found (B : Nat) (w : World) (m : Nat) (ln : Nat → Nat → Int) (k : Nat) (vo : Value) (v : Nat → Value) : Prop where
  row : w.ownsRow B 53 1 vo k ((List.range k).map v)
  lines : ∀ i, i < k → w.ownsRow B 3 1 (v i) m ((List.range m).map fun j => Value.int .i64 (ln i j))
theorem Found.below {B : Nat} {w w' : World} {m : Nat} {ln : Nat → Nat → Int} {k : Nat} {vo : Value} {v : Nat → Value} (h : Found B w m ln k vo v) (hb : Below w.heap.size w w') : Found B w' m ln k vo v :=
  ⟨own_below h.row hb, fun i hi => own_below (h.lines i hi) hb⟩
theorem Found.far {B : Nat} {w : World} {m g t : Nat} {cs : Array Value} {ln : Nat → Nat → Int} {k : Nat} {vo : Value} {v : Nat → Value} (h : Found B w m ln k vo v) (hb : Blk w g t cs) (h1 : t ≠ 53) (h2 : t ≠ 3) (o : Nat) (u : Value) : Found B (w.setCell ⟨g, o, none⟩ u) m ln k vo v :=
  ⟨own_far h.row hb h1.symm o u, fun i hi => own_far (h.lines i hi) hb h2.symm o u⟩

/-- an owned row of numbers, read -/
theorem own_arrI {w : World} {B m : Nat} {v : Value} {q : Nat → Int} (h : w.ownsRow B 3 1 v m ((List.range m).map fun j => Value.int .i64 (q j))) : ∃ A c, v = .slice A m c ∧ ArrI w w.heap.size A m (fun j => q j.toNat) := by
  obtain ⟨A, c, e, -, ha⟩ := own_arr h
  refine ⟨A, c, e, Arr.congr ha fun i i0 i1 => ?_⟩
  rw [List.getD_eq_getElem?_getD, List.getElem?_map, List.getElem?_range (by omega)]
  rfl
theorem own_some {w : World} {B e m : Nat} {v : Value} {xs : List Value} (h : w.ownsRow B e 1 v m xs) (hm : 0 < m) : ∃ g c, v = .slice (some ⟨g, 0, none⟩) m c := by
  rcases h.2 with ⟨-, h2⟩ | ⟨g, cap, cur, hv, -⟩
  · omega
  · exact ⟨g, cap, hv⟩

/-- what Trace returns: so many lines, in the order of their first rows -/
def TraceOut (w : World) (W H : Int) (p : Int → Int) (v : Value) (w' : World) : Prop :=
  ∃ (k : Nat) (l : List Nat) (vs : Nat → Value), Many 1073741824 W H (cst p W) k ∧ l.Perm (List.range k) ∧ l.Pairwise (fun i j => LN 1073741824 W H (cst p W) i 0 ≤ LN 1073741824 W H (cst p W) j 0) ∧
    w'.ownsRow w.heap.size 53 1 v k (l.map vs) ∧ ∀ i, i < k → w'.ownsRow w.heap.size 3 1 (vs i) W.toNat ((List.range W.toNat).map fun j => Value.int .i64 (LN 1073741824 W H (cst p W) i j))

end Go.Proofs.Ytoonkpjddfiopaa

/- Plain: the least costs column by column as lists, to reckon examples. No program in sight. -/
namespace Go.Proofs.Ytoonkpjddfiopaa
open Go.RowKit
set_option linter.unusedVariables false

section
variable (N W H : Int) (c : Int → Int → Int) (F : Int → Int → Bool)
def stepL (d : List Int) (x : Int) : List Int := (List.range H.toNat).map fun (y : Nat) => if F x y then N else min (mfold N (goTo (fun t => d.getD t.toNat 0) y) (nxLo y) (nxN H y) + c x y) N
def colL : Nat → List Int
  | 0 => (List.range H.toNat).map fun (y : Nat) => if F (W - 1) y then N else min (c (W - 1) y) N
  | k + 1 => stepL N H c F (colL k) (W - 1 - (k + 1 : Nat))
def nxtL (d : List Int) (g cc a : Int) : Int := ((nbT a (nxN H a)).find? fun t => decide (goTo (fun t => d.getD t.toNat 0) a t = g - cc)).getD a
def pathL : Nat → Int
  | 0 => fmin (fun t => (colL N W H c F (W - 1).toNat).getD t.toNat 0) H.toNat
  | x + 1 => nxtL H (colL N W H c F (W - 1 - (x + 1 : Nat)).toNat) ((colL N W H c F (W - 1 - x).toNat).getD (pathL x).toNat 0) (c x (pathL x)) (pathL x)
end
theorem mfold_congr {N : Int} {f g : Int → Int} {lo : Int} {j : Nat} (h : ∀ i : Nat, i < j → f (lo + i) = g (lo + i)) : mfold N f lo j = mfold N g lo j := by
  induction j with
  | zero => rfl
  | succ j ih => rw [mfold, mfold, ih (fun i hi => h i (by omega)), h j (by omega)]
theorem fmin_congr {f g : Int → Int} {n : Nat} (h : ∀ i : Int, 0 ≤ i → i < n → f i = g i) : fmin f n = fmin g n := by
  induction n with
  | zero => rfl
  | succ n ih =>
    have e := ih fun i a b => h i a (by omega)
    have b := fmin_bd g n
    rw [fmin, fmin, e, h n (by omega) (by omega)]
    by_cases hn : 0 < n
    · rw [h (fmin g n) b.1 (by have := b.2 hn; omega)]
    · obtain rfl : n = 0 := by omega
      rw [show fmin g 0 = (0 : Nat) from rfl, h (0 : Nat) (by omega) (by omega)]
theorem getD_range_map (n : Nat) (f : Nat → Int) (y : Int) (h0 : 0 ≤ y) (h : y < n) : ((List.range n).map f).getD y.toNat 0 = f y.toNat := by
  rw [List.getD_eq_getElem?_getD, List.getElem?_map, List.getElem?_range (by omega)]; rfl
theorem colL_eq {N W H : Int} {c : Int → Int → Int} {F : Int → Int → Bool} (k : Nat) (y : Int) (h0 : 0 ≤ y) (h : y < H) : gcol N W H c F k y = (colL N W H c F k).getD y.toNat 0 := by
  induction k generalizing y with
  | zero =>
    rw [colL, getD_range_map _ _ _ h0 (by omega), gcol, Int.toNat_of_nonneg h0]
  | succ k ih =>
    rw [colL, stepL, getD_range_map _ _ _ h0 (by omega), gcol, Int.toNat_of_nonneg h0]
    have : mfold N (goTo (gcol N W H c F k) y) (nxLo y) (nxN H y) = mfold N (goTo (fun t => (colL N W H c F k).getD t.toNat 0) y) (nxLo y) (nxN H y) := mfold_congr fun i hi => by
      have h1 := (nx_in h0 h i).1 hi
      unfold goTo
      rw [ih (nxLo y + i) (by unfold nxLo; split <;> omega) h1.1]
    rw [this]
theorem nb_mem {H a t : Int} (a0 : 0 ≤ a) (a1 : a < H) (h : t ∈ nbT a (nxN H a)) : 0 ≤ t ∧ t < H := by
  obtain ⟨j, hj, rfl⟩ := List.mem_map.1 h
  have h1 := (nx_in a0 a1 j).1 (List.mem_range.1 hj)
  have : 0 ≤ nxLo a := by unfold nxLo; split <;> omega
  omega
theorem find_congr {f g : Int → Bool} {l : List Int} (h : ∀ t ∈ l, f t = g t) : l.find? f = l.find? g := by
  induction l with
  | nil => rfl
  | cons a l ih => rw [List.find?_cons, List.find?_cons, h a (List.mem_cons_self ..), ih fun t ht => h t (List.mem_cons_of_mem _ ht)]
theorem nxt_in {N W H : Int} {c : Int → Int → Int} {F : Int → Int → Bool} {x a : Int} (a0 : 0 ≤ a) (a1 : a < H) : 0 ≤ nxt N W H c F x a ∧ nxt N W H c F x a < H := by
  rw [nxt_find]
  cases h : (nbT a (nxN H a)).find? (fun t => decide (goTo (gAt N W H c F (x + 1)) a t = gAt N W H c F x a - c x a)) with
  | none => exact ⟨a0, a1⟩
  | some t => exact nb_mem a0 a1 (List.mem_of_find?_eq_some h)
theorem pathL_eq {N W H : Int} {c : Int → Int → Int} {F : Int → Int → Bool} (hH : 0 < H) (x : Nat) : pathP N W H c F x = pathL N W H c F x ∧ 0 ≤ pathP N W H c F x ∧ pathP N W H c F x < H := by
  induction x with
  | zero =>
    have b := fmin_bd (gAt N W H c F 0) H.toNat
    refine ⟨?_, b.1, by have := b.2 (by omega); show fmin _ _ < _; omega⟩
    show fmin _ _ = fmin _ _
    refine fmin_congr fun i a b => ?_
    unfold gAt
    rw [colL_eq _ i a (by omega), Int.sub_zero]
  | succ x ih =>
    obtain ⟨e, i0, i1⟩ := ih
    refine ⟨?_, nxt_in i0 i1⟩
    show nxt N W H c F x (pathP N W H c F x) = _
    rw [nxt_find, pathL, ← e, nxtL]
    congr 1
    refine find_congr fun t ht => ?_
    obtain ⟨t0, t1⟩ := nb_mem i0 i1 ht
    have h1 : gAt N W H c F (x + 1) t = (colL N W H c F (W - 1 - (x + 1 : Nat)).toNat).getD t.toNat 0 := colL_eq _ t t0 t1
    have h2 : gAt N W H c F x (pathP N W H c F x) = (colL N W H c F (W - 1 - x).toNat).getD (pathP N W H c F x).toNat 0 := colL_eq _ _ i0 i1
    unfold goTo
    rw [h1, h2]

def rowQ (hole : Int) : Int → Int := fun i => if 32 ≤ i ∧ i < 48 ∧ i - 32 ≠ hole then 1 else 0
def rowQ2 : Int → Int := fun i => if i = 23 then 1 else rowQ 7 i
theorem rowQ_B (h : Int) : IsB (rowQ h) := fun i => by unfold rowQ; split <;> omega
theorem rowQ2_B : IsB rowQ2 := fun i => by unfold rowQ2; split; omega; exact rowQ_B 7 i
theorem aw1 : allN 16 (fun i => decide (pathL 1073741824 16 5 (cst (rowQ 7) 16) (fun _ _ => false) i.toNat = 2)) = true := by decide +kernel
theorem aw2 : (colL 1073741824 16 5 (cst (rowQ 7) 16) (fun _ _ => false) 15).getD 2 0 = 2 := by decide +kernel
theorem aw3 : pathL 1073741824 16 5 (cst rowQ2 16) (fun _ _ => false) 0 = 2 ∧ pathL 1073741824 16 5 (cst rowQ2 16) (fun _ _ => false) 7 = 1 := by decide +kernel
theorem aw4 : (colL 1073741824 16 5 (cst rowQ2 16) (fun _ _ => false) 15).getD 2 0 = 2 := by decide +kernel
theorem aw1' : pathL 1073741824 16 5 (cst (rowQ 7) 16) (fun _ _ => false) 0 = 2 := of_decide_eq_true (allN_iff.1 aw1 0 (by decide) (by decide))
theorem aw1'' (i : Int) (h0 : 0 ≤ i) (h : i < (16 : Nat)) : LN 1073741824 16 5 (cst (rowQ 7) 16) 0 i.toNat = 2 := (pathL_eq (by decide) i.toNat).1.trans (of_decide_eq_true (allN_iff.1 aw1 i h0 h))
theorem aw3' : LN 1073741824 16 5 (cst rowQ2 16) 0 7 = 1 := (pathL_eq (by decide) 7).1.trans aw3.2
/-- one line, if the first path is cheap and begins in row 2 of five rows -/
theorem many_one {p : Int → Int} (h0 : pathL 1073741824 16 5 (cst p 16) (fun _ _ => false) 0 = 2) (h1 : (colL 1073741824 16 5 (cst p 16) (fun _ _ => false) 15).getD 2 0 = 2) : Many 1073741824 16 5 (cst p 16) 1 := by
  have e0 : LN 1073741824 16 5 (cst p 16) 0 0 = 2 := (pathL_eq (by decide) 0).1.trans h0
  have g0 : GC 1073741824 16 5 (cst p 16) 0 = 2 := by
    unfold GC
    rw [e0]
    exact (colL_eq (15 : Nat) 2 (by decide) (by decide)).trans h1
  refine ⟨by decide, fun j hj => ?_, fun _ hg => ?_⟩
  · obtain rfl : j = 0 := by omega
    exact ⟨by rw [g0]; decide, by rw [g0]; decide⟩
  · have b := (pathL_eq (N := 1073741824) (W := 16) (H := 5) (c := cst p 16) (F := fun x y => FB 1073741824 16 5 (cst p 16) 1 (y * 16 + x)) (by decide) 0).2
    have h2 := hg.1
    unfold GC at h2
    rw [gAt_step (by decide) (by decide), if_pos] at h2
    · omega
    · show FB 1073741824 16 5 (cst p 16) (0 + 1) (LN 1073741824 16 5 (cst p 16) 1 0 * 16 + 0) = true
      have b' : 0 ≤ LN 1073741824 16 5 (cst p 16) 1 0 ∧ LN 1073741824 16 5 (cst p 16) 1 0 < 5 := b
      rw [FB]
      unfold mkF
      rw [show (LN 1073741824 16 5 (cst p 16) 1 0 * 16 + 0) % 16 = 0 by omega, show (LN 1073741824 16 5 (cst p 16) 1 0 * 16 + 0) / 16 = LN 1073741824 16 5 (cst p 16) 1 0 by omega]
      show (_ || decide (LN 1073741824 16 5 (cst p 16) 0 0 - 2 ≤ _ ∧ _ ≤ LN 1073741824 16 5 (cst p 16) 0 0 + 2)) = true
      rw [e0, Bool.or_eq_true]
      exact .inr (decide_eq_true (by omega))
end Go.Proofs.Ytoonkpjddfiopaa

/- Walks: an image with one row of ink (custoslaw03.row), flat lines (custoslaw03.flat), slices.Clone of numbers. -/
namespace Go.Proofs.Ytoonkpjddfiopaa
open Go.RowKit Go.Shelf
set_option linter.unusedVariables false
attribute [local go_sem] Oper.semAt_some

theorem own_i64s {w : World} {g m base : Nat} {q : Int → Int} (h : Blk w g 3 (i64s m q)) (hb : base ≤ g) (hm : m ≤ maxLen) : w.ownsRow base 3 1 (.slice (some ⟨g, 0, none⟩) m m) m ((List.range m).map fun (j : Nat) => Value.int .i64 (q j)) := by
  refine ⟨by simp, .inr ⟨g, m, i64s m q, rfl, hb, h, Nat.le_refl _, hm, by rw [i64s_size, Nat.mul_one], ?_⟩⟩
  rw [Nat.mul_one]
  exact List.take_of_length_le (by simp [i64s, cellsF])
theorem Found.snoc {B m k : Nat} {w w' : World} {ln : Nat → Nat → Int} {vo v' : Value} {v : Nat → Value} {u : Value} (h : Found B w m ln k vo v) (hu : w.ownsRow B 3 1 u m ((List.range m).map fun j => Value.int .i64 (ln k j)))
    (hg : w.grownBy w' vo.ownBlock) (hr : w'.ownsRow B 53 1 v' (k + 1) ((List.range k).map v ++ [u])) : Found B w' m ln (k + 1) v' (fun i => if i = k then u else v i) := by
  refine ⟨?_, fun i hi => ?_⟩
  · rw [range_snoc]
    simp only [if_true]
    rw [show (List.range k).map (fun i => if i = k then u else v i) = (List.range k).map v from List.map_congr_left fun i hi => by rw [if_neg]; have := List.mem_range.1 hi; omega]
    exact hr
  · show World.ownsRow _ _ _ _ (if i = k then _ else v i) _ _
    by_cases e : i = k
    · subst e
      rw [if_pos rfl]
      exact own_grown hu h.row (by decide) hg
    · rw [if_neg e]
      exact own_grown (h.lines i (by omega)) h.row (by decide) hg

end Go.Proofs.Ytoonkpjddfiopaa

/- Walks: the least and the greatest of a list of numbers; whether five lines have gaps that are alike (stave.even). -/
namespace Go.Proofs.Ytoonkpjddfiopaa
open Go.RowKit Go.Shelf
set_option linter.unusedVariables false
attribute [local go_sem] Oper.semAt_some

def minA (q : Int → Int) : Nat → Int
  | 0 => q 0
  | i + 1 => if q ((i : Int) + 1) < minA q i then q ((i : Int) + 1) else minA q i
def maxA (q : Int → Int) : Nat → Int
  | 0 => q 0
  | i + 1 => if maxA q i < q ((i : Int) + 1) then q ((i : Int) + 1) else maxA q i
/-- lines that came in: a slice of slices -/
def Lines (w : World) (B : Nat) (A : Option Addr) (K : Nat) (m : Nat → Nat) (ln : Nat → Nat → Int) : Prop :=
  ∃ vs : Nat → Value, Arr w B A K (fun j => vs j.toNat) ∧ ∀ i, i < K → ∃ A' c', vs i = .slice A' (m i) c' ∧ ArrI w B A' (m i) (fun j => ln i j.toNat)
theorem Lines.below {w w' : World} {A : Option Addr} {K : Nat} {m : Nat → Nat} {ln : Nat → Nat → Int} (h : Lines w w.heap.size A K m ln) (hb : Below w.heap.size w w') : Lines w' w'.heap.size A K m ln := by
  obtain ⟨vs, h1, h2⟩ := h
  exact ⟨vs, (Arr.below h1 hb).more hb.size, fun i hi => by obtain ⟨A', c', e, ha⟩ := h2 i hi; exact ⟨A', c', e, ha.to hb⟩⟩
theorem Lines.at_ {w : World} {B : Nat} {A : Option Addr} {K : Nat} {m : Nat → Nat} {ln : Nat → Nat → Int} (h : Lines w B A K m ln) {i : Nat} (hi : i < K) :
    ∃ b off A' c', A = some ⟨b, off, none⟩ ∧ b < B ∧ w.cell? ⟨b, off + i, none⟩ = some (.slice A' (m i) c') ∧ ArrI w B A' (m i) (fun j => ln i j.toNat) := by
  obtain ⟨vs, h1, h2⟩ := h
  obtain ⟨b, off, e, hb, hc⟩ := Arr.at_ h1 (i := (i : Int)) (by omega) (by omega)
  rw [Int.toNat_natCast] at hc
  obtain ⟨A', c', e', ha⟩ := h2 i hi
  exact ⟨b, off, A', c', e, hb, by rw [hc, e'], ha⟩

/-- the gaps of lines at both ends, two of a pair of lines -/
def gapF (ln : Nat → Nat → Int) (m : Nat) (j : Nat) : Int := if j % 2 = 0 then ln (j / 2 + 1) 0 - ln (j / 2) 0 else ln (j / 2 + 1) (m - 1) - ln (j / 2) (m - 1)
def evenV (ln : Nat → Nat → Int) (m : Nat) : Bool := decide (2 ≤ minA (fun j => gapF ln m j.toNat) 7 ∧ maxA (fun j => gapF ln m j.toNat) 7 ≤ 64 ∧ maxA (fun j => gapF ln m j.toNat) 7 - minA (fun j => gapF ln m j.toNat) 7 ≤ 2)
def evenB (m : Nat → Nat) (ln : Nat → Nat → Int) : Bool := ((List.range 5).all fun i => decide (0 < m i ∧ m i = m 0)) && evenV ln (m 0)
theorem gap_snoc (ln : Nat → Nat → Int) (m i : Nat) : (List.range (2 * (i + 1))).map (fun j => Value.int .i64 (gapF ln m j)) = (List.range (2 * i)).map (fun j => Value.int .i64 (gapF ln m j)) ++ [.int .i64 (ln (i + 1) 0 - ln i 0), .int .i64 (ln (i + 1) (m - 1) - ln i (m - 1))] := by
  rw [show 2 * (i + 1) = 2 * i + 1 + 1 by omega, range_snoc, range_snoc, List.append_assoc]
  have e1 : gapF ln m (2 * i) = ln (i + 1) 0 - ln i 0 := by unfold gapF; rw [if_pos (by omega), show 2 * i / 2 = i by omega]
  have e2 : gapF ln m (2 * i + 1) = ln (i + 1) (m - 1) - ln i (m - 1) := by unfold gapF; rw [if_neg (by omega), show (2 * i + 1) / 2 = i by omega]
  rw [e1, e2]; rfl
theorem minA_bd {q : Int → Int} {b : Int} (n : Nat) (h : ∀ i : Int, 0 ≤ i → i ≤ n → -b ≤ q i ∧ q i ≤ b) : -b ≤ minA q n ∧ minA q n ≤ b := by
  induction n with
  | zero => exact h 0 (by omega) (by omega)
  | succ n ih =>
    have := ih fun i a c => h i a (by omega)
    have := h ((n : Int) + 1) (by omega) (by omega)
    rw [minA]; split <;> omega
theorem maxA_bd {q : Int → Int} {b : Int} (n : Nat) (h : ∀ i : Int, 0 ≤ i → i ≤ n → -b ≤ q i ∧ q i ≤ b) : -b ≤ maxA q n ∧ maxA q n ≤ b := by
  induction n with
  | zero => exact h 0 (by omega) (by omega)
  | succ n ih =>
    have := ih fun i a c => h i a (by omega)
    have := h ((n : Int) + 1) (by omega) (by omega)
    rw [maxA]; split <;> omega

end Go.Proofs.Ytoonkpjddfiopaa

/- Walks: whether a stave fits an image (stave.fits, stave.Check; the reference's Fits, Check). -/
namespace Go.Proofs.Ytoonkpjddfiopaa
open Go.RowKit Go.Shelf
set_option linter.unusedVariables false
attribute [local go_sem] Oper.semAt_some

/-- five lines are paths of the image and lie one under the other -/
def StP (W H : Int) (K : Nat) (m : Nat → Nat) (ln : Nat → Nat → Int) : Prop :=
  K = 5 ∧ (∀ i, i < 5 → isPathB W H (m i) (fun j => ln i j.toNat) = true) ∧ ∀ i, i + 1 < 5 → ∀ x : Nat, (x : Int) < W → ln i x < ln (i + 1) x
def stFits (W H : Int) (K : Nat) (m : Nat → Nat) (ln : Nat → Nat → Int) : Bool :=
  decide (K = 5) && (((List.range 5).all fun i => isPathB W H (m i) fun j => ln i j.toNat) && (List.range 4).all fun i => (List.range W.toNat).all fun x => decide (ln i x < ln (i + 1) x))
theorem stFits_iff {W H : Int} {K : Nat} {m : Nat → Nat} {ln : Nat → Nat → Int} : stFits W H K m ln = true ↔ StP W H K m ln := by
  unfold stFits StP
  rw [Bool.and_eq_true, Bool.and_eq_true, decide_eq_true_iff, List.all_eq_true, List.all_eq_true]
  refine and_congr_right fun _ => and_congr ⟨fun h i hi => h i (List.mem_range.2 hi), fun h i hi => h i (List.mem_range.1 hi)⟩ ⟨fun h i hi x hx => ?_, fun h i hi => ?_⟩
  · have := List.all_eq_true.1 (h i (List.mem_range.2 (by omega))) x (List.mem_range.2 (by omega))
    simpa using this
  · rw [List.all_eq_true]
    intro x hx
    have := List.mem_range.1 hi
    have := List.mem_range.1 hx
    exact decide_eq_true (h i (by omega) x (by omega))
theorem stFits_no {W H : Int} {K : Nat} {m : Nat → Nat} {ln : Nat → Nat → Int} (h : ¬ StP W H K m ln) : stFits W H K m ln = false := Bool.eq_false_iff.2 fun e => h (stFits_iff.1 e)
theorem Blk.cells0 {w : World} {g : Nat} {t : TypeId} {a : Value} (h : Blk w g t #[a]) : w.cell? ⟨g, 0, none⟩ = some a := by rw [h.cell]; rfl

end Go.Proofs.Ytoonkpjddfiopaa

/- Walks: the reference's Fits; the checks of a stave, the program's and the reference's. -/
namespace Go.Proofs.Ytoonkpjddfiopaa
open Go.RowKit Go.Shelf
set_option linter.unusedVariables false
attribute [local go_sem] Oper.semAt_some

/-- the error of a stave's check -/
def stChk (W H : Int) (n : Nat) (p : Int → Int) (K : Nat) (m : Nat → Nat) (ln : Nat → Nat → Int) : Int := if chk W H n p ≠ 0 then chk W H n p else if stFits W H K m ln = true then 0 else 10
end Go.Proofs.Ytoonkpjddfiopaa

/- Walk: a strip cut out along a stave (stave.Rectify), where it is refused. -/
namespace Go.Proofs.Ytoonkpjddfiopaa
open Go.RowKit Go.Shelf
set_option linter.unusedVariables false
attribute [local go_sem] Oper.semAt_some

end Go.Proofs.Ytoonkpjddfiopaa

/- Walk: a strip cut out along a stave (stave.Rectify), where it is made. -/
namespace Go.Proofs.Ytoonkpjddfiopaa
open Go.RowKit Go.Shelf
set_option linter.unusedVariables false
attribute [local go_sem] Oper.semAt_some

end Go.Proofs.Ytoonkpjddfiopaa

/- Memory: a block of bytes of which the first cells are known; bytes.Clone. -/
namespace Go.Proofs.Ytoonkpjddfiopaa
open Go.RowKit
set_option linter.unusedVariables false

/-- block g holds bytes, the first n of which are q -/
def ArrO (w : World) (g n : Nat) (q : Int → Int) : Prop := ∃ cs, Blk w g 5 cs ∧ ∀ i : Int, 0 ≤ i → i < n → cs[i.toNat]? = some (.int .u8 (q i))
section
variable {w w' : World} {g n : Nat} {q r : Int → Int}
theorem ArrO.lt (h : ArrO w g n q) : g < w.heap.size := by obtain ⟨cs, hb, -⟩ := h; exact hb.lt
theorem ArrO.cell (h : ArrO w g n q) {i : Int} (h0 : 0 ≤ i) (hi : i < n) : w.cell? ⟨g, i.toNat, none⟩ = some (.int .u8 (q i)) := by obtain ⟨cs, hb, hc⟩ := h; rw [hb.cell, hc i h0 hi]
theorem ArrO.frozen (h : ArrO w g n q) (i : Nat) : w.frozen? ⟨g, i, none⟩ = false := by obtain ⟨cs, hb, -⟩ := h; exact hb.frozen i
theorem ArrO.move (h : ArrO w g n q) (e : w'.heap[g]? = w.heap[g]?) : ArrO w' g n q := by obtain ⟨cs, hb, hc⟩ := h; exact ⟨cs, hb.move e, hc⟩
theorem ArrO.drew (h : ArrO w g n q) : ArrO w.drew g n q := h.move rfl
theorem ArrO.alloc (h : ArrO w g n q) (o : Obj) : ArrO (w.alloc o) g n q := h.move (Below.heap_alloc w o g h.lt)
theorem ArrO.far (h : ArrO w g n q) {p : Addr} (hp : g ≠ p.block) (u : Value) : ArrO (w.setCell p u) g n q := h.move (heap_setCell_other w p g u hp)
theorem ArrO.below (h : ArrO w g n q) (hb : Below w.heap.size w w') : ArrO w' g n q := h.move (hb.block g h.lt)
theorem ArrO.conv (h : ArrO w g n q) (he : ∀ i : Int, 0 ≤ i → i < n → q i = r i) : ArrO w g n r := by
  obtain ⟨cs, hb, hc⟩ := h; exact ⟨cs, hb, fun i a b => by rw [hc i a b, he i a b]⟩
theorem ArrO.set (h : ArrO w g n q) (i : Int) (h0 : 0 ≤ i) (hi : i < n) (v : Int) : ArrO (w.setCell ⟨g, i.toNat, none⟩ (.int .u8 v)) g n (upd q i v) := by
  obtain ⟨cs, hb, hc⟩ := h
  refine ⟨cs.setIfInBounds i.toNat (.int .u8 v), hb.set_ _ _, fun j j0 j1 => ?_⟩
  rw [Array.getElem?_setIfInBounds]
  have hs : i.toNat < cs.size := (Array.getElem?_eq_some_iff.1 (hc i h0 hi)).1
  by_cases e : i.toNat = j.toNat
  · have e' : j = i := by omega
    subst e'
    rw [if_pos rfl, if_pos hs, upd_at]
  · rw [if_neg e, hc j j0 j1, upd_ne (by omega)]
theorem ArrO.arr (h : ArrO w g n q) : ArrB w w.heap.size (some ⟨g, 0, none⟩) n q := fun _ => ⟨g, 0, rfl, h.lt, fun i a b => by rw [Nat.zero_add]; exact h.cell a b⟩
theorem Blk.arrO {N : Nat} (h : Blk w g 5 (u8s N q)) : ArrO w g N q := ⟨_, h, fun i a b => u8s_at a b⟩
end
theorem own_arrO {w : World} {B n : Nat} {v : Value} {q : Int → Int} (h : w.ownsRow B 5 1 v n ((List.range n).map fun (j : Nat) => Value.int .u8 (q j))) (hn : 0 < n) : ∃ g c, v = .slice (some ⟨g, 0, none⟩) n c ∧ n ≤ c ∧ B ≤ g ∧ ArrO w g n q := by
  rcases h.2 with ⟨-, h2⟩ | ⟨g, cap, cur, hv, hb, hh, hc, _, hs, ht⟩
  · omega
  · refine ⟨g, cap, hv, hc, hb, cur, hh, fun i a b => ?_⟩
    have e : cur[i.toNat]? = (cur.toList.take ((List.range n).map fun (j : Nat) => Value.int .u8 (q j)).length)[i.toNat]? := by
      rw [List.getElem?_take, if_pos (by simp; omega)]; simp
    rw [e]
    have : (cur.toList.take ((List.range n).map fun (j : Nat) => Value.int .u8 (q j)).length) = (List.range n).map fun (j : Nat) => Value.int .u8 (q j) := by
      simpa using ht
    rw [this, List.getElem?_map, List.getElem?_range (by omega)]
    simp [Int.toNat_of_nonneg a]

def ClOut (A : Option Addr) (n : Nat) (p : Int → Int) (w : World) (v : Value) (w' : World) : Prop := (A = none ∧ n = 0 ∧ v = .slice none 0 0 ∧ w = w') ∨ w'.ownsRow w.heap.size 5 1 v n ((List.range n).map fun (j : Nat) => Value.int .u8 (p j))
theorem outSl_nil (w w' : World) (q : Int → Int) : OutSl w w' 0 q (.slice none 0 0) := ⟨none, 0, rfl, Nat.le_refl _, fun _ => rfl, (fun _ h => by cases h), ArrB.nil⟩
end Go.Proofs.Ytoonkpjddfiopaa

/- Walk: the first of two errors (cmp.Or). -/
namespace Go.Proofs.Ytoonkpjddfiopaa
open Go.RowKit Go.Shelf
set_option linter.unusedVariables false
attribute [local go_sem] Oper.semAt_some

/-- the first of two that is not zero -/
def orE (a b : Int) : Int := if a = 0 then b else a
end Go.Proofs.Ytoonkpjddfiopaa

/- Walks: the order of runs (stave.Runs's comparing function), cmp.Or of two numbers; rows of runs. -/
namespace Go.Proofs.Ytoonkpjddfiopaa
open Go.RowKit Go.Shelf Go.Lib Go.Sort
set_option linter.unusedVariables false
attribute [local go_sem] Oper.semAt_some

set_option maxHeartbeats 1000000 in
theorem or2i_any (g : Nat) (a b : Int) (w : World) (h : Blk w g 3 #[.int .i64 a, .int .i64 b]) :
    Calls Try.prog 82 #[.slice (some ⟨g, 0, none⟩) 2 2] w fun e w' => e = .returned (.int .i64 (orE a b)) ∧ w = w' := by
  have p1 : w.cell? ⟨g, 0, none⟩ = some (.int .i64 a) := by rw [h.cell]; rfl
  have p2 : w.cell? ⟨g, 1, none⟩ = some (.int .i64 b) := by rw [h.cell]; rfl
  have HO : Hid (orE a b = if a = 0 then b else a) := rfl
  generalize orE a b = z at *
  clear h
  by_cases ha : a = 0
  · have hz : z = b := by rw [HO.out, if_pos ha]
    subst hz
    subst ha
    by_cases hb : z = 0
    · subst hb
      clear HO
      go_enter Try.func82, Try.ntmps82
      go_wp2_with fail
      go_loop [8] (fun i => ∃ k : Nat, k ≤ 2 ∧ i = .int .i64 k) (fun i => 2 - (intOf i).toNat)
      case atStart => exact ⟨0, by omega, rfl⟩
      case round =>
        obtain ⟨k, hk, rfl⟩ := hrel
        by_cases k2 : k = 2
        · subst k2
          go_wp2
          go_ret
          exact ⟨rfl, rfl⟩
        · have hc : w.cell? ⟨g, k, none⟩ = some (.int .i64 0) := by
            by_cases k0 : k = 0
            · subst k0; exact p1
            · obtain rfl : k = 1 := by omega
              exact p2
          have kl : (k : Int) < 2 := by omega
          clear p1 p2
          go_wp2
          go_round
          case rel => exact ⟨k + 1, by omega, by go_num⟩
          case measure => simp [intOf]; omega
    · have hb' : (z == 0) = false := by simp [hb]
      have hb2 : (z != 0) = true := by simp [hb]
      have HB := Lib.hid hb
      clear HO hb
      go_enter Try.func82, Try.ntmps82
      go_wp2_with fail
      go_loop [8] (fun i => ∃ k : Nat, k ≤ 1 ∧ i = .int .i64 k) (fun i => 2 - (intOf i).toNat)
      case atStart => exact ⟨0, by omega, rfl⟩
      case round =>
        obtain ⟨k, hk, rfl⟩ := hrel
        by_cases k0 : k = 0
        · subst k0
          go_wp2
          go_round
          case rel => exact ⟨1, by omega, by go_num⟩
          case measure => simp [intOf]
        · obtain rfl : k = 1 := by omega
          go_wp2
          go_ret
          exact ⟨rfl, rfl⟩
  · have hz : z = a := by rw [HO.out, if_neg ha]
    subst hz
    have hb' : (z == 0) = false := by simp [ha]
    have hb2 : (z != 0) = true := by simp [ha]
    have HA := Lib.hid ha
    clear HO ha
    go_enter Try.func82, Try.ntmps82
    go_wp2_with fail
    go_loop [8] (fun i => i = .int .i64 0) (fun i => 2 - (intOf i).toNat)
    case atStart => exact rfl
    case round =>
      subst hrel
      go_wp2
      go_ret
      exact ⟨rfl, rfl⟩
/-- numbers that do not wrap when they are subtracted -/
def Small (x : Int) : Prop := -1000000 ≤ x ∧ x ≤ 1000000
def cmpR (a b : Rn) : Int := orE (a.1 - b.1) (a.2.1 - b.2.1)
end Go.Proofs.Ytoonkpjddfiopaa

/- The order of points (the comparing function of image.Components), and the library's sort at points. -/
namespace Go.Proofs.Ytoonkpjddfiopaa
open Go.RowKit Go.Shelf Go.Lib Go.Sort
set_option linter.unusedVariables false
attribute [local go_sem] Oper.semAt_some

def cmpP (W i j : Nat) : Int := orE (((i / W : Nat) : Int) - ((j / W : Nat) : Int)) (((i % W : Nat) : Int) - ((j % W : Nat) : Int))
set_option maxRecDepth 100000 in
set_option maxHeartbeats 1000000 in
/-- the comparing function lays three blocks and turns nothing -/
theorem cmpPts_any (a1 a2 b1 b2 : Int) (w : World) (ha : Small a1 ∧ Small a2) (hb : Small b1 ∧ Small b2) :
    Calls Try.prog 81 #[.agg #[.int .i64 a1, .int .i64 a2], .agg #[.int .i64 b1, .int .i64 b2]] w fun e w' => e = .returned (.int .i64 (orE (a2 - b2) (a1 - b1))) ∧ ∃ q os', w' = grow (w.drewN q) os' := by
  obtain ⟨⟨x1, x2⟩, ⟨x3, x4⟩⟩ := ha
  obtain ⟨⟨x5, x6⟩, ⟨x7, x8⟩⟩ := hb
  have OR := Lib.hid fun g w' h => or2i_any g (a2 - b2) (a1 - b1) w' h
  generalize orE (a2 - b2) (a1 - b1) = r at *
  go_enter Try.func81, Try.ntmps81
  go_wp2_with fail
  refine (OR.out (w.heap.size + 1 + 1) _ (Blk.new' (by simp) _ _)).mono ?_
  rintro e w' ⟨rfl, rfl⟩
  go_wp2
  go_ret
  exact ⟨rfl, 0, _, by rw [alloc_eq_grow, alloc_eq_grow, alloc_eq_grow, grow_grow, grow_grow]; rfl⟩

def Try.sortPts_ren : Go.Shelf.Ren := ⟨fun | 6 => 80 | 15 => 86 | 14 => 85 | 28 => 95 | 29 => 96 | 20 => 87 | 21 => 88 | 22 => 89 | 23 => 90 | 24 => 91 | 25 => 92 | 26 => 93 | 27 => 94 | 46 => 97 | 47 => 98 | 48 => 99 | 49 => 100 | 50 => 101 | 57 => 102 | n => n, fun | 22 => 93 | 24 => 97 | 25 => 120 | 3 => 3 | 39 => 126 | 0 => 0 | 53 => 136 | 55 => 138 | 4 => 4 | 46 => 129 | 45 => 128 | 50 => 133 | 5 => 5 | 9 => 9 | 66 => 139 | 70 => 143 | 76 => 145 | 77 => 146 | n => n, fun | n => n⟩
theorem Try.sortPts : Go.Proofs.SlLaysF0.n6 Try.prog Try.sortPts_ren := {
  mixed := by kernel_rfl
  f6 := ⟨Try.f80.name, by decide, Try.func80.trans (congrArg some (by kernel_rfl))⟩
  f14 := ⟨Try.f85.name, by decide, Try.func85.trans (congrArg some (by kernel_rfl))⟩
  f15 := Try.func86.trans (congrArg some (by kernel_rfl))
  f20 := ⟨Try.f87.name, by decide, Try.func87.trans (congrArg some (by kernel_rfl))⟩
  f21 := ⟨Try.f88.name, by decide, Try.func88.trans (congrArg some (by kernel_rfl))⟩
  f22 := ⟨Try.f89.name, by decide, Try.func89.trans (congrArg some (by kernel_rfl))⟩
  f23 := ⟨Try.f90.name, by decide, Try.func90.trans (congrArg some (by kernel_rfl))⟩
  f24 := ⟨Try.f91.name, by decide, Try.func91.trans (congrArg some (by kernel_rfl))⟩
  f25 := ⟨Try.f92.name, by decide, Try.func92.trans (congrArg some (by kernel_rfl))⟩
  f26 := ⟨Try.f93.name, by decide, Try.func93.trans (congrArg some (by kernel_rfl))⟩
  f27 := ⟨Try.f94.name, by decide, Try.func94.trans (congrArg some (by kernel_rfl))⟩
  f28 := Try.func95.trans (congrArg some (by kernel_rfl))
  f29 := Try.func96.trans (congrArg some (by kernel_rfl))
  f46 := ⟨Try.f97.name, by decide, Try.func97.trans (congrArg some (by kernel_rfl))⟩
  f47 := Try.func98.trans (congrArg some (by kernel_rfl))
  f48 := Try.func99.trans (congrArg some (by kernel_rfl))
  f49 := ⟨Try.f100.name, by decide, Try.func100.trans (congrArg some (by kernel_rfl))⟩
  f50 := ⟨Try.f101.name, by decide, Try.func101.trans (congrArg some (by kernel_rfl))⟩
  f57 := ⟨Try.f102.name, by decide, Try.func102.trans (congrArg some (by kernel_rfl))⟩
  t0 := Try.underlying0
  a0 := Try.isAgg0
  z0 := Try.sizeOf0
  v0 := Try.zeroValue0
  t3 := Try.underlying3
  a3 := Try.isAgg3
  z3 := Try.sizeOf3
  v3 := Try.zeroValue3
  t4 := Try.underlying4
  a4 := Try.isAgg4
  z4 := Try.sizeOf4
  v4 := Try.zeroValue4
  t5 := Try.underlying5
  a5 := Try.isAgg5
  z5 := Try.sizeOf5
  v5 := Try.zeroValue5
  t9 := Try.underlying9
  a9 := Try.isAgg9
  z9 := Try.sizeOf9
  v9 := Try.zeroValue9
  t22 := Try.underlying93
  a22 := Try.isAgg93
  z22 := Try.sizeOf93
  v22 := Try.zeroValue93
  t25 := Try.underlying120
  a25 := Try.isAgg120
  z25 := Try.sizeOf120
  v25 := Try.zeroValue120
  t39 := Try.underlying126
  a39 := Try.isAgg126
  z39 := Try.sizeOf126
  v39 := Try.zeroValue126
  t45 := Try.underlying128
  a45 := Try.isAgg128
  z45 := Try.sizeOf128
  v45 := Try.zeroValue128
  t46 := Try.underlying129
  a46 := Try.isAgg129
  z46 := Try.sizeOf129
  v46 := Try.zeroValue129
  t50 := Try.underlying133
  a50 := Try.isAgg133
  z50 := Try.sizeOf133
  v50 := Try.zeroValue133
  t53 := Try.underlying136
  a53 := Try.isAgg136
  z53 := Try.sizeOf136
  v53 := Try.zeroValue136
  t55 := Try.underlying138
  a55 := Try.isAgg138
  z55 := Try.sizeOf138
  v55 := Try.zeroValue138
  t66 := Try.underlying139
  a66 := Try.isAgg139
  z66 := Try.sizeOf139
  v66 := Try.zeroValue139
  t70 := Try.underlying143
  a70 := Try.isAgg143
  z70 := Try.sizeOf143
  v70 := Try.zeroValue143
  t76 := Try.underlying145
  a76 := Try.isAgg145
  z76 := Try.sizeOf145
  v76 := Try.zeroValue145
  t77 := Try.underlying146
  a77 := Try.isAgg146
  z77 := Try.sizeOf146
  v77 := Try.zeroValue146 }

abbrev SPt := { i : Nat // i < 1000000 }
instance : Inhabited SPt := ⟨⟨0, by decide⟩⟩
def encS2 (W : Nat) (r : SPt) : List Value := encP W r.1
theorem pt_lift : ∀ l : List Nat, (∀ r ∈ l, r < 1000000) → ∃ s : List SPt, s.map Subtype.val = l
  | [], _ => ⟨[], rfl⟩
  | a :: l, h => by
    obtain ⟨s, hs⟩ := pt_lift l fun r hr => h r (List.mem_cons_of_mem _ hr)
    exact ⟨⟨a, h a (List.mem_cons_self ..)⟩ :: s, by rw [List.map_cons, hs]⟩
theorem small_div (W i : Nat) (h : i < 1000000) : Small ((i % W : Nat) : Int) ∧ Small ((i / W : Nat) : Int) := by
  have h1 : i % W ≤ i := Nat.mod_le _ _
  have h2 : i / W ≤ i := Nat.div_le_self _ _
  generalize i % W = a at *
  generalize i / W = b at *
  unfold Small; omega
theorem swo_pts (W : Nat) : SWO (ltOf fun (x y : SPt) => cmpP W x.1 y.1) := by
  refine ⟨fun x => ?_, fun x y z a b => ?_, fun x y z a b => ?_⟩ <;>
    simp only [ltOf, decide_eq_true_eq, decide_eq_false_iff_not] at * <;> simp only [cmpP, orE] at * <;> (repeat' split at *) <;> omega
theorem flat_at2 {W : Nat} {d : Array SPt} {i t : Nat} (hi : i < d.size) (ht : t < 2) : (flatK (encS2 W) 2 d)[i * 2 + t]! = (encS2 W d[i]!)[t]! := by
  rw [get_flatK _ _ _ _ (by omega), show (i * 2 + t) / 2 = i by omega, show (i * 2 + t) % 2 = t by omega]
theorem cmpP_le {W i j : Nat} (hne : i ≠ j) (h : ¬ cmpP W j i < 0) : i < j := by
  unfold cmpP orE at h
  rcases Nat.lt_trichotomy i j with c | c | c
  · exact c
  · exact absurd c hne
  · exfalso
    have h1 : j / W ≤ i / W := Nat.div_le_div_right (by omega)
    have e1 := Nat.div_add_mod i W
    have e2 := Nat.div_add_mod j W
    generalize i / W = a at *
    generalize j / W = b at *
    generalize i % W = u at *
    generalize j % W = v at *
    by_cases e : a = b
    · subst e
      rw [if_pos (by omega)] at h
      generalize W * a = z at *
      omega
    · rw [if_neg (by omega)] at h
      omega
/-- the cells of a block are these points -/
def PtC (W : Nat) (cs : Array Value) (l : List Nat) : Prop := ∀ i, i < l.length → ∀ t, t < 2 → cs[i * 2 + t]? = (encP W (l.toArray[i]!))[t]?
theorem ptC_of {W : Nat} {cs : Array Value} {l : List Nat} (h : cs.toList.take (l.length * 2) = flatE (encP W) l) : PtC W cs l := fun i hi t ht => by
  have hg : l[i]? = some (l.toArray[i]!) := by simp [hi]
  have r1 := flatE_at (encP_len W) l i _ hg t ht
  rw [← h, List.getElem?_take, if_pos (by omega), Array.getElem?_toList] at r1
  exact r1
theorem ptC_take {W : Nat} {cs : Array Value} {l : List Nat} (h : PtC W cs l) (hs : l.length * 2 ≤ cs.size) : cs.toList.take (l.length * 2) = flatE (encP W) l := by
  apply List.ext_getElem?
  intro j
  rw [List.getElem?_take]
  by_cases hj : j < l.length * 2
  · rw [if_pos hj]
    obtain ⟨i, t, ht, rfl⟩ : ∃ i t, t < 2 ∧ j = i * 2 + t := ⟨j / 2, j % 2, by omega, by omega⟩
    have hi : i < l.length := by omega
    have hg : l[i]? = some (l.toArray[i]!) := by simp [hi]
    rw [Array.getElem?_toList, h i hi t ht, flatE_at (encP_len W) l i _ hg t ht]
  · rw [if_neg hj, List.getElem?_eq_none (by rw [flatE_len (encP_len W)]; omega)]
set_option maxHeartbeats 1000000 in
/-- the points are put in order -/
theorem sortPts_any (W g c : Nat) (l : List Nat) (cs : Array Value) (w : World) (hk : Blk w g 97 cs) (hC : PtC W cs l) (hsz : l.length * 2 ≤ cs.size) (hs : ∀ r ∈ l, r < 1000000) (hnd : l.Nodup) (hn : l.length ≤ 1000000000) :
    Calls Try.prog 80 #[.slice (some ⟨g, 0, none⟩) l.length c, .func (.func 81) #[] #[]] w fun e w' => e = .returned (.tuple #[]) ∧
      ∃ l' : List Nat, l'.Perm l ∧ l'.Pairwise (· < ·) ∧ ∃ cs', Blk w' g 97 cs' ∧ PtC W cs' l' ∧ cs'.size = cs.size ∧ But w.heap.size g w w' := by
  obtain ⟨s, hs⟩ := pt_lift l hs
  have hlen : s.toArray.size = l.length := by rw [← hs]; simp
  have hget : ∀ i, i < l.length → s.toArray[i]!.1 = l.toArray[i]! := fun i hi => by
    have h1 : i < s.length := by rw [← List.size_toArray, hlen]; exact hi
    simp [← hs, h1]
  have hlt := (Array.getElem?_eq_some_iff.1 hk).1
  have hH : HoldsK (encS2 W) 2 w g 0 s.toArray := fun j hj => by
    rw [size_flatK, hlen] at hj
    refine ⟨?_, by rw [Nat.zero_add]; exact hk.frozen _⟩
    obtain ⟨i, t, ht, rfl⟩ : ∃ i t, t < 2 ∧ j = i * 2 + t := ⟨j / 2, j % 2, by omega, by omega⟩
    rw [flat_at2 (by omega) ht, Nat.zero_add, hk.cell, hC i (by omega) t ht, ← hget i (by omega)]
    show _ = some ((encP W s.toArray[i]!.1)[t]!)
    match t, ht with
    | 0, _ => rfl
    | 1, _ => rfl
  have eg : ∀ args w, (callFunc 81 args).run Try.prog w = .ok (.enter 81 args) w := enters_of Try.func81 (by kernel_rfl) rfl
  have hcmp : CmpLays Try.prog 81 #[] (encS2 W) 2 (fun x y => cmpP W x.1 y.1) g 0 s.toArray.size w := fun m os dk _ x y => cmpPts_any _ _ _ _ _ (small_div W x.1 x.2) (small_div W y.1 y.2)
  have hcon := AnyQ.slices_SortFunc Try.sortPts 2 (fun _ => by kernel_rfl) (fun _ => by kernel_rfl) (encS2 W) (fun _ => rfl) (fun x v hv => by
    have : v ∈ encP W x.1 := hv
    simp [encP] at this
    rcases this with h | h <;> rw [h] <;> rfl) (fun x y => cmpP W x.1 y.1) (swo_pts W) 81 #[] g 0 c s.toArray w eg hcmp hH hlt (by rw [hlen]; omega)
  rw [hlen] at hcon
  refine hcon.mono ?_
  rintro e w' ⟨rfl, d', n, os, hp, hs2, rfl⟩
  obtain ⟨p1, -, p3⟩ := hp
  have p1 : d'.size = l.length := by rw [p1, hlen]
  have p3 : d'.toList.Perm s := by
    have e1 : d'.extract 0 l.length = d' := by rw [← p1]; exact Array.extract_size
    have e2 : s.toArray.extract 0 l.length = s.toArray := by rw [← hlen]; exact Array.extract_size
    rw [e1, e2] at p3
    exact p3
  have hl' : (d'.toList.map Subtype.val).length = l.length := by simp [p1]
  have hpm : (d'.toList.map Subtype.val).Perm l := hs ▸ p3.map _
  have hnd' : (d'.toList.map Subtype.val).Nodup := hpm.nodup_iff.2 hnd
  refine ⟨rfl, d'.toList.map Subtype.val, hpm, ?_, putCells id 0 (flatK (encS2 W) 2 d') cs, heap_sortWorld_row id w g 0 n (flatK (encS2 W) 2 d') os hk, ?_, by simp [putCells], ⟨rfl, rfl, rfl, size_sortWorld id w g 0 n (flatK (encS2 W) 2 d') os, fun j hj hn => heap_sortWorld id w g 0 n (flatK (encS2 W) 2 d') os hj hn⟩⟩
  · rw [List.pairwise_iff_getElem]
    intro i j hi hj hij
    rw [hl'] at hi hj
    have hne : (d'.toList.map Subtype.val)[i]'(by rw [hl']; exact hi) ≠ (d'.toList.map Subtype.val)[j]'(by rw [hl']; exact hj) := fun e => by
      have := (List.getElem_inj hnd').1 e
      omega
    simp only [List.getElem_map, Array.getElem_toList] at hne ⊢
    have := hs2 i j (Nat.zero_le _) hij hj
    rw [getElem!_pos d' i (by omega), getElem!_pos d' j (by omega)] at this
    simp only [ltOf, decide_eq_false_iff_not] at this
    exact cmpP_le hne this
  · intro i hi t ht
    rw [hl'] at hi
    have e9 : (d'.toList.map Subtype.val).toArray[i]! = d'[i]!.1 := by
      have : i < d'.size := by omega
      simp [this]
    rw [e9]
    unfold putCells
    rw [Array.getElem?_mapIdx, Array.getElem?_eq_getElem (by omega), Option.map_some, if_pos (by rw [size_flatK]; omega), Nat.sub_zero, flat_at2 (by omega) ht]
    show some ((encP W d'[i]!.1)[t]!) = _
    match t, ht with
    | 0, _ => rfl
    | 1, _ => rfl
theorem sortPtRow_any (W B : Nat) (v : Value) (l : List Nat) (w : World) (h : ERow w B 97 2 (encP W) v l) (hB : B ≤ w.heap.size) (hs : ∀ r ∈ l, r < 1000000) (hnd : l.Nodup) (hl : l ≠ []) :
    Calls Try.prog 80 #[v, .func (.func 81) #[] #[]] w fun e w' => e = .returned (.tuple #[]) ∧
      ∃ l' : List Nat, l'.Perm l ∧ l'.Pairwise (· < ·) ∧ ERow w' B 97 2 (encP W) v l' ∧ Below B w w' := by
  obtain ⟨g, c, cs, rfl, hc, hg, hk, hsz, hm, ht⟩ := h.blk hl
  have hn : l.length ≤ 1000000 := nodup_len 1000000 l hnd hs
  refine (sortPts_any W g c l cs w hk (ptC_of ht) (by omega) hs hnd (by omega)).mono ?_
  rintro e w' ⟨rfl, l', hp, hq, cs', hk', hC', hs', hb⟩
  have e1 := hp.length_eq
  refine ⟨rfl, l', hp, hq, ?_, hb.to rfl hg hB⟩
  rw [← e1]
  exact ERow.of (encP_len W) hk' hg (by omega) hm (by omega) (ptC_take hC' (by omega))
end Go.Proofs.Ytoonkpjddfiopaa
