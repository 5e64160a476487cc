/- Walk: the lines of an image (stave.Trace). -/
import Derived.Test.YtdimlpcbbkokiaaT7
import Derived.Test.YtdimlpcbbkokiaaT11
import Derived.Test.YtdimlpcbbkokiaaS5
import Derived.Shelf.SlSortCmp.NoneTotal
import Derived.Lib.LazyBuf
namespace Go.Proofs.Ytdimlpcbbkokiaa
open Go.RowKit Go.Shelf
set_option linter.unusedVariables false
attribute [local go_sem] Oper.semAt_some

theorem infoBool : (Try.prog.info? 4).map (fun i => (i.zero, i.size, i.bytes)) = some (some (.bool false), 1, 1) := by kernel_rfl
theorem infoInts : (Try.prog.info? 25).map (fun i => (i.zero, i.size, i.bytes)) = some (some (.slice none 0 0), 1, 24) := by kernel_rfl
theorem makeO (n : Int) (h0 : 0 ≤ n) (h : n ≤ 140737488355328) (w : World) : (Instr.makeSlice 67 (.int .i64 n) (.int .i64 n)).run Try.prog w =
    .ok (.slice (some ⟨w.heap.size, 0, none⟩) n.toNat n.toNat) (w.alloc (.cells (bools n.toNat (fun _ => false)) 4)) := by
  obtain ⟨i, hi, hz, hs, hb⟩ := info_parts infoBool
  have := run_make (P := Try.prog) w 67 4 i _ Try.underlying67 hi hz .i64 .i64 n n h0 (Int.le_refl _) (by rw [hb]; omega) (by omega)
  rw [this, hs]
  have e : madeCells (Value.bool false).cells (n.toNat * 1) = bools n.toNat (fun _ => false) := by
    rw [← bools_zero]
    apply Array.ext_getElem?
    intro j
    simp only [madeCells, Value.cells, Nat.mul_one]
    by_cases hj : j < n.toNat <;> simp [hj, Nat.mod_one]
  rw [e]

/-- k lines, a slice each, in memory of the call's own -/
structure Found (B : Nat) (w : World) (m : Nat) (ln : Nat → Nat → Int) (k : Nat) (vo : Value) (v : Nat → Value) : Prop where
  row : w.ownsRow B 25 1 vo k ((List.range k).map v)
  lines : ∀ i, i < k → w.ownsRow B 3 1 (v i) m ((List.range m).map fun j => Value.int .i64 (ln i j))
theorem Found.below {B : Nat} {w w' : World} {m : Nat} {ln : Nat → Nat → Int} {k : Nat} {vo : Value} {v : Nat → Value} (h : Found B w m ln k vo v) (hb : Below w.heap.size w w') : Found B w' m ln k vo v :=
  ⟨own_below h.row hb, fun i hi => own_below (h.lines i hi) hb⟩
theorem Found.far {B : Nat} {w : World} {m g t : Nat} {cs : Array Value} {ln : Nat → Nat → Int} {k : Nat} {vo : Value} {v : Nat → Value} (h : Found B w m ln k vo v) (hb : Blk w g t cs) (h1 : t ≠ 25) (h2 : t ≠ 3) (o : Nat) (u : Value) : Found B (w.setCell ⟨g, o, none⟩ u) m ln k vo v :=
  ⟨own_far h.row hb h1.symm o u, fun i hi => own_far (h.lines i hi) hb h2.symm o u⟩

/-- an owned row of numbers, read -/
theorem own_arrI {w : World} {B m : Nat} {v : Value} {q : Nat → Int} (h : w.ownsRow B 3 1 v m ((List.range m).map fun j => Value.int .i64 (q j))) : ∃ A c, v = .slice A m c ∧ ArrI w w.heap.size A m (fun j => q j.toNat) := by
  obtain ⟨A, c, e, -, ha⟩ := own_arr h
  refine ⟨A, c, e, Arr.congr ha fun i i0 i1 => ?_⟩
  rw [List.getD_eq_getElem?_getD, List.getElem?_map, List.getElem?_range (by omega)]
  rfl
theorem own_some {w : World} {B e m : Nat} {v : Value} {xs : List Value} (h : w.ownsRow B e 1 v m xs) (hm : 0 < m) : ∃ g c, v = .slice (some ⟨g, 0, none⟩) m c := by
  rcases h.2 with ⟨-, h2⟩ | ⟨g, cap, cur, hv, -⟩
  · omega
  · exact ⟨g, cap, hv⟩

theorem sort_found (B m k : Nat) (ln : Nat → Nat → Int) (vo : Value) (v : Nat → Value) (w : World) (h : Found B w m ln k vo v) (hk : k ≤ 60) (hm : 0 < m) (hq : ∀ i, i < k → 0 ≤ ln i 0 ∧ ln i 0 ≤ 1000) :
    Calls Try.prog 64 #[vo, .func (.func 65) #[] #[]] w fun e w' => e = .returned (.tuple #[]) ∧
      ∃ l : List Nat, l.Perm (List.range k) ∧ l.Pairwise (fun i j => ln i 0 ≤ ln j 0) ∧ w'.ownsRow B 25 1 vo k (l.map v) ∧ (∀ i, i < k → w'.ownsRow B 3 1 (v i) m ((List.range m).map fun j => Value.int .i64 (ln i j))) ∧ w.grownBy w' vo.ownBlock := by
  by_cases h0 : 0 < k
  · obtain ⟨blk, cap, rfl⟩ := own_some h.row h0
    refine (sort_any k cap blk B m v (fun i j => ln i j.toNat) w h0 hk h.row (fun i hi => ?_) hm (fun i hi => hq i hi)).mono ?_
    · obtain ⟨g, c, e⟩ := own_some (h.lines i hi) hm
      obtain ⟨A, c', e', ha⟩ := own_arrI (h.lines i hi)
      rw [e] at e'
      cases e'
      refine ⟨g, 0, c, e, fun hg => ?_, ha⟩
      exact own_apart h.row (h.lines i hi) (by decide) (k := blk) rfl (by rw [e, hg]; rfl)
    · rintro e w' ⟨rfl, l, l1, l2, l3, l4⟩
      have hg : w.grownBy w' (Value.slice (some ⟨blk, 0, none⟩) k cap).ownBlock := ⟨l4.os, l4.tape, l4.output, l4.size, fun j hj hn => l4.block j hj (fun e => hn (by rw [e]; rfl))⟩
      exact ⟨rfl, l, l1, l2, l3, fun i hi => own_grown (h.lines i hi) h.row (by decide) hg, hg⟩
  · obtain rfl : k = 0 := by omega
    obtain ⟨A, c, rfl, -, -⟩ := own_arr h.row
    refine (AnyF.slices_SortFunc_none (P := Try.prog) (ρ := Try.sortLines_ren) { Try.sortLines with } A c (.func (.func 65) #[] #[]) w).mono ?_
    rintro e w' ⟨rfl, rfl⟩
    exact ⟨rfl, [], List.Perm.refl _, List.Pairwise.nil, h.row, h.lines, World.grownBy.refl _ _⟩

/-- what Trace returns: so many lines, in the order of their first rows -/
def TraceOut (w : World) (W H : Int) (p : Int → Int) (v : Value) (w' : World) : Prop :=
  ∃ (k : Nat) (l : List Nat) (vs : Nat → Value), Many 1073741824 W H (cst p W) k ∧ l.Perm (List.range k) ∧ l.Pairwise (fun i j => LN 1073741824 W H (cst p W) i 0 ≤ LN 1073741824 W H (cst p W) j 0) ∧
    w'.ownsRow w.heap.size 25 1 v k (l.map vs) ∧ ∀ i, i < k → w'.ownsRow w.heap.size 3 1 (vs i) W.toNat ((List.range W.toNat).map fun j => Value.int .i64 (LN 1073741824 W H (cst p W) i j))

set_option maxRecDepth 100000 in
set_option maxHeartbeats 4000000 in
theorem trace_ok (W H : Int) (A : Option Addr) (n c : Nat) (p : Int → Int) (w : World) (hA : ArrB w w.heap.size A n p) (hn : n ≤ maxLen) (hB : IsB p) (hE : chk W H n p = 0) (hW : 1 ≤ W) (hH : 1 ≤ H) :
    Calls Try.prog 19 #[.agg #[.int .i64 W, .int .i64 H, .slice A n c]] w (New w fun v w' => ∃ vo, v = .tuple #[vo, .int .i64 0] ∧ TraceOut w W H p vo w') := by
  obtain ⟨hW1, hW2, hH1, hH2, hnn, -⟩ := chk_ok hE
  obtain ⟨m1, m2⟩ := area_bd hW1 hW2 hH1 hH2
  have CK := Lib.hid fun w' hA' => check_any W H A n c p w' hA' hn
  rw [hE] at CK
  have BE := Lib.hid fun f fb w' hA' hF' => best_any W H A f n c n n fb p w' hA' hF' hB hE hnn hW hH
  have hmk := makeO (n : Int) (by omega) (by omega)
  rw [Int.toNat_natCast] at hmk
  have bW : (W == 0) = false := by simp; omega
  have bH : (H == 0) = false := by simp; omega
  have KI : Blk (w.alloc (.cells #[.int .i64 W, .int .i64 H, .slice A n c] 24)) w.heap.size 24 #[.int .i64 W, .int .i64 H, .slice A n c] := Blk.new _ _ _
  have KA := hA.alloc1 (.cells #[.int .i64 W, .int .i64 H, .slice A n c] 24)
  have B1 : Below w.heap.size w (w.alloc (.cells #[.int .i64 W, .int .i64 H, .slice A n c] 24)) := by (repeat (first | exact Below.refl _ _ | assumption | refine Below.drew ?_ | refine below_drewN ?_ _ | refine Below.alloc ?_ (by first | omega | (simp; done) | (simp; omega)) _ | refine Below.setCell ?_ (by first | omega | (simp; done) | (simp; omega)) _ | refine below_setRow ?_ (by first | omega | (simp; done) | (simp; omega)) _ ))
  have HN := Lib.hid hnn
  clear hE hnn hB
  go_enter Try.func19, Try.ntmps19
  go_wp2_with fail
  refine (CK.out _ KA).mono ?_
  rintro e w1 ⟨rfl, hb1⟩
  have b1 := below_call B1 B1.size hb1
  have k1 := KI.below' hb1
  have a1 := KA.to hb1
  have z1 := k1.lt
  clear KI KA B1 hb1
  obtain ⟨q1, q2, q3⟩ := k1.cells3
  go_wp2_with fail
  have E0 : ∀ W, (binOp .eql 25 (.slice none 0 0) (.slice none 0 0)).run Try.prog W = .ok (.bool true) W := fun W => Go.run_eql_slice_nil W _ _ _ _ _ Try.underlying25
  have E1 : ∀ W g l c, (binOp .eql 25 (.slice (some ⟨g, 0, none⟩) l c) (.slice none 0 0)).run Try.prog W = .ok (.bool false) W := fun W g l c => Go.run_eql_slice_nil W _ _ _ _ _ Try.underlying25
  obtain ⟨i0, hi0, hz0, hz1, hz2⟩ := info_parts infoInts
  have LB : Hid (∀ i, Good 1073741824 W H (cst p W) i → 0 ≤ LN 1073741824 W H (cst p W) i 0 ∧ LN 1073741824 W H (cst p W) i 0 ≤ 1000) := by
    show ∀ _, _
    intro i hi
    have := ln_ok (cst_bd p W) (by omega) (by omega) (by omega) hi.1 0 (by omega)
    omega
  have b2 : Below w.heap.size w (w1.alloc (.cells (bools n (fun _ => false)) 4)) := b1.alloc b1.size _
  have k2 := k1.alloc (.cells (bools n (fun _ => false)) 4)
  have kf2 : Blk (w1.alloc (.cells (bools n (fun _ => false)) 4)) w1.heap.size 4 (bools n (FB 1073741824 W H (cst p W) 0)) := Blk.new _ _ _
  have F2 : Found w.heap.size (w1.alloc (.cells (bools n (fun _ => false)) 4)) W.toNat (LN 1073741824 W H (cst p W)) 0 (.slice none 0 0) (fun _ => .slice none 0 0) := ⟨World.ownsRow_nil _ _ _ _, fun i hi => by omega⟩
  generalize hgf : w1.heap.size = gf at *
  clear hgf q1 q2 q3 k1 b1 a1
  go_loopw [5] (fun vo wr => ∃ (k : Nat) (v : Nat → Value), k ≤ 60 ∧ (∀ j, j < k → Good 1073741824 W H (cst p W) j) ∧ Found w.heap.size wr W.toNat (LN 1073741824 W H (cst p W)) k vo v ∧ Below w.heap.size w wr ∧ Blk wr w.heap.size 24 #[.int .i64 W, .int .i64 H, .slice A n c] ∧ Blk wr gf 4 (bools n (FB 1073741824 W H (cst p W) k))) (fun vo _ => 60 - lenV vo)
  case atStart => exact ⟨0, _, by omega, fun j hj => by omega, F2, b2, k2, kf2⟩
  case round =>
    obtain ⟨k, v, hk, hg, hF, b3, ki, kf⟩ := hrel
    clear b2 k2 kf2 F2
    have rl := own_len hF.row
    obtain ⟨Ao, co, rfl, -, -⟩ := own_arr hF.row
    obtain ⟨p1, p2, p3⟩ := ki.cells3
    have a3 := hA.to b3
    have HK := Lib.hid hk
    clear hk
    by_cases h60 : (k : Int) < 60
    · have CB : 0 ≤ GC 1073741824 W H (cst p W) k ∧ GC 1073741824 W H (cst p W) k ≤ 1073741824 := by
        have h0 : LN 1073741824 W H (cst p W) k 0 = fmin _ H.toNat := rfl
        have := fmin_bd (gAt 1073741824 W H (cst p W) (fun x y => FB 1073741824 W H (cst p W) k (y * W + x)) 0) H.toNat
        have := gAt_bd (N := 1073741824) (W := W) (H := H) (c := cst p W) (F := fun x y => FB 1073741824 W H (cst p W) k (y * W + x)) (cst_bd p W) (by omega) (x := 0) (y := LN 1073741824 W H (cst p W) k 0) (by omega) (by omega) (by rw [h0]; omega) (by rw [h0]; have := this.2 (by omega); omega)
        unfold GC
        omega
      go_wp2_with fail
      refine (BE.out (some ⟨gf, 0, none⟩) (FB 1073741824 W H (cst p W) k) _ a3 (Blk.arr (f := fun i => .bool (FB 1073741824 W H (cst p W) k i)) kf kf.lt)).mono ?_
      rintro e w6 ⟨hout, hb6⟩
      have F6 := hF.below hb6
      have b6 := below_call b3 b3.size hb6
      have k6 := ki.below' hb6
      have kf6 := kf.below' hb6
      have z6 := kf.lt
      have z7 := b3.size
      have z8 : w.heap.size ≤ wr.heap.size := b3.size
      have z9 := b6.size
      clear hF b3 ki kf hb6 a3 p1 p2 p3
      obtain ⟨p1, p2, p3⟩ := k6.cells3
      rcases hout with ⟨hN, rfl⟩ | ⟨hlt, vp, rfl, hown⟩
      · replace hN : GC 1073741824 W H (cst p W) k = 1073741824 := hN
        have HN2 := Lib.hid hN
        clear hN CB
        go_wp2_with fail
        have MK : Many 1073741824 W H (cst p W) k := ⟨HK.out, hg, fun _ h => by have := h.1; have := HN2.out; omega⟩
        refine (sort_found w.heap.size W.toNat k (LN 1073741824 W H (cst p W)) _ v _ F6 (by have := HK.out; omega) (by omega) (fun i hi => by have := LB.out i (hg i hi); omega)).mono ?_
        rintro e w9 ⟨rfl, l, l1, l2, l3, l4, l5⟩
        have b9 := b6.grown l5 b6.size (fun j hj => (own_ge F6.row hj).1)
        go_wp2
        refine bodyPost_ret (results_tmp2 rfl _ _ _) rfl ?_
        exact ⟨_, rfl, ⟨_, rfl, k, l, v, MK, l1, l2, l3, l4⟩, b9⟩
      · replace hlt : GC 1073741824 W H (cst p W) k < 1073741824 := hlt
        replace hown : w6.ownsRow wr.heap.size 3 1 vp W.toNat ((List.range W.toNat).map fun j => Value.int .i64 (LN 1073741824 W H (cst p W) k j)) := hown
        obtain ⟨g, cp, rfl⟩ := own_some hown (by omega)
        obtain ⟨CB1, CB2⟩ := CB
        have hC : Hid (GC 1073741824 W H (cst p W) k = gAt 1073741824 W H (cst p W) (fun x y => FB 1073741824 W H (cst p W) k (y * W + x)) 0 (pathP 1073741824 W H (cst p W) (fun x y => FB 1073741824 W H (cst p W) k (y * W + x)) 0)) := by show _ = _; rfl
        have PL := Lib.hid fun x hx => ln_ok (cst_bd p W) (by omega) (by omega) (by omega) hlt x hx
        rw [← hC.out]
        have GD := Lib.hid (show 8 * GC 1073741824 W H (cst p W) k ≤ W → Good 1073741824 W H (cst p W) k from fun h => ⟨hlt, h⟩)
        have NG := Lib.hid (show ¬ 8 * GC 1073741824 W H (cst p W) k ≤ W → ¬ Good 1073741824 W H (cst p W) k from fun h g => h g.2)
        generalize GC 1073741824 W H (cst p W) k = C at *
        clear hC
        have v1 : IntKind.i64.wrap (8 * C) = 8 * C := IntWalk.i64_in _ (by omega)
        by_cases hc : 8 * C ≤ W
        · go_wp2_with (at_builtin; refine wpList_append_own _ rfl (.tmp 47) (.tmp 49) 34 rfl w.heap.size 25 i0 (.slice none 0 0) 1 24 Try.underlying34 hi0 hz0 hz1 hz2 rfl (by decide) _ _ _ rfl (F6.row.alloc _) ⟨w6.heap.size, 0, none⟩ 1 1 [.slice (some ⟨g, 0, none⟩) W.toNat cp] rfl rfl ?c1 ?c2 ?c3 ?c4 ?c5 ?_)
          case c1 => exact cell_one_new _ _ _
          case c2 => simp [Value.oneCell']
          case c3 => unfold maxLen; omega
          case c4 => omega
          case c5 => simp; omega
          intro v' w7 own7 hg7 _
          have G1 := GD.out hc
          obtain ⟨vf, hv1⟩ : ∃ vf : Nat → Value, vf = fun i => if i = k then .slice (some ⟨g, 0, none⟩) W.toNat cp else v i := ⟨_, rfl⟩
          have F7 : Found w.heap.size w7 W.toNat (LN 1073741824 W H (cst p W)) (k + 1) v' vf := by
            refine ⟨?_, fun i hi => ?_⟩
            · rw [range_snoc, hv1]
              simp only [if_true]
              rw [show (List.range k).map (fun i => if i = k then Value.slice (some ⟨g, 0, none⟩) W.toNat cp else v i) = (List.range k).map v from List.map_congr_left fun i hi => by rw [if_neg]; have := List.mem_range.1 hi; omega]
              exact own7
            · rw [hv1]
              show World.ownsRow _ _ _ _ (if i = k then _ else v i) _ _
              by_cases e : i = k
              · subst e
                rw [if_pos rfl]
                exact own_grown ((own_base hown z8).alloc _) (F6.row.alloc _) (by decide) hg7
              · rw [if_neg e]
                exact own_grown ((F6.lines i (by omega)).alloc _) (F6.row.alloc _) (by decide) hg7
          have b7 : Below w.heap.size w w7 := (show Below w.heap.size w (w6.alloc (.cells #[.slice (some ⟨g, 0, none⟩) W.toNat cp] 25)) by (repeat (first | exact Below.refl _ _ | assumption | refine Below.drew ?_ | refine below_drewN ?_ _ | refine Below.alloc ?_ (by first | omega | (simp; done) | (simp; omega)) _ | refine Below.setCell ?_ (by first | omega | (simp; done) | (simp; omega)) _ | refine below_setRow ?_ (by first | omega | (simp; done) | (simp; omega)) _ ))).grown hg7 (by simp; omega) (fun j hj => (own_ge F6.row hj).1)
          have k7 := (k6.alloc (.cells #[.slice (some ⟨g, 0, none⟩) W.toNat cp] 25)).grown hg7 (own_neB F6.row k6 (by decide))
          have kf7 := (kf6.alloc (.cells #[.slice (some ⟨g, 0, none⟩) W.toNat cp] 25)).grown hg7 (own_neB F6.row kf6 (by decide))
          have v1k : vf k = .slice (some ⟨g, 0, none⟩) W.toNat cp := by rw [hv1]; simp
          have V1K := Lib.hid v1k
          have ZG : Hid (w.heap.size ≠ gf) := by
            show _ ≠ _
            intro e
            have h1 : w6.heap[gf]? = _ := kf6
            rw [← e] at h1
            have h2 : w6.heap[w.heap.size]? = _ := k6
            rw [h2] at h1
            exact absurd (congrArg (fun o : Option Obj => match o with | some (.cells _ t _) => t | _ => 0) h1) (show ¬ ((24 : Nat) = 4) by decide)
          have ln7 := own_len own7
          clear hv1 v1k k6 kf6 F6 b6 own7 hg7 hown v1 p1 p2 p3
          go_wp2_with fail
          go_loopw [53] (fun s wr => ∃ x : Nat, (x : Int) ≤ W ∧ s = .int .i64 x ∧ Found w.heap.size wr W.toNat (LN 1073741824 W H (cst p W)) (k + 1) v' vf ∧ Below w.heap.size w wr ∧ Blk wr w.heap.size 24 #[.int .i64 W, .int .i64 H, .slice A n c] ∧ Blk wr gf 4 (bools n (mkR W (FB 1073741824 W H (cst p W) k) (LN 1073741824 W H (cst p W) k) x (LN 1073741824 W H (cst p W) k x - 2)))) (fun s _ => (W - intOf s).toNat)
          case atStart => exact ⟨0, by omega, rfl, F7, b7, k7, kf7.bconv fun i i0 _ => (mkR_zero (by omega)).symm⟩
          case round =>
            obtain ⟨x, xm, rfl, F8, b8, k8, kf8⟩ := hrel
            clear F7 b7 k7 kf7
            by_cases xW : (x : Int) < W
            · have hl := F8.lines k (Nat.lt_succ_self k)
              rw [V1K.out] at hl
              obtain ⟨A9, c9, e9, ha9⟩ := own_arrI hl
              cases e9
              obtain ⟨b9', off9, e9, -, hc9⟩ := ArrI.at_ ha9 (i := (x : Int)) (by omega) (by omega)
              cases e9
              rw [Int.toNat_natCast, Nat.zero_add] at hc9
              obtain ⟨y0, y1, -⟩ := PL.out x xW
              have HY : Hid (∃ y, LN 1073741824 W H (cst p W) k x = y) := by show ∃ y, _; exact ⟨_, rfl⟩
              obtain ⟨y, hy⟩ := HY.out
              rw [hy] at hc9 y0 y1
              clear HY hl ha9
              have HY := Lib.hid hy
              clear hy
              have v2 : IntKind.i64.wrap (y - 2) = y - 2 := IntWalk.i64_in _ (by omega)
              have v3 : IntKind.i64.wrap (y + 2) = y + 2 := IntWalk.i64_in _ (by omega)
              have v4 : IntKind.i64.wrap (H - 1) = H - 1 := IntWalk.i64_in _ (by omega)
              by_cases hm : y - 2 < 0
              · go_wp2_with fail
                go_loopw [11] (fun s wr => ∃ t : Int, y - 2 ≤ t ∧ 0 ≤ t ∧ t ≤ y + 3 ∧ t ≤ H ∧ s = .int .i64 t ∧ Found w.heap.size wr W.toNat (LN 1073741824 W H (cst p W)) (k + 1) v' vf ∧ Below w.heap.size w wr ∧ Blk wr w.heap.size 24 #[.int .i64 W, .int .i64 H, .slice A n c] ∧ Blk wr gf 4 (bools n (mkR W (FB 1073741824 W H (cst p W) k) (LN 1073741824 W H (cst p W) k) x t))) (fun s _ => (H + 3 - intOf s).toNat)
                case atStart => exact ⟨0, by omega, by omega, by omega, by omega, by go_num, F8, b8, k8, kf8.bconv fun i i0 _ => mkR_start i0 (by omega) (by rw [HY.out]; split <;> omega)⟩
                case round =>
                  obtain ⟨t, t1, t2, t3, t4, rfl, F9, b9, k9, kf9⟩ := hrel
                  clear F8 b8 k8 kf8
                  obtain ⟨p1, p2, p3⟩ := k9.cells3
                  by_cases hM : y + 2 < H - 1
                  · by_cases hT : t ≤ y + 2
                    · obtain ⟨i1, i2, i3⟩ := idx_lt (x := (x : Int)) (y := t) (W := W) (H := H) (by omega) xW t2 (by omega)
                      rw [Int.mul_comm H W] at i2
                      have i4 : t * W + x < (n : Int) := by have := HN.out; omega
                      have v5 : IntKind.i64.wrap (t * W) = t * W := IntWalk.i64_in _ (by omega)
                      have v6 : IntKind.i64.wrap (t * W + x) = t * W + x := IntWalk.i64_in _ (by omega)
                      have fr := kf9.frozen (t * W + x).toNat
                      have cc : (wr.cell? ⟨gf, (t * W + x).toNat, none⟩).isSome = true := by rw [kf9.cell]; unfold bools; rw [cellsF_at i1 i4]; rfl
                      obtain ⟨u0, hu0⟩ := Option.isSome_iff_exists.1 cc
                      clear cc
                      go_wp2_with fail
                      go_roundw
                      case rel => exact ⟨t + 1, by omega, by omega, by omega, by omega, by go_num, F9.far kf9 (by decide) (by decide) _ _, by (repeat (first | exact Below.refl _ _ | assumption | refine Below.drew ?_ | refine below_drewN ?_ _ | refine Below.alloc ?_ (by first | omega | (simp; done) | (simp; omega)) _ | refine Below.setCell ?_ (by first | omega | (simp; done) | (simp; omega)) _ | refine below_setRow ?_ (by first | omega | (simp; done) | (simp; omega)) _ )), k9.far (p := ⟨gf, (t * W + x).toNat, none⟩) (by have := ZG.out; simp; omega) _, (kf9.bset (t * W + x) i1 true).bconv fun i _ _ => mkR_set xW (by rw [HY.out]; omega) i⟩
                      case measure => simp [intOf]; omega

                    · have hT' : y + 2 < t := by omega
                      clear hT
                      go_wp2_with fail
                      go_roundw
                      case rel => exact ⟨x + 1, by omega, by go_num, F9, b9, k9, kf9.bconv fun i i0 i1 => mkR_col (H := H) i0 (by have := HN.out; omega) (by omega) (by rw [HY.out]; split <;> omega) (by rw [HY.out]; omega)⟩
                      case measure => simp [intOf]; omega

                  · have hM' : H - 1 ≤ y + 2 := by omega
                    by_cases hT : t ≤ H - 1
                    · obtain ⟨i1, i2, i3⟩ := idx_lt (x := (x : Int)) (y := t) (W := W) (H := H) (by omega) xW t2 (by omega)
                      rw [Int.mul_comm H W] at i2
                      have i4 : t * W + x < (n : Int) := by have := HN.out; omega
                      have v5 : IntKind.i64.wrap (t * W) = t * W := IntWalk.i64_in _ (by omega)
                      have v6 : IntKind.i64.wrap (t * W + x) = t * W + x := IntWalk.i64_in _ (by omega)
                      have fr := kf9.frozen (t * W + x).toNat
                      have cc : (wr.cell? ⟨gf, (t * W + x).toNat, none⟩).isSome = true := by rw [kf9.cell]; unfold bools; rw [cellsF_at i1 i4]; rfl
                      obtain ⟨u0, hu0⟩ := Option.isSome_iff_exists.1 cc
                      clear cc
                      go_wp2_with fail
                      go_roundw
                      case rel => exact ⟨t + 1, by omega, by omega, by omega, by omega, by go_num, F9.far kf9 (by decide) (by decide) _ _, by (repeat (first | exact Below.refl _ _ | assumption | refine Below.drew ?_ | refine below_drewN ?_ _ | refine Below.alloc ?_ (by first | omega | (simp; done) | (simp; omega)) _ | refine Below.setCell ?_ (by first | omega | (simp; done) | (simp; omega)) _ | refine below_setRow ?_ (by first | omega | (simp; done) | (simp; omega)) _ )), k9.far (p := ⟨gf, (t * W + x).toNat, none⟩) (by have := ZG.out; simp; omega) _, (kf9.bset (t * W + x) i1 true).bconv fun i _ _ => mkR_set xW (by rw [HY.out]; omega) i⟩
                      case measure => simp [intOf]; omega

                    · have hT' : H - 1 < t := by omega
                      clear hT
                      go_wp2_with fail
                      go_roundw
                      case rel => exact ⟨x + 1, by omega, by go_num, F9, b9, k9, kf9.bconv fun i i0 i1 => mkR_col (H := H) i0 (by have := HN.out; omega) (by omega) (by rw [HY.out]; split <;> omega) (by rw [HY.out]; omega)⟩
                      case measure => simp [intOf]; omega
              · go_wp2_with fail
                go_loopw [11] (fun s wr => ∃ t : Int, y - 2 ≤ t ∧ 0 ≤ t ∧ t ≤ y + 3 ∧ t ≤ H ∧ s = .int .i64 t ∧ Found w.heap.size wr W.toNat (LN 1073741824 W H (cst p W)) (k + 1) v' vf ∧ Below w.heap.size w wr ∧ Blk wr w.heap.size 24 #[.int .i64 W, .int .i64 H, .slice A n c] ∧ Blk wr gf 4 (bools n (mkR W (FB 1073741824 W H (cst p W) k) (LN 1073741824 W H (cst p W) k) x t))) (fun s _ => (H + 3 - intOf s).toNat)
                case atStart => exact ⟨y - 2, by omega, by omega, by omega, by omega, by go_num, F8, b8, k8, kf8.bconv fun i i0 _ => mkR_start i0 (by omega) (by rw [HY.out]; split <;> omega)⟩
                case round =>
                  obtain ⟨t, t1, t2, t3, t4, rfl, F9, b9, k9, kf9⟩ := hrel
                  clear F8 b8 k8 kf8
                  obtain ⟨p1, p2, p3⟩ := k9.cells3
                  by_cases hM : y + 2 < H - 1
                  · by_cases hT : t ≤ y + 2
                    · obtain ⟨i1, i2, i3⟩ := idx_lt (x := (x : Int)) (y := t) (W := W) (H := H) (by omega) xW t2 (by omega)
                      rw [Int.mul_comm H W] at i2
                      have i4 : t * W + x < (n : Int) := by have := HN.out; omega
                      have v5 : IntKind.i64.wrap (t * W) = t * W := IntWalk.i64_in _ (by omega)
                      have v6 : IntKind.i64.wrap (t * W + x) = t * W + x := IntWalk.i64_in _ (by omega)
                      have fr := kf9.frozen (t * W + x).toNat
                      have cc : (wr.cell? ⟨gf, (t * W + x).toNat, none⟩).isSome = true := by rw [kf9.cell]; unfold bools; rw [cellsF_at i1 i4]; rfl
                      obtain ⟨u0, hu0⟩ := Option.isSome_iff_exists.1 cc
                      clear cc
                      go_wp2_with fail
                      go_roundw
                      case rel => exact ⟨t + 1, by omega, by omega, by omega, by omega, by go_num, F9.far kf9 (by decide) (by decide) _ _, by (repeat (first | exact Below.refl _ _ | assumption | refine Below.drew ?_ | refine below_drewN ?_ _ | refine Below.alloc ?_ (by first | omega | (simp; done) | (simp; omega)) _ | refine Below.setCell ?_ (by first | omega | (simp; done) | (simp; omega)) _ | refine below_setRow ?_ (by first | omega | (simp; done) | (simp; omega)) _ )), k9.far (p := ⟨gf, (t * W + x).toNat, none⟩) (by have := ZG.out; simp; omega) _, (kf9.bset (t * W + x) i1 true).bconv fun i _ _ => mkR_set xW (by rw [HY.out]; omega) i⟩
                      case measure => simp [intOf]; omega

                    · have hT' : y + 2 < t := by omega
                      clear hT
                      go_wp2_with fail
                      go_roundw
                      case rel => exact ⟨x + 1, by omega, by go_num, F9, b9, k9, kf9.bconv fun i i0 i1 => mkR_col (H := H) i0 (by have := HN.out; omega) (by omega) (by rw [HY.out]; split <;> omega) (by rw [HY.out]; omega)⟩
                      case measure => simp [intOf]; omega

                  · have hM' : H - 1 ≤ y + 2 := by omega
                    by_cases hT : t ≤ H - 1
                    · obtain ⟨i1, i2, i3⟩ := idx_lt (x := (x : Int)) (y := t) (W := W) (H := H) (by omega) xW t2 (by omega)
                      rw [Int.mul_comm H W] at i2
                      have i4 : t * W + x < (n : Int) := by have := HN.out; omega
                      have v5 : IntKind.i64.wrap (t * W) = t * W := IntWalk.i64_in _ (by omega)
                      have v6 : IntKind.i64.wrap (t * W + x) = t * W + x := IntWalk.i64_in _ (by omega)
                      have fr := kf9.frozen (t * W + x).toNat
                      have cc : (wr.cell? ⟨gf, (t * W + x).toNat, none⟩).isSome = true := by rw [kf9.cell]; unfold bools; rw [cellsF_at i1 i4]; rfl
                      obtain ⟨u0, hu0⟩ := Option.isSome_iff_exists.1 cc
                      clear cc
                      go_wp2_with fail
                      go_roundw
                      case rel => exact ⟨t + 1, by omega, by omega, by omega, by omega, by go_num, F9.far kf9 (by decide) (by decide) _ _, by (repeat (first | exact Below.refl _ _ | assumption | refine Below.drew ?_ | refine below_drewN ?_ _ | refine Below.alloc ?_ (by first | omega | (simp; done) | (simp; omega)) _ | refine Below.setCell ?_ (by first | omega | (simp; done) | (simp; omega)) _ | refine below_setRow ?_ (by first | omega | (simp; done) | (simp; omega)) _ )), k9.far (p := ⟨gf, (t * W + x).toNat, none⟩) (by have := ZG.out; simp; omega) _, (kf9.bset (t * W + x) i1 true).bconv fun i _ _ => mkR_set xW (by rw [HY.out]; omega) i⟩
                      case measure => simp [intOf]; omega

                    · have hT' : H - 1 < t := by omega
                      clear hT
                      go_wp2_with fail
                      go_roundw
                      case rel => exact ⟨x + 1, by omega, by go_num, F9, b9, k9, kf9.bconv fun i i0 i1 => mkR_col (H := H) i0 (by have := HN.out; omega) (by omega) (by rw [HY.out]; split <;> omega) (by rw [HY.out]; omega)⟩
                      case measure => simp [intOf]; omega
            · obtain rfl : (x : Int) = W := by omega
              go_wp2_with fail
              go_roundw
              case rel => exact ⟨k + 1, vf, by omega, fun j hj => by (rcases Nat.lt_succ_iff_lt_or_eq.1 hj with h | rfl; exact hg j h; exact G1), F8, b8, k8, kf8.bconv fun i _ _ => mkR_end (by omega) rfl⟩
              case measure => simp [rl, ln7]; omega
        · go_wp2_with fail
          have MK : Many 1073741824 W H (cst p W) k := ⟨HK.out, hg, fun _ => NG.out hc⟩
          refine (sort_found w.heap.size W.toNat k (LN 1073741824 W H (cst p W)) _ v _ F6 (by have := HK.out; omega) (by omega) (fun i hi => by have := LB.out i (hg i hi); omega)).mono ?_
          rintro e w9 ⟨rfl, l, l1, l2, l3, l4, l5⟩
          have b9 := b6.grown l5 b6.size (fun j hj => (own_ge F6.row hj).1)
          go_wp2
          refine bodyPost_ret (results_tmp2 rfl _ _ _) rfl ?_
          exact ⟨_, rfl, ⟨_, rfl, k, l, v, MK, l1, l2, l3, l4⟩, b9⟩
    · go_wp2_with fail
      have MK : Many 1073741824 W H (cst p W) k := ⟨HK.out, hg, fun h => by omega⟩
      refine (sort_found w.heap.size W.toNat k (LN 1073741824 W H (cst p W)) _ v _ hF (by have := HK.out; omega) (by omega) (fun i hi => by have := LB.out i (hg i hi); omega)).mono ?_
      rintro e w9 ⟨rfl, l, l1, l2, l3, l4, l5⟩
      have b9 := b3.grown l5 b3.size (fun j hj => (own_ge hF.row hj).1)
      go_wp2
      refine bodyPost_ret (results_tmp2 rfl _ _ _) rfl ?_
      exact ⟨_, rfl, ⟨_, rfl, k, l, v, MK, l1, l2, l3, l4⟩, b9⟩
end Go.Proofs.Ytdimlpcbbkokiaa
