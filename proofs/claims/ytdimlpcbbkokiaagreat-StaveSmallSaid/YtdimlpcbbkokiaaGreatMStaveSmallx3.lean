/- Texts of mine in build order: T3, T5, T6, W14, T8, T10, T7. Conditions: each theorem's own. -/
import Derived.Test.YtdimlpcbbkokiaaGreatMStaveSmallx2
import Derived.Laws.AppendOwnNone
import Derived.Deep.RegionHeld3
import Derived.Deep.DeepCutAuto
import Derived.Deep.Cut
import Derived.RangeFuncNested
import Derived.RangeFuncFrom
/- Walks: costs with their errors, the program's and the reference's. -/
namespace Go.Proofs.YtdimlpcbbkokiaaGreat
open Go.RowKit
set_option linter.unusedVariables false

set_option maxHeartbeats 1000000 in
theorem cost_all (W H : Int) (A P : Option Addr) (n c m d : Nat) (p q : Int → Int) (E V : Int) (w : World) (hA : ArrB w w.heap.size A n p) (hn : n ≤ maxLen) (hB : IsB p) (hP : ArrI w w.heap.size P m q) (hm : m ≤ maxLen) (hE : costE W H n p m q = E) (hV : costV W H n p m q = V) :
    Calls Tryz.prog 47 #[.agg #[.int .i64 W, .int .i64 H, .slice A n c], .slice P m d] w fun e w' => e = .returned (.tuple #[.int .i64 V, .int .i64 E]) ∧ Below w.heap.size w w' := by
  by_cases e : E = 0
  · subst e
    obtain ⟨e1, e2⟩ := costE_ok hE
    have : V = costP (cst p W) q m := by rw [← hV]; unfold costV; rw [if_pos hE]
    subst this
    exact cost_ok W H A P n c m d p q w hA hn hB hP e1 e2
  · have : V = 0 := by rw [← hV]; unfold costV; rw [if_neg (by rw [hE]; exact e)]
    subst this
    clear hV
    have CK := Lib.hid fun w' hA' => check_any W H A n c p w' hA' hn
    by_cases hc : chk W H n p = 0
    · have hI : isPathB W H m q = false := by
        cases h : isPathB W H m q
        · rfl
        · exfalso; apply e; rw [← hE]; unfold costE; rw [if_neg (by simp [hc]), h]; rfl
      have hE1 : E = 1 := by rw [← hE]; unfold costE; rw [if_neg (by simp [hc]), hI]; rfl
      subst hE1
      rw [hc] at CK
      obtain ⟨hW1, hW2, hH1, hH2, hnn, hpx⟩ := chk_ok hc
      have IP := Lib.hid fun w' hP' => isPath_any W H A P n c m d q w' hW2 hH2 hP' hm
      rw [hI] at IP
      clear hc hI hE hnn hpx e
      go_enter Tryz.func47, Tryz.ntmps47
      go_wp2_with fail
      refine (CK.out _ (hA.to (by (repeat (first | exact Below.refl _ _ | assumption | refine Below.drew ?_ | refine below_drewN ?_ _ | refine Below.alloc ?_ (by first | omega | (simp; done) | (simp; omega)) _ | refine Below.setCell ?_ (by first | omega | (simp; done) | (simp; omega)) _ | refine below_setRow ?_ (by first | omega | (simp; done) | (simp; omega)) _ ))))).mono ?_
      rintro e w1 ⟨rfl, hb1⟩
      have b1 : Below w.heap.size w w1 := below_call (by (repeat (first | exact Below.refl _ _ | assumption | refine Below.drew ?_ | refine below_drewN ?_ _ | refine Below.alloc ?_ (by first | omega | (simp; done) | (simp; omega)) _ | refine Below.setCell ?_ (by first | omega | (simp; done) | (simp; omega)) _ | refine below_setRow ?_ (by first | omega | (simp; done) | (simp; omega)) _ ))) (by simp; try omega) hb1
      have k1 : Blk w1 w.heap.size 24 #[.int .i64 W, .int .i64 H, .slice A n c] := (Blk.new _ _ _).below' hb1
      clear hb1 CK
      obtain ⟨p1, p2, p3⟩ := k1.cells3
      go_wp2_with fail
      refine (IP.out _ (hP.to b1)).mono ?_
      rintro e w2 ⟨rfl, hb2⟩
      have b2 := below_call b1 b1.size hb2
      go_wp2
      go_ret2
      exact ⟨rfl, b2⟩
    · have hz : chk W H n p = E := by rw [← hE]; unfold costE; rw [if_pos hc]
      rw [hz] at CK
      have hb : (E != 0) = true := by simp [e]
      have HE := Lib.hid e; clear e hc hz hE
      go_enter Tryz.func47, Tryz.ntmps47
      go_wp2_with fail
      refine (CK.out _ (hA.to (by (repeat (first | exact Below.refl _ _ | assumption | refine Below.drew ?_ | refine below_drewN ?_ _ | refine Below.alloc ?_ (by first | omega | (simp; done) | (simp; omega)) _ | refine Below.setCell ?_ (by first | omega | (simp; done) | (simp; omega)) _ | refine below_setRow ?_ (by first | omega | (simp; done) | (simp; omega)) _ ))))).mono ?_
      rintro e w1 ⟨rfl, hb1⟩
      have b1 : Below w.heap.size w w1 := below_call (by (repeat (first | exact Below.refl _ _ | assumption | refine Below.drew ?_ | refine below_drewN ?_ _ | refine Below.alloc ?_ (by first | omega | (simp; done) | (simp; omega)) _ | refine Below.setCell ?_ (by first | omega | (simp; done) | (simp; omega)) _ | refine below_setRow ?_ (by first | omega | (simp; done) | (simp; omega)) _ ))) (by simp; try omega) hb1
      go_wp2
      go_ret2
      exact ⟨rfl, b1⟩

set_option maxHeartbeats 1000000 in
theorem rcost_all (W H : Int) (A P : Option Addr) (n c m d : Nat) (p q : Int → Int) (E V : Int) (w : World) (hA : ArrB w w.heap.size A n p) (hn : n ≤ maxLen) (hB : IsB p) (hP : ArrI w w.heap.size P m q) (hm : m ≤ maxLen) (hE : costE W H n p m q = E) (hV : costV W H n p m q = V) :
    Calls Tryz.prog 48 #[.agg #[.int .i64 W, .int .i64 H, .slice A n c], .slice P m d] w fun e w' => e = .returned (.tuple #[.int .i64 V, .int .i64 E]) ∧ Below w.heap.size w w' := by
  have CK := Lib.hid fun w' hA' => rcheck_any W H A n c p w' hA' hn hB
  by_cases hc : chk W H n p = 0
  · obtain ⟨hW1, hW2, hH1, hH2, hnn, hpx⟩ := chk_ok hc
    have IP := Lib.hid fun w' hP' => risPath_any W H A P n c m d q w' hW1 hH1 hW2 hH2 hP' hm
    have CO := Lib.hid fun w' hA' hP' hI => rcostOf_any W H A P n c m d p q w' hA' hP' hc hI
    rw [hc] at CK
    cases hI : isPathB W H m q
    · have hE1 : E = 1 := by rw [← hE]; unfold costE; rw [if_neg (by simp [hc]), hI]; rfl
      have hV1 : V = 0 := by rw [← hV]; unfold costV; rw [if_neg (by rw [hE, hE1]; decide)]
      subst hE1; subst hV1
      rw [hI] at IP
      clear hc hI hE hV hnn hpx CO
      go_enter Tryz.func48, Tryz.ntmps48
      go_wp2_with fail
      refine (CK.out _ (hA.to (by (repeat (first | exact Below.refl _ _ | assumption | refine Below.drew ?_ | refine below_drewN ?_ _ | refine Below.alloc ?_ (by first | omega | (simp; done) | (simp; omega)) _ | refine Below.setCell ?_ (by first | omega | (simp; done) | (simp; omega)) _ | refine below_setRow ?_ (by first | omega | (simp; done) | (simp; omega)) _ ))))).mono ?_
      rintro e w1 ⟨rfl, hb1⟩
      have b1 : Below w.heap.size w w1 := below_call (by (repeat (first | exact Below.refl _ _ | assumption | refine Below.drew ?_ | refine below_drewN ?_ _ | refine Below.alloc ?_ (by first | omega | (simp; done) | (simp; omega)) _ | refine Below.setCell ?_ (by first | omega | (simp; done) | (simp; omega)) _ | refine below_setRow ?_ (by first | omega | (simp; done) | (simp; omega)) _ ))) (by simp; try omega) hb1
      have k1 : Blk w1 w.heap.size 24 #[.int .i64 W, .int .i64 H, .slice A n c] := (Blk.new _ _ _).below' hb1
      clear hb1 CK
      obtain ⟨p1, p2, p3⟩ := k1.cells3
      go_wp2_with fail
      refine (IP.out _ (hP.to b1)).mono ?_
      rintro e w2 ⟨rfl, hb2⟩
      have b2 := below_call b1 b1.size hb2
      go_wp2
      go_ret2
      exact ⟨rfl, b2⟩
    · have hE1 : E = 0 := by rw [← hE]; unfold costE; rw [if_neg (by simp [hc]), hI]; rfl
      have hV1 : V = costP (cst p W) q m := by rw [← hV]; unfold costV; rw [if_pos (by rw [hE, hE1])]
      subst hE1; subst hV1
      have CO := Lib.hid fun w' hA' hP' => CO.out w' hA' hP' hI
      rw [hI] at IP
      clear hc hI hE hV hnn hpx
      generalize costP (cst p W) q m = V at *
      go_enter Tryz.func48, Tryz.ntmps48
      go_wp2_with fail
      refine (CK.out _ (hA.to (by (repeat (first | exact Below.refl _ _ | assumption | refine Below.drew ?_ | refine below_drewN ?_ _ | refine Below.alloc ?_ (by first | omega | (simp; done) | (simp; omega)) _ | refine Below.setCell ?_ (by first | omega | (simp; done) | (simp; omega)) _ | refine below_setRow ?_ (by first | omega | (simp; done) | (simp; omega)) _ ))))).mono ?_
      rintro e w1 ⟨rfl, hb1⟩
      have b1 : Below w.heap.size w w1 := below_call (by (repeat (first | exact Below.refl _ _ | assumption | refine Below.drew ?_ | refine below_drewN ?_ _ | refine Below.alloc ?_ (by first | omega | (simp; done) | (simp; omega)) _ | refine Below.setCell ?_ (by first | omega | (simp; done) | (simp; omega)) _ | refine below_setRow ?_ (by first | omega | (simp; done) | (simp; omega)) _ ))) (by simp; try omega) hb1
      have k1 : Blk w1 w.heap.size 24 #[.int .i64 W, .int .i64 H, .slice A n c] := (Blk.new _ _ _).below' hb1
      clear hb1 CK
      obtain ⟨p1, p2, p3⟩ := k1.cells3
      go_wp2_with fail
      refine (IP.out _ (hP.to b1)).mono ?_
      rintro e w2 ⟨rfl, hb2⟩
      have b2 := below_call b1 b1.size hb2
      have k2 := k1.below' hb2
      clear b1 k1 hb2 p1 p2 p3
      obtain ⟨p1, p2, p3⟩ := k2.cells3
      go_wp2_with fail
      refine (CO.out _ (hA.to b2) (hP.to b2)).mono ?_
      rintro e w3 ⟨rfl, hb3⟩
      have b3 := below_call b2 b2.size hb3
      go_wp2
      go_ret2
      exact ⟨rfl, b3⟩
  · have hz : chk W H n p = E := by rw [← hE]; unfold costE; rw [if_pos hc]
    have e : E ≠ 0 := by rw [← hz]; exact hc
    have hV1 : V = 0 := by rw [← hV]; unfold costV; rw [if_neg (by rw [hE]; exact e)]
    subst hV1
    rw [hz] at CK
    have hb : (E != 0) = true := by simp [e]
    have HE := Lib.hid e; clear e hc hz hE hV
    go_enter Tryz.func48, Tryz.ntmps48
    go_wp2_with fail
    refine (CK.out _ (hA.to (by (repeat (first | exact Below.refl _ _ | assumption | refine Below.drew ?_ | refine below_drewN ?_ _ | refine Below.alloc ?_ (by first | omega | (simp; done) | (simp; omega)) _ | refine Below.setCell ?_ (by first | omega | (simp; done) | (simp; omega)) _ | refine below_setRow ?_ (by first | omega | (simp; done) | (simp; omega)) _ ))))).mono ?_
    rintro e w1 ⟨rfl, hb1⟩
    have b1 : Below w.heap.size w w1 := below_call (by (repeat (first | exact Below.refl _ _ | assumption | refine Below.drew ?_ | refine below_drewN ?_ _ | refine Below.alloc ?_ (by first | omega | (simp; done) | (simp; omega)) _ | refine Below.setCell ?_ (by first | omega | (simp; done) | (simp; omega)) _ | refine below_setRow ?_ (by first | omega | (simp; done) | (simp; omega)) _ ))) (by simp; try omega) hb1
    go_wp2
    go_ret2
    exact ⟨rfl, b1⟩
end Go.Proofs.YtdimlpcbbkokiaaGreat

/- Walk: the least cost from a pixel to the last column (the closure of best). -/
namespace Go.Proofs.YtdimlpcbbkokiaaGreat
open Go.RowKit Go.Shelf
set_option linter.unusedVariables false
attribute [local go_sem] Oper.semAt_some

/-- what the closure best$1 has captured, and reads -/
structure BestK (w : World) (W H : Int) (Bf Bw Bh Br Bi gr N : Nat) (Fa A : Option Addr) (fc n c : Nat) (fb : Int → Bool) (R p : Int → Int) : Prop where
  kf : Blk w Bf 48 #[.slice Fa N fc]
  kw : Blk w Bw 3 #[.int .i64 W]
  kh : Blk w Bh 3 #[.int .i64 H]
  kr : Blk w Br 37 #[.slice (some ⟨gr, 0, none⟩) N N]
  kR : Blk w gr 3 (i64s N R)
  ki : Blk w Bi 24 #[.int .i64 W, .int .i64 H, .slice A n c]
  aF : Arr w w.heap.size Fa N (fun i => .bool (fb i))
  aA : ArrB w w.heap.size A n p
theorem BestK.below {w w' : World} {W H : Int} {Bf Bw Bh Br Bi gr N : Nat} {Fa A : Option Addr} {fc n c : Nat} {fb : Int → Bool} {R p : Int → Int} (k : BestK w W H Bf Bw Bh Br Bi gr N Fa A fc n c fb R p) (hb : Below w.heap.size w w') : BestK w' W H Bf Bw Bh Br Bi gr N Fa A fc n c fb R p :=
  ⟨k.kf.below' hb, k.kw.below' hb, k.kh.below' hb, k.kr.below' hb, k.kR.below' hb, k.ki.below' hb, (k.aF.below hb).more hb.size, k.aA.to hb⟩

/-- the same below a fixed number of blocks -/
structure BestB (B : Nat) (w : World) (W H : Int) (Bf Bw Bh Br Bi gr N : Nat) (Fa A : Option Addr) (fc n c : Nat) (fb : Int → Bool) (R p : Int → Int) : Prop where
  kf : Blk w Bf 48 #[.slice Fa N fc] ∧ Bf < B
  kw : Blk w Bw 3 #[.int .i64 W] ∧ Bw < B
  kh : Blk w Bh 3 #[.int .i64 H] ∧ Bh < B
  kr : Blk w Br 37 #[.slice (some ⟨gr, 0, none⟩) N N] ∧ Br < B
  kR : Blk w gr 3 (i64s N R) ∧ gr < B
  ki : Blk w Bi 24 #[.int .i64 W, .int .i64 H, .slice A n c] ∧ Bi < B
  aF : Arr w B Fa N (fun i => .bool (fb i))
  aA : ArrB w B A n p
section
variable {B : Nat} {w w' : World} {W H : Int} {Bf Bw Bh Br Bi gr N : Nat} {Fa A : Option Addr} {fc n c : Nat} {fb : Int → Bool} {R p : Int → Int}
theorem BestK.toB (k : BestK w W H Bf Bw Bh Br Bi gr N Fa A fc n c fb R p) : BestB w.heap.size w W H Bf Bw Bh Br Bi gr N Fa A fc n c fb R p :=
  ⟨⟨k.kf, k.kf.lt⟩, ⟨k.kw, k.kw.lt⟩, ⟨k.kh, k.kh.lt⟩, ⟨k.kr, k.kr.lt⟩, ⟨k.kR, k.kR.lt⟩, ⟨k.ki, k.ki.lt⟩, k.aF, k.aA⟩
theorem BestB.below (k : BestB B w W H Bf Bw Bh Br Bi gr N Fa A fc n c fb R p) (hb : Below B w w') : BestB B w' W H Bf Bw Bh Br Bi gr N Fa A fc n c fb R p :=
  ⟨⟨k.kf.1.below hb k.kf.2, k.kf.2⟩, ⟨k.kw.1.below hb k.kw.2, k.kw.2⟩, ⟨k.kh.1.below hb k.kh.2, k.kh.2⟩, ⟨k.kr.1.below hb k.kr.2, k.kr.2⟩, ⟨k.kR.1.below hb k.kR.2, k.kR.2⟩, ⟨k.ki.1.below hb k.ki.2, k.ki.2⟩, k.aF.below hb, k.aA.below hb⟩
end
/-- the state of the loop over the next rows -/
structure StepI (w : World) (W H x y : Int) (Bf Bw Bh Br Bi gr N : Nat) (Fa A : Option Addr) (fc n c : Nat) (fb : Int → Bool) (R p : Int → Int) (m : Int) (S : Nat) (w' : World) : Prop where
  bl : Below w.heap.size w w'
  k : BestB w.heap.size w' W H Bf Bw Bh Br Bi gr N Fa A fc n c fb R p
  bx : Blk w' w.heap.size 3 #[.int .i64 x]
  by' : Blk w' (w.heap.size + 1) 3 #[.int .i64 y]
  bn : Blk w' (w.heap.size + 1 + 1) 3 #[.int .i64 m]
  sz : S ≤ w'.heap.size

set_option maxRecDepth 100000 in
set_option maxHeartbeats 2000000 in
theorem from_never (W H x y : Int) (Bf Bw Bh Br Bi gr N : Nat) (Fa A : Option Addr) (fc n c : Nat) (fb : Int → Bool) (R p : Int → Int) (w : World) (k : BestK w W H Bf Bw Bh Br Bi gr N Fa A fc n c fb R p)
    (hE : chk W H n p = 0) (hN : (N : Int) = W * H) (x0 : 0 ≤ x) (x1 : x < W) (y0 : 0 ≤ y) (y1 : y < H) (hf : fb (y * W + x) = true) :
    Calls Tryz.prog 60 #[.int .i64 x, .int .i64 y, .pointer (some ⟨Bf, 0, none⟩), .pointer (some ⟨Bw, 0, none⟩), .pointer (some ⟨Bh, 0, none⟩), .pointer (some ⟨Br, 0, none⟩), .pointer (some ⟨Bi, 0, none⟩)] w
      fun e w' => e = .returned (.int .i64 1073741824) ∧ Below w.heap.size w w' := by
  obtain ⟨hW1, hW2, hH1, hH2, hnn, -⟩ := chk_ok hE
  obtain ⟨i1, i2, i3⟩ := idx_lt x0 x1 y0 y1
  rw [Int.mul_comm H W] at i2
  have i4 : y * W + x < N := by omega
  have j6 := (area_bd hW1 hW2 hH1 hH2).2
  have v1 : IntKind.i64.wrap (y * W) = y * W := IntWalk.i64_in _ (by omega)
  have v2 : IntKind.i64.wrap (y * W + x) = y * W + x := IntWalk.i64_in _ (by omega)
  have k2 := k.below (w' := (w.alloc (.cells #[.int .i64 x] 3)).alloc (.cells #[.int .i64 y] 3)) (by (repeat (first | exact Below.refl _ _ | assumption | refine Below.drew ?_ | refine below_drewN ?_ _ | refine Below.alloc ?_ (by first | omega | (simp; done) | (simp; omega)) _ | refine Below.setCell ?_ (by first | omega | (simp; done) | (simp; omega)) _ | refine below_setRow ?_ (by first | omega | (simp; done) | (simp; omega)) _ )))
  obtain ⟨b', off, rfl, hbB, hcell⟩ := k2.aF.at_ i1 i4
  rw [hf] at hcell
  have q1 := k2.kf.at0; have q2 := k2.kw.at0
  have z1 := k.kf.lt; have z2 := k.kw.lt
  clear k2 hE hN hnn hf
  go_enter Tryz.func60, Tryz.ntmps60
  go_wp2
  go_ret
  exact ⟨rfl, by (repeat (first | exact Below.refl _ _ | assumption | refine Below.drew ?_ | refine below_drewN ?_ _ | refine Below.alloc ?_ (by first | omega | (simp; done) | (simp; omega)) _ | refine Below.setCell ?_ (by first | omega | (simp; done) | (simp; omega)) _ | refine below_setRow ?_ (by first | omega | (simp; done) | (simp; omega)) _ ))⟩

set_option maxRecDepth 100000 in
set_option maxHeartbeats 2000000 in
theorem from_last (W H x y : Int) (Bf Bw Bh Br Bi gr N : Nat) (Fa A : Option Addr) (fc n c : Nat) (fb : Int → Bool) (R p : Int → Int) (w : World) (k : BestK w W H Bf Bw Bh Br Bi gr N Fa A fc n c fb R p)
    (hE : chk W H n p = 0) (hB : IsB p) (hN : (N : Int) = W * H) (x0 : 0 ≤ x) (x1 : x < W) (xl : ¬ x < W - 1) (y0 : 0 ≤ y) (y1 : y < H) (hf : fb (y * W + x) = false) :
    Calls Tryz.prog 60 #[.int .i64 x, .int .i64 y, .pointer (some ⟨Bf, 0, none⟩), .pointer (some ⟨Bw, 0, none⟩), .pointer (some ⟨Bh, 0, none⟩), .pointer (some ⟨Br, 0, none⟩), .pointer (some ⟨Bi, 0, none⟩)] w
      fun e w' => e = .returned (.int .i64 (min (cst p W x y) 1073741824)) ∧ Below w.heap.size w w' := by
  obtain ⟨hW1, hW2, hH1, hH2, hnn, -⟩ := chk_ok hE
  obtain ⟨i1, i2, i3⟩ := idx_lt x0 x1 y0 y1
  rw [Int.mul_comm H W] at i2
  have i4 : y * W + x < N := by omega
  have j6 := (area_bd hW1 hW2 hH1 hH2).2
  have v1 : IntKind.i64.wrap (y * W) = y * W := IntWalk.i64_in _ (by omega)
  have v2 : IntKind.i64.wrap (y * W + x) = y * W + x := IntWalk.i64_in _ (by omega)
  have k2 := k.below (w' := (w.alloc (.cells #[.int .i64 x] 3)).alloc (.cells #[.int .i64 y] 3)) (by (repeat (first | exact Below.refl _ _ | assumption | refine Below.drew ?_ | refine below_drewN ?_ _ | refine Below.alloc ?_ (by first | omega | (simp; done) | (simp; omega)) _ | refine Below.setCell ?_ (by first | omega | (simp; done) | (simp; omega)) _ | refine below_setRow ?_ (by first | omega | (simp; done) | (simp; omega)) _ )))
  have PX := Lib.hid fun w' hA' => paper_any W H A n c p x y w' hA' hB hE x0 x1 y0 y1
  obtain ⟨b', off, rfl, hbB, hcell⟩ := k2.aF.at_ i1 i4
  rw [hf] at hcell
  have q1 := k2.kf.at0; have q2 := k2.kw.at0
  have z1 := k.kf.lt; have z2 := k.kw.lt
  have cb := cst_bd p W x y
  obtain ⟨cb1, cb2⟩ := cb
  have k3 := k.below (w' := ((w.alloc (.cells #[.int .i64 x] 3)).alloc (.cells #[.int .i64 y] 3)).alloc (.cells #[.int .i64 0] 3)) (by (repeat (first | exact Below.refl _ _ | assumption | refine Below.drew ?_ | refine below_drewN ?_ _ | refine Below.alloc ?_ (by first | omega | (simp; done) | (simp; omega)) _ | refine Below.setCell ?_ (by first | omega | (simp; done) | (simp; omega)) _ | refine below_setRow ?_ (by first | omega | (simp; done) | (simp; omega)) _ )))
  have q3 := k3.kw.at0
  have BX : Blk (((w.alloc (.cells #[.int .i64 x] 3)).alloc (.cells #[.int .i64 y] 3)).alloc (.cells #[.int .i64 0] 3)) w.heap.size 3 #[.int .i64 x] := ((Blk.new _ _ _).alloc _).alloc _
  have BY : Blk (((w.alloc (.cells #[.int .i64 x] 3)).alloc (.cells #[.int .i64 y] 3)).alloc (.cells #[.int .i64 0] 3)) (w.heap.size + 1) 3 #[.int .i64 y] := (Blk.new' (by simp) _ _).alloc _
  have BN : Blk (((w.alloc (.cells #[.int .i64 x] 3)).alloc (.cells #[.int .i64 y] 3)).alloc (.cells #[.int .i64 0] 3)) (w.heap.size + 1 + 1) 3 #[.int .i64 0] := Blk.new' (by simp) _ _
  have b3 : Below w.heap.size w (((w.alloc (.cells #[.int .i64 x] 3)).alloc (.cells #[.int .i64 y] 3)).alloc (.cells #[.int .i64 0] 3)) := by (repeat (first | exact Below.refl _ _ | assumption | refine Below.drew ?_ | refine below_drewN ?_ _ | refine Below.alloc ?_ (by first | omega | (simp; done) | (simp; omega)) _ | refine Below.setCell ?_ (by first | omega | (simp; done) | (simp; omega)) _ | refine below_setRow ?_ (by first | omega | (simp; done) | (simp; omega)) _ ))
  have BX := Lib.hid BX; have BY := Lib.hid BY; have BN := Lib.hid BN; have B3 := Lib.hid b3; have K3 := Lib.hid k3
  generalize cst p W x y = ci at *
  have v3 : IntKind.i64.wrap ci = ci := IntWalk.i64_in _ (by omega)
  clear k2 hE hN hnn hf k k3 b3
  go_enter Tryz.func60, Tryz.ntmps60
  go_wp2_with fail
  generalize ((w.alloc (.cells #[.int .i64 x] 3)).alloc (.cells #[.int .i64 y] 3)).alloc (.cells #[.int .i64 0] 3) = w3 at *
  clear q1 q2 q3 hcell
  have q4 := BX.out.at0; have q5 := BY.out.at0; have q6 := BN.out.at0
  obtain ⟨q7, q8, q9⟩ := K3.out.ki.cells3
  go_region_held3 (fun w' => w'.cell? ⟨w.heap.size, 0, none⟩ = some (.int .i64 x) ∧ w'.cell? ⟨w.heap.size + 1, 0, none⟩ = some (.int .i64 y) ∧ w'.cell? ⟨w.heap.size + 1 + 1, 0, none⟩ = some (.int .i64 0) ∧ w'.cell? ⟨Bi, 0, none⟩ = some (.int .i64 W) ∧ w'.cell? ⟨Bi, 1, none⟩ = some (.int .i64 H) ∧ w'.cell? ⟨Bi, 2, none⟩ = some (.slice A n c))
    (simp [go_sem, *])
    ((go_at_call 62
      refine (PX.out _ K3.out.aA.drew1).mono ?_
      rintro e w4 ⟨rfl, hb4⟩
      have x1 := (BX.out.drew.below' hb4).at0
      have x2 := (BY.out.drew.below' hb4).at0
      have x3 := (BN.out.drew.below' hb4).at0
      obtain ⟨x4, x5, x6⟩ := (K3.out.ki.drew.below' hb4).cells3
      have b4 := below_call B3.out.drew B3.out.drew.size hb4))
  all_goals
    go_wp2
    go_ret
    exact ⟨ret_int (by first | rfl | (simp; done) | omega), b4⟩

/-- the least of N and of what going on to the rows of a list costs -/
def minL (N : Int) (D : Int → Int) (y : Int) (l : List Int) : Int := l.foldl (fun n t => min n (goTo D y t)) N
theorem minL_snoc (N : Int) (D : Int → Int) (y t : Int) (l : List Int) : minL N D y (l ++ [t]) = min (minL N D y l) (goTo D y t) := by simp [minL]
theorem minL_nb (N : Int) (D : Int → Int) (y : Int) (j : Nat) : minL N D y (nbT y j) = mfold N (goTo D y) (nxLo y) j := by
  induction j with
  | zero => rfl
  | succ j ih => rw [nbT_snoc, minL_snoc, ih, mfold]
theorem minL_bd {N H : Int} {D : Int → Int} {y : Int} (hN : 0 ≤ N) (hD : ∀ t, 0 ≤ t → t < H → 0 ≤ D t) (l : List (RowIn H)) : 0 ≤ minL N D y (l.map Subtype.val) ∧ minL N D y (l.map Subtype.val) ≤ N := by
  have : ∀ (l : List (RowIn H)) (m : Int), 0 ≤ m → m ≤ N → 0 ≤ minL m D y (l.map Subtype.val) ∧ minL m D y (l.map Subtype.val) ≤ N := by
    intro l
    induction l with
    | nil => intro m h0 h1; exact ⟨h0, h1⟩
    | cons t l ih =>
      intro m h0 h1
      have := hD t.1 t.2.1 t.2.2
      exact ih (min m (goTo D y t.1)) (by unfold goTo; split <;> omega) (by omega)
  exact this l N hN (Int.le_refl _)

set_option maxRecDepth 100000 in
set_option maxHeartbeats 4000000 in
theorem from_step (W H x y : Int) (Bf Bw Bh Br Bi gr N : Nat) (Fa A : Option Addr) (fc n c : Nat) (fb : Int → Bool) (R p D : Int → Int) (w : World) (k : BestK w W H Bf Bw Bh Br Bi gr N Fa A fc n c fb R p)
    (hE : chk W H n p = 0) (hB : IsB p) (hN : (N : Int) = W * H) (x0 : 0 ≤ x) (x1 : x < W - 1) (y0 : 0 ≤ y) (y1 : y < H) (hf : fb (y * W + x) = false)
    (hD : ∀ t, 0 ≤ t → t < H → R (t * W + (x + 1)) = D t) (hD0 : ∀ t, 0 ≤ t → t < H → 0 ≤ D t ∧ D t ≤ 1073741824) :
    Calls Tryz.prog 60 #[.int .i64 x, .int .i64 y, .pointer (some ⟨Bf, 0, none⟩), .pointer (some ⟨Bw, 0, none⟩), .pointer (some ⟨Bh, 0, none⟩), .pointer (some ⟨Br, 0, none⟩), .pointer (some ⟨Bi, 0, none⟩)] w
      fun e w' => e = .returned (.int .i64 (min (mfold 1073741824 (goTo D y) (nxLo y) (nxN H y) + cst p W x y) 1073741824)) ∧ Below w.heap.size w w' := by
  obtain ⟨hW1, hW2, hH1, hH2, hnn, -⟩ := chk_ok hE
  obtain ⟨i1, i2, i3⟩ := idx_lt x0 (by omega : x < W) y0 y1
  rw [Int.mul_comm H W] at i2
  have i4 : y * W + x < N := by omega
  have j6 := (area_bd hW1 hW2 hH1 hH2).2
  have v1 : IntKind.i64.wrap (y * W) = y * W := IntWalk.i64_in _ (by omega)
  have v2 : IntKind.i64.wrap (y * W + x) = y * W + x := IntWalk.i64_in _ (by omega)
  have k2 := k.below (w' := (w.alloc (.cells #[.int .i64 x] 3)).alloc (.cells #[.int .i64 y] 3)) (by (repeat (first | exact Below.refl _ _ | assumption | refine Below.drew ?_ | refine below_drewN ?_ _ | refine Below.alloc ?_ (by first | omega | (simp; done) | (simp; omega)) _ | refine Below.setCell ?_ (by first | omega | (simp; done) | (simp; omega)) _ | refine below_setRow ?_ (by first | omega | (simp; done) | (simp; omega)) _ )))
  have PX := Lib.hid fun w' hA' => paper_any W H A n c p x y w' hA' hB hE x0 (by omega) y0 y1
  have ML := Lib.hid (minL_nb 1073741824 D y (nxN H y))
  obtain ⟨b', off, rfl, hbB, hcell⟩ := k2.aF.at_ i1 i4
  rw [hf] at hcell
  have q1 := k2.kf.at0; have q2 := k2.kw.at0
  have z1 := k.kf.lt; have z2 := k.kw.lt
  have k3 := k.below (w' := ((w.alloc (.cells #[.int .i64 x] 3)).alloc (.cells #[.int .i64 y] 3)).alloc (.cells #[.int .i64 0] 3)) (by (repeat (first | exact Below.refl _ _ | assumption | refine Below.drew ?_ | refine below_drewN ?_ _ | refine Below.alloc ?_ (by first | omega | (simp; done) | (simp; omega)) _ | refine Below.setCell ?_ (by first | omega | (simp; done) | (simp; omega)) _ | refine below_setRow ?_ (by first | omega | (simp; done) | (simp; omega)) _ )))
  have q3 := k3.kw.at0
  have k4 := k.below (w' := ((w.alloc (.cells #[.int .i64 x] 3)).alloc (.cells #[.int .i64 y] 3)).alloc (.cells #[.int .i64 1073741824] 3)) (by (repeat (first | exact Below.refl _ _ | assumption | refine Below.drew ?_ | refine below_drewN ?_ _ | refine Below.alloc ?_ (by first | omega | (simp; done) | (simp; omega)) _ | refine Below.setCell ?_ (by first | omega | (simp; done) | (simp; omega)) _ | refine below_setRow ?_ (by first | omega | (simp; done) | (simp; omega)) _ )))
  have q4 := k4.kh.at0
  have BX : Blk (((w.alloc (.cells #[.int .i64 x] 3)).alloc (.cells #[.int .i64 y] 3)).alloc (.cells #[.int .i64 1073741824] 3)) w.heap.size 3 #[.int .i64 x] := ((Blk.new _ _ _).alloc _).alloc _
  have BY : Blk (((w.alloc (.cells #[.int .i64 x] 3)).alloc (.cells #[.int .i64 y] 3)).alloc (.cells #[.int .i64 1073741824] 3)) (w.heap.size + 1) 3 #[.int .i64 y] := (Blk.new' (by simp) _ _).alloc _
  have BN : Blk (((w.alloc (.cells #[.int .i64 x] 3)).alloc (.cells #[.int .i64 y] 3)).alloc (.cells #[.int .i64 1073741824] 3)) (w.heap.size + 1 + 1) 3 #[.int .i64 1073741824] := Blk.new' (by simp) _ _
  have b4 : Below w.heap.size w (((w.alloc (.cells #[.int .i64 x] 3)).alloc (.cells #[.int .i64 y] 3)).alloc (.cells #[.int .i64 1073741824] 3)) := by (repeat (first | exact Below.refl _ _ | assumption | refine Below.drew ?_ | refine below_drewN ?_ _ | refine Below.alloc ?_ (by first | omega | (simp; done) | (simp; omega)) _ | refine Below.setCell ?_ (by first | omega | (simp; done) | (simp; omega)) _ | refine below_setRow ?_ (by first | omega | (simp; done) | (simp; omega)) _ ))
  have KB : BestB w.heap.size (((w.alloc (.cells #[.int .i64 x] 3)).alloc (.cells #[.int .i64 y] 3)).alloc (.cells #[.int .i64 1073741824] 3)) W H Bf Bw Bh Br Bi gr N (some ⟨b', off, none⟩) A fc n c fb R p := k.toB.below (by (repeat (first | exact Below.refl _ _ | assumption | refine Below.drew ?_ | refine below_drewN ?_ _ | refine Below.alloc ?_ (by first | omega | (simp; done) | (simp; omega)) _ | refine Below.setCell ?_ (by first | omega | (simp; done) | (simp; omega)) _ | refine below_setRow ?_ (by first | omega | (simp; done) | (simp; omega)) _ )))
  have M4 : StepI w W H x y Bf Bw Bh Br Bi gr N (some ⟨b', off, none⟩) A fc n c fb R p 1073741824 w.heap.size (((w.alloc (.cells #[.int .i64 x] 3)).alloc (.cells #[.int .i64 y] 3)).alloc (.cells #[.int .i64 1073741824] 3)) := ⟨b4, KB, BX, BY, BN, b4.size⟩
  clear BX BY BN KB
  have HD := Lib.hid hD; have HD0 := Lib.hid hD0; have HNN := Lib.hid hN
  clear k2 hE hN hnn hf k k3 b4 k4 hD hD0
  refine (callsIn_wide (n := 5)).1 ?_
  refine callsIn_of_wp_marks Tryz.func60 rfl trivial ?_ rfl
  simp only [Tryz.ntmps60, List.size_toArray, List.length_cons, List.length_nil, Nat.reduceAdd, Nat.reduceSub, Array.replicate_succ, Array.replicate_zero, List.push_toArray, List.append_toArray, List.nil_append, List.cons_append]
  gi_wp2_with fail
  generalize ((w.alloc (.cells #[.int .i64 x] 3)).alloc (.cells #[.int .i64 y] 3)).alloc (.cells #[.int .i64 1073741824] 3) = w4 at *
  refine ⟨trivial, ?_⟩
  refine (callsIn_wide.2 (next_any y H _)).mono ?_
  rintro e w5 ⟨_, rfl, ⟨rfl, ky, kh⟩, hb5⟩
  have z4 : w.heap.size + 1 + 1 < w4.heap.size := M4.bn.lt
  have M5 : StepI w W H x y Bf Bw Bh Br Bi gr N (some ⟨b', off, none⟩) A fc n c fb R p 1073741824 w5.heap.size w5 :=
    ⟨below_call M4.bl M4.bl.size hb5, M4.k.below (hb5.mono M4.bl.size), M4.bx.below' hb5, M4.by'.below' hb5, M4.bn.below' hb5, Nat.le_refl _⟩
  have z5 : w4.heap.size + 1 < w5.heap.size := kh.lt
  clear hb5 M4 q1 q2 q3 q4 hcell
  generalize hb4 : w4.heap.size = b4 at *
  clear hb4
  gi_wp2_with fail
  refine wpIn_rangeFunc_ownF (F := Fence.wide) (n := 5) rfl (by omega) (gf := 96) (lb := #[.pointer (some ⟨b4, 0, none⟩), .pointer (some ⟨b4 + 1, 0, none⟩)]) rfl trivial (enters_of Tryz.func96 (by kernel_rfl) rfl) (next_stops Fence.wide 4 trivial rfl (by omega) y H b4 (b4 + 1) w5 ky kh y0 y1 hH2)
    (fun h k => KpB.trans h k) (fun W' l o o' hl ho _ _ => by
      have hlt := (Array.getElem?_eq_some_iff.1 ho).1
      exact ⟨(grownBy_putObj' W' l o').block b4 (by omega) (by intro e; cases e; omega), (grownBy_putObj' W' l o').block (b4 + 1) (by omega) (by intro e; cases e; omega)⟩) (Below.refl _ _) (fun _ => rfl)
    (fun pre W' => StepI w W H x y Bf Bw Bh Br Bi gr N (some ⟨b', off, none⟩) A fc n c fb R p (minL 1073741824 D y (pre.map Subtype.val)) w5.heap.size W') (fun _ _ _ => False)
    (ownFrom_of_below (fun s X Y hs hXY => ⟨hs.bl.trans (hXY.mono (by omega)), hs.k.below (hXY.mono (by omega)), hs.bx.below hXY (by omega), hs.by'.below hXY (by omega), hs.bn.below hXY (by omega), Nat.le_trans hs.sz hXY.size⟩) (fun s X hs => hs.sz))
    (fun _ _ _ _ _ hs _ _ => hs) M5
    (fun t => { tmps := #[.int .i64 x, .int .i64 y, .pointer (some ⟨Bf, 0, none⟩), .pointer (some ⟨Bw, 0, none⟩), .pointer (some ⟨Bh, 0, none⟩), .pointer (some ⟨Br, 0, none⟩), .pointer (some ⟨Bi, 0, none⟩), .pointer (some ⟨w.heap.size, 0, none⟩), .pointer (some ⟨w.heap.size + 1, 0, none⟩), .int .i64 0, .pointer (some ⟨w.heap.size + 1 + 1, 0, none⟩),
      .int .i64 t.1, undef, .slice (some ⟨b', off, none⟩) N fc, .int .i64 y, .int .i64 W, .int .i64 (y * W), .int .i64 x, .int .i64 (y * W + x), .pointer (some ⟨b', off + (y * W + x).toNat, none⟩), .bool false, .int .i64 x, .int .i64 W, .int .i64 (W - 1), .bool true, .int .i64 y, .int .i64 H,
      .func (.func 96) #[] #[.pointer (some ⟨b4, 0, none⟩), .pointer (some ⟨b4 + 1, 0, none⟩)], .int .i64 t.1, undef, undef, undef, undef, undef, undef, undef, undef, undef, undef, undef, undef, undef, undef, undef, undef, undef, undef, undef, undef, undef, undef, undef, undef], defers := [] }) ?assign ?body ?done ?stop
  case assign =>
    intro l t W' K hK
    gi_wp2
    exact hK
  case body =>
    rintro l pre ⟨t, t0, t1⟩ W' m _
    have r1 := m.k.kr.1.at0; have r2 := m.k.kw.1.at0; have r3 := m.bx.at0; have r4 := m.by'.at0; have r5 := m.bn.at0; have r6 := m.bn.frozen 0
    obtain ⟨l1, l2, l3⟩ := idx_lt (x := x + 1) (y := t) (W := W) (H := H) (by omega) (by omega) t0 t1
    rw [Int.mul_comm H W] at l2
    have hr := m.k.kR.1.i64at (i := t * W + x + 1) (by omega) (by have := HNN.out; omega)
    rw [show R (t * W + x + 1) = D t by rw [show t * W + x + 1 = t * W + (x + 1) by omega]; exact HD.out t t0 t1] at hr
    have l4 : t * W + x + 1 < (N : Int) := by have := HNN.out; omega
    have l5 : 0 ≤ t * W + x + 1 := by omega
    obtain ⟨d1, d2⟩ := HD0.out t t0 t1
    obtain ⟨m1, m2⟩ := minL_bd (N := 1073741824) (H := H) (D := D) (y := y) (by omega) (fun t a b => (HD0.out t a b).1) pre
    have SN : Hid (minL 1073741824 D y ((pre ++ [(⟨t, t0, t1⟩ : RowIn H)]).map Subtype.val) = min (minL 1073741824 D y (pre.map Subtype.val)) (D t + if t = y then 0 else 1)) := by
      show _ = _; rw [List.map_append]; exact minL_snoc _ _ _ _ _
    have MM := Lib.hid m
    clear m
    generalize minL 1073741824 D y (pre.map Subtype.val) = M at *
    generalize D t = Dt at *
    have FIN : ∀ v, v = minL 1073741824 D y ((pre ++ [(⟨t, t0, t1⟩ : RowIn H)]).map Subtype.val) → KeepsOthers W' (W'.setCell ⟨w.heap.size + 1 + 1, 0, none⟩ (.int .i64 v)) ∧ KpB b4 (b4 + 1) W' (W'.setCell ⟨w.heap.size + 1 + 1, 0, none⟩ (.int .i64 v)) ∧
        StepI w W H x y Bf Bw Bh Br Bi gr N (some ⟨b', off, none⟩) A fc n c fb R p (minL 1073741824 D y ((pre ++ [(⟨t, t0, t1⟩ : RowIn H)]).map Subtype.val)) w5.heap.size (W'.setCell ⟨w.heap.size + 1 + 1, 0, none⟩ (.int .i64 v)) := by
      rintro v rfl
      have m := MM.out
      exact ⟨KeepsOthers.setCell _ _ _, ⟨heap_setCell_other _ _ _ _ (by simp; omega), heap_setCell_other _ _ _ _ (by simp; omega)⟩,
        ⟨m.bl.setCell (by simp; omega) _, m.k.below ((Below.refl _ _).setCell (by simp; omega) _), m.bx.far (by simp; omega) _, m.by'.far (by simp) _, m.bn.set_ 0 _, by simpa using m.sz⟩⟩
    have FIN := Lib.hid FIN
    by_cases e : t = y
    · rw [if_pos e] at SN
      have hb : (t != y) = false := by simp [e]
      have E := Lib.hid e; clear e
      by_cases hm : Dt < M
      · gi_wp2
        exact FIN.out _ (by rw [SN.out]; omega)
      · gi_wp2
        exact FIN.out _ (by rw [SN.out]; omega)
    · rw [if_neg e] at SN
      have hb : (t != y) = true := by simp [e]
      have E := Lib.hid e; clear e
      by_cases hm : Dt + 1 < M
      · gi_wp2
        exact FIN.out _ (by rw [SN.out]; omega)
      · gi_wp2
        exact FIN.out _ (by rw [SN.out]; omega)
  case done =>
    rintro D' xs W' hD hS m hK
    rw [hS, ML.out] at m
    generalize hMM : mfold 1073741824 (goTo D y) (nxLo y) (nxN H y) = M at *
    have HMM := Lib.hid hMM; clear hMM
    have r3 := m.bx.at0; have r4 := m.by'.at0; have r5 := m.bn.at0
    obtain ⟨r7, r8, r9⟩ := m.k.ki.1.cells3
    have cb := cst_bd p W x y
    obtain ⟨cb1, cb2⟩ := cb
    have mb : 0 ≤ M ∧ M ≤ 1073741824 := by rw [← ML.out, ← hS]; exact minL_bd (by omega) (fun t a b => (HD0.out t a b).1) xs
    obtain ⟨mb1, mb2⟩ := mb
    generalize hci : cst p W x y = ci at *
    have HCI := Lib.hid hci; clear hci
    have v3 : IntKind.i64.wrap (M + ci) = M + ci := IntWalk.i64_in _ (by omega)
    have hK0 := (Array.getElem?_eq_some_iff.1 hK).1
    have M6 := Lib.hid m
    have HS := Lib.hid hS
    have HK := Lib.hid hK
    clear hS m hK
    gi_wp2_with fail
    refine wpIn_wide.2 ?_
    go_region_held3 (fun w' => w'.cell? ⟨w.heap.size, 0, none⟩ = some (.int .i64 x) ∧ w'.cell? ⟨w.heap.size + 1, 0, none⟩ = some (.int .i64 y) ∧ w'.cell? ⟨w.heap.size + 1 + 1, 0, none⟩ = some (.int .i64 M) ∧ w'.cell? ⟨Bi, 0, none⟩ = some (.int .i64 W) ∧ w'.cell? ⟨Bi, 1, none⟩ = some (.int .i64 H) ∧ w'.cell? ⟨Bi, 2, none⟩ = some (.slice A n c))
      (simp [go_sem, *])
      ((go_at_call 62
        refine (PX.out _ ((M6.out.k.aA.more M6.out.bl.size).drew1)).mono ?_
        rintro e w6 ⟨rfl, hb6⟩
        have x1 := (M6.out.bx.drew.below' hb6).at0
        have x2 := (M6.out.by'.drew.below' hb6).at0
        have x3 := (M6.out.bn.drew.below' hb6).at0
        obtain ⟨x4, x5, x6⟩ := (M6.out.k.ki.1.drew.below' hb6).cells3
        have hK6 : w6.heap[D']? = some (.deferred (some [])) := (hb6.block D' hK0).trans HK.out
        have b6 := below_call M6.out.bl.drew M6.out.bl.drew.size hb6))
    go_wp2
    all_goals
      gi_wp2
      refine ⟨by simp, .inl ⟨_, _, rfl, run_takeDeferred hK6, ?_⟩⟩
      refine ⟨_, results_tmp rfl _ _ _, ?_, b6.trans (belowK_b (w := w) (Nat.le_refl _) w6 D' _ _ (by have := M6.out.bl.size; omega) hK6 rfl rfl)⟩
      rw [HMM.out, HCI.out]
      first
        | (show Ending.returned (.int .i64 1073741824) = _; exact ret_int (by omega))
        | (show Ending.returned (.int .i64 (M + ci)) = _; exact ret_int (by omega))
  case stop =>
    rintro D c pre W' _ _ h _
    exact h.elim
end Go.Proofs.YtdimlpcbbkokiaaGreat

/- Walk: the closure of best in one piece; the table of least costs while it is filled. -/
namespace Go.Proofs.YtdimlpcbbkokiaaGreat
open Go.RowKit
set_option linter.unusedVariables false

def NV : Int := 1073741824
theorem from_all (W H x y : Int) (Bf Bw Bh Br Bi gr N : Nat) (Fa A : Option Addr) (fc n c : Nat) (fb : Int → Bool) (R p : Int → Int) (w : World) (k : BestK w W H Bf Bw Bh Br Bi gr N Fa A fc n c fb R p)
    (hE : chk W H n p = 0) (hB : IsB p) (hN : (N : Int) = W * H) (x0 : 0 ≤ x) (x1 : x < W) (y0 : 0 ≤ y) (y1 : y < H)
    (hR : x < W - 1 → ∀ t, 0 ≤ t → t < H → R (t * W + (x + 1)) = gAt 1073741824 W H (cst p W) (fun x y => fb (y * W + x)) (x + 1) t) :
    Calls Tryz.prog 60 #[.int .i64 x, .int .i64 y, .pointer (some ⟨Bf, 0, none⟩), .pointer (some ⟨Bw, 0, none⟩), .pointer (some ⟨Bh, 0, none⟩), .pointer (some ⟨Br, 0, none⟩), .pointer (some ⟨Bi, 0, none⟩)] w
      fun e w' => e = .returned (.int .i64 (gAt 1073741824 W H (cst p W) (fun x y => fb (y * W + x)) x y)) ∧ Below w.heap.size w w' := by
  obtain ⟨hW1, hW2, hH1, hH2, -, -⟩ := chk_ok hE
  cases hf : fb (y * W + x)
  · by_cases hx : x < W - 1
    · rw [gAt_step x0 hx, if_neg (by simp [hf])]
      exact from_step W H x y Bf Bw Bh Br Bi gr N Fa A fc n c fb R p _ w k hE hB hN x0 hx y0 y1 hf (hR hx) (fun t a b => by
        have := gAt_bd (N := 1073741824) (W := W) (H := H) (F := fun x y => fb (y * W + x)) (cst_bd p W) (by omega) (x := x + 1) (by omega) (by omega) a b
        omega)
    · obtain rfl : x = W - 1 := by omega
      rw [gAt_last, if_neg (by simp [hf])]
      exact from_last W H (W - 1) y Bf Bw Bh Br Bi gr N Fa A fc n c fb R p w k hE hB hN x0 x1 hx y0 y1 hf
  · have e : gAt 1073741824 W H (cst p W) (fun x y => fb (y * W + x)) x y = 1073741824 := by
      by_cases hx : x < W - 1
      · rw [gAt_step x0 hx, if_pos hf]
      · obtain rfl : x = W - 1 := by omega
        rw [gAt_last, if_pos hf]
    rw [e]
    exact from_never W H x y Bf Bw Bh Br Bi gr N Fa A fc n c fb R p w k hE hN x0 x1 y0 y1 hf

/-- the table of least costs: the columns behind x are done, and the first y rows of column x -/
def restR (W : Int) (G : Int → Int → Int) (x y : Int) : Int → Int := fun i => if x < i % W ∨ (i % W = x ∧ i / W < y) then G (i % W) (i / W) else 0
theorem restR_start {W : Int} {G : Int → Int → Int} {i : Int} (hW : 0 < W) (h0 : 0 ≤ i) : restR W G (W - 1) 0 i = 0 := by
  have h1 : i % W < W := Int.emod_lt_of_pos _ hW
  have h2 : 0 ≤ i / W := Int.ediv_nonneg h0 (by omega)
  unfold restR; rw [if_neg (by omega)]
theorem restR_set {W : Int} {G : Int → Int → Int} {x y : Int} (hx0 : 0 ≤ x) (hx : x < W) (i : Int) : upd (restR W G x y) (y * W + x) (G x y) i = restR W G x (y + 1) i := by
  have a := idx_mod (y := y) hx0 hx
  have b := idx_div (y := y) hx0 hx
  show (if i = y * W + x then G x y else restR W G x y i) = _
  by_cases e : i = y * W + x
  · rw [if_pos e]; subst e
    unfold restR
    rw [a, b, if_pos (by omega)]
  · rw [if_neg e]
    unfold restR
    have : ¬ (i / W = y ∧ i % W = x) := fun ⟨h1, h2⟩ => e (by
      have := Int.emod_add_mul_ediv i W
      rw [h1, h2, Int.mul_comm] at this; omega)
    by_cases e2 : x < i % W ∨ (i % W = x ∧ i / W < y)
    · rw [if_pos e2, if_pos (by omega)]
    · rw [if_neg e2, if_neg (by omega)]
theorem restR_col {W H : Int} {G : Int → Int → Int} {x i : Int} (hW : 0 < W) (h0 : 0 ≤ i) (hi : i < W * H) : restR W G x H i = restR W G (x - 1) 0 i := by
  have h1 : i / W < H := Int.ediv_lt_of_lt_mul hW (by rw [Int.mul_comm]; exact hi)
  have h2 : 0 ≤ i / W := Int.ediv_nonneg h0 (by omega)
  unfold restR
  by_cases e : x < i % W ∨ (i % W = x ∧ i / W < H)
  · rw [if_pos e, if_pos (by omega)]
  · rw [if_neg e, if_neg (by omega)]
theorem restR_at {W : Int} {G : Int → Int → Int} {x y t u : Int} (hu0 : 0 ≤ u) (hu : u < W) (h : x < u) : restR W G x y (t * W + u) = G u t := by
  unfold restR
  rw [idx_mod hu0 hu, idx_div hu0 hu, if_pos (by omega)]
end Go.Proofs.YtdimlpcbbkokiaaGreat

/- Walks: copies of bytes and of images; two grey images compared; the reference's checks. -/
namespace Go.Proofs.YtdimlpcbbkokiaaGreat
open Go.RowKit
set_option linter.unusedVariables false

/-- a slice over fresh memory, or none -/
def OutSl (w w' : World) (n : Nat) (q : Int → Int) (v : Value) : Prop := ∃ A c, v = .slice A n c ∧ n ≤ c ∧ (A = none → c = 0) ∧ (∀ a, A = some a → w.heap.size ≤ a.block) ∧ ArrB w' w'.heap.size A n q
theorem own_out {w w' : World} {n : Nat} {e : TypeId} {v : Value} {q : Int → Int} {xs : List Value} (h : w'.ownsRow w.heap.size e 1 v n xs) (hx : xs = (List.range n).map (fun (j : Nat) => Value.int .u8 (q j))) : OutSl w w' n q v := by
  have hn : ∀ A c, v = .slice A n c → A = none → c = 0 := by
    rintro A c rfl rfl
    rcases h.2 with ⟨h, _⟩ | ⟨g, cap, cur, h, _⟩
    · simp at h; exact h.2
    · simp at h
  obtain ⟨A, c, rfl, hc, ha⟩ := own_arr h
  refine ⟨A, c, rfl, hc, hn A c rfl, fun a e => (own_ge h (k := a.block) (by subst e; simp [Value.ownBlock])).1, Arr.congr ha fun i h0 hi => ?_⟩
  subst hx
  simp only [List.getD_eq_getElem?_getD, List.getElem?_map]
  rw [List.getElem?_eq_getElem (by simp; omega)]
  simp [Int.toNat_of_nonneg h0]

set_option maxRecDepth 100000 in
set_option maxHeartbeats 400000 in
theorem copyBytes_any (A : Option Addr) (n c : Nat) (p : Int → Int) (w : World) (hA : ArrB w w.heap.size A n p) (hc : A = none → c = 0) (hn : n ≤ 140737488355328) :
    Calls Tryz.prog 78 #[.slice A n c] w (New w fun v w' => OutSl w w' n p v) := by
  obtain ⟨i0, hi0, hz0, hz1, hz2⟩ := info_parts infoU8
  have hnil := World.ownsRow_nil w w.heap.size 5 1
  cases A with
  | none =>
    have hn0 : n = 0 := by
      rcases Nat.eq_zero_or_pos n with h | h
      · exact h
      · obtain ⟨b, off, e, _⟩ := hA h; cases e
    subst hn0
    obtain rfl := hc rfl
    go_enter Tryz.func78, Tryz.ntmps78
    go_wp2_with (at_builtin; refine wpList_append_own_none rfl (.tmp 4) (.tmp 5) 22 rfl w.heap.size 5 i0 1 Tryz.underlying22 hi0 _ 0 [] rfl hnil rfl ?_)
    go_ret
    exact ⟨_, rfl, own_out hnil (by simp), Below.refl _ _⟩
  | some ad =>
    go_enter Tryz.func78, Tryz.ntmps78
    go_wp2_with (at_builtin; refine wpList_append_own _ rfl (.tmp 4) (.tmp 5) 22 rfl w.heap.size 5 i0 (.int .u8 0) 1 1 Tryz.underlying22 hi0 hz0 hz1 hz2 rfl (by decide) _ 0 [] rfl hnil ad n c ((List.range n).map (fun (j : Nat) => Value.int .u8 (p j))) rfl (by simp) ?c1 ?c2 ?c3 ?c4 (Nat.le_refl _) ?_)
    case c1 =>
      intro j u hj
      have hjn : j < n := by
        rcases Nat.lt_or_ge j n with h | h
        · exact h
        · rw [List.getElem?_eq_none (by simpa using h)] at hj; cases hj
      obtain ⟨b, off, e, _, hcell⟩ := hA (by omega)
      injection e with e; subst e
      have := hcell j (by omega) (by omega)
      simp [hjn] at hj
      subst hj
      rw [Int.toNat_natCast] at this
      unfold Addr.add
      split
      · rename_i e; subst e; exact this
      · exact this
    case c2 => intro u hu; simp at hu; obtain ⟨j, _, rfl⟩ := hu; rfl
    case c3 => unfold maxLen; omega
    case c4 => omega
    intro v' w1 hown' hg _
    go_wp2
    go_ret
    refine ⟨_, rfl, ?_, (Below.refl _ _).grown hg (Nat.le_refl _) (fun k hk => by simp [Value.ownBlock] at hk)⟩
    try rw [Nat.zero_add, List.nil_append] at hown'
    exact own_out hown' rfl

theorem ArrB.far {w : World} {B n : Nat} {A : Option Addr} {q : Int → Int} (h : ArrB w B A n q) {p : Addr} (hp : ∀ a, A = some a → a.block ≠ p.block) (u : Value) : ArrB (w.setCell p u) B A n q := fun hn => by
  obtain ⟨b, off, e, hb, hc⟩ := h hn
  exact ⟨b, off, e, hb, fun i h0 hi => (World.cell?_of_block (heap_setCell_other w p b u (hp _ e))).trans (hc i h0 hi)⟩
theorem ArrB.drew {w : World} {B n : Nat} {A : Option Addr} {q : Int → Int} (h : ArrB w B A n q) : ArrB w.drew B A n q := h
/-- an image over a fresh slice, or none -/
def OutCopy (w w' : World) (W H : Int) (n : Nat) (q : Int → Int) (v : Value) : Prop := ∃ s, v = .agg #[.int .i64 W, .int .i64 H, s] ∧ OutSl w w' n q s

set_option maxHeartbeats 1000000 in
theorem copyInk_any (W H : Int) (A : Option Addr) (n c : Nat) (p : Int → Int) (w : World) (hA : ArrB w w.heap.size A n p) (hc : A = none → c = 0) (hn : n ≤ 140737488355328) :
    Calls Tryz.prog 36 #[.agg #[.int .i64 W, .int .i64 H, .slice A n c]] w (New w fun v w' => OutCopy w w' W H n p v) := by
  have CB := Lib.hid fun w' hA' => copyBytes_any A n c p w' hA' hc hn
  clear hc
  go_enter Tryz.func36, Tryz.ntmps36
  go_wp2_with fail
  have k1 := (Blk.new w 24 #[.int .i64 W, .int .i64 H, .slice A n c]).alloc (.cells #[.int .i64 0, .int .i64 0, .slice none 0 0] 24)
  have k2 := Blk.new' (w := w.alloc (.cells #[.int .i64 W, .int .i64 H, .slice A n c] 24)) (World.size_alloc _ _) 24 #[.int .i64 0, .int .i64 0, .slice none 0 0]
  have b1 : Below w.heap.size w ((w.alloc (.cells #[.int .i64 W, .int .i64 H, .slice A n c] 24)).alloc (.cells #[.int .i64 0, .int .i64 0, .slice none 0 0] 24)) := by (repeat (first | exact Below.refl _ _ | assumption | refine Below.drew ?_ | refine below_drewN ?_ _ | refine Below.alloc ?_ (by first | omega | (simp; done) | (simp; omega)) _ | refine Below.setCell ?_ (by first | omega | (simp; done) | (simp; omega)) _ | refine below_setRow ?_ (by first | omega | (simp; done) | (simp; omega)) _ ))
  have hA1 := hA.to b1
  generalize (w.alloc (.cells #[.int .i64 W, .int .i64 H, .slice A n c] 24)).alloc (.cells #[.int .i64 0, .int .i64 0, .slice none 0 0] 24) = w1 at *
  clear hA
  have K1 := Lib.hid k1; have K2 := Lib.hid k2; have B1 := Lib.hid b1; have A1 := Lib.hid hA1
  obtain ⟨p1, p2, p3⟩ := k1.cells3
  obtain ⟨r1, r2, r3⟩ := k2.cells3
  obtain ⟨f1, f2, f3⟩ := k2.frozen3
  clear k1 k2 b1 hA1
  go_region_held3 (fun w' => w'.cell? ⟨w.heap.size, 0, none⟩ = some (.int .i64 W) ∧ w'.cell? ⟨w.heap.size, 1, none⟩ = some (.int .i64 H) ∧ w'.cell? ⟨w.heap.size, 2, none⟩ = some (.slice A n c))
    (simp [go_sem, *])
    (first
      | (go_at_call 78; refine (CB.out _ A1.out.drew).mono ?_; rintro e w2 ⟨_, rfl, ⟨A', c', rfl, hc', hnil', hge', ha'⟩, hb2⟩
         have k3 := K1.out.drew.below' hb2; have k4 := K2.out.drew.below' hb2
         obtain ⟨x1, x2, x3⟩ := k3.cells3; obtain ⟨y1, y2, y3⟩ := k4.cells3; obtain ⟨z1, z2, z3⟩ := k4.frozen3
         have b2 : Below w.heap.size w w2 := B1.out.drew.trans (hb2.mono B1.out.size)
         have z2 := K2.out.lt))
  go_wp2
  refine bodyPost_ret (v := .agg #[.int .i64 W, .int .i64 H, .slice A' n c']) (by simp [results, Tryz.results36, go_sem, y1, y2, y3]) rfl ?_
  have hfar : ∀ i, ∀ a, A' = some a → a.block ≠ (⟨w.heap.size + 1, i, none⟩ : Addr).block := fun i a e h => by
    have := hge' a e
    simp at h this
    omega
  refine ⟨_, rfl, ⟨_, rfl, A', c', rfl, hc', hnil', fun a e => ?_, ?_⟩, by (repeat (first | exact Below.refl _ _ | assumption | refine Below.drew ?_ | refine below_drewN ?_ _ | refine Below.alloc ?_ (by first | omega | (simp; done) | (simp; omega)) _ | refine Below.setCell ?_ (by first | omega | (simp; done) | (simp; omega)) _ | refine below_setRow ?_ (by first | omega | (simp; done) | (simp; omega)) _ ))⟩
  · have := hge' a e; have := B1.out.size; simp at *; omega
  · simpa using ((ha'.far (hfar 0) _).far (hfar 1) _).far (hfar 2) _
end Go.Proofs.YtdimlpcbbkokiaaGreat

/- A function that leaves with several marks of ranges over functions among its deferred calls. No program in sight. -/
namespace Go.Proofs.YtdimlpcbbkokiaaGreat
open Go.RowKit
set_option linter.unusedVariables false

/-- the marks of these blocks -/
def marks (Ds : List Nat) : List Deferred := Ds.map fun D => { target := .collected D, args := #[] }
/-- blocks that hold no deferred calls -/
def Held (w : World) (Ds : List Nat) : Prop := Ds.Nodup ∧ ∀ D ∈ Ds, w.heap[D]? = some (.deferred (some []))
theorem Held.nil (w : World) : Held w [] := ⟨List.nodup_nil, fun _ h => by simp at h⟩
theorem Held.cons {w : World} {Ds : List Nat} {D : Nat} (h : Held w Ds) (hD : w.heap[D]? = some (.deferred (some []))) (hn : D ∉ Ds) : Held w (D :: Ds) :=
  ⟨List.nodup_cons.2 ⟨hn, h.1⟩, fun E hE => by rcases List.mem_cons.1 hE with rfl | hE <;> first | exact hD | exact h.2 E hE⟩
theorem Held.keep {w w' : World} {Ds : List Nat} (h : Held w Ds) (k : ∀ D : Nat, w.heap[D]? = some (Obj.deferred (some [])) → w'.heap[D]? = some (Obj.deferred (some []))) : Held w' Ds := ⟨h.1, fun D hD => k D (h.2 D hD)⟩
theorem leavesM_marks {P : Program} {F : Fence} {n : Nat} {fn : Func} {tmps : Array Value} {R : Ending → World → Prop} {B : Nat} (Ds : List Nat) (w : World) (h : Held w Ds) (hB : ∀ D ∈ Ds, B ≤ D)
    (hend : ∀ w', Below B w w' → (∀ k, k < w.heap.size → k ∉ Ds → w'.heap[k]? = w.heap[k]?) → LeavesIn F n P fn tmps R [] .returning w') : LeavesInM F n P fn tmps R (marks Ds) .returning w := by
  induction Ds generalizing w with
  | nil => exact hend w (Below.refl _ _) fun _ _ _ => rfl
  | cons D Ds ih =>
    have hD := h.2 D (List.mem_cons_self ..)
    have hl := (Array.getElem?_eq_some_iff.1 hD).1
    have hg := grownBy_putObj' w D (.deferred none)
    have hb : Below B w (w.putObj D (.deferred none)) := (Below.refl B w).grown hg (by have := hB D (List.mem_cons_self ..); omega) (fun k e => by cases e; exact hB D (List.mem_cons_self ..))
    refine ⟨by simp, .inl ⟨D, _, rfl, run_takeDeferred hD, ?_⟩⟩
    refine ih _ ⟨(List.nodup_cons.1 h.1).2, fun E hE => ?_⟩ (fun E hE => hB E (List.mem_cons_of_mem _ hE)) (fun w' hw hk => hend w' (hb.trans hw) fun k h1 h2 => ?_)
    · have hne : E ≠ D := fun e => (List.nodup_cons.1 h.1).1 (e ▸ hE)
      have hE' := h.2 E (List.mem_cons_of_mem _ hE)
      rw [← hE']
      exact hg.block E ((Array.getElem?_eq_some_iff.1 hE').1) (by intro e; cases e; exact hne rfl)
    · refine (hk k (Nat.lt_of_lt_of_le h1 hg.size) fun hm => h2 (List.mem_cons_of_mem _ hm)).trans (hg.block k h1 ?_)
      intro e; cases e; exact h2 (List.mem_cons_self ..)
end Go.Proofs.YtdimlpcbbkokiaaGreat

/- Plain: the row in which the path goes on, as the first of a list that meets a test; worlds that differ in one block. No program in sight. -/
namespace Go.Proofs.YtdimlpcbbkokiaaGreat
open Go.RowKit
set_option linter.unusedVariables false

theorem nbT_find (f : Int → Bool) (a : Int) (n : Nat) : (nbT a n).find? f = if 0 ≤ idxF (fun i => f (nxLo a + i)) n then some (nxLo a + idxF (fun i => f (nxLo a + i)) n) else none := by
  induction n with
  | zero => simp [nbT, idxF]
  | succ n ih =>
    rw [nbT_snoc, List.find?_append, ih, idxF]
    by_cases h : 0 ≤ idxF (fun i => f (nxLo a + i)) n
    · rw [if_pos h, if_pos h, if_pos h]; rfl
    · rw [if_neg h, if_neg h]
      cases h2 : f (nxLo a + (n : Int)) with
      | true => simp [h2]
      | false => simp [h2]
theorem nxt_find (N W H : Int) (c : Int → Int → Int) (F : Int → Int → Bool) (x a : Int) :
    nxt N W H c F x a = ((nbT a (nxN H a)).find? (fun t => decide (goTo (gAt N W H c F (x + 1)) a t = gAt N W H c F x a - c x a))).getD a := by
  rw [nbT_find]
  unfold nxt
  split <;> rfl
theorem find_none {f : Int → Bool} {h : Int} {l : List (RowIn h)} {m : List Int} (e : l.map Subtype.val = m) (hf : ∀ t ∈ l, f t.1 = false) (a : Int) : (m.find? f).getD a = a := by
  have : m.find? f = none := List.find?_eq_none.2 fun t ht => by
    rw [← e] at ht
    obtain ⟨s, hs, rfl⟩ := List.mem_map.1 ht
    simp [hf s hs]
  rw [this]; rfl
theorem nbT_add (a : Int) (j k : Nat) : ∃ r, nbT a (j + k) = nbT a j ++ r := by
  induction k with
  | zero => exact ⟨[], by simp⟩
  | succ k ih => obtain ⟨r, hr⟩ := ih; exact ⟨r ++ [nxLo a + (j + k : Nat)], by rw [← Nat.add_assoc, nbT_snoc, hr, List.append_assoc]⟩
theorem find_some {f : Int → Bool} {h a : Int} {n : Nat} {l p : List (RowIn h)} {t : RowIn h} (hj : ∃ j, j ≤ n ∧ l.map Subtype.val = nbT a j) (e : l = p ++ [t]) (hf : ∀ s ∈ p, f s.1 = false) (ht : f t.1 = true) (b : Int) : ((nbT a n).find? f).getD b = t.1 := by
  obtain ⟨j, hj, hl⟩ := hj
  obtain ⟨r, hr⟩ := nbT_add a j (n - j)
  rw [show j + (n - j) = n by omega] at hr
  rw [hr, ← hl, e, List.map_append, List.append_assoc, List.find?_append]
  have : (p.map Subtype.val).find? f = none := List.find?_eq_none.2 fun t ht => by
    obtain ⟨s, hs, rfl⟩ := List.mem_map.1 ht
    simp [hf s hs]
  rw [this]
  simp [ht]

/-- the blocks below B, but for block k, are as they were -/
structure But (B k : Nat) (w w' : World) : Prop where
  os : w'.os = w.os
  tape : w'.tape = w.tape
  output : w'.output = w.output
  size : B ≤ w'.heap.size
  block : ∀ j, j < B → j ≠ k → w'.heap[j]? = w.heap[j]?
theorem But.refl {B : Nat} {w : World} (k : Nat) (h : B ≤ w.heap.size) : But B k w w := ⟨rfl, rfl, rfl, h, fun _ _ _ => rfl⟩
theorem But.then {B k : Nat} {w w' w'' : World} (h : But B k w w') (hb : Below B w' w'') : But B k w w'' :=
  ⟨hb.os.trans h.os, hb.tape.trans h.tape, hb.output.trans h.output, Nat.le_trans h.size hb.size, fun j hj hk => (hb.block j hj).trans (h.block j hj hk)⟩
theorem But.set {B k : Nat} {w w' : World} (h : But B k w w') (o : Nat) (u : Value) : But B k w (w'.setCell ⟨k, o, none⟩ u) := by
  have hb := Below.setCell (Below.refl k w') (show k ≤ (⟨k, o, none⟩ : Addr).block from Nat.le_refl _) u
  refine ⟨hb.os.trans h.os, hb.tape.trans h.tape, hb.output.trans h.output, by simpa using h.size, fun j hj hk => ?_⟩
  rw [heap_setCell_other w' ⟨k, o, none⟩ j u hk]
  exact h.block j hj hk
theorem But.to {B k m : Nat} {w w' : World} (h : But B k w w') (hs : w.heap.size = B) (hk : m ≤ k) (hB : m ≤ B) : Below m w w' := ⟨h.os, h.tape, h.output, hs ▸ h.size, fun j hj => h.block j (by omega) (by omega)⟩
theorem Blk.but {B k : Nat} {w w' : World} {g t : Nat} {cs : Array Value} (h : Blk w g t cs) (hb : But B k w w') (hg : g < B) (hn : g ≠ k) : Blk w' g t cs := h.move (hb.block g hg hn)
theorem Held.but {B k : Nat} {w w' : World} {Ds : List Nat} (h : Held w Ds) (hb : But B k w w') (hB : w.heap.size = B) (hk : ∃ t cs, Blk w k t cs) : Held w' Ds := h.keep fun D hD => by
  have hl := (Array.getElem?_eq_some_iff.1 hD).1
  refine (hb.block D (by omega) fun e => ?_).trans hD
  obtain ⟨t, cs, hc⟩ := hk
  rw [e, hc] at hD; cases hD
theorem Held.below {w w' : World} {Ds : List Nat} (h : Held w Ds) (hb : Below w.heap.size w w') : Held w' Ds := h.keep fun D hD => (hb.block D (Array.getElem?_eq_some_iff.1 hD).1).trans hD
theorem own_cells {w : World} {base : Nat} {e : TypeId} {size n k : Nat} {v : Value} {xs : List Value} (h : w.ownsRow base e size v n xs) (hk : v.ownBlock = some k) : ∃ cs, w.heap[k]? = some (.cells cs e (0, 0)) := by
  rcases h.2 with ⟨rfl, _⟩ | ⟨g, cap, cur, rfl, hb, hh, _⟩
  · simp [Value.ownBlock] at hk
  · simp [Value.ownBlock] at hk
    subst hk
    exact ⟨_, hh⟩
theorem own_but {w w' : World} {base n B k : Nat} {e : TypeId} {v : Value} {xs : List Value} (h : w.ownsRow base e 1 v n xs) (hb : But B k w w') (hB : w.heap.size = B) (hk : k < base) : w'.ownsRow base e 1 v n xs := by
  refine ⟨h.1, ?_⟩
  rcases h.2 with h2 | ⟨g, cap, cur, hv, hg, hh, r⟩
  · exact .inl h2
  · exact .inr ⟨g, cap, cur, hv, hg, (hb.block g (by rw [← hB]; exact (Array.getElem?_eq_some_iff.1 hh).1) (by omega)).trans hh, r⟩
theorem own_held {w w' : World} {base n : Nat} {e : TypeId} {v : Value} {xs : List Value} {Ds : List Nat} (h : w.ownsRow base e 1 v n xs) (hd : Held w Ds) (hk : ∀ k, k < w.heap.size → k ∉ Ds → w'.heap[k]? = w.heap[k]?) : w'.ownsRow base e 1 v n xs := by
  refine ⟨h.1, ?_⟩
  rcases h.2 with h2 | ⟨g, cap, cur, hv, hg, hh, r⟩
  · exact .inl h2
  · refine .inr ⟨g, cap, cur, hv, hg, (hk g (Array.getElem?_eq_some_iff.1 hh).1 fun hm => ?_).trans hh, r⟩
    have := hd.2 g hm
    rw [hh] at this; cases this
theorem own_one {w : World} {base g : Nat} {e : TypeId} {u : Value} (h : Blk w g e #[u]) (hb : base ≤ g) : w.ownsRow base e 1 (.slice (some ⟨g, 0, none⟩) 1 1) 1 [u] :=
  ⟨rfl, .inr ⟨g, 1, #[u], rfl, hb, h, Nat.le_refl _, by unfold maxLen; omega, rfl, rfl⟩⟩
theorem Held.grown {w w' : World} {Ds : List Nat} {base : Nat} {e : TypeId} {n : Nat} {v : Value} {xs : List Value} (h : Held w Ds) (ho : w.ownsRow base e 1 v n xs) (hg : w.grownBy w' v.ownBlock) : Held w' Ds := h.keep fun D hD => by
  refine (hg.block D (Array.getElem?_eq_some_iff.1 hD).1 fun e => ?_).trans hD
  obtain ⟨cs, hc⟩ := own_cells ho e.symm
  rw [hc] at hD; cases hD
theorem Held.lt {w : World} {Ds : List Nat} (h : Held w Ds) {D : Nat} (hD : D ∈ Ds) : D < w.heap.size := (Array.getElem?_eq_some_iff.1 (h.2 D hD)).1
theorem range_snoc {α : Type} (f : Nat → α) (n : Nat) : (List.range (n + 1)).map f = (List.range n).map f ++ [f n] := by rw [List.range_succ, List.map_append]; rfl
theorem own_base {w : World} {base base' n : Nat} {e : TypeId} {v : Value} {xs : List Value} (h : w.ownsRow base e 1 v n xs) (hb : base' ≤ base) : w.ownsRow base' e 1 v n xs := by
  refine ⟨h.1, ?_⟩
  rcases h.2 with h2 | ⟨g, cap, cur, hv, hg, r⟩
  · exact .inl h2
  · exact .inr ⟨g, cap, cur, hv, Nat.le_trans hb hg, r⟩
/-- rows of different types lie apart -/
theorem own_apart {w : World} {base base' n n' k : Nat} {e e' : TypeId} {v v' : Value} {xs xs' : List Value} (h : w.ownsRow base e 1 v n xs) (h' : w.ownsRow base' e' 1 v' n' xs') (hne : e ≠ e') (hk : v.ownBlock = some k) : v'.ownBlock ≠ some k := fun hk' => by
  obtain ⟨cs, hc⟩ := own_cells h hk
  obtain ⟨cs', hc'⟩ := own_cells h' hk'
  rw [hc] at hc'; cases hc'; exact hne rfl
theorem own_move {w w' : World} {base n : Nat} {e : TypeId} {v : Value} {xs : List Value} (h : w.ownsRow base e 1 v n xs) (hk : ∀ k, v.ownBlock = some k → w'.heap[k]? = w.heap[k]?) : w'.ownsRow base e 1 v n xs := by
  refine ⟨h.1, ?_⟩
  rcases h.2 with h2 | ⟨g, cap, cur, hv, hg, hh, r⟩
  · exact .inl h2
  · exact .inr ⟨g, cap, cur, hv, hg, (hk g (by rw [hv]; rfl)).trans hh, r⟩
theorem own_grown {w w' : World} {base base' n n' : Nat} {e e' : TypeId} {v v' : Value} {xs xs' : List Value} (h : w.ownsRow base e 1 v n xs) (h' : w.ownsRow base' e' 1 v' n' xs') (hne : e ≠ e') (hg : w.grownBy w' v'.ownBlock) : w'.ownsRow base e 1 v n xs :=
  own_move h fun k hk => hg.block k (own_ge h hk).2 fun e => own_apart h h' hne hk e.symm
theorem own_far {w : World} {base n g t : Nat} {e : TypeId} {v : Value} {xs : List Value} {cs : Array Value} (h : w.ownsRow base e 1 v n xs) (hb : Blk w g t cs) (hne : e ≠ t) (o : Nat) (u : Value) : (w.setCell ⟨g, o, none⟩ u).ownsRow base e 1 v n xs :=
  own_move h fun k hk => heap_setCell_other w ⟨g, o, none⟩ k u fun e => by
    obtain ⟨cs', hc⟩ := own_cells h hk
    have e : k = g := e
    subst e
    rw [hb] at hc; cases hc; exact hne rfl
theorem own_neB {w : World} {base n g t : Nat} {e : TypeId} {v : Value} {xs : List Value} {cs : Array Value} (h : w.ownsRow base e 1 v n xs) (hb : Blk w g t cs) (hne : t ≠ e) : some g ≠ v.ownBlock := fun hk => by
  obtain ⟨cs', hc⟩ := own_cells h hk.symm
  rw [hb] at hc; cases hc; exact hne rfl
/-- how long a slice is -/
def lenV : Value → Nat
  | .slice _ n _ => n
  | _ => 0
theorem own_len {w : World} {base n : Nat} {e : TypeId} {v : Value} {xs : List Value} (h : w.ownsRow base e 1 v n xs) : lenV v = n := by
  obtain ⟨A, c, rfl, _⟩ := own_arr h
  rfl
section
variable {w w' : World} {B n size : Nat} {e : TypeId} {v : Value} {xs : List Value}
theorem own_moveS (h : w.ownsRow B e size v n xs) (hk : ∀ k, v.ownBlock = some k → w'.heap[k]? = w.heap[k]?) : w'.ownsRow B e size v n xs := by
  refine ⟨h.1, ?_⟩
  rcases h.2 with h2 | ⟨g, cap, cur, hv, hg, hh, r⟩
  · exact .inl h2
  · exact .inr ⟨g, cap, cur, hv, hg, (hk g (by rw [hv]; rfl)).trans hh, r⟩
theorem own_belowS (h : w.ownsRow B e size v n xs) (hb : Below w.heap.size w w') : w'.ownsRow B e size v n xs := own_moveS h fun k hk => hb.block k (own_ge h hk).2
end
end Go.Proofs.YtdimlpcbbkokiaaGreat

/- Walk: the cheapest path of an image. -/
namespace Go.Proofs.YtdimlpcbbkokiaaGreat
open Go.RowKit Go.Shelf
set_option linter.unusedVariables false
attribute [local go_sem] Oper.semAt_some

theorem Arr.far1 {w : World} {B n : Nat} {A : Option Addr} {f : Int → Value} (h : Arr w B A n f) {p : Addr} (hp : ∀ a, A = some a → a.block ≠ p.block) (u : Value) : Arr (w.setCell p u) B A n f := fun hn => by
  obtain ⟨b, off, e, hb, hc⟩ := h hn
  exact ⟨b, off, e, hb, fun i h0 hi => (World.cell?_of_block (heap_setCell_other w p b u (hp _ e))).trans (hc i h0 hi)⟩
theorem BestK.store {w : World} {W H : Int} {Bf Bw Bh Br Bi gr N : Nat} {Fa A : Option Addr} {fc n c : Nat} {fb : Int → Bool} {R p : Int → Int} (k : BestK w W H Bf Bw Bh Br Bi gr N Fa A fc n c fb R p)
    (hf : Bf ≠ gr) (hw : Bw ≠ gr) (hh : Bh ≠ gr) (hr : Br ≠ gr) (hi : Bi ≠ gr) (hF : ∀ a, Fa = some a → a.block ≠ gr) (hA : ∀ a, A = some a → a.block ≠ gr) (i : Int) (h0 : 0 ≤ i) (v : Int) :
    BestK (w.setCell ⟨gr, i.toNat, none⟩ (.int .i64 v)) W H Bf Bw Bh Br Bi gr N Fa A fc n c fb (upd R i v) p :=
  ⟨k.kf.far (p := ⟨gr, i.toNat, none⟩) hf _, k.kw.far (p := ⟨gr, i.toNat, none⟩) hw _, k.kh.far (p := ⟨gr, i.toNat, none⟩) hh _, k.kr.far (p := ⟨gr, i.toNat, none⟩) hr _, k.kR.i64set i h0 v, k.ki.far (p := ⟨gr, i.toNat, none⟩) hi _,
    by rw [World.size_setCell]; exact k.aF.far1 (p := ⟨gr, i.toNat, none⟩) hF _, by rw [World.size_setCell]; exact ArrB.far1 k.aA (p := ⟨gr, i.toNat, none⟩) hA _⟩
theorem BestK.conv {w : World} {W H : Int} {Bf Bw Bh Br Bi gr N : Nat} {Fa A : Option Addr} {fc n c : Nat} {fb : Int → Bool} {R R' p : Int → Int} (k : BestK w W H Bf Bw Bh Br Bi gr N Fa A fc n c fb R p) (h : ∀ i : Int, 0 ≤ i → i < N → R i = R' i) : BestK w W H Bf Bw Bh Br Bi gr N Fa A fc n c fb R' p :=
  ⟨k.kf, k.kw, k.kh, k.kr, k.kR.i64conv h, k.ki, k.aF, k.aA⟩

/-- the search for the next row: none of these rows was the one; or the last one was -/
structure NxI {h : Int} (B12 : Nat) (f : Int → Bool) (a : Int) (w12 : World) (pre : List (RowIn h)) (W' : World) : Prop where
  bt : But w12.heap.size B12 w12 W'
  k : Blk W' B12 3 #[.int .i64 a]
  no : ∀ t ∈ pre, f t.1 = false
structure NxX {h : Int} (B12 : Nat) (f : Int → Bool) (w12 : World) (id : Nat) (c : Code) (pre : List (RowIn h)) (W' : World) : Prop where
  e : c = Code.exit id
  bt : But w12.heap.size B12 w12 W'
  ex : ∃ q t, pre = q ++ [t] ∧ (∀ s ∈ q, f s.1 = false) ∧ f t.1 = true ∧ Blk W' B12 3 #[.int .i64 t.1]

/-- what best returns: a cheapest path and its cost, or none -/
def BestOut (w : World) (W H : Int) (p : Int → Int) (fb : Int → Bool) (e : Ending) (w' : World) : Prop :=
  ((gAt 1073741824 W H (cst p W) (fun x y => fb (y * W + x)) 0 (pathP 1073741824 W H (cst p W) (fun x y => fb (y * W + x)) 0) = 1073741824 ∧ e = .returned (.tuple #[.slice none 0 0, .int .i64 0])) ∨
   (gAt 1073741824 W H (cst p W) (fun x y => fb (y * W + x)) 0 (pathP 1073741824 W H (cst p W) (fun x y => fb (y * W + x)) 0) < 1073741824 ∧
     ∃ v, e = .returned (.tuple #[v, .int .i64 (gAt 1073741824 W H (cst p W) (fun x y => fb (y * W + x)) 0 (pathP 1073741824 W H (cst p W) (fun x y => fb (y * W + x)) 0))]) ∧ w'.ownsRow w.heap.size 3 1 v W.toNat ((List.range W.toNat).map fun j => Value.int .i64 (pathP 1073741824 W H (cst p W) (fun x y => fb (y * W + x)) j)))) ∧
  Below w.heap.size w w'

set_option maxRecDepth 100000 in
set_option maxHeartbeats 4000000 in
theorem best_any (W H : Int) (A Fa : Option Addr) (n c N fc : Nat) (fb : Int → Bool) (p : Int → Int) (w : World) (hA : ArrB w w.heap.size A n p) (hF : Arr w w.heap.size Fa N (fun i => .bool (fb i))) (hB : IsB p) (hE : chk W H n p = 0) (hN : (N : Int) = W * H) (hW : 1 ≤ W) (hH : 1 ≤ H) :
    Calls Tryz.prog 17 #[.agg #[.int .i64 W, .int .i64 H, .slice A n c], .slice Fa N fc] w fun e w' => BestOut w W H p fb e w' := by
  obtain ⟨hW1, hW2, hH1, hH2, hnn, -⟩ := chk_ok hE
  obtain ⟨m1, m2⟩ := area_bd hW1 hW2 hH1 hH2
  have hmk := makeI (W * H) m1 (by omega)
  rw [show (W * H).toNat = N by omega] at hmk
  have v1 : IntKind.i64.wrap (W * H) = W * H := IntWalk.i64_in _ (by omega)
  have hNp : 0 < W * H := Int.mul_pos (by omega) (by omega)
  obtain ⟨ba, oa, rfl, hba, -⟩ := hA (by omega)
  obtain ⟨bf, of', rfl, hbf, -⟩ := hF (by omega)
  have HN := Lib.hid hN
  have HE := Lib.hid hE
  clear hE hnn hN
  refine (callsIn_wide (n := 5)).1 ?_
  refine callsIn_of_wp_marks Tryz.func17 rfl trivial ?_ rfl
  simp only [Tryz.ntmps17, List.size_toArray, List.length_cons, List.length_nil, Nat.reduceAdd, Nat.reduceSub, Array.replicate_succ, Array.replicate_zero, List.push_toArray, List.append_toArray, List.nil_append, List.cons_append]
  refine wpIn_wide.2 ?_
  go_wp2_with fail
  have ki : Blk ((w.alloc (.cells #[.int .i64 W, .int .i64 H, .slice (some ⟨ba, oa, none⟩) n c] 24)).alloc (.cells #[.slice (some ⟨bf, of', none⟩) N fc] 48)) w.heap.size 24 #[.int .i64 W, .int .i64 H, .slice (some ⟨ba, oa, none⟩) n c] := (Blk.new _ _ _).alloc _
  have kf : Blk ((w.alloc (.cells #[.int .i64 W, .int .i64 H, .slice (some ⟨ba, oa, none⟩) n c] 24)).alloc (.cells #[.slice (some ⟨bf, of', none⟩) N fc] 48)) (w.heap.size + 1) 48 #[.slice (some ⟨bf, of', none⟩) N fc] := Blk.new' (by simp) _ _
  have b2 : Below w.heap.size w ((w.alloc (.cells #[.int .i64 W, .int .i64 H, .slice (some ⟨ba, oa, none⟩) n c] 24)).alloc (.cells #[.slice (some ⟨bf, of', none⟩) N fc] 48)) := by (repeat (first | exact Below.refl _ _ | assumption | refine Below.drew ?_ | refine below_drewN ?_ _ | refine Below.alloc ?_ (by first | omega | (simp; done) | (simp; omega)) _ | refine Below.setCell ?_ (by first | omega | (simp; done) | (simp; omega)) _ | refine below_setRow ?_ (by first | omega | (simp; done) | (simp; omega)) _ ))
  generalize (w.alloc (.cells #[.int .i64 W, .int .i64 H, .slice (some ⟨ba, oa, none⟩) n c] 24)).alloc (.cells #[.slice (some ⟨bf, of', none⟩) N fc] 48) = w2 at *
  have Z1 := ki.lt; have Z2 := kf.lt
  obtain ⟨p1, p2, p3⟩ := ki.cells3
  go_upto_region 1 with fail
  go_cut [6, 7] from 20 to 23 (fun a b wx => ∃ Bw Bh, a = .pointer (some ⟨Bw, 0, none⟩) ∧ b = .pointer (some ⟨Bh, 0, none⟩) ∧ Below w2.heap.size w2 wx ∧ w2.heap.size ≤ Bw ∧ w2.heap.size ≤ Bh ∧ Blk wx Bw 3 #[.int .i64 W] ∧ Blk wx Bh 3 #[.int .i64 H])
  case first =>
    go_region_held3 (fun w' => w'.cell? ⟨w.heap.size, 0, none⟩ = some (.int .i64 W) ∧ w'.cell? ⟨w.heap.size, 1, none⟩ = some (.int .i64 H))
      (simp [go_sem, *]) (fail)
    all_goals
      go_wp2_with fail
      go_meet
    · exact ⟨w2.heap.size, w2.heap.size + 1, rfl, rfl, by (repeat (first | exact Below.refl _ _ | assumption | refine Below.drew ?_ | refine below_drewN ?_ _ | refine Below.alloc ?_ (by first | omega | (simp; done) | (simp; omega)) _ | refine Below.setCell ?_ (by first | omega | (simp; done) | (simp; omega)) _ | refine below_setRow ?_ (by first | omega | (simp; done) | (simp; omega)) _ )), by omega, by omega, ((Blk.new _ _ _).alloc _).drew, (Blk.new' (by simp) _ _).drew⟩
    · exact ⟨w2.heap.size + 1, w2.heap.size, rfl, rfl, by (repeat (first | exact Below.refl _ _ | assumption | refine Below.drew ?_ | refine below_drewN ?_ _ | refine Below.alloc ?_ (by first | omega | (simp; done) | (simp; omega)) _ | refine Below.setCell ?_ (by first | omega | (simp; done) | (simp; omega)) _ | refine below_setRow ?_ (by first | omega | (simp; done) | (simp; omega)) _ )), by omega, by omega, (Blk.new' (by simp) _ _).drew, ((Blk.new _ _ _).alloc _).drew⟩
  case rest =>
  obtain ⟨Bw, Bh, rfl, rfl, hb3, hBw, hBh, kw, kh⟩ := hcut
  have b3 := below_call b2 b2.size hb3
  replace ki := ki.below' hb3
  replace kf := kf.below' hb3
  clear hb3 p1 p2 p3
  have Z3 := kw.lt; have Z4 := kh.lt
  have q1 := kw.at0; have q2 := kh.at0
  go_wp2_with fail
  have bW : Below w.heap.size w ((wc.alloc (.cells (i64s N (fun _ => 0)) 3)).alloc (.cells #[.slice (some ⟨wc.heap.size, 0, none⟩) N N] 37)) := by (repeat (first | exact Below.refl _ _ | assumption | refine Below.drew ?_ | refine below_drewN ?_ _ | refine Below.alloc ?_ (by first | omega | (simp; done) | (simp; omega)) _ | refine Below.setCell ?_ (by first | omega | (simp; done) | (simp; omega)) _ | refine below_setRow ?_ (by first | omega | (simp; done) | (simp; omega)) _ ))
  have K0 : BestK ((wc.alloc (.cells (i64s N (fun _ => 0)) 3)).alloc (.cells #[.slice (some ⟨wc.heap.size, 0, none⟩) N N] 37)) W H (w.heap.size + 1) Bw Bh (wc.heap.size + 1) w.heap.size wc.heap.size N (some ⟨bf, of', none⟩) (some ⟨ba, oa, none⟩) fc n c fb (fun _ => 0) p :=
    ⟨(kf.alloc _).alloc _, (kw.alloc _).alloc _, (kh.alloc _).alloc _, Blk.new' (by simp) _ _, (Blk.new _ _ _).alloc _, (ki.alloc _).alloc _, Arr.more (Arr.below hF bW) bW.size, hA.to bW⟩
  have z5 : w.heap.size + 1 < wc.heap.size := kf.lt
  clear ki kf kw kh hmk v1 b3 q1 q2 Z1 Z2
  generalize (wc.alloc (.cells (i64s N (fun _ => 0)) 3)).alloc (.cells #[.slice (some ⟨wc.heap.size, 0, none⟩) N N] 37) = w5 at *
  generalize wc.heap.size = gr at *
  have n1 : Bw ≠ gr := by omega
  have n2 : Bh ≠ gr := by omega
  have n3 : w.heap.size ≠ gr := by omega
  have n4 : w.heap.size + 1 ≠ gr := by omega
  have n5 : ba ≠ gr := by omega
  have n6 : bf ≠ gr := by omega
  have n7 : w.heap.size ≤ gr := by omega
  have FA := Lib.hid fun x y R w' k' x0 x1 y0 y1 hR => from_all W H x y (w.heap.size + 1) Bw Bh (gr + 1) w.heap.size gr N (some ⟨bf, of', none⟩) (some ⟨ba, oa, none⟩) fc n c fb R p w' k' HE.out hB HN.out x0 x1 y0 y1 hR
  generalize hG : gAt 1073741824 W H (cst p W) (fun x y => fb (y * W + x)) = G at *
  have HG := Lib.hid hG; clear hG
  have GB : Hid (∀ x y, 0 ≤ x → x < W → 0 ≤ y → y < H → 0 ≤ G x y ∧ G x y ≤ 1073741824) := by
    show ∀ _, _
    intro x y x0 x1 y0 y1
    have := gAt_bd (N := 1073741824) (W := W) (H := H) (F := fun x y => fb (y * W + x)) (cst_bd p W) (by omega) x0 x1 y0 y1
    rw [HG.out] at this
    omega
  go_loopw [10] (fun s wr => ∃ x : Int, -1 ≤ x ∧ x < W ∧ s = .int .i64 x ∧ Below w.heap.size w wr ∧ BestK wr W H (w.heap.size + 1) Bw Bh (gr + 1) w.heap.size gr N (some ⟨bf, of', none⟩) (some ⟨ba, oa, none⟩) fc n c fb (restR W G x 0) p) (fun s _ => (intOf s + 1).toNat)
  case atStart => exact ⟨W - 1, by omega, by omega, rfl, bW, K0.conv fun i h0 _ => (restR_start (by omega) h0).symm⟩
  case round =>
    obtain ⟨x, xm, x1, rfl, b6, k6⟩ := hrel
    clear bW K0
    have q1 := k6.kw.at0; have q2 := k6.kh.at0; have q3 := k6.kr.at0
    by_cases x0 : 0 ≤ x
    · go_wp2_with fail
      go_loopw [36] (fun s wr => ∃ y : Int, 0 ≤ y ∧ y ≤ H ∧ s = .int .i64 y ∧ Below w.heap.size w wr ∧ BestK wr W H (w.heap.size + 1) Bw Bh (gr + 1) w.heap.size gr N (some ⟨bf, of', none⟩) (some ⟨ba, oa, none⟩) fc n c fb (restR W G x y) p) (fun s _ => (H - intOf s).toNat)
      case atStart => exact ⟨0, by omega, by omega, rfl, b6, k6⟩
      case round =>
        obtain ⟨y, y0, ym, rfl, b7, k7⟩ := hrel
        clear b6 k6 q1 q2 q3
        have q1 := k7.kw.at0; have q2 := k7.kh.at0; have q3 := k7.kr.at0
        by_cases y1 : y < H
        · obtain ⟨i1, i2, i3⟩ := idx_lt x0 x1 y0 y1
          rw [Int.mul_comm H W] at i2
          have i4 : y * W + x < (N : Int) := by have := HN.out; omega
          have v1 : IntKind.i64.wrap (y * W) = y * W := IntWalk.i64_in _ (by omega)
          have v2 : IntKind.i64.wrap (y * W + x) = y * W + x := IntWalk.i64_in _ (by omega)
          have FX := Lib.hid fun w' k' => FA.out x y (restR W G x y) w' k' x0 x1 y0 y1 (fun hx t t0 t1 => restR_at (by omega) (by omega) (by omega))
          have K7 := Lib.hid k7; have B7 := Lib.hid b7
          have RS := Lib.hid fun i => restR_set (G := G) (y := y) x0 x1 i
          clear k7 b7
          go_wp2_with fail
          go_region_held3 (fun w' => w'.cell? ⟨gr + 1, 0, none⟩ = some (.slice (some ⟨gr, 0, none⟩) N N) ∧ w'.cell? ⟨Bw, 0, none⟩ = some (.int .i64 W))
            (simp [go_sem, *])
            ((go_at_call 60
              refine (FX.out _ (K7.out.below (drewN_below 1))).mono ?_
              rintro e w8 ⟨rfl, hb8⟩
              have k8 := (K7.out.below (drewN_below 1)).below hb8
              have x1' := k8.kw.at0; have x2' := k8.kr.at0
              have hr := k8.kR.i64at i1 i4
              have fr := k8.kR.frozen (y * W + x).toNat
              have b8 := below_call B7.out.drew B7.out.drew.size hb8))
          clear v1 v2
          go_wp2
          go_roundw
          case rel =>
            exact ⟨y + 1, by omega, by omega, by go_num, by (repeat (first | exact Below.refl _ _ | assumption | refine Below.drew ?_ | refine below_drewN ?_ _ | refine Below.alloc ?_ (by first | omega | (simp; done) | (simp; omega)) _ | refine Below.setCell ?_ (by first | omega | (simp; done) | (simp; omega)) _ | refine below_setRow ?_ (by first | omega | (simp; done) | (simp; omega)) _ )), (k8.store n4 n1 n2 (by omega) n3 (fun a e => by cases e; exact n6) (fun a e => by cases e; exact n5) (y * W + x) i1 (G x y)).conv fun i _ _ => RS.out i⟩
          case measure => simp [intOf]; omega
        · obtain rfl : y = H := by omega
          go_wp2
          go_roundw
          case rel => exact ⟨x - 1, by omega, by omega, by go_num, b7, k7.conv fun i h0 hi => restR_col (by omega) h0 (by have := HN.out; omega)⟩
          case measure => simp [intOf]; omega
    · obtain rfl : x = -1 := by omega
      have KB := k6.toB.below ((Below.refl _ _).alloc (Nat.le_refl _) (.cells #[.int .i64 0] 3))
      have kb := Blk.new wr 3 #[.int .i64 0]
      have b7 := b6.alloc b6.size (.cells #[.int .i64 0] 3)
      have hz := b6.size
      have z8 := k6.kR.lt
      have q9 := KB.kh.1.at0
      go_wp2_with fail
      generalize wr.alloc (.cells #[.int .i64 0] 3) = w7 at *
      generalize wr.heap.size = B12 at *
      clear q1 q2 q3 k6 b6
      clear q9
      go_loopw [52] (fun s wr => ∃ y : Nat, (y : Int) ≤ H ∧ s = .int .i64 y ∧ Below w.heap.size w wr ∧ BestB B12 wr W H (w.heap.size + 1) Bw Bh (gr + 1) w.heap.size gr N (some ⟨bf, of', none⟩) (some ⟨ba, oa, none⟩) fc n c fb (restR W G (-1) 0) p ∧ Blk wr B12 3 #[.int .i64 (fmin (G 0) y)]) (fun s _ => (H - intOf s).toNat)
      case atStart => exact ⟨0, by omega, rfl, b7, KB, kb⟩
      case round =>
        obtain ⟨y, ym, rfl, b8, K8, k8⟩ := hrel
        clear b7 KB kb
        have q1 := K8.kw.1.at0; have q3 := K8.kr.1.at0; have q4 := k8.at0; have q5 := k8.frozen 0
        obtain ⟨f1, f2⟩ := fmin_bd (G 0) y
        by_cases y1 : (y : Int) < H
        · have FS : Hid (fmin (G 0) (y + 1) = if G 0 y < G 0 (fmin (G 0) y) then (y : Int) else fmin (G 0) y) := by show _ = _; rfl
          have hfm : fmin (G 0) y < H := by
            by_cases h : 0 < y
            · have := f2 h; omega
            · obtain rfl : y = 0 := by omega
              show (0 : Int) < H; omega
          clear f2
          generalize fmin (G 0) y = a at *
          obtain ⟨i1, i2, i3⟩ := idx_lt (x := 0) (y := (y : Int)) (W := W) (H := H) (by omega) (by omega) (by omega) y1
          obtain ⟨j1, j2, j3⟩ := idx_lt (x := 0) (y := a) (W := W) (H := H) (by omega) (by omega) f1 hfm
          rw [Int.add_zero, Int.mul_comm H W] at i2 j2
          have i4 : (y : Int) * W < (N : Int) := by have := HN.out; omega
          have j4 : a * W < (N : Int) := by have := HN.out; omega
          have c1 := K8.kR.1.i64at i3 i4
          have c2 := K8.kR.1.i64at j3 j4
          rw [show restR W G (-1) 0 ((y : Int) * W) = G 0 y by rw [← Int.add_zero ((y : Int) * W)]; exact restR_at (by omega) (by omega) (by omega)] at c1
          rw [show restR W G (-1) 0 (a * W) = G 0 a by rw [← Int.add_zero (a * W)]; exact restR_at (by omega) (by omega) (by omega)] at c2
          have v1 : IntKind.i64.wrap ((y : Int) * W) = (y : Int) * W := IntWalk.i64_in _ (by omega)
          have v2 : IntKind.i64.wrap (a * W) = a * W := IntWalk.i64_in _ (by omega)
          clear i1 j1
          by_cases hlt : G 0 y < G 0 a
          · rw [if_pos hlt] at FS
            generalize G 0 y = g1 at *
            generalize G 0 a = g2 at *
            go_wp2_with fail
            go_quiet (fail)
            clear v1 v2
            go_wp2
            go_roundw
            case rel => exact ⟨y + 1, by omega, by go_num, by have := below_drewN b8 nq; (repeat (first | exact Below.refl _ _ | assumption | refine Below.drew ?_ | refine below_drewN ?_ _ | refine Below.alloc ?_ (by first | omega | (simp; done) | (simp; omega)) _ | refine Below.setCell ?_ (by first | omega | (simp; done) | (simp; omega)) _ | refine below_setRow ?_ (by first | omega | (simp; done) | (simp; omega)) _ )), K8.below (by have := below_drewN (Below.refl B12 wr) nq; (repeat (first | exact Below.refl _ _ | assumption | refine Below.drew ?_ | refine below_drewN ?_ _ | refine Below.alloc ?_ (by first | omega | (simp; done) | (simp; omega)) _ | refine Below.setCell ?_ (by first | omega | (simp; done) | (simp; omega)) _ | refine below_setRow ?_ (by first | omega | (simp; done) | (simp; omega)) _ ))), by rw [FS.out]; exact (k8.drewN nq).set_ 0 _⟩
            case measure => simp [intOf]; omega
          · rw [if_neg hlt] at FS
            generalize G 0 y = g1 at *
            generalize G 0 a = g2 at *
            go_wp2_with fail
            go_quiet (fail)
            clear v1 v2
            go_wp2
            go_roundw
            case rel => exact ⟨y + 1, by omega, by go_num, below_drewN b8 nq, K8.below (below_drewN (Below.refl B12 wr) nq), by rw [FS.out]; exact k8.drewN nq⟩
            case measure => simp [intOf]; omega
        · obtain ⟨Hn, rfl⟩ : ∃ Hn : Nat, H = Hn := ⟨H.toNat, by omega⟩
          obtain rfl : y = Hn := by omega
          have q1 := K8.kw.1.at0; have q3 := K8.kr.1.at0; have q4 := k8.at0
          obtain ⟨f1, f2⟩ := fmin_bd (G 0) y
          have f2 := f2 (by omega)
          have PE : Hid (pathP 1073741824 W y (cst p W) (fun x y => fb (y * W + x)) 0 = fmin (G 0) y) := by show _ = _; rw [← HG.out]; rfl
          generalize fmin (G 0) y = a at *
          obtain ⟨j1, j2, j3⟩ := idx_lt (x := 0) (y := a) (W := W) (H := (y : Int)) (by omega) (by omega) f1 f2
          rw [Int.add_zero, Int.mul_comm (y : Int) W] at j2
          have j4 : a * W < (N : Int) := by have := HN.out; omega
          have c2 := K8.kR.1.i64at j3 j4
          rw [show restR W G (-1) 0 (a * W) = G 0 a by rw [← Int.add_zero (a * W)]; exact restR_at (by omega) (by omega) (by omega)] at c2
          have v2 : IntKind.i64.wrap (a * W) = a * W := IntWalk.i64_in _ (by omega)
          have gb := GB.out 0 a (by omega) (by omega) f1 f2
          obtain ⟨gb1, gb2⟩ := gb
          have BO : Hid (gAt 1073741824 W y (cst p W) (fun x y => fb (y * W + x)) 0 (pathP 1073741824 W y (cst p W) (fun x y => fb (y * W + x)) 0) = G 0 a) := by show _ = _; rw [PE.out, HG.out]
          by_cases hc : G 0 a < 1073741824
          · have hf := BO.out
            have PO := path_ok (N := 1073741824) (W := W) (H := y) (c := cst p W) (F := fun x y => fb (y * W + x)) (cst_bd p W) (by omega) (by omega) (by omega) (by rw [hf]; exact hc)
            rw [HG.out] at PO
            have PN : Hid (∀ x : Nat, pathP 1073741824 W y (cst p W) (fun x y => fb (y * W + x)) (x + 1) = ((nbT (pathP 1073741824 W y (cst p W) (fun x y => fb (y * W + x)) x) (nxN y (pathP 1073741824 W y (cst p W) (fun x y => fb (y * W + x)) x))).find? (fun t => decide (goTo (G (x + 1)) (pathP 1073741824 W y (cst p W) (fun x y => fb (y * W + x)) x) t = G x (pathP 1073741824 W y (cst p W) (fun x y => fb (y * W + x)) x) - cst p W x (pathP 1073741824 W y (cst p W) (fun x y => fb (y * W + x)) x)))).getD (pathP 1073741824 W y (cst p W) (fun x y => fb (y * W + x)) x)) := by
              show ∀ _, _
              intro x
              rw [← HG.out]
              exact nxt_find _ _ _ _ _ _ _
            generalize hP : pathP 1073741824 W y (cst p W) (fun x y => fb (y * W + x)) = P at *
            have HP := Lib.hid hP
            replace PO := Lib.hid PO
            have PX := Lib.hid fun x' y' w' hA' x0 x1 y0 y1 => paper_any W y (some ⟨ba, oa, none⟩) n c p x' y' w' hA' hB HE.out x0 x1 y0 y1
            clear hP hf
            have z9 : B12 < wr.heap.size := k8.lt
            have b9 : Below w.heap.size w ((wr.alloc (.cells #[.int .i64 a] 3)).alloc (.cells #[.int .i64 1] 3)) := by (repeat (first | exact Below.refl _ _ | assumption | refine Below.drew ?_ | refine below_drewN ?_ _ | refine Below.alloc ?_ (by first | omega | (simp; done) | (simp; omega)) _ | refine Below.setCell ?_ (by first | omega | (simp; done) | (simp; omega)) _ | refine below_setRow ?_ (by first | omega | (simp; done) | (simp; omega)) _ ))
            have K9 : BestB B12 ((wr.alloc (.cells #[.int .i64 a] 3)).alloc (.cells #[.int .i64 1] 3)) W y (w.heap.size + 1) Bw Bh (gr + 1) w.heap.size gr N (some ⟨bf, of', none⟩) (some ⟨ba, oa, none⟩) fc n c fb (restR W G (-1) 0) p := K8.below (by (repeat (first | exact Below.refl _ _ | assumption | refine Below.drew ?_ | refine below_drewN ?_ _ | refine Below.alloc ?_ (by first | omega | (simp; done) | (simp; omega)) _ | refine Below.setCell ?_ (by first | omega | (simp; done) | (simp; omega)) _ | refine below_setRow ?_ (by first | omega | (simp; done) | (simp; omega)) _ )))
            have k9 : Blk ((wr.alloc (.cells #[.int .i64 a] 3)).alloc (.cells #[.int .i64 1] 3)) B12 3 #[.int .i64 (P 0)] := by rw [PE.out]; exact (k8.alloc _).alloc _
            have r9 : ((wr.alloc (.cells #[.int .i64 a] 3)).alloc (.cells #[.int .i64 1] 3)).ownsRow (B12 + 1) 3 1 (.slice (some ⟨wr.heap.size, 0, none⟩) 1 1) 1 [.int .i64 a] := own_one ((Blk.new _ _ _).alloc _) (by omega)
            have kx9 : Blk ((wr.alloc (.cells #[.int .i64 a] 3)).alloc (.cells #[.int .i64 1] 3)) (wr.heap.size + 1) 3 #[.int .i64 1] := Blk.new' (by simp) _ _
            go_wp2_with fail
            clear k8 K8 b8
            refine wp_loop (fun a' w' => ∃ (Ds : List Nat) (u15 u16 u17 u18 u19 u80 u81 u82 u83 u84 u85 u86 u87 u88 u89 u90 u91 u92 u93 u94 u95 u96 u97 u98 u99 u100 u101 u102 u104 u105 u106 u107 u108 u109 u110 u111 u112 u113 u114 u115 u116 u117 u118 u119 u120 u121 u122 u123 u124 u125 : Value), (∃ x Bx : Nat, (x : Int) + 1 ≤ W ∧ u16 = .pointer (some ⟨Bx, 0, none⟩) ∧ w'.ownsRow (B12 + 1) 3 1 u15 (x + 1) ((List.range (x + 1)).map fun j => Value.int .i64 (P j)) ∧ Below w.heap.size w w' ∧ BestB B12 w' W y (w.heap.size + 1) Bw Bh (gr + 1) w.heap.size gr N (some ⟨bf, of', none⟩) (some ⟨ba, oa, none⟩) fc n c fb (restR W G (-1) 0) p ∧ Blk w' B12 3 #[.int .i64 (P x)] ∧ Blk w' Bx 3 #[.int .i64 ((x : Int) + 1)] ∧ B12 < Bx ∧ u15.ownBlock ≠ some Bx ∧ Held w' Ds ∧ ∀ D ∈ Ds, B12 < D) ∧ a' = (⟨#[.agg #[.int .i64 W, .int .i64 y, .slice (some ⟨ba, oa, none⟩) n c], .slice (some ⟨bf, of', none⟩) N fc, .pointer (some ⟨w.heap.size, 0, none⟩), .pointer (some ⟨w.heap.size + 1, 0, none⟩), .slice none 0 0, .int .i64 0, .pointer (some ⟨Bw, 0, none⟩), .pointer (some ⟨Bh, 0, none⟩), .pointer (some ⟨gr + 1, 0, none⟩), .func (.func 60) #[] #[.pointer (some ⟨w.heap.size + 1, 0, none⟩), .pointer (some ⟨Bw, 0, none⟩), .pointer (some ⟨Bh, 0, none⟩), .pointer (some ⟨gr + 1, 0, none⟩), .pointer (some ⟨w.heap.size, 0, none⟩)], .int .i64 (-1), u11, .pointer (some ⟨B12, 0, none⟩), u13, .int .i64 (G 0 a), u15, u16, u17, u18, u19, u20, u21, u22, u23, .int .i64 W, .int .i64 y, .int .i64 (W * y), .slice (some ⟨gr, 0, none⟩) N N, .func (.func 60) #[] #[.pointer (some ⟨w.heap.size + 1, 0, none⟩), .pointer (some ⟨Bw, 0, none⟩), .pointer (some ⟨Bh, 0, none⟩), .pointer (some ⟨gr + 1, 0, none⟩), .pointer (some ⟨w.heap.size, 0, none⟩)], .int .i64 W, .int .i64 (W - 1), .int .i64 (-1), .bool false, u33, u34, u35, u36, u37, u38, u39, u40, u41, u42, u43, u44, u45, u46, u47, u48, u49, u50, .int .i64 y, .int .i64 y, .bool false, u54, u55, u56, u57, u58, u59, u60, u61, u62, u63, u64, u65, u66, u67, u68, u69, .slice (some ⟨gr, 0, none⟩) N N, .int .i64 a, .int .i64 W, .int .i64 (a * W), .pointer (some ⟨gr, (a * W).toNat, none⟩), .int .i64 (G 0 a), .int .i64 (G 0 a), .bool (decide (1073741824 ≤ G 0 a)), .int .i64 a, .slice (some ⟨wr.heap.size, 0, none⟩) 1 1, u80, u81, u82, u83, u84, u85, u86, u87, u88, u89, u90, u91, u92, u93, u94, u95, u96, u97, u98, u99, u100, u101, u102, undef, u104, u105, u106, u107, u108, u109, u110, u111, u112, u113, u114, u115, u116, u117, u118, u119, u120, u121, u122, u123, u124, u125, undef, undef], marks Ds⟩ : Act)) (fun a' _ => (W - lenV (a'.tmps.getD 15 undef)).toNat) ?start ?round
            case start => exact ⟨[], _, _, _, _, _, _, _, _, _, _, _, _, _, _, _, _, _, _, _, _, _, _, _, _, _, _, _, _, _, _, _, _, _, _, _, _, _, _, _, _, _, _, _, _, _, _, _, _, _, _, ⟨0, wr.heap.size + 1, by omega, rfl, by rw [← PE.out] at r9 ⊢; exact r9, b9, K9, k9, kx9, by omega, by simp [Value.ownBlock], Held.nil _, by simp⟩, rfl⟩
            case round =>
              rintro _ wr ⟨Ds, u15, u16, u17, u18, u19, u80, u81, u82, u83, u84, u85, u86, u87, u88, u89, u90, u91, u92, u93, u94, u95, u96, u97, u98, u99, u100, u101, u102, u104, u105, u106, u107, u108, u109, u110, u111, u112, u113, u114, u115, u116, u117, u118, u119, u120, u121, u122, u123, u124, u125, hrel, rfl⟩
              dsimp only
              obtain ⟨x, Bx, hx, rfl, hown, b10, K10, k10, kx, zx, nx, hD, hDs⟩ := hrel
              clear b9 K9 k9 r9 kx9
              have PS := PN.out x
              obtain ⟨p0, p1, p2⟩ := PO.out x (by omega)
              have ex : ∃ X : Int, (x : Int) + 1 = X := ⟨_, rfl⟩
              obtain ⟨X, eX⟩ := ex
              have ex : (x : Int) = X - 1 := by omega
              rw [eX, ex] at PS
              rw [eX] at hx kx
              rw [ex] at p2
              replace PS := Lib.hid PS
              generalize hPa : P x = a' at *
              have HPa := Lib.hid hPa; clear hPa
              have q1 := K10.kw.1.at0; have q2 := K10.kh.1.at0; have q3 := K10.kr.1.at0; have q4 := k10.at0; have q5 := k10.frozen 0; have q6 := kx.at0
              have X0 : 1 ≤ X := by omega
              have EX := Lib.hid eX; have EX' := Lib.hid ex
              clear eX ex
              by_cases hlt : X < W
              · obtain ⟨g0, g1⟩ := GB.out (X - 1) a' (by omega) (by omega) p0 p1
                obtain ⟨i1, i2, i3⟩ := idx_lt (x := X - 1) (y := a') (W := W) (H := (y : Int)) (by omega) (by omega) p0 p1
                rw [Int.mul_comm (y : Int) W] at i2
                have i4 : a' * W + X - 1 < (N : Int) := by have := HN.out; omega
                have i5 : 0 ≤ a' * W + X - 1 := by omega
                have c3 := K10.kR.1.i64at i5 i4
                rw [show restR W G (-1) 0 (a' * W + X - 1) = G (X - 1) a' by rw [show a' * W + X - 1 = a' * W + (X - 1) by omega]; exact restR_at (by omega) (by omega) (by omega)] at c3
                have cb := cst_bd p W (X - 1) a'
                obtain ⟨cb1, cb2⟩ := cb
                have PX' := Lib.hid fun w' hA' => PX.out (X - 1) a' w' hA' (by omega) (by omega) p0 p1
                generalize hci : cst p W (X - 1) a' = ci at *
                generalize hgi : G (X - 1) a' = gi at *
                have HCI := Lib.hid hci; have HGI := Lib.hid hgi
                clear hci hgi
                have v1 : IntKind.i64.wrap (a' * W) = a' * W := IntWalk.i64_in _ (by omega)
                have v2 : IntKind.i64.wrap (a' * W + X) = a' * W + X := IntWalk.i64_in _ (by omega)
                have v3 : IntKind.i64.wrap (a' * W + X - 1) = a' * W + X - 1 := IntWalk.i64_in _ (by omega)
                have v4 : IntKind.i64.wrap (X - 1) = X - 1 := IntWalk.i64_in _ (by omega)
                have v5 : IntKind.i64.wrap (gi - ci) = gi - ci := IntWalk.i64_in _ (by omega)
                clear i1 i2
                generalize hJ : a' * W + X - 1 = J at *
                have v3' : IntKind.i64.wrap (a' * W + X - 1) = J := by rw [hJ]; exact v3
                have HJ := Lib.hid hJ; clear hJ v3
                have KA := Lib.hid (K10.aA.more (Nat.le_of_lt (Nat.lt_trans zx kx.lt)))
                obtain ⟨r1, r2, r3⟩ := K10.ki.1.cells3
                go_wp2_with fail
                go_cut [17] from 85 to 99 (fun v wx => ∃ Bl, v = .pointer (some ⟨Bl, 0, none⟩) ∧ wr.heap.size ≤ Bl ∧ Below wr.heap.size wr wx ∧ Blk wx Bl 3 #[.int .i64 (gi - ci)])
                case first =>
                  have y1 := World.new_ne wr _ q1; have y2 := World.new_ne wr _ q3; have y3 := World.new_ne wr _ q4; have y4 := World.new_ne wr _ q6; have y5 := World.new_ne wr _ c3; have y6 := World.new_ne wr _ r1; have y7 := World.new_ne wr _ r2; have y8 := World.new_ne wr _ r3
                  go_region_held3 (fun w' => w'.cell? ⟨gr + 1, 0, none⟩ = some (.slice (some ⟨gr, 0, none⟩) N N) ∧ w'.cell? ⟨Bw, 0, none⟩ = some (.int .i64 W) ∧ w'.cell? ⟨B12, 0, none⟩ = some (.int .i64 a') ∧ w'.cell? ⟨Bx, 0, none⟩ = some (.int .i64 X) ∧ w'.cell? ⟨gr, J.toNat, none⟩ = some (.int .i64 gi) ∧ w'.cell? ⟨w.heap.size, 0, none⟩ = some (.int .i64 W) ∧ w'.cell? ⟨w.heap.size, 1, none⟩ = some (.int .i64 y) ∧ w'.cell? ⟨w.heap.size, 2, none⟩ = some (.slice (some ⟨ba, oa, none⟩) n c))
                    (first | (simp [go_sem, *]; done) | (go_keep; done))
                    ((go_at_call 62
                      first
                        | refine (PX'.out _ KA.out.drew1).mono ?_
                        | refine (PX'.out _ (KA.out.drew1.alloc1 _)).mono ?_
                      rintro e w6 ⟨rfl, hb6⟩
                      have b6 : Below wr.heap.size wr w6 := by first | exact below_call (Below.refl _ _).drew (Nat.le_refl _) hb6 | exact below_call ((Below.refl _ _).drew.alloc (Nat.le_refl _) _) (by simp) hb6
                      have x1 := (K10.kr.1.below' b6).at0; have x2 := (K10.kw.1.below' b6).at0; have x3 := (k10.below' b6).at0; have x4 := (kx.below' b6).at0
                      have x5 : w6.cell? ⟨gr, J.toNat, none⟩ = some (.int .i64 gi) := (bcell b6).1 _ _ K10.kR.1.lt |>.trans c3
                      obtain ⟨x6, x7, x8⟩ := (K10.ki.1.below' b6).cells3
                      have y1 := World.new_ne w6 _ x1; have y2 := World.new_ne w6 _ x2; have y3 := World.new_ne w6 _ x3; have y4 := World.new_ne w6 _ x4; have y5 := World.new_ne w6 _ x5; have y6 := World.new_ne w6 _ x6; have y7 := World.new_ne w6 _ x7; have y8 := World.new_ne w6 _ x8
                      try have x9 : w6.cell? ⟨wr.heap.size, 0, none⟩ = some (.int .i64 0) := ((Blk.new wr.drew 3 #[.int .i64 0]).below' hb6).at0
                      try have x10 : w6.frozen? ⟨wr.heap.size, 0, none⟩ = false := ((Blk.new wr.drew 3 #[.int .i64 0]).below' hb6).frozen 0))
                  all_goals
                    go_wp2_with fail
                    go_meet
                    first
                      | exact ⟨_, rfl, b6.size, b6.alloc b6.size _, Blk.new _ _ _⟩
                      | exact ⟨_, rfl, Nat.le_refl _, b6.setCell (Nat.le_refl _) _, ((Blk.new wr.drew 3 #[.int .i64 0]).below' hb6).set_ 0 _⟩
                case rest =>
                  obtain ⟨Bl, rfl, hBl, hbl, kl⟩ := hcut
                  have zr := kx.lt
                  have b11 := below_call b10 b10.size hbl
                  have K11 := K10.below (hbl.mono (by omega))
                  have k11 := k10.below' hbl
                  have kx11 := kx.below' hbl
                  have own11 := own_below hown hbl
                  have hD11 := hD.below hbl
                  have rl := own_len hown
                  have zl := kl.lt
                  have rb : ∀ k, u15.ownBlock = some k → k < wr.heap.size := fun k hk => (own_ge hown hk).2
                  clear b10 K10 k10 kx hown hD hbl q1 q2 q3 q4 q5 q6 c3 r1 r2 r3 KA v1 v2 v3' v4 v5
                  have q1 := K11.kw.1.at0; have q2 := K11.kh.1.at0; have q4 := k11.at0
                  go_wp2_with fail
                  refine (next_any _ _ _).mono ?_
                  rintro e w12 ⟨_, rfl, ⟨rfl, ky, kh⟩, hb12⟩
                  have b12 := below_call b11 b11.size hb12
                  have K12 := K11.below (hb12.mono (by omega))
                  have k12 := k11.below' hb12
                  have kx12 := kx11.below' hb12
                  have kl12 := kl.below' hb12
                  have own12 := own_below own11 hb12
                  have hD12 := hD11.below hb12
                  have zc := kh.lt
                  clear b11 K11 k11 kx11 own11 hD11 hb12 q1 q2 q4 kl
                  go_wp2_with fail
                  refine (wpIn_wide (n := 5)).1 ?_
                  generalize hb1 : wc.heap.size = b1 at *
                  clear hb1
                  have z13 : b1 + 1 < w12.heap.size := zc
                  obtain ⟨f, hf⟩ : ∃ f : Int → Bool, f = fun t => decide (goTo (G X) a' t = gi - ci) := ⟨_, rfl⟩
                  replace PS := PS.out
                  rw [← hf] at PS
                  replace PS := Lib.hid PS; have HF := Lib.hid hf
                  clear hf
                  have CNT := Lib.hid (But.refl B12 (Nat.le_refl w12.heap.size))
                  have MM := Lib.hid k12
                  refine wpIn_rangeFunc_ownF (F := Fence.wide) (n := 5) rfl (by omega) (gf := 96) (lb := #[.pointer (some ⟨b1, 0, none⟩), .pointer (some ⟨b1 + 1, 0, none⟩)]) rfl trivial (enters_of Tryz.func96 (by kernel_rfl) rfl) (next_stops Fence.wide 4 trivial rfl (by omega) a' y b1 (b1 + 1) w12 ky kh p0 p1 hH2)
                    (fun h k => KpB.trans h k) (fun W' l o o' hl ho _ _ => by
                      have hlt := (Array.getElem?_eq_some_iff.1 ho).1
                      exact ⟨(grownBy_putObj' W' l o').block b1 (by omega) (by intro e; cases e; omega), (grownBy_putObj' W' l o').block (b1 + 1) (by omega) (by intro e; cases e; omega)⟩) (Below.refl _ _) (fun _ => rfl)
                    (NxI B12 f a' w12) (NxX B12 f w12 8)
                    (ownFrom_of_below (fun s X Y hs hXY => ⟨hs.bt.then hXY, hs.k.below hXY (by omega), hs.no⟩) (fun s X hs => hs.bt.size))
                    (fun c => ownFrom_of_below (fun s X Y hs hXY => by
                      obtain ⟨q, t, h2, h3, h4, h6⟩ := hs.ex
                      exact ⟨hs.e, hs.bt.then hXY, q, t, h2, h3, h4, h6.below hXY (by omega)⟩) (fun s X hs => hs.bt.size))
                    ⟨CNT.out, k12, fun _ h => by simp at h⟩ ?fr ?assign ?body ?done ?stop
                  case assign =>
                    intro l t W' K hK
                    gi_wp2
                    exact hK
                  case body =>
                    rintro l pre ⟨t, t0, t1⟩ W' ⟨hbt, hk, hpre⟩ _
                    have K13 := K12.below (hbt.to rfl (Nat.le_refl _) (by omega))
                    have kx13 := kx12.but hbt kx12.lt (by omega)
                    have kl13 := kl12.but hbt kl12.lt (by omega)
                    have r1 := K13.kr.1.at0; have r2 := K13.kw.1.at0; have r3 := kx13.at0; have r4 := hk.at0; have r5 := hk.frozen 0; have r6 := kl13.at0
                    obtain ⟨l1, l2, l3⟩ := idx_lt (x := X) (y := t) (W := W) (H := (y : Int)) (by omega) (by omega) t0 t1
                    rw [Int.mul_comm (y : Int) W] at l2
                    have l4 : t * W + X < (N : Int) := by have := HN.out; omega
                    have hr := K13.kR.1.i64at (i := t * W + X) l1 l4
                    rw [show restR W G (-1) 0 (t * W + X) = G X t from restR_at (by omega) (by omega) (by omega)] at hr
                    obtain ⟨d1, d2⟩ := GB.out X t (by omega) (by omega) t0 t1
                    have v1 : IntKind.i64.wrap (t * W) = t * W := IntWalk.i64_in _ (by omega)
                    have v2 : IntKind.i64.wrap (t * W + X) = t * W + X := IntWalk.i64_in _ (by omega)
                    have FINn : Hid (f t = false → KeepsOthers W' W' ∧ KpB b1 (b1 + 1) W' W' ∧ NxI B12 f a' w12 (pre ++ [(⟨t, t0, t1⟩ : RowIn (y : Int))]) W') := by
                      show _ → _
                      intro h
                      refine ⟨KeepsOthers.refl _, ⟨rfl, rfl⟩, hbt, hk, fun s hs => ?_⟩
                      rcases List.mem_append.1 hs with hs | hs
                      · exact hpre s hs
                      · obtain rfl := List.mem_singleton.1 hs; exact h
                    have FINx : Hid (f t = true → KeepsOthers W' (W'.setCell ⟨B12, 0, none⟩ (.int .i64 t)) ∧ NxX B12 f w12 8 (.exit 8) (pre ++ [(⟨t, t0, t1⟩ : RowIn (y : Int))]) (W'.setCell ⟨B12, 0, none⟩ (.int .i64 t))) := by
                      show _ → _
                      intro h
                      exact ⟨KeepsOthers.setCell _ _ _, rfl, hbt.set _ _, pre, ⟨t, t0, t1⟩, rfl, hpre, h, hk.set_ 0 _⟩
                    have FT : Hid (f t = decide (G X t + (if t = a' then 0 else 1) = gi - ci)) := by show _ = _; rw [HF.out]; rfl
                    clear K13 kx13 kl13 hbt hk hpre
                    generalize G X t = gt at *
                    generalize gi - ci = L at *
                    by_cases e : t = a'
                    · rw [if_pos e, Int.add_zero] at FT
                      have hb : (t != a') = false := by simp [e]
                      have E := Lib.hid e; clear e
                      by_cases hm : gt = L
                      · have hb2 : (gt == L) = true := by simp [hm]
                        have HM := Lib.hid hm; clear hm
                        gi_wp2
                        exact FINx.out (by rw [FT.out]; simp [HM.out])
                      · have hb2 : (gt == L) = false := by simp [hm]
                        have HM := Lib.hid hm; clear hm
                        gi_wp2
                        exact FINn.out (by rw [FT.out]; simp [HM.out])
                    · rw [if_neg e] at FT
                      have hb : (t != a') = true := by simp [e]
                      have E := Lib.hid e; clear e
                      by_cases hm : gt + 1 = L
                      · have hb2 : (gt + 1 == L) = true := by simp [hm]
                        have HM := Lib.hid hm; clear hm
                        gi_wp2
                        exact FINx.out (by rw [FT.out]; simp [HM.out])
                      · have hb2 : (gt + 1 == L) = false := by simp [hm]
                        have HM := Lib.hid hm; clear hm
                        gi_wp2
                        exact FINn.out (by rw [FT.out]; simp [HM.out])
                  case done =>
                    rintro D xs W' hDw hS ⟨bt, hk, hno⟩ hKd
                    have hP' : P (x + 1) = a' := PS.out.trans (find_none hS hno a')
                    have k14 : Blk W' B12 3 #[.int .i64 (P (x + 1))] := by rw [hP']; exact hk
                    clear hk hP' hno hS
                    have b14 := b12.trans (bt.to rfl (by omega) (by omega))
                    have K14 := K12.below (bt.to rfl (Nat.le_refl _) (by omega))
                    have kx14 := kx12.but bt kx12.lt (by omega)
                    have own14 := own_but own12 bt rfl (by omega)
                    have hD14 := (hD12.but bt rfl ⟨_, _, k12⟩).cons hKd (fun hm => by have := hD12.lt hm; omega)
                    have hDs14 : ∀ E ∈ D :: Ds, B12 < E := fun E hE => by
                      rcases List.mem_cons.1 hE with rfl | hE
                      · omega
                      · exact hDs E hE
                    have z14 := bt.size
                    clear bt hDw hKd b12 K12 k12 kx12 kl12 own12 hD12 ky kh CNT MM PX' PX
                    have q4 := k14.at0; have q6 := kx14.at0
                    obtain ⟨i0, hi0, hz0, hz1, hz2⟩ := info_parts infoInt
                    go_wp2_with (at_builtin; refine wpList_append_own _ rfl (.tmp 121) (.tmp 123) 37 rfl (B12 + 1) 3 i0 (.int .i64 0) 1 8 Tryz.underlying37 hi0 hz0 hz1 hz2 rfl (by decide) _ _ _ rfl (own14.alloc _) ⟨W'.heap.size, 0, none⟩ 1 1 [.int .i64 (P (x + 1))] rfl rfl ?c1 ?c2 ?c3 ?c4 ?c5 ?_)
                    case c1 => exact cell_one_new _ _ _
                    case c2 => simp [Value.oneCell']
                    case c3 => unfold maxLen; have := EX.out; omega
                    case c4 => have := EX.out; omega
                    case c5 => simp; omega
                    intro v' w15 own15 hg _
                    have b15 : Below w.heap.size w w15 := (show Below w.heap.size w (W'.alloc (.cells #[.int .i64 (P (x + 1))] 3)) by (repeat (first | exact Below.refl _ _ | assumption | refine Below.drew ?_ | refine below_drewN ?_ _ | refine Below.alloc ?_ (by first | omega | (simp; done) | (simp; omega)) _ | refine Below.setCell ?_ (by first | omega | (simp; done) | (simp; omega)) _ | refine below_setRow ?_ (by first | omega | (simp; done) | (simp; omega)) _ ))).grown hg (by simp; omega) (fun k hk => by have := (own_ge own14 hk).1; omega)
                    have K15 := K14.below (((Below.refl B12 W').alloc (by omega) (.cells #[.int .i64 (P (x + 1))] 3)).grown hg (by simp; omega) (fun k hk => by have := (own_ge own14 hk).1; omega))
                    have k15 := (k14.alloc (.cells #[.int .i64 (P (x + 1))] 3)).grown hg (own_ne own14 (by omega))
                    have kx15 := (kx14.alloc (.cells #[.int .i64 (P (x + 1))] 3)).grown hg (fun e => nx e.symm)
                    have hD15 := (hD14.below ((Below.refl _ _).alloc (Nat.le_refl _) (.cells #[.int .i64 (P (x + 1))] 3))).grown (own14.alloc _) hg
                    have z15 := Nat.le_trans (show w12.heap.size ≤ (W'.alloc (.cells #[.int .i64 (P (x + 1))] 3)).heap.size by simp; omega) hg.size
                    clear b14 K14 k14 kx14 own14 hD14 hg q4 q6
                    have ln := own_len own15
                    have ow := own_below own15 ((Below.refl _ _).alloc (Nat.le_refl _) (.cells #[.int .i64 (X + 1)] 3))
                    have hv : ∀ k, v'.ownBlock = some k → k < w15.heap.size := fun k hk => (own_ge own15 hk).2
                    have q6 := kx15.at0
                    have v8 : IntKind.i64.wrap (X + 1) = X + 1 := IntWalk.i64_in _ (by omega)
                    go_wp2
                    refine ⟨⟨D :: Ds, _, _, _, _, _, _, _, _, _, _, _, _, _, _, _, _, _, _, _, _, _, _, _, _, _, _, _, _, _, _, _, _, _, _, _, _, _, _, _, _, _, _, _, _, _, _, _, _, _, _, ?rel, rfl⟩, ?measure⟩
                    case rel => exact ⟨x + 1, w15.heap.size, by have := EX.out; omega, rfl, by rw [range_snoc, range_snoc, List.append_assoc]; exact ow, by (repeat (first | exact Below.refl _ _ | assumption | refine Below.drew ?_ | refine below_drewN ?_ _ | refine Below.alloc ?_ (by first | omega | (simp; done) | (simp; omega)) _ | refine Below.setCell ?_ (by first | omega | (simp; done) | (simp; omega)) _ | refine below_setRow ?_ (by first | omega | (simp; done) | (simp; omega)) _ )), K15.below (by (repeat (first | exact Below.refl _ _ | assumption | refine Below.drew ?_ | refine below_drewN ?_ _ | refine Below.alloc ?_ (by first | omega | (simp; done) | (simp; omega)) _ | refine Below.setCell ?_ (by first | omega | (simp; done) | (simp; omega)) _ | refine below_setRow ?_ (by first | omega | (simp; done) | (simp; omega)) _ ))), k15.alloc _, by rw [show ((x + 1 : Nat) : Int) + 1 = X + 1 by have := EX.out; omega]; exact Blk.new _ _ _, by omega, fun e => by have := hv _ e; omega, hD15.below (by (repeat (first | exact Below.refl _ _ | assumption | refine Below.drew ?_ | refine below_drewN ?_ _ | refine Below.alloc ?_ (by first | omega | (simp; done) | (simp; omega)) _ | refine Below.setCell ?_ (by first | omega | (simp; done) | (simp; omega)) _ | refine below_setRow ?_ (by first | omega | (simp; done) | (simp; omega)) _ ))), hDs14⟩
                    case measure => simp [rl, ln]; have := EX.out; omega
                  case stop =>
                    rintro D c pre W' hDw hS ⟨rfl, bt, q, t, e1, e2, e3, k14⟩ hKd
                    have hP' : P (x + 1) = t.1 := PS.out.trans (find_some hS e1 e2 e3 a')
                    rw [← hP'] at k14
                    clear hP' e1 e2 e3 hS
                    have b14 := b12.trans (bt.to rfl (by omega) (by omega))
                    have K14 := K12.below (bt.to rfl (Nat.le_refl _) (by omega))
                    have kx14 := kx12.but bt kx12.lt (by omega)
                    have own14 := own_but own12 bt rfl (by omega)
                    have hD14 := (hD12.but bt rfl ⟨_, _, k12⟩).cons hKd (fun hm => by have := hD12.lt hm; omega)
                    have hDs14 : ∀ E ∈ D :: Ds, B12 < E := fun E hE => by
                      rcases List.mem_cons.1 hE with rfl | hE
                      · omega
                      · exact hDs E hE
                    have z14 := bt.size
                    clear bt hDw hKd b12 K12 k12 kx12 kl12 own12 hD12 ky kh CNT MM PX' PX
                    have q4 := k14.at0; have q6 := kx14.at0
                    obtain ⟨i0, hi0, hz0, hz1, hz2⟩ := info_parts infoInt
                    refine wpIn_wide.2 ?_
                    go_wp2_with (at_builtin; refine wpList_append_own _ rfl (.tmp 121) (.tmp 123) 37 rfl (B12 + 1) 3 i0 (.int .i64 0) 1 8 Tryz.underlying37 hi0 hz0 hz1 hz2 rfl (by decide) _ _ _ rfl (own14.alloc _) ⟨W'.heap.size, 0, none⟩ 1 1 [.int .i64 (P (x + 1))] rfl rfl ?c1 ?c2 ?c3 ?c4 ?c5 ?_)
                    case c1 => exact cell_one_new _ _ _
                    case c2 => simp [Value.oneCell']
                    case c3 => unfold maxLen; have := EX.out; omega
                    case c4 => have := EX.out; omega
                    case c5 => simp; omega
                    intro v' w15 own15 hg _
                    have b15 : Below w.heap.size w w15 := (show Below w.heap.size w (W'.alloc (.cells #[.int .i64 (P (x + 1))] 3)) by (repeat (first | exact Below.refl _ _ | assumption | refine Below.drew ?_ | refine below_drewN ?_ _ | refine Below.alloc ?_ (by first | omega | (simp; done) | (simp; omega)) _ | refine Below.setCell ?_ (by first | omega | (simp; done) | (simp; omega)) _ | refine below_setRow ?_ (by first | omega | (simp; done) | (simp; omega)) _ ))).grown hg (by simp; omega) (fun k hk => by have := (own_ge own14 hk).1; omega)
                    have K15 := K14.below (((Below.refl B12 W').alloc (by omega) (.cells #[.int .i64 (P (x + 1))] 3)).grown hg (by simp; omega) (fun k hk => by have := (own_ge own14 hk).1; omega))
                    have k15 := (k14.alloc (.cells #[.int .i64 (P (x + 1))] 3)).grown hg (own_ne own14 (by omega))
                    have kx15 := (kx14.alloc (.cells #[.int .i64 (P (x + 1))] 3)).grown hg (fun e => nx e.symm)
                    have hD15 := (hD14.below ((Below.refl _ _).alloc (Nat.le_refl _) (.cells #[.int .i64 (P (x + 1))] 3))).grown (own14.alloc _) hg
                    have z15 := Nat.le_trans (show w12.heap.size ≤ (W'.alloc (.cells #[.int .i64 (P (x + 1))] 3)).heap.size by simp; omega) hg.size
                    clear b14 K14 k14 kx14 own14 hD14 hg q4 q6
                    have ln := own_len own15
                    have ow := own_below own15 ((Below.refl _ _).alloc (Nat.le_refl _) (.cells #[.int .i64 (X + 1)] 3))
                    have hv : ∀ k, v'.ownBlock = some k → k < w15.heap.size := fun k hk => (own_ge own15 hk).2
                    have q6 := kx15.at0
                    have v8 : IntKind.i64.wrap (X + 1) = X + 1 := IntWalk.i64_in _ (by omega)
                    go_wp2
                    refine ⟨⟨D :: Ds, _, _, _, _, _, _, _, _, _, _, _, _, _, _, _, _, _, _, _, _, _, _, _, _, _, _, _, _, _, _, _, _, _, _, _, _, _, _, _, _, _, _, _, _, _, _, _, _, _, _, ?rel, rfl⟩, ?measure⟩
                    case rel => exact ⟨x + 1, w15.heap.size, by have := EX.out; omega, rfl, by rw [range_snoc, range_snoc, List.append_assoc]; exact ow, by (repeat (first | exact Below.refl _ _ | assumption | refine Below.drew ?_ | refine below_drewN ?_ _ | refine Below.alloc ?_ (by first | omega | (simp; done) | (simp; omega)) _ | refine Below.setCell ?_ (by first | omega | (simp; done) | (simp; omega)) _ | refine below_setRow ?_ (by first | omega | (simp; done) | (simp; omega)) _ )), K15.below (by (repeat (first | exact Below.refl _ _ | assumption | refine Below.drew ?_ | refine below_drewN ?_ _ | refine Below.alloc ?_ (by first | omega | (simp; done) | (simp; omega)) _ | refine Below.setCell ?_ (by first | omega | (simp; done) | (simp; omega)) _ | refine below_setRow ?_ (by first | omega | (simp; done) | (simp; omega)) _ ))), k15.alloc _, by rw [show ((x + 1 : Nat) : Int) + 1 = X + 1 by have := EX.out; omega]; exact Blk.new _ _ _, by omega, fun e => by have := hv _ e; omega, hD15.below (by (repeat (first | exact Below.refl _ _ | assumption | refine Below.drew ?_ | refine below_drewN ?_ _ | refine Below.alloc ?_ (by first | omega | (simp; done) | (simp; omega)) _ | refine Below.setCell ?_ (by first | omega | (simp; done) | (simp; omega)) _ | refine below_setRow ?_ (by first | omega | (simp; done) | (simp; omega)) _ ))), hDs14⟩
                    case measure => simp [rl, ln]; have := EX.out; omega
              · obtain rfl : X = W := by omega
                clear k10 kx
                go_wp2_with fail
                refine leavesM_marks (B := B12) Ds wr hD (fun D h => Nat.le_of_lt (hDs D h)) fun w' hb hk => ?_
                have BG : gAt 1073741824 X y (cst p X) (fun x_1 y_1 => fb (y_1 * X + x_1)) 0 (pathP 1073741824 X y (cst p X) (fun x_1 y_1 => fb (y_1 * X + x_1)) 0) = G 0 a := by rw [HP.out]; exact BO.out
                have ex : x + 1 = X.toNat := by have := EX.out; omega
                refine ⟨_, results_tmp2 rfl _ _ _, .inr ⟨by rw [BG]; exact hc, _, by rw [BG]; rfl, ?_⟩, b10.trans (hb.mono (by omega))⟩
                rw [← ex, HP.out]
                exact own_base (own_held hown hD hk) (by omega)
          · have hc2 : G 0 a = 1073741824 := by omega
            rw [hc2] at BO c2
            clear v2 hc2 hc gb1 gb2
            go_wp2_with fail
            exact ⟨_, results_tmp2 rfl _ _ _, ⟨.inl ⟨BO.out, rfl⟩, b8⟩⟩
end Go.Proofs.YtdimlpcbbkokiaaGreat
