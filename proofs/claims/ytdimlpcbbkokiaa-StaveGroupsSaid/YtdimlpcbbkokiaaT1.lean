/- Walks of package stave and of its reference: paths and their costs. -/
import Derived.Test.YtdimlpcbbkokiaaS3
import Derived.Test.YtdimlpcbbkokiaaW15
import Derived.Test.YtdimlpcbbkokiaaW21
import Derived.Test.YtdimlpcbbkokiaaLib3
namespace Go.Proofs.Ytdimlpcbbkokiaa
open Go.RowKit
set_option linter.unusedVariables false

/-- a place of a path is right -/
def stepB (H : Int) (q : Int → Int) (x : Int) : Bool := decide (0 ≤ q x) && (decide (q x < H) && (decide (x ≤ 0) || (decide (q (x - 1) - 1 ≤ q x) && decide (q x ≤ q (x - 1) + 1))))
theorem stepB_iff {H : Int} {q : Int → Int} {x : Int} : stepB H q x = true ↔ 0 ≤ q x ∧ q x < H ∧ (x ≤ 0 ∨ (q (x - 1) - 1 ≤ q x ∧ q x ≤ q (x - 1) + 1)) := by simp [stepB]
def isPathB (W H : Int) (m : Nat) (q : Int → Int) : Bool := decide (1 ≤ W ∧ 1 ≤ H ∧ (m : Int) = W) && allN m (stepB H q)
theorem isPathB_iff {W H : Int} {m : Nat} {q : Int → Int} : isPathB W H m q = true ↔ (1 ≤ W ∧ 1 ≤ H ∧ (m : Int) = W) ∧ ∀ i : Int, 0 ≤ i → i < m → stepB H q i = true := by
  unfold isPathB; rw [Bool.and_eq_true, allN_iff, decide_eq_true_iff]
/-- the cost of a pixel -/
def cst (p : Int → Int) (W : Int) : Int → Int → Int := fun x y => if p (y * W + x) = 1 then 0 else 2
theorem cst_bd (p : Int → Int) (W : Int) (x y : Int) : 0 ≤ cst p W x y ∧ cst p W x y ≤ 2 := by unfold cst; split <;> omega
theorem costP_bd {c : Int → Int → Int} (hc : ∀ x y, 0 ≤ c x y ∧ c x y ≤ 2) (l : Int → Int) (x : Nat) : 0 ≤ costP c l x ∧ costP c l x ≤ 3 * x := by
  induction x with
  | zero => simp [costP]
  | succ x ih => rw [costP]; have := hc x (l x); split <;> omega

set_option maxHeartbeats 1000000 in
theorem isPath_any (W H : Int) (A P : Option Addr) (n c m d : Nat) (q : Int → Int) (w : World) (hW : W ≤ 640) (hH : H ≤ 640) (hP : ArrI w w.heap.size P m q) (hm : m ≤ maxLen) :
    Calls Try.prog 59 #[.agg #[.int .i64 W, .int .i64 H, .slice A n c], .slice P m d] w fun e w' => e = .returned (.bool (isPathB W H m q)) ∧ Below w.heap.size w w' := by
  unfold maxLen at hm
  by_cases h1 : W < 1
  · have hr : isPathB W H m q = false := Bool.eq_false_iff.2 fun h => by have := (isPathB_iff.1 h).1; omega
    rw [hr]
    go_enter Try.func59, Try.ntmps59
    go_wp2
    go_ret
    exact ⟨rfl, by (repeat (first | exact Below.refl _ _ | assumption | refine Below.drew ?_ | refine below_drewN ?_ _ | refine Below.alloc ?_ (by first | omega | (simp; done) | (simp; omega)) _ | refine Below.setCell ?_ (by first | omega | (simp; done) | (simp; omega)) _ | refine below_setRow ?_ (by first | omega | (simp; done) | (simp; omega)) _ ))⟩
  by_cases h2 : H < 1
  · have hr : isPathB W H m q = false := Bool.eq_false_iff.2 fun h => by have := (isPathB_iff.1 h).1; omega
    rw [hr]
    go_enter Try.func59, Try.ntmps59
    go_wp2
    go_ret
    exact ⟨rfl, by (repeat (first | exact Below.refl _ _ | assumption | refine Below.drew ?_ | refine below_drewN ?_ _ | refine Below.alloc ?_ (by first | omega | (simp; done) | (simp; omega)) _ | refine Below.setCell ?_ (by first | omega | (simp; done) | (simp; omega)) _ | refine below_setRow ?_ (by first | omega | (simp; done) | (simp; omega)) _ ))⟩
  by_cases h3 : (m : Int) = W
  · have hb : ((m : Int) != W) = false := by simp [h3]
    have H3 := Lib.hid h3; clear h3
    have g1 : 1 ≤ W := by omega
    have g2 : 1 ≤ H := by omega
    clear h1 h2
    go_enter Try.func59, Try.ntmps59
    go_wp2_with fail
    go_loop [24] (fun s => ∃ i : Nat, i ≤ m ∧ s = .int .i64 i ∧ ∀ j : Int, 0 ≤ j → j < i → stepB H q j = true) (fun s => m - (intOf s).toNat)
    case atStart => exact ⟨0, by omega, rfl, fun j a b => by omega⟩
    case round =>
      obtain ⟨i, hi, rfl, hall⟩ := hrel
      have HALL := Lib.hid hall; clear hall
      by_cases hlt : i < m
      · obtain ⟨bP, off, rfl, hbP, hcell⟩ := hP.fn (by omega)
        have c1 := hcell i (by omega) (by omega)
        rw [Int.toNat_natCast] at c1
        have HC := Lib.hid hcell; clear hcell
        have hin : (i : Int) < (m : Int) := by omega
        have hi0 : (0 : Int) ≤ (i : Int) := by omega
        cases hs : stepB H q i
        · have hr : Hid (isPathB W H m q = false) := by
            show _ = _
            exact Bool.eq_false_iff.2 fun h => by have := (isPathB_iff.1 h).2 i hi0 hin; rw [hs] at this; cases this
          have hs' : ¬ (0 ≤ q i ∧ q i < H ∧ ((i : Int) ≤ 0 ∨ (q (i - 1) - 1 ≤ q i ∧ q i ≤ q (i - 1) + 1))) := fun h => by rw [stepB_iff.2 h] at hs; cases hs
          clear hs
          by_cases a1 : q i < 0
          · clear hs'
            generalize q i = y at *
            go_wp2
            go_ret
            exact ⟨ret_bool hr.out.symm, by (repeat (first | exact Below.refl _ _ | assumption | refine Below.drew ?_ | refine below_drewN ?_ _ | refine Below.alloc ?_ (by first | omega | (simp; done) | (simp; omega)) _ | refine Below.setCell ?_ (by first | omega | (simp; done) | (simp; omega)) _ | refine below_setRow ?_ (by first | omega | (simp; done) | (simp; omega)) _ ))⟩
          by_cases a2 : H ≤ q i
          · clear hs'
            generalize q i = y at *
            go_wp2
            go_ret
            exact ⟨ret_bool hr.out.symm, by (repeat (first | exact Below.refl _ _ | assumption | refine Below.drew ?_ | refine below_drewN ?_ _ | refine Below.alloc ?_ (by first | omega | (simp; done) | (simp; omega)) _ | refine Below.setCell ?_ (by first | omega | (simp; done) | (simp; omega)) _ | refine below_setRow ?_ (by first | omega | (simp; done) | (simp; omega)) _ ))⟩
          have a3 : (0 : Int) < i := by omega
          have c2 := HC.out ((i : Int) - 1) (by omega) (by omega)
          rw [show ((i : Int) - 1).toNat = i - 1 by omega] at c2
          have hq := stepB_iff.1 (HALL.out ((i : Int) - 1) (by omega) (by omega))
          obtain ⟨hq1, hq2, -⟩ := hq
          generalize q i = y at *
          generalize q ((i : Int) - 1) = z at *
          by_cases a4 : y < z - 1
          · clear hs'
            go_wp2
            go_ret
            exact ⟨ret_bool hr.out.symm, by (repeat (first | exact Below.refl _ _ | assumption | refine Below.drew ?_ | refine below_drewN ?_ _ | refine Below.alloc ?_ (by first | omega | (simp; done) | (simp; omega)) _ | refine Below.setCell ?_ (by first | omega | (simp; done) | (simp; omega)) _ | refine below_setRow ?_ (by first | omega | (simp; done) | (simp; omega)) _ ))⟩
          · have a5 : z + 1 < y := by omega
            clear hs'
            go_wp2
            go_ret
            exact ⟨ret_bool hr.out.symm, by (repeat (first | exact Below.refl _ _ | assumption | refine Below.drew ?_ | refine below_drewN ?_ _ | refine Below.alloc ?_ (by first | omega | (simp; done) | (simp; omega)) _ | refine Below.setCell ?_ (by first | omega | (simp; done) | (simp; omega)) _ | refine below_setRow ?_ (by first | omega | (simp; done) | (simp; omega)) _ ))⟩
        · obtain ⟨e1, e2, e3⟩ := stepB_iff.1 hs
          have HS := Lib.hid hs; clear hs
          by_cases hz : (i : Int) ≤ 0
          · clear e3
            generalize hy : q i = y at *
            clear hy
            go_wp2
            go_round
            case rel => exact ⟨i + 1, by omega, by go_num, fun j a b => if e : j = i then e ▸ HS.out else HALL.out j a (by omega)⟩
            case measure => simp [intOf]; omega
          · have e4 := e3.resolve_left hz
            obtain ⟨e5, e6⟩ := e4
            have c2 := HC.out ((i : Int) - 1) (by omega) (by omega)
            rw [show ((i : Int) - 1).toNat = i - 1 by omega] at c2
            have hq := stepB_iff.1 (HALL.out ((i : Int) - 1) (by omega) (by omega))
            obtain ⟨hq1, hq2, -⟩ := hq
            clear e3
            generalize hy : q i = y at *
            generalize hz2 : q ((i : Int) - 1) = z at *
            clear hy hz2
            go_wp2
            go_round
            case rel => exact ⟨i + 1, by omega, by go_num, fun j a b => if e : j = i then e ▸ HS.out else HALL.out j a (by omega)⟩
            case measure => simp [intOf]; omega
      · obtain rfl : i = m := by omega
        have hr : Hid (isPathB W H i q = true) := by show _ = _; exact isPathB_iff.2 ⟨⟨g1, g2, H3.out⟩, HALL.out⟩
        go_wp2
        go_ret
        exact ⟨ret_bool hr.out.symm, by (repeat (first | exact Below.refl _ _ | assumption | refine Below.drew ?_ | refine below_drewN ?_ _ | refine Below.alloc ?_ (by first | omega | (simp; done) | (simp; omega)) _ | refine Below.setCell ?_ (by first | omega | (simp; done) | (simp; omega)) _ | refine below_setRow ?_ (by first | omega | (simp; done) | (simp; omega)) _ ))⟩
  · have hr : isPathB W H m q = false := Bool.eq_false_iff.2 fun h => by have := (isPathB_iff.1 h).1; omega
    have hb : ((m : Int) != W) = true := by simp [h3]
    have H3 := Lib.hid h3; clear h3
    rw [hr]
    go_enter Try.func59, Try.ntmps59
    go_wp2
    go_ret
    exact ⟨rfl, by (repeat (first | exact Below.refl _ _ | assumption | refine Below.drew ?_ | refine below_drewN ?_ _ | refine Below.alloc ?_ (by first | omega | (simp; done) | (simp; omega)) _ | refine Below.setCell ?_ (by first | omega | (simp; done) | (simp; omega)) _ | refine below_setRow ?_ (by first | omega | (simp; done) | (simp; omega)) _ ))⟩

set_option maxHeartbeats 1000000 in
theorem paper_any (W H : Int) (A : Option Addr) (n c : Nat) (p : Int → Int) (x y : Int) (w : World) (hA : ArrB w w.heap.size A n p) (hB : IsB p) (hE : chk W H n p = 0) (x0 : 0 ≤ x) (x1 : x < W) (y0 : 0 ≤ y) (y1 : y < H) :
    Calls Try.prog 60 #[.agg #[.int .i64 W, .int .i64 H, .slice A n c], .int .i64 x, .int .i64 y] w fun e w' => e = .returned (.int .i64 (cst p W x y)) ∧ Below w.heap.size w w' := by
  obtain ⟨hW1, hW2, hH1, hH2, hnn, hpx⟩ := chk_ok hE
  obtain ⟨i1, i2, i3⟩ := idx_lt x0 x1 y0 y1
  rw [Int.mul_comm H W] at i2
  have i4 : y * W + x < n := by omega
  have j6 := (area_bd hW1 hW2 hH1 hH2).2
  have v1 : IntKind.i64.wrap (y * W) = y * W := IntWalk.i64_in _ (by omega)
  have v2 : IntKind.i64.wrap (y * W + x) = y * W + x := IntWalk.i64_in _ (by omega)
  obtain ⟨b', off, rfl, hbB, hcell⟩ := ArrB.at_ (hA.to (w' := w.alloc (.cells #[.int .i64 W, .int .i64 H, .slice A n c] 24)) (by (repeat (first | exact Below.refl _ _ | assumption | refine Below.drew ?_ | refine below_drewN ?_ _ | refine Below.alloc ?_ (by first | omega | (simp; done) | (simp; omega)) _ | refine Below.setCell ?_ (by first | omega | (simp; done) | (simp; omega)) _ | refine below_setRow ?_ (by first | omega | (simp; done) | (simp; omega)) _ )))) i1 i4
  have hq := hB (y * W + x)
  have hq2 := hpx _ i1 i4
  clear hpx hE hnn
  by_cases e : p (y * W + x) = 1
  · have hr : cst p W x y = 0 := by unfold cst; rw [if_pos e]
    rw [e] at hcell
    rw [hr]
    have E := Lib.hid e; clear e hr hq hq2
    go_enter Try.func60, Try.ntmps60
    go_wp2
    go_ret
    exact ⟨rfl, by (repeat (first | exact Below.refl _ _ | assumption | refine Below.drew ?_ | refine below_drewN ?_ _ | refine Below.alloc ?_ (by first | omega | (simp; done) | (simp; omega)) _ | refine Below.setCell ?_ (by first | omega | (simp; done) | (simp; omega)) _ | refine below_setRow ?_ (by first | omega | (simp; done) | (simp; omega)) _ ))⟩
  · have hr : cst p W x y = 2 := by unfold cst; rw [if_neg e]
    rw [show p (y * W + x) = 0 by omega] at hcell
    rw [hr]
    have E := Lib.hid e; clear e hr hq hq2
    go_enter Try.func60, Try.ntmps60
    go_wp2
    go_ret
    exact ⟨rfl, by (repeat (first | exact Below.refl _ _ | assumption | refine Below.drew ?_ | refine below_drewN ?_ _ | refine Below.alloc ?_ (by first | omega | (simp; done) | (simp; omega)) _ | refine Below.setCell ?_ (by first | omega | (simp; done) | (simp; omega)) _ | refine below_setRow ?_ (by first | omega | (simp; done) | (simp; omega)) _ ))⟩

/-- the error of a cost, and the cost -/
def costE (W H : Int) (n : Nat) (p : Int → Int) (m : Nat) (q : Int → Int) : Int := if chk W H n p ≠ 0 then chk W H n p else if isPathB W H m q then 0 else 1
def costV (W H : Int) (n : Nat) (p : Int → Int) (m : Nat) (q : Int → Int) : Int := if costE W H n p m q = 0 then costP (cst p W) q m else 0
theorem costE_ok {W H : Int} {n : Nat} {p : Int → Int} {m : Nat} {q : Int → Int} (h : costE W H n p m q = 0) : chk W H n p = 0 ∧ isPathB W H m q = true := by
  unfold costE at h
  by_cases a : chk W H n p = 0
  · rw [if_neg (by simp [a])] at h
    cases b : isPathB W H m q
    · rw [b] at h; simp at h
    · exact ⟨a, rfl⟩
  · rw [if_pos a] at h; exact absurd h a

set_option maxHeartbeats 1000000 in
theorem cost_ok (W H : Int) (A P : Option Addr) (n c m d : Nat) (p q : Int → Int) (w : World) (hA : ArrB w w.heap.size A n p) (hn : n ≤ maxLen) (hB : IsB p) (hP : ArrI w w.heap.size P m q) (hE : chk W H n p = 0) (hI : isPathB W H m q = true) :
    Calls Try.prog 16 #[.agg #[.int .i64 W, .int .i64 H, .slice A n c], .slice P m d] w fun e w' => e = .returned (.tuple #[.int .i64 (costP (cst p W) q m), .int .i64 0]) ∧ Below w.heap.size w w' := by
  have CK := Lib.hid fun w' hA' => check_any W H A n c p w' hA' hn
  rw [hE] at CK
  obtain ⟨⟨g1, g2, g3⟩, g4⟩ := isPathB_iff.1 hI
  obtain ⟨hW1, hW2, hH1, hH2, hnn, hpx⟩ := chk_ok hE
  have PA := Lib.hid fun x y w' hA' x0 x1 y0 y1 => paper_any W H A n c p x y w' hA' hB hE x0 x1 y0 y1
  have hm : m ≤ maxLen := by unfold maxLen; omega
  have IP := Lib.hid fun w' hP' => isPath_any W H A P n c m d q w' hW2 hH2 hP' hm
  rw [hI] at IP
  have G4 := Lib.hid g4; clear g4
  have G3 := Lib.hid g3; clear g3
  have CB := Lib.hid fun x => costP_bd (cst_bd p W) q x
  have CS : Hid (∀ x : Nat, costP (cst p W) q (x + 1) = costP (cst p W) q x + cst p W x (q x) + if 0 < x ∧ q x ≠ q ((x : Int) - 1) then 1 else 0) := by
    show ∀ _, _
    intro x; rfl
  have KB := Lib.hid (cst_bd p W)
  clear hE hI hnn hpx hm
  go_enter Try.func16, Try.ntmps16
  go_wp2_with fail
  refine (CK.out _ (hA.to (by (repeat (first | exact Below.refl _ _ | assumption | refine Below.drew ?_ | refine below_drewN ?_ _ | refine Below.alloc ?_ (by first | omega | (simp; done) | (simp; omega)) _ | refine Below.setCell ?_ (by first | omega | (simp; done) | (simp; omega)) _ | refine below_setRow ?_ (by first | omega | (simp; done) | (simp; omega)) _ ))))).mono ?_
  rintro e w1 ⟨rfl, hb1⟩
  have b1 : Below w.heap.size w w1 := below_call (by (repeat (first | exact Below.refl _ _ | assumption | refine Below.drew ?_ | refine below_drewN ?_ _ | refine Below.alloc ?_ (by first | omega | (simp; done) | (simp; omega)) _ | refine Below.setCell ?_ (by first | omega | (simp; done) | (simp; omega)) _ | refine below_setRow ?_ (by first | omega | (simp; done) | (simp; omega)) _ ))) (by simp; try omega) hb1
  have k1 : Blk w1 w.heap.size 24 #[.int .i64 W, .int .i64 H, .slice A n c] := (Blk.new _ _ _).below' hb1
  clear hb1 CK
  obtain ⟨p1, p2, p3⟩ := k1.cells3
  go_wp2_with fail
  refine (IP.out _ (hP.to b1)).mono ?_
  rintro e w2 ⟨rfl, hb2⟩
  have b2 := below_call b1 b1.size hb2
  have k2 := k1.below' hb2
  clear b1 k1 hb2 p1 p2 p3 IP
  go_wp2_with fail
  go_loopw [7, 21] (fun v s wr => ∃ i : Nat, i ≤ m ∧ s = .int .i64 i ∧ v = .int .i64 (costP (cst p W) q i) ∧ Below w.heap.size w wr ∧ Blk wr w.heap.size 24 #[.int .i64 W, .int .i64 H, .slice A n c]) (fun _ s _ => m - (intOf s).toNat)
  case atStart => exact ⟨0, by omega, rfl, rfl, b2, k2⟩
  case round =>
    obtain ⟨i, hi, rfl, rfl, b3, k3⟩ := hrel
    clear b2 k2
    obtain ⟨p1, p2, p3⟩ := k3.cells3
    obtain ⟨cb1, cb2⟩ := CB.out i
    by_cases hlt : i < m
    · have hmW : (m : Int) ≤ 640 := by have := G3.out; omega
      have hin : (i : Int) < (m : Int) := by omega
      have hi0 : (0 : Int) ≤ (i : Int) := by omega
      obtain ⟨s1, s2, s3⟩ := stepB_iff.1 (G4.out i hi0 hin)
      have hP3 := ArrI.below hP b3
      have PX := Lib.hid fun w' hA' => PA.out i (q i) w' hA' hi0 (by have := G3.out; omega) s1 s2
      obtain ⟨kb1, kb2⟩ := KB.out i (q i)
      have CSi := Lib.hid (CS.out i)
      obtain ⟨bP, off, rfl, hbP, hcell⟩ := hP3.fn (by omega)
      have c1 := hcell i hi0 hin
      rw [Int.toNat_natCast] at c1
      have HC := Lib.hid hcell; clear hcell s3
      have hP4 := Lib.hid hP
      generalize cst p W i (q i) = ci at *
      generalize costP (cst p W) q i = S at *
      go_wp2_with fail
      refine (PX.out _ ((ArrB.below hA b3).more b3.size)).mono ?_
      rintro e w4 ⟨rfl, hb4⟩
      have b4 := below_call b3 b3.size hb4
      have k4 := k3.below' hb4
      have c3 := (hb4.cell (p := ⟨bP, off + i, none⟩) (by show bP < _; have := b3.size; omega)).trans c1
      clear c1
      by_cases hz : (i : Int) ≤ 0
      · have hz' : ¬ (0 < i ∧ q i ≠ q ((i : Int) - 1)) := by omega
        rw [if_neg hz'] at CSi
        clear hz' p1 p2 p3 k3 b3
        go_wp2
        go_roundw
        case rel => exact ⟨i + 1, by omega, by go_num, (by rw [CSi.out] <;> first | done | go_num), b4, k4⟩
        case measure => simp [intOf]; omega
      · have c2 := HC.out ((i : Int) - 1) (by omega) (by omega)
        rw [show ((i : Int) - 1).toNat = i - 1 by omega] at c2
        have c4 := (hb4.cell (p := ⟨bP, off + (i - 1), none⟩) (by show bP < _; have := b3.size; omega)).trans c2
        clear c2 p1 p2 p3 k3 b3
        by_cases he : q i = q ((i : Int) - 1)
        · rw [if_neg (by simp [he])] at CSi
          have hbb : (q i != q ((i : Int) - 1)) = false := by simp [he]
          have HE := Lib.hid he; clear he
          go_wp2
          go_roundw
          case rel => exact ⟨i + 1, by omega, by go_num, (by rw [CSi.out] <;> first | done | go_num), b4, k4⟩
          case measure => simp [intOf]; omega
        · rw [if_pos ⟨by omega, he⟩] at CSi
          have hbb : (q i != q ((i : Int) - 1)) = true := by simp [he]
          have HE := Lib.hid he; clear he
          go_wp2
          go_roundw
          case rel => exact ⟨i + 1, by omega, by go_num, (by rw [CSi.out] <;> first | done | go_num), b4, k4⟩
          case measure => simp [intOf]; omega
    · obtain rfl : i = m := by omega
      go_wp2
      go_ret2
      exact ⟨rfl, b3⟩
end Go.Proofs.Ytdimlpcbbkokiaa
