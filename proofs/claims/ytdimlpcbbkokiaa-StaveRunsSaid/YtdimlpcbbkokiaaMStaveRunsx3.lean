/- Texts of mine in build order: T2, T3, T5, T6, W14, T8, T10. Conditions: each theorem's own. -/
import Derived.Test.YtdimlpcbbkokiaaMStaveRunsx2
import Derived.Laws.AppendOwnNone
import Derived.Deep.RegionHeld3
import Derived.Deep.DeepCutAuto
import Derived.Deep.Cut
import Derived.RangeFuncNested
import Derived.RangeFuncFrom
/- Walks: the reference's paths and their costs; costs with their errors. -/
namespace Go.Proofs.Ytdimlpcbbkokiaa
open Go.RowKit
set_option linter.unusedVariables false

theorem inkB_in {W H : Int} {p : Int → Int} {x y : Int} (h1 : 0 ≤ x) (h2 : x < W) (h3 : 0 ≤ y) (h4 : y < H) : inkB W H p x y = decide (p (y * W + x) = 1) := by
  unfold inkB; simp [h1, h2, h3, h4]
set_option maxHeartbeats 1000000 in
theorem pixel_any (W H : Int) (A : Option Addr) (n c : Nat) (p : Int → Int) (x y : Int) (w : World) (hA : ArrB w w.heap.size A n p) (hE : chk W H n p = 0) (x0 : 0 ≤ x) (x1 : x < W) (y0 : 0 ≤ y) (y1 : y < H) :
    Calls Try.prog 102 #[.agg #[.int .i64 W, .int .i64 H, .slice A n c], .int .i64 x, .int .i64 y] w fun e w' => e = .returned (.int .i64 (cst p W x y)) ∧ Below w.heap.size w w' := by
  obtain ⟨hW1, hW2, hH1, hH2, hnn, -⟩ := chk_ok hE
  have IK := Lib.hid fun w' hA' => rink_any W H A n c p x y w' hA' hW2 hH2 hnn
  rw [inkB_in x0 x1 y0 y1] at IK
  clear hE hnn
  by_cases e : p (y * W + x) = 1
  · have hr : cst p W x y = 0 := by unfold cst; rw [if_pos e]
    rw [hr]
    rw [decide_eq_true e] at IK
    clear hr e
    go_enter Try.func102, Try.ntmps102
    go_wp2_with fail
    refine (IK.out _ (hA.to (by (repeat (first | exact Below.refl _ _ | assumption | refine Below.drew ?_ | refine below_drewN ?_ _ | refine Below.alloc ?_ (by first | omega | (simp; done) | (simp; omega)) _ | refine Below.setCell ?_ (by first | omega | (simp; done) | (simp; omega)) _ | refine below_setRow ?_ (by first | omega | (simp; done) | (simp; omega)) _ ))))).mono ?_
    rintro e w1 ⟨rfl, hb1⟩
    have b1 : Below w.heap.size w w1 := below_call (by (repeat (first | exact Below.refl _ _ | assumption | refine Below.drew ?_ | refine below_drewN ?_ _ | refine Below.alloc ?_ (by first | omega | (simp; done) | (simp; omega)) _ | refine Below.setCell ?_ (by first | omega | (simp; done) | (simp; omega)) _ | refine below_setRow ?_ (by first | omega | (simp; done) | (simp; omega)) _ ))) (by simp; try omega) hb1
    go_wp2
    go_ret
    exact ⟨rfl, b1⟩
  · have hr : cst p W x y = 2 := by unfold cst; rw [if_neg e]
    rw [hr]
    rw [decide_eq_false e] at IK
    clear hr e
    go_enter Try.func102, Try.ntmps102
    go_wp2_with fail
    refine (IK.out _ (hA.to (by (repeat (first | exact Below.refl _ _ | assumption | refine Below.drew ?_ | refine below_drewN ?_ _ | refine Below.alloc ?_ (by first | omega | (simp; done) | (simp; omega)) _ | refine Below.setCell ?_ (by first | omega | (simp; done) | (simp; omega)) _ | refine below_setRow ?_ (by first | omega | (simp; done) | (simp; omega)) _ ))))).mono ?_
    rintro e w1 ⟨rfl, hb1⟩
    have b1 : Below w.heap.size w w1 := below_call (by (repeat (first | exact Below.refl _ _ | assumption | refine Below.drew ?_ | refine below_drewN ?_ _ | refine Below.alloc ?_ (by first | omega | (simp; done) | (simp; omega)) _ | refine Below.setCell ?_ (by first | omega | (simp; done) | (simp; omega)) _ | refine below_setRow ?_ (by first | omega | (simp; done) | (simp; omega)) _ ))) (by simp; try omega) hb1
    go_wp2
    go_ret
    exact ⟨rfl, b1⟩

set_option maxHeartbeats 2000000 in
theorem rcostOf_any (W H : Int) (A P : Option Addr) (n c m d : Nat) (p q : Int → Int) (w : World) (hA : ArrB w w.heap.size A n p) (hP : ArrI w w.heap.size P m q) (hE : chk W H n p = 0) (hI : isPathB W H m q = true) :
    Calls Try.prog 62 #[.agg #[.int .i64 W, .int .i64 H, .slice A n c], .slice P m d] w fun e w' => e = .returned (.int .i64 (costP (cst p W) q m)) ∧ Below w.heap.size w w' := by
  obtain ⟨⟨g1, g2, g3⟩, g4⟩ := isPathB_iff.1 hI
  obtain ⟨hW1, hW2, hH1, hH2, hnn, hpx⟩ := chk_ok hE
  have PA := Lib.hid fun x y w' hA' x0 x1 y0 y1 => pixel_any W H A n c p x y w' hA' hE x0 x1 y0 y1
  have G4 := Lib.hid g4; clear g4
  have G3 := Lib.hid g3; clear g3
  have CB := Lib.hid fun x => costP_bd (cst_bd p W) q x
  have CS : Hid (∀ x : Nat, costP (cst p W) q (x + 1) = costP (cst p W) q x + cst p W x (q x) + if 0 < x ∧ q x ≠ q ((x : Int) - 1) then 1 else 0) := by
    show ∀ _, _
    intro x; rfl
  have KB := Lib.hid (cst_bd p W)
  clear hE hI hnn hpx
  go_enter Try.func62, Try.ntmps62
  go_wp2_with fail
  go_loopw [5, 6] (fun v s wr => ∃ i : Nat, i ≤ m ∧ s = .int .i64 i ∧ v = .int .i64 (costP (cst p W) q i) ∧ Below w.heap.size w wr ∧ Blk wr w.heap.size 24 #[.int .i64 W, .int .i64 H, .slice A n c]) (fun _ s _ => m - (intOf s).toNat)
  case atStart => exact ⟨0, by omega, rfl, rfl, by (repeat (first | exact Below.refl _ _ | assumption | refine Below.drew ?_ | refine below_drewN ?_ _ | refine Below.alloc ?_ (by first | omega | (simp; done) | (simp; omega)) _ | refine Below.setCell ?_ (by first | omega | (simp; done) | (simp; omega)) _ | refine below_setRow ?_ (by first | omega | (simp; done) | (simp; omega)) _ )), Blk.new _ _ _⟩
  case round =>
    obtain ⟨i, hi, rfl, rfl, b3, k3⟩ := hrel
    obtain ⟨p1, p2, p3⟩ := k3.cells3
    obtain ⟨cb1, cb2⟩ := CB.out i
    by_cases hlt : i < m
    · have hmW : (m : Int) ≤ 640 := by have := G3.out; omega
      have hin : (i : Int) < (m : Int) := by omega
      have hi0 : (0 : Int) ≤ (i : Int) := by omega
      obtain ⟨s1, s2, s3⟩ := stepB_iff.1 (G4.out i hi0 hin)
      have hP3 := ArrI.below hP b3
      have PX := Lib.hid fun w' hA' => PA.out i (q i) w' hA' hi0 (by have := G3.out; omega) s1 s2
      obtain ⟨kb1, kb2⟩ := KB.out i (q i)
      have CSi := Lib.hid (CS.out i)
      obtain ⟨bP, off, rfl, hbP, hcell⟩ := hP3.fn (by omega)
      have c1 := hcell i hi0 hin
      rw [Int.toNat_natCast] at c1
      have HC := Lib.hid hcell; clear hcell s3
      generalize cst p W i (q i) = ci at *
      generalize costP (cst p W) q i = S at *
      have v1 : IntKind.i64.wrap (S + ci) = S + ci := IntWalk.i64_in _ (by omega)
      have B3 := Lib.hid b3; have K3 := Lib.hid k3
      go_wp2_with fail
      go_region_held3 (fun w' => w'.cell? ⟨w.heap.size, 0, none⟩ = some (.int .i64 W) ∧ w'.cell? ⟨w.heap.size, 1, none⟩ = some (.int .i64 H) ∧ w'.cell? ⟨w.heap.size, 2, none⟩ = some (.slice A n c) ∧ w'.cell? ⟨bP, off + i, none⟩ = some (.int .i64 (q i)))
        (simp [go_sem, *])
        ((go_at_call 102
          refine (PX.out _ ((ArrB.below hA B3.out.drew).more B3.out.drew.size)).mono ?_
          rintro e w4 ⟨rfl, hb4⟩
          have b4 := below_call B3.out.drew B3.out.drew.size hb4
          have k4 := K3.out.drew.below' hb4
          obtain ⟨x1, x2, x3⟩ := k4.cells3
          have c3 : w4.cell? ⟨bP, off + i, none⟩ = some (.int .i64 (q i)) := (hb4.cell (p := ⟨bP, off + i, none⟩) (by show bP < _; have := B3.out.drew.size; omega)).trans c1))
      clear v1 c1 p1 p2 p3 b3 k3
      by_cases hz : (i : Int) ≤ 0
      · have hz' : ¬ (0 < i ∧ q i ≠ q ((i : Int) - 1)) := by omega
        rw [if_neg hz'] at CSi
        clear hz'
        have hd : decide (0 < (i : Int)) = false := by simp; omega
        have hdn : decide (0 < i) = false := by simp; omega
        go_wp2_with fail
        go_quiet (fail)
        go_wp2
        go_roundw
        case rel => exact ⟨i + 1, by omega, by go_num, (by rw [CSi.out] <;> first | done | go_num), below_drewN b4 _, k4.drewN _⟩
        case measure => simp [intOf]; omega
      · have c2 := HC.out ((i : Int) - 1) (by omega) (by omega)
        rw [show ((i : Int) - 1).toNat = i - 1 by omega] at c2
        have c4 := (hb4.cell (p := ⟨bP, off + (i - 1), none⟩) (by show bP < _; have := B3.out.drew.size; omega)).trans c2
        have c5 : w4.cell? ⟨bP, off + (i - 1), none⟩ = some (.int .i64 (q ((i : Int) - 1))) := c4
        clear c2 c4
        have hd : decide (0 < (i : Int)) = true := by simp; omega
        have hdn : decide (0 < i) = true := by simp; omega
        have hdp : 0 < i := by omega
        have v2 : IntKind.i64.wrap ((i : Int) - 1) = (i : Int) - 1 := IntWalk.i64_in _ (by omega)
        have d1 : (0 : Int) ≤ (i : Int) - 1 := by omega
        have d2 : (i : Int) - 1 < (m : Int) := by omega
        have d3 : ((i : Int) - 1).toNat = i - 1 := by omega
        by_cases he : q i = q ((i : Int) - 1)
        · rw [if_neg (by simp [he])] at CSi
          have hbb : (q i != q ((i : Int) - 1)) = false := by simp [he]
          have HE := Lib.hid he; clear he
          go_wp2_with fail
          go_quiet (fail)
          clear v2 d3 hd hdn
          go_wp2
          go_roundw
          case rel => exact ⟨i + 1, by omega, by go_num, (by rw [CSi.out] <;> first | done | go_num), below_drewN b4 _, k4.drewN _⟩
          case measure => simp [intOf]; omega
        · rw [if_pos ⟨by omega, he⟩] at CSi
          have hbb : (q i != q ((i : Int) - 1)) = true := by simp [he]
          have HE := Lib.hid he; clear he
          go_wp2_with fail
          go_quiet (fail)
          clear v2 d3 hd hdn
          go_wp2
          go_roundw
          case rel => exact ⟨i + 1, by omega, by go_num, (by rw [CSi.out] <;> first | done | go_num), below_drewN b4 _, k4.drewN _⟩
          case measure => simp [intOf]; omega
    · obtain rfl : i = m := by omega
      go_wp2
      go_ret
      exact ⟨rfl, b3⟩
set_option maxHeartbeats 2000000 in
theorem risPath_any (W H : Int) (A P : Option Addr) (n c m d : Nat) (q : Int → Int) (w : World) (hW0 : 0 ≤ W) (hH0 : 0 ≤ H) (hW : W ≤ 640) (hH : H ≤ 640) (hP : ArrI w w.heap.size P m q) (hm : m ≤ maxLen) :
    Calls Try.prog 61 #[.agg #[.int .i64 W, .int .i64 H, .slice A n c], .slice P m d] w fun e w' => e = .returned (.bool (isPathB W H m q)) ∧ Below w.heap.size w w' := by
  unfold maxLen at hm
  by_cases h1 : W = 0
  · have hr : isPathB W H m q = false := Bool.eq_false_iff.2 fun h => by have := (isPathB_iff.1 h).1; omega
    rw [hr]
    have hb : (W == 0) = true := by simp [h1]
    have H1 := Lib.hid h1; clear h1 hr
    go_enter Try.func61, Try.ntmps61
    go_wp2
    go_ret
    exact ⟨rfl, by (repeat (first | exact Below.refl _ _ | assumption | refine Below.drew ?_ | refine below_drewN ?_ _ | refine Below.alloc ?_ (by first | omega | (simp; done) | (simp; omega)) _ | refine Below.setCell ?_ (by first | omega | (simp; done) | (simp; omega)) _ | refine below_setRow ?_ (by first | omega | (simp; done) | (simp; omega)) _ ))⟩
  have hb1 : (W == 0) = false := by simp [h1]
  by_cases h2 : H = 0
  · have hr : isPathB W H m q = false := Bool.eq_false_iff.2 fun h => by have := (isPathB_iff.1 h).1; omega
    rw [hr]
    have hb : (H == 0) = true := by simp [h2]
    have H2 := Lib.hid h2; clear h2 hr
    go_enter Try.func61, Try.ntmps61
    go_wp2
    go_ret
    exact ⟨rfl, by (repeat (first | exact Below.refl _ _ | assumption | refine Below.drew ?_ | refine below_drewN ?_ _ | refine Below.alloc ?_ (by first | omega | (simp; done) | (simp; omega)) _ | refine Below.setCell ?_ (by first | omega | (simp; done) | (simp; omega)) _ | refine below_setRow ?_ (by first | omega | (simp; done) | (simp; omega)) _ ))⟩
  have hb2 : (H == 0) = false := by simp [h2]
  by_cases h3 : (m : Int) = W
  · have hb : ((m : Int) != W) = false := by simp [h3]
    have H3 := Lib.hid h3; clear h3
    have g1 : 1 ≤ W := by omega
    have g2 : 1 ≤ H := by omega
    clear h1 h2
    go_enter Try.func61, Try.ntmps61
    go_wp2_with fail
    clear hb hb1 hb2
    go_loopw [5] (fun s wr => ∃ i : Nat, i ≤ m ∧ s = .int .i64 i ∧ (∀ j : Int, 0 ≤ j → j < i → stepB H q j = true) ∧ Below w.heap.size w wr ∧ Blk wr w.heap.size 24 #[.int .i64 W, .int .i64 H, .slice A n c]) (fun s _ => m - (intOf s).toNat)
    case atStart => exact ⟨0, by omega, rfl, fun j a b => by omega, by (repeat (first | exact Below.refl _ _ | assumption | refine Below.drew ?_ | refine below_drewN ?_ _ | refine Below.alloc ?_ (by first | omega | (simp; done) | (simp; omega)) _ | refine Below.setCell ?_ (by first | omega | (simp; done) | (simp; omega)) _ | refine below_setRow ?_ (by first | omega | (simp; done) | (simp; omega)) _ )), Blk.new _ _ _⟩
    case round =>
      obtain ⟨i, hi, rfl, hall, b3, k3⟩ := hrel
      have HALL := Lib.hid hall; clear hall
      obtain ⟨p1, p2, p3⟩ := k3.cells3
      by_cases hlt : i < m
      · obtain ⟨bP, off, rfl, hbP, hcell⟩ := (ArrI.below hP b3).fn (by omega)
        have c1 := hcell i (by omega) (by omega)
        rw [Int.toNat_natCast] at c1
        have HC := Lib.hid hcell; clear hcell
        have hin : (i : Int) < (m : Int) := by omega
        have hi0 : (0 : Int) ≤ (i : Int) := by omega
        cases hs : stepB H q i
        · have hr : Hid (isPathB W H m q = false) := by
            show _ = _
            exact Bool.eq_false_iff.2 fun h => by have := (isPathB_iff.1 h).2 i hi0 hin; rw [hs] at this; cases this
          have hs' : ¬ (0 ≤ q i ∧ q i < H ∧ ((i : Int) ≤ 0 ∨ (q (i - 1) - 1 ≤ q i ∧ q i ≤ q (i - 1) + 1))) := fun h => by rw [stepB_iff.2 h] at hs; cases hs
          clear hs
          by_cases a1 : q i < 0
          · clear hs'
            generalize q i = y at *
            have e1 : decide (y < 0) = true := by simp; omega
            go_wp2_with fail
            go_quiet (fail)
            go_wp2
            go_ret
            exact ⟨ret_bool hr.out.symm, below_drewN b3 _⟩
          by_cases a2 : H ≤ q i
          · clear hs'
            generalize q i = y at *
            have e1 : decide (y < 0) = false := by simp; omega
            have e2 : decide (H ≤ y) = true := by simp; omega
            go_wp2_with fail
            go_quiet (fail)
            go_wp2
            go_ret
            exact ⟨ret_bool hr.out.symm, below_drewN b3 _⟩
          have a3 : (0 : Int) < i := by omega
          have c2 := HC.out ((i : Int) - 1) (by omega) (by omega)
          rw [show ((i : Int) - 1).toNat = i - 1 by omega] at c2
          have hq := stepB_iff.1 (HALL.out ((i : Int) - 1) (by omega) (by omega))
          obtain ⟨hq1, hq2, -⟩ := hq
          have d1 : (0 : Int) ≤ (i : Int) - 1 := by omega
          have d2 : (i : Int) - 1 < (m : Int) := by omega
          have d3 : ((i : Int) - 1).toNat = i - 1 := by omega
          generalize q i = y at *
          generalize q ((i : Int) - 1) = z at *
          have v2 : IntKind.i64.wrap ((i : Int) - 1) = (i : Int) - 1 := IntWalk.i64_in _ (by omega)
          have v3 : IntKind.i64.wrap (y - z) = y - z := IntWalk.i64_in _ (by omega)
          have v4 : IntKind.i64.wrap (z - y) = z - y := IntWalk.i64_in _ (by omega)
          have e1 : decide (y < 0) = false := by simp; omega
          have e2 : decide (H ≤ y) = false := by simp; omega
          have hdn : decide (0 < i) = true := by simp; omega
          have hdp : 0 < i := by omega
          by_cases a4 : 1 < y - z
          · have e3 : decide (1 < y - z) = true := by simp; omega
            clear hs'
            go_wp2_with fail
            go_quiet (fail)
            go_wp2_with fail
            go_quiet (fail)
            clear v2 v3 v4 d3
            go_wp2
            go_ret
            exact ⟨ret_bool hr.out.symm, by (repeat (first | exact Below.refl _ _ | assumption | refine Below.drew ?_ | refine below_drewN ?_ _ | refine Below.alloc ?_ (by first | omega | (simp; done) | (simp; omega)) _ | refine Below.setCell ?_ (by first | omega | (simp; done) | (simp; omega)) _ | refine below_setRow ?_ (by first | omega | (simp; done) | (simp; omega)) _ ))⟩
          · have a5 : 1 < z - y := by omega
            have e3 : decide (1 < y - z) = false := by simp; omega
            have e4 : decide (1 < z - y) = true := by simp; omega
            clear hs'
            go_wp2_with fail
            go_quiet (fail)
            go_wp2_with fail
            go_quiet (fail)
            clear v2 v3 v4 d3
            go_wp2
            go_ret
            exact ⟨ret_bool hr.out.symm, by (repeat (first | exact Below.refl _ _ | assumption | refine Below.drew ?_ | refine below_drewN ?_ _ | refine Below.alloc ?_ (by first | omega | (simp; done) | (simp; omega)) _ | refine Below.setCell ?_ (by first | omega | (simp; done) | (simp; omega)) _ | refine below_setRow ?_ (by first | omega | (simp; done) | (simp; omega)) _ ))⟩
        · obtain ⟨f1, f2, f3⟩ := stepB_iff.1 hs
          have HS := Lib.hid hs; clear hs
          by_cases hz : (i : Int) ≤ 0
          · clear f3
            generalize hy : q i = y at *
            clear hy
            have e1 : decide (y < 0) = false := by simp; omega
            have e2 : decide (H ≤ y) = false := by simp; omega
            have hdn : decide (0 < i) = false := by simp; omega
            go_wp2_with fail
            go_quiet (fail)
            go_wp2_with fail
            go_quiet (fail)
            clear e1 e2 hdn
            go_wp2
            go_roundw
            case rel => exact ⟨i + 1, by omega, by go_num, fun j a b => if e : j = i then e ▸ HS.out else HALL.out j a (by omega), by (repeat (first | exact Below.refl _ _ | assumption | refine Below.drew ?_ | refine below_drewN ?_ _ | refine Below.alloc ?_ (by first | omega | (simp; done) | (simp; omega)) _ | refine Below.setCell ?_ (by first | omega | (simp; done) | (simp; omega)) _ | refine below_setRow ?_ (by first | omega | (simp; done) | (simp; omega)) _ )), k3⟩
            case measure => simp [intOf]; omega
          · have f4 := f3.resolve_left hz
            obtain ⟨f5, f6⟩ := f4
            have c2 := HC.out ((i : Int) - 1) (by omega) (by omega)
            rw [show ((i : Int) - 1).toNat = i - 1 by omega] at c2
            have hq := stepB_iff.1 (HALL.out ((i : Int) - 1) (by omega) (by omega))
            obtain ⟨hq1, hq2, -⟩ := hq
            have d1 : (0 : Int) ≤ (i : Int) - 1 := by omega
            have d2 : (i : Int) - 1 < (m : Int) := by omega
            have d3 : ((i : Int) - 1).toNat = i - 1 := by omega
            clear f3
            generalize hy : q i = y at *
            generalize hz2 : q ((i : Int) - 1) = z at *
            clear hy hz2
            have v2 : IntKind.i64.wrap ((i : Int) - 1) = (i : Int) - 1 := IntWalk.i64_in _ (by omega)
            have v3 : IntKind.i64.wrap (y - z) = y - z := IntWalk.i64_in _ (by omega)
            have v4 : IntKind.i64.wrap (z - y) = z - y := IntWalk.i64_in _ (by omega)
            have e1 : decide (y < 0) = false := by simp; omega
            have e2 : decide (H ≤ y) = false := by simp; omega
            have e3 : decide (1 < y - z) = false := by simp; omega
            have e4 : decide (1 < z - y) = false := by simp; omega
            have hdn : decide (0 < i) = true := by simp; omega
            have hdp : 0 < i := by omega
            go_wp2_with fail
            go_quiet (fail)
            go_wp2_with fail
            go_quiet (fail)
            clear v2 v3 v4 d3 e1 e2 e3 e4 hdn
            go_wp2
            go_roundw
            case rel => exact ⟨i + 1, by omega, by go_num, fun j a b => if e : j = i then e ▸ HS.out else HALL.out j a (by omega), by (repeat (first | exact Below.refl _ _ | assumption | refine Below.drew ?_ | refine below_drewN ?_ _ | refine Below.alloc ?_ (by first | omega | (simp; done) | (simp; omega)) _ | refine Below.setCell ?_ (by first | omega | (simp; done) | (simp; omega)) _ | refine below_setRow ?_ (by first | omega | (simp; done) | (simp; omega)) _ )), k3⟩
            case measure => simp [intOf]; omega
      · obtain rfl : i = m := by omega
        have hr : Hid (isPathB W H i q = true) := by show _ = _; exact isPathB_iff.2 ⟨⟨g1, g2, H3.out⟩, HALL.out⟩
        go_wp2
        go_ret
        exact ⟨ret_bool hr.out.symm, b3⟩
  · have hr : isPathB W H m q = false := Bool.eq_false_iff.2 fun h => by have := (isPathB_iff.1 h).1; omega
    have hb : ((m : Int) != W) = true := by simp [h3]
    have H3 := Lib.hid h3; clear h3
    have HR := Lib.hid hr
    rw [hr]
    clear hr h1 h2
    go_enter Try.func61, Try.ntmps61
    go_wp2
    go_ret
    exact ⟨rfl, by (repeat (first | exact Below.refl _ _ | assumption | refine Below.drew ?_ | refine below_drewN ?_ _ | refine Below.alloc ?_ (by first | omega | (simp; done) | (simp; omega)) _ | refine Below.setCell ?_ (by first | omega | (simp; done) | (simp; omega)) _ | refine below_setRow ?_ (by first | omega | (simp; done) | (simp; omega)) _ ))⟩
end Go.Proofs.Ytdimlpcbbkokiaa

/- Walks: costs with their errors, the program's and the reference's. -/
namespace Go.Proofs.Ytdimlpcbbkokiaa
open Go.RowKit
set_option linter.unusedVariables false

set_option maxHeartbeats 1000000 in
theorem cost_all (W H : Int) (A P : Option Addr) (n c m d : Nat) (p q : Int → Int) (E V : Int) (w : World) (hA : ArrB w w.heap.size A n p) (hn : n ≤ maxLen) (hB : IsB p) (hP : ArrI w w.heap.size P m q) (hm : m ≤ maxLen) (hE : costE W H n p m q = E) (hV : costV W H n p m q = V) :
    Calls Try.prog 16 #[.agg #[.int .i64 W, .int .i64 H, .slice A n c], .slice P m d] w fun e w' => e = .returned (.tuple #[.int .i64 V, .int .i64 E]) ∧ Below w.heap.size w w' := by
  by_cases e : E = 0
  · subst e
    obtain ⟨e1, e2⟩ := costE_ok hE
    have : V = costP (cst p W) q m := by rw [← hV]; unfold costV; rw [if_pos hE]
    subst this
    exact cost_ok W H A P n c m d p q w hA hn hB hP e1 e2
  · have : V = 0 := by rw [← hV]; unfold costV; rw [if_neg (by rw [hE]; exact e)]
    subst this
    clear hV
    have CK := Lib.hid fun w' hA' => check_any W H A n c p w' hA' hn
    by_cases hc : chk W H n p = 0
    · have hI : isPathB W H m q = false := by
        cases h : isPathB W H m q
        · rfl
        · exfalso; apply e; rw [← hE]; unfold costE; rw [if_neg (by simp [hc]), h]; rfl
      have hE1 : E = 1 := by rw [← hE]; unfold costE; rw [if_neg (by simp [hc]), hI]; rfl
      subst hE1
      rw [hc] at CK
      obtain ⟨hW1, hW2, hH1, hH2, hnn, hpx⟩ := chk_ok hc
      have IP := Lib.hid fun w' hP' => isPath_any W H A P n c m d q w' hW2 hH2 hP' hm
      rw [hI] at IP
      clear hc hI hE hnn hpx e
      go_enter Try.func16, Try.ntmps16
      go_wp2_with fail
      refine (CK.out _ (hA.to (by (repeat (first | exact Below.refl _ _ | assumption | refine Below.drew ?_ | refine below_drewN ?_ _ | refine Below.alloc ?_ (by first | omega | (simp; done) | (simp; omega)) _ | refine Below.setCell ?_ (by first | omega | (simp; done) | (simp; omega)) _ | refine below_setRow ?_ (by first | omega | (simp; done) | (simp; omega)) _ ))))).mono ?_
      rintro e w1 ⟨rfl, hb1⟩
      have b1 : Below w.heap.size w w1 := below_call (by (repeat (first | exact Below.refl _ _ | assumption | refine Below.drew ?_ | refine below_drewN ?_ _ | refine Below.alloc ?_ (by first | omega | (simp; done) | (simp; omega)) _ | refine Below.setCell ?_ (by first | omega | (simp; done) | (simp; omega)) _ | refine below_setRow ?_ (by first | omega | (simp; done) | (simp; omega)) _ ))) (by simp; try omega) hb1
      have k1 : Blk w1 w.heap.size 24 #[.int .i64 W, .int .i64 H, .slice A n c] := (Blk.new _ _ _).below' hb1
      clear hb1 CK
      obtain ⟨p1, p2, p3⟩ := k1.cells3
      go_wp2_with fail
      refine (IP.out _ (hP.to b1)).mono ?_
      rintro e w2 ⟨rfl, hb2⟩
      have b2 := below_call b1 b1.size hb2
      go_wp2
      go_ret2
      exact ⟨rfl, b2⟩
    · have hz : chk W H n p = E := by rw [← hE]; unfold costE; rw [if_pos hc]
      rw [hz] at CK
      have hb : (E != 0) = true := by simp [e]
      have HE := Lib.hid e; clear e hc hz hE
      go_enter Try.func16, Try.ntmps16
      go_wp2_with fail
      refine (CK.out _ (hA.to (by (repeat (first | exact Below.refl _ _ | assumption | refine Below.drew ?_ | refine below_drewN ?_ _ | refine Below.alloc ?_ (by first | omega | (simp; done) | (simp; omega)) _ | refine Below.setCell ?_ (by first | omega | (simp; done) | (simp; omega)) _ | refine below_setRow ?_ (by first | omega | (simp; done) | (simp; omega)) _ ))))).mono ?_
      rintro e w1 ⟨rfl, hb1⟩
      have b1 : Below w.heap.size w w1 := below_call (by (repeat (first | exact Below.refl _ _ | assumption | refine Below.drew ?_ | refine below_drewN ?_ _ | refine Below.alloc ?_ (by first | omega | (simp; done) | (simp; omega)) _ | refine Below.setCell ?_ (by first | omega | (simp; done) | (simp; omega)) _ | refine below_setRow ?_ (by first | omega | (simp; done) | (simp; omega)) _ ))) (by simp; try omega) hb1
      go_wp2
      go_ret2
      exact ⟨rfl, b1⟩

set_option maxHeartbeats 1000000 in
theorem rcost_all (W H : Int) (A P : Option Addr) (n c m d : Nat) (p q : Int → Int) (E V : Int) (w : World) (hA : ArrB w w.heap.size A n p) (hn : n ≤ maxLen) (hB : IsB p) (hP : ArrI w w.heap.size P m q) (hm : m ≤ maxLen) (hE : costE W H n p m q = E) (hV : costV W H n p m q = V) :
    Calls Try.prog 17 #[.agg #[.int .i64 W, .int .i64 H, .slice A n c], .slice P m d] w fun e w' => e = .returned (.tuple #[.int .i64 V, .int .i64 E]) ∧ Below w.heap.size w w' := by
  have CK := Lib.hid fun w' hA' => rcheck_any W H A n c p w' hA' hn hB
  by_cases hc : chk W H n p = 0
  · obtain ⟨hW1, hW2, hH1, hH2, hnn, hpx⟩ := chk_ok hc
    have IP := Lib.hid fun w' hP' => risPath_any W H A P n c m d q w' hW1 hH1 hW2 hH2 hP' hm
    have CO := Lib.hid fun w' hA' hP' hI => rcostOf_any W H A P n c m d p q w' hA' hP' hc hI
    rw [hc] at CK
    cases hI : isPathB W H m q
    · have hE1 : E = 1 := by rw [← hE]; unfold costE; rw [if_neg (by simp [hc]), hI]; rfl
      have hV1 : V = 0 := by rw [← hV]; unfold costV; rw [if_neg (by rw [hE, hE1]; decide)]
      subst hE1; subst hV1
      rw [hI] at IP
      clear hc hI hE hV hnn hpx CO
      go_enter Try.func17, Try.ntmps17
      go_wp2_with fail
      refine (CK.out _ (hA.to (by (repeat (first | exact Below.refl _ _ | assumption | refine Below.drew ?_ | refine below_drewN ?_ _ | refine Below.alloc ?_ (by first | omega | (simp; done) | (simp; omega)) _ | refine Below.setCell ?_ (by first | omega | (simp; done) | (simp; omega)) _ | refine below_setRow ?_ (by first | omega | (simp; done) | (simp; omega)) _ ))))).mono ?_
      rintro e w1 ⟨rfl, hb1⟩
      have b1 : Below w.heap.size w w1 := below_call (by (repeat (first | exact Below.refl _ _ | assumption | refine Below.drew ?_ | refine below_drewN ?_ _ | refine Below.alloc ?_ (by first | omega | (simp; done) | (simp; omega)) _ | refine Below.setCell ?_ (by first | omega | (simp; done) | (simp; omega)) _ | refine below_setRow ?_ (by first | omega | (simp; done) | (simp; omega)) _ ))) (by simp; try omega) hb1
      have k1 : Blk w1 w.heap.size 24 #[.int .i64 W, .int .i64 H, .slice A n c] := (Blk.new _ _ _).below' hb1
      clear hb1 CK
      obtain ⟨p1, p2, p3⟩ := k1.cells3
      go_wp2_with fail
      refine (IP.out _ (hP.to b1)).mono ?_
      rintro e w2 ⟨rfl, hb2⟩
      have b2 := below_call b1 b1.size hb2
      go_wp2
      go_ret2
      exact ⟨rfl, b2⟩
    · have hE1 : E = 0 := by rw [← hE]; unfold costE; rw [if_neg (by simp [hc]), hI]; rfl
      have hV1 : V = costP (cst p W) q m := by rw [← hV]; unfold costV; rw [if_pos (by rw [hE, hE1])]
      subst hE1; subst hV1
      have CO := Lib.hid fun w' hA' hP' => CO.out w' hA' hP' hI
      rw [hI] at IP
      clear hc hI hE hV hnn hpx
      generalize costP (cst p W) q m = V at *
      go_enter Try.func17, Try.ntmps17
      go_wp2_with fail
      refine (CK.out _ (hA.to (by (repeat (first | exact Below.refl _ _ | assumption | refine Below.drew ?_ | refine below_drewN ?_ _ | refine Below.alloc ?_ (by first | omega | (simp; done) | (simp; omega)) _ | refine Below.setCell ?_ (by first | omega | (simp; done) | (simp; omega)) _ | refine below_setRow ?_ (by first | omega | (simp; done) | (simp; omega)) _ ))))).mono ?_
      rintro e w1 ⟨rfl, hb1⟩
      have b1 : Below w.heap.size w w1 := below_call (by (repeat (first | exact Below.refl _ _ | assumption | refine Below.drew ?_ | refine below_drewN ?_ _ | refine Below.alloc ?_ (by first | omega | (simp; done) | (simp; omega)) _ | refine Below.setCell ?_ (by first | omega | (simp; done) | (simp; omega)) _ | refine below_setRow ?_ (by first | omega | (simp; done) | (simp; omega)) _ ))) (by simp; try omega) hb1
      have k1 : Blk w1 w.heap.size 24 #[.int .i64 W, .int .i64 H, .slice A n c] := (Blk.new _ _ _).below' hb1
      clear hb1 CK
      obtain ⟨p1, p2, p3⟩ := k1.cells3
      go_wp2_with fail
      refine (IP.out _ (hP.to b1)).mono ?_
      rintro e w2 ⟨rfl, hb2⟩
      have b2 := below_call b1 b1.size hb2
      have k2 := k1.below' hb2
      clear b1 k1 hb2 p1 p2 p3
      obtain ⟨p1, p2, p3⟩ := k2.cells3
      go_wp2_with fail
      refine (CO.out _ (hA.to b2) (hP.to b2)).mono ?_
      rintro e w3 ⟨rfl, hb3⟩
      have b3 := below_call b2 b2.size hb3
      go_wp2
      go_ret2
      exact ⟨rfl, b3⟩
  · have hz : chk W H n p = E := by rw [← hE]; unfold costE; rw [if_pos hc]
    have e : E ≠ 0 := by rw [← hz]; exact hc
    have hV1 : V = 0 := by rw [← hV]; unfold costV; rw [if_neg (by rw [hE]; exact e)]
    subst hV1
    rw [hz] at CK
    have hb : (E != 0) = true := by simp [e]
    have HE := Lib.hid e; clear e hc hz hE hV
    go_enter Try.func17, Try.ntmps17
    go_wp2_with fail
    refine (CK.out _ (hA.to (by (repeat (first | exact Below.refl _ _ | assumption | refine Below.drew ?_ | refine below_drewN ?_ _ | refine Below.alloc ?_ (by first | omega | (simp; done) | (simp; omega)) _ | refine Below.setCell ?_ (by first | omega | (simp; done) | (simp; omega)) _ | refine below_setRow ?_ (by first | omega | (simp; done) | (simp; omega)) _ ))))).mono ?_
    rintro e w1 ⟨rfl, hb1⟩
    have b1 : Below w.heap.size w w1 := below_call (by (repeat (first | exact Below.refl _ _ | assumption | refine Below.drew ?_ | refine below_drewN ?_ _ | refine Below.alloc ?_ (by first | omega | (simp; done) | (simp; omega)) _ | refine Below.setCell ?_ (by first | omega | (simp; done) | (simp; omega)) _ | refine below_setRow ?_ (by first | omega | (simp; done) | (simp; omega)) _ ))) (by simp; try omega) hb1
    go_wp2
    go_ret2
    exact ⟨rfl, b1⟩
end Go.Proofs.Ytdimlpcbbkokiaa

/- Walk: the least cost from a pixel to the last column (the closure of best). -/
namespace Go.Proofs.Ytdimlpcbbkokiaa
open Go.RowKit Go.Shelf
set_option linter.unusedVariables false
attribute [local go_sem] Oper.semAt_some

/-- what the closure best$1 has captured, and reads -/
structure BestK (w : World) (W H : Int) (Bf Bw Bh Br Bi gr N : Nat) (Fa A : Option Addr) (fc n c : Nat) (fb : Int → Bool) (R p : Int → Int) : Prop where
  kf : Blk w Bf 67 #[.slice Fa N fc]
  kw : Blk w Bw 3 #[.int .i64 W]
  kh : Blk w Bh 3 #[.int .i64 H]
  kr : Blk w Br 25 #[.slice (some ⟨gr, 0, none⟩) N N]
  kR : Blk w gr 3 (i64s N R)
  ki : Blk w Bi 24 #[.int .i64 W, .int .i64 H, .slice A n c]
  aF : Arr w w.heap.size Fa N (fun i => .bool (fb i))
  aA : ArrB w w.heap.size A n p
theorem BestK.below {w w' : World} {W H : Int} {Bf Bw Bh Br Bi gr N : Nat} {Fa A : Option Addr} {fc n c : Nat} {fb : Int → Bool} {R p : Int → Int} (k : BestK w W H Bf Bw Bh Br Bi gr N Fa A fc n c fb R p) (hb : Below w.heap.size w w') : BestK w' W H Bf Bw Bh Br Bi gr N Fa A fc n c fb R p :=
  ⟨k.kf.below' hb, k.kw.below' hb, k.kh.below' hb, k.kr.below' hb, k.kR.below' hb, k.ki.below' hb, (k.aF.below hb).more hb.size, k.aA.to hb⟩

/-- the same below a fixed number of blocks -/
structure BestB (B : Nat) (w : World) (W H : Int) (Bf Bw Bh Br Bi gr N : Nat) (Fa A : Option Addr) (fc n c : Nat) (fb : Int → Bool) (R p : Int → Int) : Prop where
  kf : Blk w Bf 67 #[.slice Fa N fc] ∧ Bf < B
  kw : Blk w Bw 3 #[.int .i64 W] ∧ Bw < B
  kh : Blk w Bh 3 #[.int .i64 H] ∧ Bh < B
  kr : Blk w Br 25 #[.slice (some ⟨gr, 0, none⟩) N N] ∧ Br < B
  kR : Blk w gr 3 (i64s N R) ∧ gr < B
  ki : Blk w Bi 24 #[.int .i64 W, .int .i64 H, .slice A n c] ∧ Bi < B
  aF : Arr w B Fa N (fun i => .bool (fb i))
  aA : ArrB w B A n p
section
variable {B : Nat} {w w' : World} {W H : Int} {Bf Bw Bh Br Bi gr N : Nat} {Fa A : Option Addr} {fc n c : Nat} {fb : Int → Bool} {R p : Int → Int}
theorem BestK.toB (k : BestK w W H Bf Bw Bh Br Bi gr N Fa A fc n c fb R p) : BestB w.heap.size w W H Bf Bw Bh Br Bi gr N Fa A fc n c fb R p :=
  ⟨⟨k.kf, k.kf.lt⟩, ⟨k.kw, k.kw.lt⟩, ⟨k.kh, k.kh.lt⟩, ⟨k.kr, k.kr.lt⟩, ⟨k.kR, k.kR.lt⟩, ⟨k.ki, k.ki.lt⟩, k.aF, k.aA⟩
theorem BestB.below (k : BestB B w W H Bf Bw Bh Br Bi gr N Fa A fc n c fb R p) (hb : Below B w w') : BestB B w' W H Bf Bw Bh Br Bi gr N Fa A fc n c fb R p :=
  ⟨⟨k.kf.1.below hb k.kf.2, k.kf.2⟩, ⟨k.kw.1.below hb k.kw.2, k.kw.2⟩, ⟨k.kh.1.below hb k.kh.2, k.kh.2⟩, ⟨k.kr.1.below hb k.kr.2, k.kr.2⟩, ⟨k.kR.1.below hb k.kR.2, k.kR.2⟩, ⟨k.ki.1.below hb k.ki.2, k.ki.2⟩, k.aF.below hb, k.aA.below hb⟩
end
/-- the state of the loop over the next rows -/
structure StepI (w : World) (W H x y : Int) (Bf Bw Bh Br Bi gr N : Nat) (Fa A : Option Addr) (fc n c : Nat) (fb : Int → Bool) (R p : Int → Int) (m : Int) (S : Nat) (w' : World) : Prop where
  bl : Below w.heap.size w w'
  k : BestB w.heap.size w' W H Bf Bw Bh Br Bi gr N Fa A fc n c fb R p
  bx : Blk w' w.heap.size 3 #[.int .i64 x]
  by' : Blk w' (w.heap.size + 1) 3 #[.int .i64 y]
  bn : Blk w' (w.heap.size + 1 + 1) 3 #[.int .i64 m]
  sz : S ≤ w'.heap.size

set_option maxRecDepth 100000 in
set_option maxHeartbeats 2000000 in
theorem from_never (W H x y : Int) (Bf Bw Bh Br Bi gr N : Nat) (Fa A : Option Addr) (fc n c : Nat) (fb : Int → Bool) (R p : Int → Int) (w : World) (k : BestK w W H Bf Bw Bh Br Bi gr N Fa A fc n c fb R p)
    (hE : chk W H n p = 0) (hN : (N : Int) = W * H) (x0 : 0 ≤ x) (x1 : x < W) (y0 : 0 ≤ y) (y1 : y < H) (hf : fb (y * W + x) = true) :
    Calls Try.prog 103 #[.int .i64 x, .int .i64 y, .pointer (some ⟨Bf, 0, none⟩), .pointer (some ⟨Bw, 0, none⟩), .pointer (some ⟨Bh, 0, none⟩), .pointer (some ⟨Br, 0, none⟩), .pointer (some ⟨Bi, 0, none⟩)] w
      fun e w' => e = .returned (.int .i64 1073741824) ∧ Below w.heap.size w w' := by
  obtain ⟨hW1, hW2, hH1, hH2, hnn, -⟩ := chk_ok hE
  obtain ⟨i1, i2, i3⟩ := idx_lt x0 x1 y0 y1
  rw [Int.mul_comm H W] at i2
  have i4 : y * W + x < N := by omega
  have j6 := (area_bd hW1 hW2 hH1 hH2).2
  have v1 : IntKind.i64.wrap (y * W) = y * W := IntWalk.i64_in _ (by omega)
  have v2 : IntKind.i64.wrap (y * W + x) = y * W + x := IntWalk.i64_in _ (by omega)
  have k2 := k.below (w' := (w.alloc (.cells #[.int .i64 x] 3)).alloc (.cells #[.int .i64 y] 3)) (by (repeat (first | exact Below.refl _ _ | assumption | refine Below.drew ?_ | refine below_drewN ?_ _ | refine Below.alloc ?_ (by first | omega | (simp; done) | (simp; omega)) _ | refine Below.setCell ?_ (by first | omega | (simp; done) | (simp; omega)) _ | refine below_setRow ?_ (by first | omega | (simp; done) | (simp; omega)) _ )))
  obtain ⟨b', off, rfl, hbB, hcell⟩ := k2.aF.at_ i1 i4
  rw [hf] at hcell
  have q1 := k2.kf.at0; have q2 := k2.kw.at0
  have z1 := k.kf.lt; have z2 := k.kw.lt
  clear k2 hE hN hnn hf
  go_enter Try.func103, Try.ntmps103
  go_wp2
  go_ret
  exact ⟨rfl, by (repeat (first | exact Below.refl _ _ | assumption | refine Below.drew ?_ | refine below_drewN ?_ _ | refine Below.alloc ?_ (by first | omega | (simp; done) | (simp; omega)) _ | refine Below.setCell ?_ (by first | omega | (simp; done) | (simp; omega)) _ | refine below_setRow ?_ (by first | omega | (simp; done) | (simp; omega)) _ ))⟩

set_option maxRecDepth 100000 in
set_option maxHeartbeats 2000000 in
theorem from_last (W H x y : Int) (Bf Bw Bh Br Bi gr N : Nat) (Fa A : Option Addr) (fc n c : Nat) (fb : Int → Bool) (R p : Int → Int) (w : World) (k : BestK w W H Bf Bw Bh Br Bi gr N Fa A fc n c fb R p)
    (hE : chk W H n p = 0) (hB : IsB p) (hN : (N : Int) = W * H) (x0 : 0 ≤ x) (x1 : x < W) (xl : ¬ x < W - 1) (y0 : 0 ≤ y) (y1 : y < H) (hf : fb (y * W + x) = false) :
    Calls Try.prog 103 #[.int .i64 x, .int .i64 y, .pointer (some ⟨Bf, 0, none⟩), .pointer (some ⟨Bw, 0, none⟩), .pointer (some ⟨Bh, 0, none⟩), .pointer (some ⟨Br, 0, none⟩), .pointer (some ⟨Bi, 0, none⟩)] w
      fun e w' => e = .returned (.int .i64 (min (cst p W x y) 1073741824)) ∧ Below w.heap.size w w' := by
  obtain ⟨hW1, hW2, hH1, hH2, hnn, -⟩ := chk_ok hE
  obtain ⟨i1, i2, i3⟩ := idx_lt x0 x1 y0 y1
  rw [Int.mul_comm H W] at i2
  have i4 : y * W + x < N := by omega
  have j6 := (area_bd hW1 hW2 hH1 hH2).2
  have v1 : IntKind.i64.wrap (y * W) = y * W := IntWalk.i64_in _ (by omega)
  have v2 : IntKind.i64.wrap (y * W + x) = y * W + x := IntWalk.i64_in _ (by omega)
  have k2 := k.below (w' := (w.alloc (.cells #[.int .i64 x] 3)).alloc (.cells #[.int .i64 y] 3)) (by (repeat (first | exact Below.refl _ _ | assumption | refine Below.drew ?_ | refine below_drewN ?_ _ | refine Below.alloc ?_ (by first | omega | (simp; done) | (simp; omega)) _ | refine Below.setCell ?_ (by first | omega | (simp; done) | (simp; omega)) _ | refine below_setRow ?_ (by first | omega | (simp; done) | (simp; omega)) _ )))
  have PX := Lib.hid fun w' hA' => paper_any W H A n c p x y w' hA' hB hE x0 x1 y0 y1
  obtain ⟨b', off, rfl, hbB, hcell⟩ := k2.aF.at_ i1 i4
  rw [hf] at hcell
  have q1 := k2.kf.at0; have q2 := k2.kw.at0
  have z1 := k.kf.lt; have z2 := k.kw.lt
  have cb := cst_bd p W x y
  obtain ⟨cb1, cb2⟩ := cb
  have k3 := k.below (w' := ((w.alloc (.cells #[.int .i64 x] 3)).alloc (.cells #[.int .i64 y] 3)).alloc (.cells #[.int .i64 0] 3)) (by (repeat (first | exact Below.refl _ _ | assumption | refine Below.drew ?_ | refine below_drewN ?_ _ | refine Below.alloc ?_ (by first | omega | (simp; done) | (simp; omega)) _ | refine Below.setCell ?_ (by first | omega | (simp; done) | (simp; omega)) _ | refine below_setRow ?_ (by first | omega | (simp; done) | (simp; omega)) _ )))
  have q3 := k3.kw.at0
  have BX : Blk (((w.alloc (.cells #[.int .i64 x] 3)).alloc (.cells #[.int .i64 y] 3)).alloc (.cells #[.int .i64 0] 3)) w.heap.size 3 #[.int .i64 x] := ((Blk.new _ _ _).alloc _).alloc _
  have BY : Blk (((w.alloc (.cells #[.int .i64 x] 3)).alloc (.cells #[.int .i64 y] 3)).alloc (.cells #[.int .i64 0] 3)) (w.heap.size + 1) 3 #[.int .i64 y] := (Blk.new' (by simp) _ _).alloc _
  have BN : Blk (((w.alloc (.cells #[.int .i64 x] 3)).alloc (.cells #[.int .i64 y] 3)).alloc (.cells #[.int .i64 0] 3)) (w.heap.size + 1 + 1) 3 #[.int .i64 0] := Blk.new' (by simp) _ _
  have b3 : Below w.heap.size w (((w.alloc (.cells #[.int .i64 x] 3)).alloc (.cells #[.int .i64 y] 3)).alloc (.cells #[.int .i64 0] 3)) := by (repeat (first | exact Below.refl _ _ | assumption | refine Below.drew ?_ | refine below_drewN ?_ _ | refine Below.alloc ?_ (by first | omega | (simp; done) | (simp; omega)) _ | refine Below.setCell ?_ (by first | omega | (simp; done) | (simp; omega)) _ | refine below_setRow ?_ (by first | omega | (simp; done) | (simp; omega)) _ ))
  have BX := Lib.hid BX; have BY := Lib.hid BY; have BN := Lib.hid BN; have B3 := Lib.hid b3; have K3 := Lib.hid k3
  generalize cst p W x y = ci at *
  have v3 : IntKind.i64.wrap ci = ci := IntWalk.i64_in _ (by omega)
  clear k2 hE hN hnn hf k k3 b3
  go_enter Try.func103, Try.ntmps103
  go_wp2_with fail
  generalize ((w.alloc (.cells #[.int .i64 x] 3)).alloc (.cells #[.int .i64 y] 3)).alloc (.cells #[.int .i64 0] 3) = w3 at *
  clear q1 q2 q3 hcell
  have q4 := BX.out.at0; have q5 := BY.out.at0; have q6 := BN.out.at0
  obtain ⟨q7, q8, q9⟩ := K3.out.ki.cells3
  go_region_held3 (fun w' => w'.cell? ⟨w.heap.size, 0, none⟩ = some (.int .i64 x) ∧ w'.cell? ⟨w.heap.size + 1, 0, none⟩ = some (.int .i64 y) ∧ w'.cell? ⟨w.heap.size + 1 + 1, 0, none⟩ = some (.int .i64 0) ∧ w'.cell? ⟨Bi, 0, none⟩ = some (.int .i64 W) ∧ w'.cell? ⟨Bi, 1, none⟩ = some (.int .i64 H) ∧ w'.cell? ⟨Bi, 2, none⟩ = some (.slice A n c))
    (simp [go_sem, *])
    ((go_at_call 60
      refine (PX.out _ K3.out.aA.drew1).mono ?_
      rintro e w4 ⟨rfl, hb4⟩
      have x1 := (BX.out.drew.below' hb4).at0
      have x2 := (BY.out.drew.below' hb4).at0
      have x3 := (BN.out.drew.below' hb4).at0
      obtain ⟨x4, x5, x6⟩ := (K3.out.ki.drew.below' hb4).cells3
      have b4 := below_call B3.out.drew B3.out.drew.size hb4))
  all_goals
    go_wp2
    go_ret
    exact ⟨ret_int (by first | rfl | (simp; done) | omega), b4⟩

/-- the least of N and of what going on to the rows of a list costs -/
def minL (N : Int) (D : Int → Int) (y : Int) (l : List Int) : Int := l.foldl (fun n t => min n (goTo D y t)) N
theorem minL_snoc (N : Int) (D : Int → Int) (y t : Int) (l : List Int) : minL N D y (l ++ [t]) = min (minL N D y l) (goTo D y t) := by simp [minL]
theorem minL_nb (N : Int) (D : Int → Int) (y : Int) (j : Nat) : minL N D y (nbT y j) = mfold N (goTo D y) (nxLo y) j := by
  induction j with
  | zero => rfl
  | succ j ih => rw [nbT_snoc, minL_snoc, ih, mfold]
theorem minL_bd {N H : Int} {D : Int → Int} {y : Int} (hN : 0 ≤ N) (hD : ∀ t, 0 ≤ t → t < H → 0 ≤ D t) (l : List (RowIn H)) : 0 ≤ minL N D y (l.map Subtype.val) ∧ minL N D y (l.map Subtype.val) ≤ N := by
  have : ∀ (l : List (RowIn H)) (m : Int), 0 ≤ m → m ≤ N → 0 ≤ minL m D y (l.map Subtype.val) ∧ minL m D y (l.map Subtype.val) ≤ N := by
    intro l
    induction l with
    | nil => intro m h0 h1; exact ⟨h0, h1⟩
    | cons t l ih =>
      intro m h0 h1
      have := hD t.1 t.2.1 t.2.2
      exact ih (min m (goTo D y t.1)) (by unfold goTo; split <;> omega) (by omega)
  exact this l N hN (Int.le_refl _)

set_option maxRecDepth 100000 in
set_option maxHeartbeats 4000000 in
theorem from_step (W H x y : Int) (Bf Bw Bh Br Bi gr N : Nat) (Fa A : Option Addr) (fc n c : Nat) (fb : Int → Bool) (R p D : Int → Int) (w : World) (k : BestK w W H Bf Bw Bh Br Bi gr N Fa A fc n c fb R p)
    (hE : chk W H n p = 0) (hB : IsB p) (hN : (N : Int) = W * H) (x0 : 0 ≤ x) (x1 : x < W - 1) (y0 : 0 ≤ y) (y1 : y < H) (hf : fb (y * W + x) = false)
    (hD : ∀ t, 0 ≤ t → t < H → R (t * W + (x + 1)) = D t) (hD0 : ∀ t, 0 ≤ t → t < H → 0 ≤ D t ∧ D t ≤ 1073741824) :
    Calls Try.prog 103 #[.int .i64 x, .int .i64 y, .pointer (some ⟨Bf, 0, none⟩), .pointer (some ⟨Bw, 0, none⟩), .pointer (some ⟨Bh, 0, none⟩), .pointer (some ⟨Br, 0, none⟩), .pointer (some ⟨Bi, 0, none⟩)] w
      fun e w' => e = .returned (.int .i64 (min (mfold 1073741824 (goTo D y) (nxLo y) (nxN H y) + cst p W x y) 1073741824)) ∧ Below w.heap.size w w' := by
  obtain ⟨hW1, hW2, hH1, hH2, hnn, -⟩ := chk_ok hE
  obtain ⟨i1, i2, i3⟩ := idx_lt x0 (by omega : x < W) y0 y1
  rw [Int.mul_comm H W] at i2
  have i4 : y * W + x < N := by omega
  have j6 := (area_bd hW1 hW2 hH1 hH2).2
  have v1 : IntKind.i64.wrap (y * W) = y * W := IntWalk.i64_in _ (by omega)
  have v2 : IntKind.i64.wrap (y * W + x) = y * W + x := IntWalk.i64_in _ (by omega)
  have k2 := k.below (w' := (w.alloc (.cells #[.int .i64 x] 3)).alloc (.cells #[.int .i64 y] 3)) (by (repeat (first | exact Below.refl _ _ | assumption | refine Below.drew ?_ | refine below_drewN ?_ _ | refine Below.alloc ?_ (by first | omega | (simp; done) | (simp; omega)) _ | refine Below.setCell ?_ (by first | omega | (simp; done) | (simp; omega)) _ | refine below_setRow ?_ (by first | omega | (simp; done) | (simp; omega)) _ )))
  have PX := Lib.hid fun w' hA' => paper_any W H A n c p x y w' hA' hB hE x0 (by omega) y0 y1
  have ML := Lib.hid (minL_nb 1073741824 D y (nxN H y))
  obtain ⟨b', off, rfl, hbB, hcell⟩ := k2.aF.at_ i1 i4
  rw [hf] at hcell
  have q1 := k2.kf.at0; have q2 := k2.kw.at0
  have z1 := k.kf.lt; have z2 := k.kw.lt
  have k3 := k.below (w' := ((w.alloc (.cells #[.int .i64 x] 3)).alloc (.cells #[.int .i64 y] 3)).alloc (.cells #[.int .i64 0] 3)) (by (repeat (first | exact Below.refl _ _ | assumption | refine Below.drew ?_ | refine below_drewN ?_ _ | refine Below.alloc ?_ (by first | omega | (simp; done) | (simp; omega)) _ | refine Below.setCell ?_ (by first | omega | (simp; done) | (simp; omega)) _ | refine below_setRow ?_ (by first | omega | (simp; done) | (simp; omega)) _ )))
  have q3 := k3.kw.at0
  have k4 := k.below (w' := ((w.alloc (.cells #[.int .i64 x] 3)).alloc (.cells #[.int .i64 y] 3)).alloc (.cells #[.int .i64 1073741824] 3)) (by (repeat (first | exact Below.refl _ _ | assumption | refine Below.drew ?_ | refine below_drewN ?_ _ | refine Below.alloc ?_ (by first | omega | (simp; done) | (simp; omega)) _ | refine Below.setCell ?_ (by first | omega | (simp; done) | (simp; omega)) _ | refine below_setRow ?_ (by first | omega | (simp; done) | (simp; omega)) _ )))
  have q4 := k4.kh.at0
  have BX : Blk (((w.alloc (.cells #[.int .i64 x] 3)).alloc (.cells #[.int .i64 y] 3)).alloc (.cells #[.int .i64 1073741824] 3)) w.heap.size 3 #[.int .i64 x] := ((Blk.new _ _ _).alloc _).alloc _
  have BY : Blk (((w.alloc (.cells #[.int .i64 x] 3)).alloc (.cells #[.int .i64 y] 3)).alloc (.cells #[.int .i64 1073741824] 3)) (w.heap.size + 1) 3 #[.int .i64 y] := (Blk.new' (by simp) _ _).alloc _
  have BN : Blk (((w.alloc (.cells #[.int .i64 x] 3)).alloc (.cells #[.int .i64 y] 3)).alloc (.cells #[.int .i64 1073741824] 3)) (w.heap.size + 1 + 1) 3 #[.int .i64 1073741824] := Blk.new' (by simp) _ _
  have b4 : Below w.heap.size w (((w.alloc (.cells #[.int .i64 x] 3)).alloc (.cells #[.int .i64 y] 3)).alloc (.cells #[.int .i64 1073741824] 3)) := by (repeat (first | exact Below.refl _ _ | assumption | refine Below.drew ?_ | refine below_drewN ?_ _ | refine Below.alloc ?_ (by first | omega | (simp; done) | (simp; omega)) _ | refine Below.setCell ?_ (by first | omega | (simp; done) | (simp; omega)) _ | refine below_setRow ?_ (by first | omega | (simp; done) | (simp; omega)) _ ))
  have KB : BestB w.heap.size (((w.alloc (.cells #[.int .i64 x] 3)).alloc (.cells #[.int .i64 y] 3)).alloc (.cells #[.int .i64 1073741824] 3)) W H Bf Bw Bh Br Bi gr N (some ⟨b', off, none⟩) A fc n c fb R p := k.toB.below (by (repeat (first | exact Below.refl _ _ | assumption | refine Below.drew ?_ | refine below_drewN ?_ _ | refine Below.alloc ?_ (by first | omega | (simp; done) | (simp; omega)) _ | refine Below.setCell ?_ (by first | omega | (simp; done) | (simp; omega)) _ | refine below_setRow ?_ (by first | omega | (simp; done) | (simp; omega)) _ )))
  have M4 : StepI w W H x y Bf Bw Bh Br Bi gr N (some ⟨b', off, none⟩) A fc n c fb R p 1073741824 w.heap.size (((w.alloc (.cells #[.int .i64 x] 3)).alloc (.cells #[.int .i64 y] 3)).alloc (.cells #[.int .i64 1073741824] 3)) := ⟨b4, KB, BX, BY, BN, b4.size⟩
  clear BX BY BN KB
  have HD := Lib.hid hD; have HD0 := Lib.hid hD0; have HNN := Lib.hid hN
  clear k2 hE hN hnn hf k k3 b4 k4 hD hD0
  refine (callsIn_wide (n := 5)).1 ?_
  refine callsIn_of_wp_marks Try.func103 rfl trivial ?_ rfl
  simp only [Try.ntmps103, List.size_toArray, List.length_cons, List.length_nil, Nat.reduceAdd, Nat.reduceSub, Array.replicate_succ, Array.replicate_zero, List.push_toArray, List.append_toArray, List.nil_append, List.cons_append]
  gi_wp2_with fail
  generalize ((w.alloc (.cells #[.int .i64 x] 3)).alloc (.cells #[.int .i64 y] 3)).alloc (.cells #[.int .i64 1073741824] 3) = w4 at *
  refine ⟨trivial, ?_⟩
  refine (callsIn_wide.2 (next_any y H _)).mono ?_
  rintro e w5 ⟨_, rfl, ⟨rfl, ky, kh⟩, hb5⟩
  have z4 : w.heap.size + 1 + 1 < w4.heap.size := M4.bn.lt
  have M5 : StepI w W H x y Bf Bw Bh Br Bi gr N (some ⟨b', off, none⟩) A fc n c fb R p 1073741824 w5.heap.size w5 :=
    ⟨below_call M4.bl M4.bl.size hb5, M4.k.below (hb5.mono M4.bl.size), M4.bx.below' hb5, M4.by'.below' hb5, M4.bn.below' hb5, Nat.le_refl _⟩
  have z5 : w4.heap.size + 1 < w5.heap.size := kh.lt
  clear hb5 M4 q1 q2 q3 q4 hcell
  generalize hb4 : w4.heap.size = b4 at *
  clear hb4
  gi_wp2_with fail
  refine wpIn_rangeFunc_ownF (F := Fence.wide) (n := 5) rfl (by omega) (gf := 121) (lb := #[.pointer (some ⟨b4, 0, none⟩), .pointer (some ⟨b4 + 1, 0, none⟩)]) rfl trivial (enters_of Try.func121 (by kernel_rfl) rfl) (next_stops Fence.wide 4 trivial rfl (by omega) y H b4 (b4 + 1) w5 ky kh y0 y1 hH2)
    (fun h k => KpB.trans h k) (fun W' l o o' hl ho _ _ => by
      have hlt := (Array.getElem?_eq_some_iff.1 ho).1
      exact ⟨(grownBy_putObj' W' l o').block b4 (by omega) (by intro e; cases e; omega), (grownBy_putObj' W' l o').block (b4 + 1) (by omega) (by intro e; cases e; omega)⟩) (Below.refl _ _) (fun _ => rfl)
    (fun pre W' => StepI w W H x y Bf Bw Bh Br Bi gr N (some ⟨b', off, none⟩) A fc n c fb R p (minL 1073741824 D y (pre.map Subtype.val)) w5.heap.size W') (fun _ _ _ => False)
    (ownFrom_of_below (fun s X Y hs hXY => ⟨hs.bl.trans (hXY.mono (by omega)), hs.k.below (hXY.mono (by omega)), hs.bx.below hXY (by omega), hs.by'.below hXY (by omega), hs.bn.below hXY (by omega), Nat.le_trans hs.sz hXY.size⟩) (fun s X hs => hs.sz))
    (fun _ _ _ _ _ hs _ _ => hs) M5
    (fun t => { tmps := #[.int .i64 x, .int .i64 y, .pointer (some ⟨Bf, 0, none⟩), .pointer (some ⟨Bw, 0, none⟩), .pointer (some ⟨Bh, 0, none⟩), .pointer (some ⟨Br, 0, none⟩), .pointer (some ⟨Bi, 0, none⟩), .pointer (some ⟨w.heap.size, 0, none⟩), .pointer (some ⟨w.heap.size + 1, 0, none⟩), .int .i64 0, .pointer (some ⟨w.heap.size + 1 + 1, 0, none⟩),
      .int .i64 t.1, undef, .slice (some ⟨b', off, none⟩) N fc, .int .i64 y, .int .i64 W, .int .i64 (y * W), .int .i64 x, .int .i64 (y * W + x), .pointer (some ⟨b', off + (y * W + x).toNat, none⟩), .bool false, .int .i64 x, .int .i64 W, .int .i64 (W - 1), .bool true, .int .i64 y, .int .i64 H,
      .func (.func 121) #[] #[.pointer (some ⟨b4, 0, none⟩), .pointer (some ⟨b4 + 1, 0, none⟩)], .int .i64 t.1, undef, undef, undef, undef, undef, undef, undef, undef, undef, undef, undef, undef, undef, undef, undef, undef, undef, undef, undef, undef, undef, undef, undef, undef], defers := [] }) ?assign ?body ?done ?stop
  case assign =>
    intro l t W' K hK
    gi_wp2
    exact hK
  case body =>
    rintro l pre ⟨t, t0, t1⟩ W' m _
    have r1 := m.k.kr.1.at0; have r2 := m.k.kw.1.at0; have r3 := m.bx.at0; have r4 := m.by'.at0; have r5 := m.bn.at0; have r6 := m.bn.frozen 0
    obtain ⟨l1, l2, l3⟩ := idx_lt (x := x + 1) (y := t) (W := W) (H := H) (by omega) (by omega) t0 t1
    rw [Int.mul_comm H W] at l2
    have hr := m.k.kR.1.i64at (i := t * W + x + 1) (by omega) (by have := HNN.out; omega)
    rw [show R (t * W + x + 1) = D t by rw [show t * W + x + 1 = t * W + (x + 1) by omega]; exact HD.out t t0 t1] at hr
    have l4 : t * W + x + 1 < (N : Int) := by have := HNN.out; omega
    have l5 : 0 ≤ t * W + x + 1 := by omega
    obtain ⟨d1, d2⟩ := HD0.out t t0 t1
    obtain ⟨m1, m2⟩ := minL_bd (N := 1073741824) (H := H) (D := D) (y := y) (by omega) (fun t a b => (HD0.out t a b).1) pre
    have SN : Hid (minL 1073741824 D y ((pre ++ [(⟨t, t0, t1⟩ : RowIn H)]).map Subtype.val) = min (minL 1073741824 D y (pre.map Subtype.val)) (D t + if t = y then 0 else 1)) := by
      show _ = _; rw [List.map_append]; exact minL_snoc _ _ _ _ _
    have MM := Lib.hid m
    clear m
    generalize minL 1073741824 D y (pre.map Subtype.val) = M at *
    generalize D t = Dt at *
    have FIN : ∀ v, v = minL 1073741824 D y ((pre ++ [(⟨t, t0, t1⟩ : RowIn H)]).map Subtype.val) → KeepsOthers W' (W'.setCell ⟨w.heap.size + 1 + 1, 0, none⟩ (.int .i64 v)) ∧ KpB b4 (b4 + 1) W' (W'.setCell ⟨w.heap.size + 1 + 1, 0, none⟩ (.int .i64 v)) ∧
        StepI w W H x y Bf Bw Bh Br Bi gr N (some ⟨b', off, none⟩) A fc n c fb R p (minL 1073741824 D y ((pre ++ [(⟨t, t0, t1⟩ : RowIn H)]).map Subtype.val)) w5.heap.size (W'.setCell ⟨w.heap.size + 1 + 1, 0, none⟩ (.int .i64 v)) := by
      rintro v rfl
      have m := MM.out
      exact ⟨KeepsOthers.setCell _ _ _, ⟨heap_setCell_other _ _ _ _ (by simp; omega), heap_setCell_other _ _ _ _ (by simp; omega)⟩,
        ⟨m.bl.setCell (by simp; omega) _, m.k.below ((Below.refl _ _).setCell (by simp; omega) _), m.bx.far (by simp; omega) _, m.by'.far (by simp) _, m.bn.set_ 0 _, by simpa using m.sz⟩⟩
    have FIN := Lib.hid FIN
    by_cases e : t = y
    · rw [if_pos e] at SN
      have hb : (t != y) = false := by simp [e]
      have E := Lib.hid e; clear e
      by_cases hm : Dt < M
      · gi_wp2
        exact FIN.out _ (by rw [SN.out]; omega)
      · gi_wp2
        exact FIN.out _ (by rw [SN.out]; omega)
    · rw [if_neg e] at SN
      have hb : (t != y) = true := by simp [e]
      have E := Lib.hid e; clear e
      by_cases hm : Dt + 1 < M
      · gi_wp2
        exact FIN.out _ (by rw [SN.out]; omega)
      · gi_wp2
        exact FIN.out _ (by rw [SN.out]; omega)
  case done =>
    rintro D' xs W' hD hS m hK
    rw [hS, ML.out] at m
    generalize hMM : mfold 1073741824 (goTo D y) (nxLo y) (nxN H y) = M at *
    have HMM := Lib.hid hMM; clear hMM
    have r3 := m.bx.at0; have r4 := m.by'.at0; have r5 := m.bn.at0
    obtain ⟨r7, r8, r9⟩ := m.k.ki.1.cells3
    have cb := cst_bd p W x y
    obtain ⟨cb1, cb2⟩ := cb
    have mb : 0 ≤ M ∧ M ≤ 1073741824 := by rw [← ML.out, ← hS]; exact minL_bd (by omega) (fun t a b => (HD0.out t a b).1) xs
    obtain ⟨mb1, mb2⟩ := mb
    generalize hci : cst p W x y = ci at *
    have HCI := Lib.hid hci; clear hci
    have v3 : IntKind.i64.wrap (M + ci) = M + ci := IntWalk.i64_in _ (by omega)
    have hK0 := (Array.getElem?_eq_some_iff.1 hK).1
    have M6 := Lib.hid m
    have HS := Lib.hid hS
    have HK := Lib.hid hK
    clear hS m hK
    gi_wp2_with fail
    refine wpIn_wide.2 ?_
    go_region_held3 (fun w' => w'.cell? ⟨w.heap.size, 0, none⟩ = some (.int .i64 x) ∧ w'.cell? ⟨w.heap.size + 1, 0, none⟩ = some (.int .i64 y) ∧ w'.cell? ⟨w.heap.size + 1 + 1, 0, none⟩ = some (.int .i64 M) ∧ w'.cell? ⟨Bi, 0, none⟩ = some (.int .i64 W) ∧ w'.cell? ⟨Bi, 1, none⟩ = some (.int .i64 H) ∧ w'.cell? ⟨Bi, 2, none⟩ = some (.slice A n c))
      (simp [go_sem, *])
      ((go_at_call 60
        refine (PX.out _ ((M6.out.k.aA.more M6.out.bl.size).drew1)).mono ?_
        rintro e w6 ⟨rfl, hb6⟩
        have x1 := (M6.out.bx.drew.below' hb6).at0
        have x2 := (M6.out.by'.drew.below' hb6).at0
        have x3 := (M6.out.bn.drew.below' hb6).at0
        obtain ⟨x4, x5, x6⟩ := (M6.out.k.ki.1.drew.below' hb6).cells3
        have hK6 : w6.heap[D']? = some (.deferred (some [])) := (hb6.block D' hK0).trans HK.out
        have b6 := below_call M6.out.bl.drew M6.out.bl.drew.size hb6))
    go_wp2
    all_goals
      gi_wp2
      refine ⟨by simp, .inl ⟨_, _, rfl, run_takeDeferred hK6, ?_⟩⟩
      refine ⟨_, results_tmp rfl _ _ _, ?_, b6.trans (belowK_b (w := w) (Nat.le_refl _) w6 D' _ _ (by have := M6.out.bl.size; omega) hK6 rfl rfl)⟩
      rw [HMM.out, HCI.out]
      first
        | (show Ending.returned (.int .i64 1073741824) = _; exact ret_int (by omega))
        | (show Ending.returned (.int .i64 (M + ci)) = _; exact ret_int (by omega))
  case stop =>
    rintro D c pre W' _ _ h _
    exact h.elim
end Go.Proofs.Ytdimlpcbbkokiaa

/- Walk: the closure of best in one piece; the table of least costs while it is filled. -/
namespace Go.Proofs.Ytdimlpcbbkokiaa
open Go.RowKit
set_option linter.unusedVariables false

def NV : Int := 1073741824
theorem from_all (W H x y : Int) (Bf Bw Bh Br Bi gr N : Nat) (Fa A : Option Addr) (fc n c : Nat) (fb : Int → Bool) (R p : Int → Int) (w : World) (k : BestK w W H Bf Bw Bh Br Bi gr N Fa A fc n c fb R p)
    (hE : chk W H n p = 0) (hB : IsB p) (hN : (N : Int) = W * H) (x0 : 0 ≤ x) (x1 : x < W) (y0 : 0 ≤ y) (y1 : y < H)
    (hR : x < W - 1 → ∀ t, 0 ≤ t → t < H → R (t * W + (x + 1)) = gAt 1073741824 W H (cst p W) (fun x y => fb (y * W + x)) (x + 1) t) :
    Calls Try.prog 103 #[.int .i64 x, .int .i64 y, .pointer (some ⟨Bf, 0, none⟩), .pointer (some ⟨Bw, 0, none⟩), .pointer (some ⟨Bh, 0, none⟩), .pointer (some ⟨Br, 0, none⟩), .pointer (some ⟨Bi, 0, none⟩)] w
      fun e w' => e = .returned (.int .i64 (gAt 1073741824 W H (cst p W) (fun x y => fb (y * W + x)) x y)) ∧ Below w.heap.size w w' := by
  obtain ⟨hW1, hW2, hH1, hH2, -, -⟩ := chk_ok hE
  cases hf : fb (y * W + x)
  · by_cases hx : x < W - 1
    · rw [gAt_step x0 hx, if_neg (by simp [hf])]
      exact from_step W H x y Bf Bw Bh Br Bi gr N Fa A fc n c fb R p _ w k hE hB hN x0 hx y0 y1 hf (hR hx) (fun t a b => by
        have := gAt_bd (N := 1073741824) (W := W) (H := H) (F := fun x y => fb (y * W + x)) (cst_bd p W) (by omega) (x := x + 1) (by omega) (by omega) a b
        omega)
    · obtain rfl : x = W - 1 := by omega
      rw [gAt_last, if_neg (by simp [hf])]
      exact from_last W H (W - 1) y Bf Bw Bh Br Bi gr N Fa A fc n c fb R p w k hE hB hN x0 x1 hx y0 y1 hf
  · have e : gAt 1073741824 W H (cst p W) (fun x y => fb (y * W + x)) x y = 1073741824 := by
      by_cases hx : x < W - 1
      · rw [gAt_step x0 hx, if_pos hf]
      · obtain rfl : x = W - 1 := by omega
        rw [gAt_last, if_pos hf]
    rw [e]
    exact from_never W H x y Bf Bw Bh Br Bi gr N Fa A fc n c fb R p w k hE hN x0 x1 y0 y1 hf

/-- the table of least costs: the columns behind x are done, and the first y rows of column x -/
def restR (W : Int) (G : Int → Int → Int) (x y : Int) : Int → Int := fun i => if x < i % W ∨ (i % W = x ∧ i / W < y) then G (i % W) (i / W) else 0
theorem restR_start {W : Int} {G : Int → Int → Int} {i : Int} (hW : 0 < W) (h0 : 0 ≤ i) : restR W G (W - 1) 0 i = 0 := by
  have h1 : i % W < W := Int.emod_lt_of_pos _ hW
  have h2 : 0 ≤ i / W := Int.ediv_nonneg h0 (by omega)
  unfold restR; rw [if_neg (by omega)]
theorem restR_set {W : Int} {G : Int → Int → Int} {x y : Int} (hx0 : 0 ≤ x) (hx : x < W) (i : Int) : upd (restR W G x y) (y * W + x) (G x y) i = restR W G x (y + 1) i := by
  have a := idx_mod (y := y) hx0 hx
  have b := idx_div (y := y) hx0 hx
  show (if i = y * W + x then G x y else restR W G x y i) = _
  by_cases e : i = y * W + x
  · rw [if_pos e]; subst e
    unfold restR
    rw [a, b, if_pos (by omega)]
  · rw [if_neg e]
    unfold restR
    have : ¬ (i / W = y ∧ i % W = x) := fun ⟨h1, h2⟩ => e (by
      have := Int.emod_add_mul_ediv i W
      rw [h1, h2, Int.mul_comm] at this; omega)
    by_cases e2 : x < i % W ∨ (i % W = x ∧ i / W < y)
    · rw [if_pos e2, if_pos (by omega)]
    · rw [if_neg e2, if_neg (by omega)]
theorem restR_col {W H : Int} {G : Int → Int → Int} {x i : Int} (hW : 0 < W) (h0 : 0 ≤ i) (hi : i < W * H) : restR W G x H i = restR W G (x - 1) 0 i := by
  have h1 : i / W < H := Int.ediv_lt_of_lt_mul hW (by rw [Int.mul_comm]; exact hi)
  have h2 : 0 ≤ i / W := Int.ediv_nonneg h0 (by omega)
  unfold restR
  by_cases e : x < i % W ∨ (i % W = x ∧ i / W < H)
  · rw [if_pos e, if_pos (by omega)]
  · rw [if_neg e, if_neg (by omega)]
theorem restR_at {W : Int} {G : Int → Int → Int} {x y t u : Int} (hu0 : 0 ≤ u) (hu : u < W) (h : x < u) : restR W G x y (t * W + u) = G u t := by
  unfold restR
  rw [idx_mod hu0 hu, idx_div hu0 hu, if_pos (by omega)]
end Go.Proofs.Ytdimlpcbbkokiaa

/- Walks: copies of bytes and of images; two grey images compared; the reference's checks. -/
namespace Go.Proofs.Ytdimlpcbbkokiaa
open Go.RowKit
set_option linter.unusedVariables false

/-- a slice over fresh memory, or none -/
def OutSl (w w' : World) (n : Nat) (q : Int → Int) (v : Value) : Prop := ∃ A c, v = .slice A n c ∧ n ≤ c ∧ (A = none → c = 0) ∧ (∀ a, A = some a → w.heap.size ≤ a.block) ∧ ArrB w' w'.heap.size A n q
theorem own_out {w w' : World} {n : Nat} {e : TypeId} {v : Value} {q : Int → Int} {xs : List Value} (h : w'.ownsRow w.heap.size e 1 v n xs) (hx : xs = (List.range n).map (fun (j : Nat) => Value.int .u8 (q j))) : OutSl w w' n q v := by
  have hn : ∀ A c, v = .slice A n c → A = none → c = 0 := by
    rintro A c rfl rfl
    rcases h.2 with ⟨h, _⟩ | ⟨g, cap, cur, h, _⟩
    · simp at h; exact h.2
    · simp at h
  obtain ⟨A, c, rfl, hc, ha⟩ := own_arr h
  refine ⟨A, c, rfl, hc, hn A c rfl, fun a e => (own_ge h (k := a.block) (by subst e; simp [Value.ownBlock])).1, Arr.congr ha fun i h0 hi => ?_⟩
  subst hx
  simp only [List.getD_eq_getElem?_getD, List.getElem?_map]
  rw [List.getElem?_eq_getElem (by simp; omega)]
  simp [Int.toNat_of_nonneg h0]

set_option maxRecDepth 100000 in
set_option maxHeartbeats 400000 in
theorem copyBytes_any (A : Option Addr) (n c : Nat) (p : Int → Int) (w : World) (hA : ArrB w w.heap.size A n p) (hc : A = none → c = 0) (hn : n ≤ 140737488355328) :
    Calls Try.prog 57 #[.slice A n c] w (New w fun v w' => OutSl w w' n p v) := by
  obtain ⟨i0, hi0, hz0, hz1, hz2⟩ := info_parts infoU8
  have hnil := World.ownsRow_nil w w.heap.size 5 1
  cases A with
  | none =>
    have hn0 : n = 0 := by
      rcases Nat.eq_zero_or_pos n with h | h
      · exact h
      · obtain ⟨b, off, e, _⟩ := hA h; cases e
    subst hn0
    obtain rfl := hc rfl
    go_enter Try.func57, Try.ntmps57
    go_wp2_with (at_builtin; refine wpList_append_own_none rfl (.tmp 4) (.tmp 5) 22 rfl w.heap.size 5 i0 1 Try.underlying22 hi0 _ 0 [] rfl hnil rfl ?_)
    go_ret
    exact ⟨_, rfl, own_out hnil (by simp), Below.refl _ _⟩
  | some ad =>
    go_enter Try.func57, Try.ntmps57
    go_wp2_with (at_builtin; refine wpList_append_own _ rfl (.tmp 4) (.tmp 5) 22 rfl w.heap.size 5 i0 (.int .u8 0) 1 1 Try.underlying22 hi0 hz0 hz1 hz2 rfl (by decide) _ 0 [] rfl hnil ad n c ((List.range n).map (fun (j : Nat) => Value.int .u8 (p j))) rfl (by simp) ?c1 ?c2 ?c3 ?c4 (Nat.le_refl _) ?_)
    case c1 =>
      intro j u hj
      have hjn : j < n := by
        rcases Nat.lt_or_ge j n with h | h
        · exact h
        · rw [List.getElem?_eq_none (by simpa using h)] at hj; cases hj
      obtain ⟨b, off, e, _, hcell⟩ := hA (by omega)
      injection e with e; subst e
      have := hcell j (by omega) (by omega)
      simp [hjn] at hj
      subst hj
      rw [Int.toNat_natCast] at this
      unfold Addr.add
      split
      · rename_i e; subst e; exact this
      · exact this
    case c2 => intro u hu; simp at hu; obtain ⟨j, _, rfl⟩ := hu; rfl
    case c3 => unfold maxLen; omega
    case c4 => omega
    intro v' w1 hown' hg _
    go_wp2
    go_ret
    refine ⟨_, rfl, ?_, (Below.refl _ _).grown hg (Nat.le_refl _) (fun k hk => by simp [Value.ownBlock] at hk)⟩
    try rw [Nat.zero_add, List.nil_append] at hown'
    exact own_out hown' rfl

theorem ArrB.far {w : World} {B n : Nat} {A : Option Addr} {q : Int → Int} (h : ArrB w B A n q) {p : Addr} (hp : ∀ a, A = some a → a.block ≠ p.block) (u : Value) : ArrB (w.setCell p u) B A n q := fun hn => by
  obtain ⟨b, off, e, hb, hc⟩ := h hn
  exact ⟨b, off, e, hb, fun i h0 hi => (World.cell?_of_block (heap_setCell_other w p b u (hp _ e))).trans (hc i h0 hi)⟩
theorem ArrB.drew {w : World} {B n : Nat} {A : Option Addr} {q : Int → Int} (h : ArrB w B A n q) : ArrB w.drew B A n q := h
/-- an image over a fresh slice, or none -/
def OutCopy (w w' : World) (W H : Int) (n : Nat) (q : Int → Int) (v : Value) : Prop := ∃ s, v = .agg #[.int .i64 W, .int .i64 H, s] ∧ OutSl w w' n q s

set_option maxHeartbeats 1000000 in
theorem copyInk_any (W H : Int) (A : Option Addr) (n c : Nat) (p : Int → Int) (w : World) (hA : ArrB w w.heap.size A n p) (hc : A = none → c = 0) (hn : n ≤ 140737488355328) :
    Calls Try.prog 14 #[.agg #[.int .i64 W, .int .i64 H, .slice A n c]] w (New w fun v w' => OutCopy w w' W H n p v) := by
  have CB := Lib.hid fun w' hA' => copyBytes_any A n c p w' hA' hc hn
  clear hc
  go_enter Try.func14, Try.ntmps14
  go_wp2_with fail
  have k1 := (Blk.new w 24 #[.int .i64 W, .int .i64 H, .slice A n c]).alloc (.cells #[.int .i64 0, .int .i64 0, .slice none 0 0] 24)
  have k2 := Blk.new' (w := w.alloc (.cells #[.int .i64 W, .int .i64 H, .slice A n c] 24)) (World.size_alloc _ _) 24 #[.int .i64 0, .int .i64 0, .slice none 0 0]
  have b1 : Below w.heap.size w ((w.alloc (.cells #[.int .i64 W, .int .i64 H, .slice A n c] 24)).alloc (.cells #[.int .i64 0, .int .i64 0, .slice none 0 0] 24)) := by (repeat (first | exact Below.refl _ _ | assumption | refine Below.drew ?_ | refine below_drewN ?_ _ | refine Below.alloc ?_ (by first | omega | (simp; done) | (simp; omega)) _ | refine Below.setCell ?_ (by first | omega | (simp; done) | (simp; omega)) _ | refine below_setRow ?_ (by first | omega | (simp; done) | (simp; omega)) _ ))
  have hA1 := hA.to b1
  generalize (w.alloc (.cells #[.int .i64 W, .int .i64 H, .slice A n c] 24)).alloc (.cells #[.int .i64 0, .int .i64 0, .slice none 0 0] 24) = w1 at *
  clear hA
  have K1 := Lib.hid k1; have K2 := Lib.hid k2; have B1 := Lib.hid b1; have A1 := Lib.hid hA1
  obtain ⟨p1, p2, p3⟩ := k1.cells3
  obtain ⟨r1, r2, r3⟩ := k2.cells3
  obtain ⟨f1, f2, f3⟩ := k2.frozen3
  clear k1 k2 b1 hA1
  go_region_held3 (fun w' => w'.cell? ⟨w.heap.size, 0, none⟩ = some (.int .i64 W) ∧ w'.cell? ⟨w.heap.size, 1, none⟩ = some (.int .i64 H) ∧ w'.cell? ⟨w.heap.size, 2, none⟩ = some (.slice A n c))
    (simp [go_sem, *])
    (first
      | (go_at_call 57; refine (CB.out _ A1.out.drew).mono ?_; rintro e w2 ⟨_, rfl, ⟨A', c', rfl, hc', hnil', hge', ha'⟩, hb2⟩
         have k3 := K1.out.drew.below' hb2; have k4 := K2.out.drew.below' hb2
         obtain ⟨x1, x2, x3⟩ := k3.cells3; obtain ⟨y1, y2, y3⟩ := k4.cells3; obtain ⟨z1, z2, z3⟩ := k4.frozen3
         have b2 : Below w.heap.size w w2 := B1.out.drew.trans (hb2.mono B1.out.size)
         have z2 := K2.out.lt))
  go_wp2
  refine bodyPost_ret (v := .agg #[.int .i64 W, .int .i64 H, .slice A' n c']) (by simp [results, Try.results14, go_sem, y1, y2, y3]) rfl ?_
  have hfar : ∀ i, ∀ a, A' = some a → a.block ≠ (⟨w.heap.size + 1, i, none⟩ : Addr).block := fun i a e h => by
    have := hge' a e
    simp at h this
    omega
  refine ⟨_, rfl, ⟨_, rfl, A', c', rfl, hc', hnil', fun a e => ?_, ?_⟩, by (repeat (first | exact Below.refl _ _ | assumption | refine Below.drew ?_ | refine below_drewN ?_ _ | refine Below.alloc ?_ (by first | omega | (simp; done) | (simp; omega)) _ | refine Below.setCell ?_ (by first | omega | (simp; done) | (simp; omega)) _ | refine below_setRow ?_ (by first | omega | (simp; done) | (simp; omega)) _ ))⟩
  · have := hge' a e; have := B1.out.size; simp at *; omega
  · simpa using ((ha'.far (hfar 0) _).far (hfar 1) _).far (hfar 2) _
end Go.Proofs.Ytdimlpcbbkokiaa

/- A function that leaves with several marks of ranges over functions among its deferred calls. No program in sight. -/
namespace Go.Proofs.Ytdimlpcbbkokiaa
open Go.RowKit
set_option linter.unusedVariables false

/-- the marks of these blocks -/
def marks (Ds : List Nat) : List Deferred := Ds.map fun D => { target := .collected D, args := #[] }
/-- blocks that hold no deferred calls -/
def Held (w : World) (Ds : List Nat) : Prop := Ds.Nodup ∧ ∀ D ∈ Ds, w.heap[D]? = some (.deferred (some []))
theorem Held.nil (w : World) : Held w [] := ⟨List.nodup_nil, fun _ h => by simp at h⟩
theorem Held.cons {w : World} {Ds : List Nat} {D : Nat} (h : Held w Ds) (hD : w.heap[D]? = some (.deferred (some []))) (hn : D ∉ Ds) : Held w (D :: Ds) :=
  ⟨List.nodup_cons.2 ⟨hn, h.1⟩, fun E hE => by rcases List.mem_cons.1 hE with rfl | hE <;> first | exact hD | exact h.2 E hE⟩
theorem Held.keep {w w' : World} {Ds : List Nat} (h : Held w Ds) (k : ∀ D : Nat, w.heap[D]? = some (Obj.deferred (some [])) → w'.heap[D]? = some (Obj.deferred (some []))) : Held w' Ds := ⟨h.1, fun D hD => k D (h.2 D hD)⟩
theorem leavesM_marks {P : Program} {F : Fence} {n : Nat} {fn : Func} {tmps : Array Value} {R : Ending → World → Prop} {B : Nat} (Ds : List Nat) (w : World) (h : Held w Ds) (hB : ∀ D ∈ Ds, B ≤ D)
    (hend : ∀ w', Below B w w' → (∀ k, k < w.heap.size → k ∉ Ds → w'.heap[k]? = w.heap[k]?) → LeavesIn F n P fn tmps R [] .returning w') : LeavesInM F n P fn tmps R (marks Ds) .returning w := by
  induction Ds generalizing w with
  | nil => exact hend w (Below.refl _ _) fun _ _ _ => rfl
  | cons D Ds ih =>
    have hD := h.2 D (List.mem_cons_self ..)
    have hl := (Array.getElem?_eq_some_iff.1 hD).1
    have hg := grownBy_putObj' w D (.deferred none)
    have hb : Below B w (w.putObj D (.deferred none)) := (Below.refl B w).grown hg (by have := hB D (List.mem_cons_self ..); omega) (fun k e => by cases e; exact hB D (List.mem_cons_self ..))
    refine ⟨by simp, .inl ⟨D, _, rfl, run_takeDeferred hD, ?_⟩⟩
    refine ih _ ⟨(List.nodup_cons.1 h.1).2, fun E hE => ?_⟩ (fun E hE => hB E (List.mem_cons_of_mem _ hE)) (fun w' hw hk => hend w' (hb.trans hw) fun k h1 h2 => ?_)
    · have hne : E ≠ D := fun e => (List.nodup_cons.1 h.1).1 (e ▸ hE)
      have hE' := h.2 E (List.mem_cons_of_mem _ hE)
      rw [← hE']
      exact hg.block E ((Array.getElem?_eq_some_iff.1 hE').1) (by intro e; cases e; exact hne rfl)
    · refine (hk k (Nat.lt_of_lt_of_le h1 hg.size) fun hm => h2 (List.mem_cons_of_mem _ hm)).trans (hg.block k h1 ?_)
      intro e; cases e; exact h2 (List.mem_cons_self ..)
end Go.Proofs.Ytdimlpcbbkokiaa

/- Plain: the row in which the path goes on, as the first of a list that meets a test; worlds that differ in one block. No program in sight. -/
namespace Go.Proofs.Ytdimlpcbbkokiaa
open Go.RowKit
set_option linter.unusedVariables false

theorem nbT_find (f : Int → Bool) (a : Int) (n : Nat) : (nbT a n).find? f = if 0 ≤ idxF (fun i => f (nxLo a + i)) n then some (nxLo a + idxF (fun i => f (nxLo a + i)) n) else none := by
  induction n with
  | zero => simp [nbT, idxF]
  | succ n ih =>
    rw [nbT_snoc, List.find?_append, ih, idxF]
    by_cases h : 0 ≤ idxF (fun i => f (nxLo a + i)) n
    · rw [if_pos h, if_pos h, if_pos h]; rfl
    · rw [if_neg h, if_neg h]
      cases h2 : f (nxLo a + (n : Int)) with
      | true => simp [h2]
      | false => simp [h2]
theorem nxt_find (N W H : Int) (c : Int → Int → Int) (F : Int → Int → Bool) (x a : Int) :
    nxt N W H c F x a = ((nbT a (nxN H a)).find? (fun t => decide (goTo (gAt N W H c F (x + 1)) a t = gAt N W H c F x a - c x a))).getD a := by
  rw [nbT_find]
  unfold nxt
  split <;> rfl
theorem find_none {f : Int → Bool} {h : Int} {l : List (RowIn h)} {m : List Int} (e : l.map Subtype.val = m) (hf : ∀ t ∈ l, f t.1 = false) (a : Int) : (m.find? f).getD a = a := by
  have : m.find? f = none := List.find?_eq_none.2 fun t ht => by
    rw [← e] at ht
    obtain ⟨s, hs, rfl⟩ := List.mem_map.1 ht
    simp [hf s hs]
  rw [this]; rfl
theorem nbT_add (a : Int) (j k : Nat) : ∃ r, nbT a (j + k) = nbT a j ++ r := by
  induction k with
  | zero => exact ⟨[], by simp⟩
  | succ k ih => obtain ⟨r, hr⟩ := ih; exact ⟨r ++ [nxLo a + (j + k : Nat)], by rw [← Nat.add_assoc, nbT_snoc, hr, List.append_assoc]⟩
theorem find_some {f : Int → Bool} {h a : Int} {n : Nat} {l p : List (RowIn h)} {t : RowIn h} (hj : ∃ j, j ≤ n ∧ l.map Subtype.val = nbT a j) (e : l = p ++ [t]) (hf : ∀ s ∈ p, f s.1 = false) (ht : f t.1 = true) (b : Int) : ((nbT a n).find? f).getD b = t.1 := by
  obtain ⟨j, hj, hl⟩ := hj
  obtain ⟨r, hr⟩ := nbT_add a j (n - j)
  rw [show j + (n - j) = n by omega] at hr
  rw [hr, ← hl, e, List.map_append, List.append_assoc, List.find?_append]
  have : (p.map Subtype.val).find? f = none := List.find?_eq_none.2 fun t ht => by
    obtain ⟨s, hs, rfl⟩ := List.mem_map.1 ht
    simp [hf s hs]
  rw [this]
  simp [ht]

/-- the blocks below B, but for block k, are as they were -/
structure But (B k : Nat) (w w' : World) : Prop where
  os : w'.os = w.os
  tape : w'.tape = w.tape
  output : w'.output = w.output
  size : B ≤ w'.heap.size
  block : ∀ j, j < B → j ≠ k → w'.heap[j]? = w.heap[j]?
theorem But.refl {B : Nat} {w : World} (k : Nat) (h : B ≤ w.heap.size) : But B k w w := ⟨rfl, rfl, rfl, h, fun _ _ _ => rfl⟩
theorem But.then {B k : Nat} {w w' w'' : World} (h : But B k w w') (hb : Below B w' w'') : But B k w w'' :=
  ⟨hb.os.trans h.os, hb.tape.trans h.tape, hb.output.trans h.output, Nat.le_trans h.size hb.size, fun j hj hk => (hb.block j hj).trans (h.block j hj hk)⟩
theorem But.set {B k : Nat} {w w' : World} (h : But B k w w') (o : Nat) (u : Value) : But B k w (w'.setCell ⟨k, o, none⟩ u) := by
  have hb := Below.setCell (Below.refl k w') (show k ≤ (⟨k, o, none⟩ : Addr).block from Nat.le_refl _) u
  refine ⟨hb.os.trans h.os, hb.tape.trans h.tape, hb.output.trans h.output, by simpa using h.size, fun j hj hk => ?_⟩
  rw [heap_setCell_other w' ⟨k, o, none⟩ j u hk]
  exact h.block j hj hk
theorem But.to {B k m : Nat} {w w' : World} (h : But B k w w') (hs : w.heap.size = B) (hk : m ≤ k) (hB : m ≤ B) : Below m w w' := ⟨h.os, h.tape, h.output, hs ▸ h.size, fun j hj => h.block j (by omega) (by omega)⟩
theorem Blk.but {B k : Nat} {w w' : World} {g t : Nat} {cs : Array Value} (h : Blk w g t cs) (hb : But B k w w') (hg : g < B) (hn : g ≠ k) : Blk w' g t cs := h.move (hb.block g hg hn)
theorem Held.but {B k : Nat} {w w' : World} {Ds : List Nat} (h : Held w Ds) (hb : But B k w w') (hB : w.heap.size = B) (hk : ∃ t cs, Blk w k t cs) : Held w' Ds := h.keep fun D hD => by
  have hl := (Array.getElem?_eq_some_iff.1 hD).1
  refine (hb.block D (by omega) fun e => ?_).trans hD
  obtain ⟨t, cs, hc⟩ := hk
  rw [e, hc] at hD; cases hD
theorem Held.below {w w' : World} {Ds : List Nat} (h : Held w Ds) (hb : Below w.heap.size w w') : Held w' Ds := h.keep fun D hD => (hb.block D (Array.getElem?_eq_some_iff.1 hD).1).trans hD
theorem own_cells {w : World} {base : Nat} {e : TypeId} {size n k : Nat} {v : Value} {xs : List Value} (h : w.ownsRow base e size v n xs) (hk : v.ownBlock = some k) : ∃ cs, w.heap[k]? = some (.cells cs e (0, 0)) := by
  rcases h.2 with ⟨rfl, _⟩ | ⟨g, cap, cur, rfl, hb, hh, _⟩
  · simp [Value.ownBlock] at hk
  · simp [Value.ownBlock] at hk
    subst hk
    exact ⟨_, hh⟩
theorem own_but {w w' : World} {base n B k : Nat} {e : TypeId} {v : Value} {xs : List Value} (h : w.ownsRow base e 1 v n xs) (hb : But B k w w') (hB : w.heap.size = B) (hk : k < base) : w'.ownsRow base e 1 v n xs := by
  refine ⟨h.1, ?_⟩
  rcases h.2 with h2 | ⟨g, cap, cur, hv, hg, hh, r⟩
  · exact .inl h2
  · exact .inr ⟨g, cap, cur, hv, hg, (hb.block g (by rw [← hB]; exact (Array.getElem?_eq_some_iff.1 hh).1) (by omega)).trans hh, r⟩
theorem own_held {w w' : World} {base n : Nat} {e : TypeId} {v : Value} {xs : List Value} {Ds : List Nat} (h : w.ownsRow base e 1 v n xs) (hd : Held w Ds) (hk : ∀ k, k < w.heap.size → k ∉ Ds → w'.heap[k]? = w.heap[k]?) : w'.ownsRow base e 1 v n xs := by
  refine ⟨h.1, ?_⟩
  rcases h.2 with h2 | ⟨g, cap, cur, hv, hg, hh, r⟩
  · exact .inl h2
  · refine .inr ⟨g, cap, cur, hv, hg, (hk g (Array.getElem?_eq_some_iff.1 hh).1 fun hm => ?_).trans hh, r⟩
    have := hd.2 g hm
    rw [hh] at this; cases this
theorem own_one {w : World} {base g : Nat} {e : TypeId} {u : Value} (h : Blk w g e #[u]) (hb : base ≤ g) : w.ownsRow base e 1 (.slice (some ⟨g, 0, none⟩) 1 1) 1 [u] :=
  ⟨rfl, .inr ⟨g, 1, #[u], rfl, hb, h, Nat.le_refl _, by unfold maxLen; omega, rfl, rfl⟩⟩
theorem Held.grown {w w' : World} {Ds : List Nat} {base : Nat} {e : TypeId} {n : Nat} {v : Value} {xs : List Value} (h : Held w Ds) (ho : w.ownsRow base e 1 v n xs) (hg : w.grownBy w' v.ownBlock) : Held w' Ds := h.keep fun D hD => by
  refine (hg.block D (Array.getElem?_eq_some_iff.1 hD).1 fun e => ?_).trans hD
  obtain ⟨cs, hc⟩ := own_cells ho e.symm
  rw [hc] at hD; cases hD
theorem Held.lt {w : World} {Ds : List Nat} (h : Held w Ds) {D : Nat} (hD : D ∈ Ds) : D < w.heap.size := (Array.getElem?_eq_some_iff.1 (h.2 D hD)).1
theorem range_snoc {α : Type} (f : Nat → α) (n : Nat) : (List.range (n + 1)).map f = (List.range n).map f ++ [f n] := by rw [List.range_succ, List.map_append]; rfl
theorem own_base {w : World} {base base' n : Nat} {e : TypeId} {v : Value} {xs : List Value} (h : w.ownsRow base e 1 v n xs) (hb : base' ≤ base) : w.ownsRow base' e 1 v n xs := by
  refine ⟨h.1, ?_⟩
  rcases h.2 with h2 | ⟨g, cap, cur, hv, hg, r⟩
  · exact .inl h2
  · exact .inr ⟨g, cap, cur, hv, Nat.le_trans hb hg, r⟩
/-- rows of different types lie apart -/
theorem own_apart {w : World} {base base' n n' k : Nat} {e e' : TypeId} {v v' : Value} {xs xs' : List Value} (h : w.ownsRow base e 1 v n xs) (h' : w.ownsRow base' e' 1 v' n' xs') (hne : e ≠ e') (hk : v.ownBlock = some k) : v'.ownBlock ≠ some k := fun hk' => by
  obtain ⟨cs, hc⟩ := own_cells h hk
  obtain ⟨cs', hc'⟩ := own_cells h' hk'
  rw [hc] at hc'; cases hc'; exact hne rfl
theorem own_move {w w' : World} {base n : Nat} {e : TypeId} {v : Value} {xs : List Value} (h : w.ownsRow base e 1 v n xs) (hk : ∀ k, v.ownBlock = some k → w'.heap[k]? = w.heap[k]?) : w'.ownsRow base e 1 v n xs := by
  refine ⟨h.1, ?_⟩
  rcases h.2 with h2 | ⟨g, cap, cur, hv, hg, hh, r⟩
  · exact .inl h2
  · exact .inr ⟨g, cap, cur, hv, hg, (hk g (by rw [hv]; rfl)).trans hh, r⟩
theorem own_grown {w w' : World} {base base' n n' : Nat} {e e' : TypeId} {v v' : Value} {xs xs' : List Value} (h : w.ownsRow base e 1 v n xs) (h' : w.ownsRow base' e' 1 v' n' xs') (hne : e ≠ e') (hg : w.grownBy w' v'.ownBlock) : w'.ownsRow base e 1 v n xs :=
  own_move h fun k hk => hg.block k (own_ge h hk).2 fun e => own_apart h h' hne hk e.symm
theorem own_far {w : World} {base n g t : Nat} {e : TypeId} {v : Value} {xs : List Value} {cs : Array Value} (h : w.ownsRow base e 1 v n xs) (hb : Blk w g t cs) (hne : e ≠ t) (o : Nat) (u : Value) : (w.setCell ⟨g, o, none⟩ u).ownsRow base e 1 v n xs :=
  own_move h fun k hk => heap_setCell_other w ⟨g, o, none⟩ k u fun e => by
    obtain ⟨cs', hc⟩ := own_cells h hk
    have e : k = g := e
    subst e
    rw [hb] at hc; cases hc; exact hne rfl
theorem own_neB {w : World} {base n g t : Nat} {e : TypeId} {v : Value} {xs : List Value} {cs : Array Value} (h : w.ownsRow base e 1 v n xs) (hb : Blk w g t cs) (hne : t ≠ e) : some g ≠ v.ownBlock := fun hk => by
  obtain ⟨cs', hc⟩ := own_cells h hk.symm
  rw [hb] at hc; cases hc; exact hne rfl
/-- how long a slice is -/
def lenV : Value → Nat
  | .slice _ n _ => n
  | _ => 0
theorem own_len {w : World} {base n : Nat} {e : TypeId} {v : Value} {xs : List Value} (h : w.ownsRow base e 1 v n xs) : lenV v = n := by
  obtain ⟨A, c, rfl, _⟩ := own_arr h
  rfl
end Go.Proofs.Ytdimlpcbbkokiaa
