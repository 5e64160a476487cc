/- Walks: the reference's paths and their costs; costs with their errors. -/
import Derived.Test.YtdimlpcbbkokiaaT1
namespace Go.Proofs.Ytdimlpcbbkokiaa
open Go.RowKit
set_option linter.unusedVariables false

theorem inkB_in {W H : Int} {p : Int → Int} {x y : Int} (h1 : 0 ≤ x) (h2 : x < W) (h3 : 0 ≤ y) (h4 : y < H) : inkB W H p x y = decide (p (y * W + x) = 1) := by
  unfold inkB; simp [h1, h2, h3, h4]
set_option maxHeartbeats 1000000 in
theorem pixel_any (W H : Int) (A : Option Addr) (n c : Nat) (p : Int → Int) (x y : Int) (w : World) (hA : ArrB w w.heap.size A n p) (hE : chk W H n p = 0) (x0 : 0 ≤ x) (x1 : x < W) (y0 : 0 ≤ y) (y1 : y < H) :
    Calls Try.prog 102 #[.agg #[.int .i64 W, .int .i64 H, .slice A n c], .int .i64 x, .int .i64 y] w fun e w' => e = .returned (.int .i64 (cst p W x y)) ∧ Below w.heap.size w w' := by
  obtain ⟨hW1, hW2, hH1, hH2, hnn, -⟩ := chk_ok hE
  have IK := Lib.hid fun w' hA' => rink_any W H A n c p x y w' hA' hW2 hH2 hnn
  rw [inkB_in x0 x1 y0 y1] at IK
  clear hE hnn
  by_cases e : p (y * W + x) = 1
  · have hr : cst p W x y = 0 := by unfold cst; rw [if_pos e]
    rw [hr]
    rw [decide_eq_true e] at IK
    clear hr e
    go_enter Try.func102, Try.ntmps102
    go_wp2_with fail
    refine (IK.out _ (hA.to (by (repeat (first | exact Below.refl _ _ | assumption | refine Below.drew ?_ | refine below_drewN ?_ _ | refine Below.alloc ?_ (by first | omega | (simp; done) | (simp; omega)) _ | refine Below.setCell ?_ (by first | omega | (simp; done) | (simp; omega)) _ | refine below_setRow ?_ (by first | omega | (simp; done) | (simp; omega)) _ ))))).mono ?_
    rintro e w1 ⟨rfl, hb1⟩
    have b1 : Below w.heap.size w w1 := below_call (by (repeat (first | exact Below.refl _ _ | assumption | refine Below.drew ?_ | refine below_drewN ?_ _ | refine Below.alloc ?_ (by first | omega | (simp; done) | (simp; omega)) _ | refine Below.setCell ?_ (by first | omega | (simp; done) | (simp; omega)) _ | refine below_setRow ?_ (by first | omega | (simp; done) | (simp; omega)) _ ))) (by simp; try omega) hb1
    go_wp2
    go_ret
    exact ⟨rfl, b1⟩
  · have hr : cst p W x y = 2 := by unfold cst; rw [if_neg e]
    rw [hr]
    rw [decide_eq_false e] at IK
    clear hr e
    go_enter Try.func102, Try.ntmps102
    go_wp2_with fail
    refine (IK.out _ (hA.to (by (repeat (first | exact Below.refl _ _ | assumption | refine Below.drew ?_ | refine below_drewN ?_ _ | refine Below.alloc ?_ (by first | omega | (simp; done) | (simp; omega)) _ | refine Below.setCell ?_ (by first | omega | (simp; done) | (simp; omega)) _ | refine below_setRow ?_ (by first | omega | (simp; done) | (simp; omega)) _ ))))).mono ?_
    rintro e w1 ⟨rfl, hb1⟩
    have b1 : Below w.heap.size w w1 := below_call (by (repeat (first | exact Below.refl _ _ | assumption | refine Below.drew ?_ | refine below_drewN ?_ _ | refine Below.alloc ?_ (by first | omega | (simp; done) | (simp; omega)) _ | refine Below.setCell ?_ (by first | omega | (simp; done) | (simp; omega)) _ | refine below_setRow ?_ (by first | omega | (simp; done) | (simp; omega)) _ ))) (by simp; try omega) hb1
    go_wp2
    go_ret
    exact ⟨rfl, b1⟩

set_option maxHeartbeats 2000000 in
theorem rcostOf_any (W H : Int) (A P : Option Addr) (n c m d : Nat) (p q : Int → Int) (w : World) (hA : ArrB w w.heap.size A n p) (hP : ArrI w w.heap.size P m q) (hE : chk W H n p = 0) (hI : isPathB W H m q = true) :
    Calls Try.prog 62 #[.agg #[.int .i64 W, .int .i64 H, .slice A n c], .slice P m d] w fun e w' => e = .returned (.int .i64 (costP (cst p W) q m)) ∧ Below w.heap.size w w' := by
  obtain ⟨⟨g1, g2, g3⟩, g4⟩ := isPathB_iff.1 hI
  obtain ⟨hW1, hW2, hH1, hH2, hnn, hpx⟩ := chk_ok hE
  have PA := Lib.hid fun x y w' hA' x0 x1 y0 y1 => pixel_any W H A n c p x y w' hA' hE x0 x1 y0 y1
  have G4 := Lib.hid g4; clear g4
  have G3 := Lib.hid g3; clear g3
  have CB := Lib.hid fun x => costP_bd (cst_bd p W) q x
  have CS : Hid (∀ x : Nat, costP (cst p W) q (x + 1) = costP (cst p W) q x + cst p W x (q x) + if 0 < x ∧ q x ≠ q ((x : Int) - 1) then 1 else 0) := by
    show ∀ _, _
    intro x; rfl
  have KB := Lib.hid (cst_bd p W)
  clear hE hI hnn hpx
  go_enter Try.func62, Try.ntmps62
  go_wp2_with fail
  go_loopw [5, 6] (fun v s wr => ∃ i : Nat, i ≤ m ∧ s = .int .i64 i ∧ v = .int .i64 (costP (cst p W) q i) ∧ Below w.heap.size w wr ∧ Blk wr w.heap.size 24 #[.int .i64 W, .int .i64 H, .slice A n c]) (fun _ s _ => m - (intOf s).toNat)
  case atStart => exact ⟨0, by omega, rfl, rfl, by (repeat (first | exact Below.refl _ _ | assumption | refine Below.drew ?_ | refine below_drewN ?_ _ | refine Below.alloc ?_ (by first | omega | (simp; done) | (simp; omega)) _ | refine Below.setCell ?_ (by first | omega | (simp; done) | (simp; omega)) _ | refine below_setRow ?_ (by first | omega | (simp; done) | (simp; omega)) _ )), Blk.new _ _ _⟩
  case round =>
    obtain ⟨i, hi, rfl, rfl, b3, k3⟩ := hrel
    obtain ⟨p1, p2, p3⟩ := k3.cells3
    obtain ⟨cb1, cb2⟩ := CB.out i
    by_cases hlt : i < m
    · have hmW : (m : Int) ≤ 640 := by have := G3.out; omega
      have hin : (i : Int) < (m : Int) := by omega
      have hi0 : (0 : Int) ≤ (i : Int) := by omega
      obtain ⟨s1, s2, s3⟩ := stepB_iff.1 (G4.out i hi0 hin)
      have hP3 := ArrI.below hP b3
      have PX := Lib.hid fun w' hA' => PA.out i (q i) w' hA' hi0 (by have := G3.out; omega) s1 s2
      obtain ⟨kb1, kb2⟩ := KB.out i (q i)
      have CSi := Lib.hid (CS.out i)
      obtain ⟨bP, off, rfl, hbP, hcell⟩ := hP3.fn (by omega)
      have c1 := hcell i hi0 hin
      rw [Int.toNat_natCast] at c1
      have HC := Lib.hid hcell; clear hcell s3
      generalize cst p W i (q i) = ci at *
      generalize costP (cst p W) q i = S at *
      have v1 : IntKind.i64.wrap (S + ci) = S + ci := IntWalk.i64_in _ (by omega)
      have B3 := Lib.hid b3; have K3 := Lib.hid k3
      go_wp2_with fail
      go_region_held3 (fun w' => w'.cell? ⟨w.heap.size, 0, none⟩ = some (.int .i64 W) ∧ w'.cell? ⟨w.heap.size, 1, none⟩ = some (.int .i64 H) ∧ w'.cell? ⟨w.heap.size, 2, none⟩ = some (.slice A n c) ∧ w'.cell? ⟨bP, off + i, none⟩ = some (.int .i64 (q i)))
        (simp [go_sem, *])
        ((go_at_call 102
          refine (PX.out _ ((ArrB.below hA B3.out.drew).more B3.out.drew.size)).mono ?_
          rintro e w4 ⟨rfl, hb4⟩
          have b4 := below_call B3.out.drew B3.out.drew.size hb4
          have k4 := K3.out.drew.below' hb4
          obtain ⟨x1, x2, x3⟩ := k4.cells3
          have c3 : w4.cell? ⟨bP, off + i, none⟩ = some (.int .i64 (q i)) := (hb4.cell (p := ⟨bP, off + i, none⟩) (by show bP < _; have := B3.out.drew.size; omega)).trans c1))
      clear v1 c1 p1 p2 p3 b3 k3
      by_cases hz : (i : Int) ≤ 0
      · have hz' : ¬ (0 < i ∧ q i ≠ q ((i : Int) - 1)) := by omega
        rw [if_neg hz'] at CSi
        clear hz'
        have hd : decide (0 < (i : Int)) = false := by simp; omega
        have hdn : decide (0 < i) = false := by simp; omega
        go_wp2_with fail
        go_quiet (fail)
        go_wp2
        go_roundw
        case rel => exact ⟨i + 1, by omega, by go_num, (by rw [CSi.out] <;> first | done | go_num), below_drewN b4 _, k4.drewN _⟩
        case measure => simp [intOf]; omega
      · have c2 := HC.out ((i : Int) - 1) (by omega) (by omega)
        rw [show ((i : Int) - 1).toNat = i - 1 by omega] at c2
        have c4 := (hb4.cell (p := ⟨bP, off + (i - 1), none⟩) (by show bP < _; have := B3.out.drew.size; omega)).trans c2
        have c5 : w4.cell? ⟨bP, off + (i - 1), none⟩ = some (.int .i64 (q ((i : Int) - 1))) := c4
        clear c2 c4
        have hd : decide (0 < (i : Int)) = true := by simp; omega
        have hdn : decide (0 < i) = true := by simp; omega
        have hdp : 0 < i := by omega
        have v2 : IntKind.i64.wrap ((i : Int) - 1) = (i : Int) - 1 := IntWalk.i64_in _ (by omega)
        have d1 : (0 : Int) ≤ (i : Int) - 1 := by omega
        have d2 : (i : Int) - 1 < (m : Int) := by omega
        have d3 : ((i : Int) - 1).toNat = i - 1 := by omega
        by_cases he : q i = q ((i : Int) - 1)
        · rw [if_neg (by simp [he])] at CSi
          have hbb : (q i != q ((i : Int) - 1)) = false := by simp [he]
          have HE := Lib.hid he; clear he
          go_wp2_with fail
          go_quiet (fail)
          clear v2 d3 hd hdn
          go_wp2
          go_roundw
          case rel => exact ⟨i + 1, by omega, by go_num, (by rw [CSi.out] <;> first | done | go_num), below_drewN b4 _, k4.drewN _⟩
          case measure => simp [intOf]; omega
        · rw [if_pos ⟨by omega, he⟩] at CSi
          have hbb : (q i != q ((i : Int) - 1)) = true := by simp [he]
          have HE := Lib.hid he; clear he
          go_wp2_with fail
          go_quiet (fail)
          clear v2 d3 hd hdn
          go_wp2
          go_roundw
          case rel => exact ⟨i + 1, by omega, by go_num, (by rw [CSi.out] <;> first | done | go_num), below_drewN b4 _, k4.drewN _⟩
          case measure => simp [intOf]; omega
    · obtain rfl : i = m := by omega
      go_wp2
      go_ret
      exact ⟨rfl, b3⟩
set_option maxHeartbeats 2000000 in
theorem risPath_any (W H : Int) (A P : Option Addr) (n c m d : Nat) (q : Int → Int) (w : World) (hW0 : 0 ≤ W) (hH0 : 0 ≤ H) (hW : W ≤ 640) (hH : H ≤ 640) (hP : ArrI w w.heap.size P m q) (hm : m ≤ maxLen) :
    Calls Try.prog 61 #[.agg #[.int .i64 W, .int .i64 H, .slice A n c], .slice P m d] w fun e w' => e = .returned (.bool (isPathB W H m q)) ∧ Below w.heap.size w w' := by
  unfold maxLen at hm
  by_cases h1 : W = 0
  · have hr : isPathB W H m q = false := Bool.eq_false_iff.2 fun h => by have := (isPathB_iff.1 h).1; omega
    rw [hr]
    have hb : (W == 0) = true := by simp [h1]
    have H1 := Lib.hid h1; clear h1 hr
    go_enter Try.func61, Try.ntmps61
    go_wp2
    go_ret
    exact ⟨rfl, by (repeat (first | exact Below.refl _ _ | assumption | refine Below.drew ?_ | refine below_drewN ?_ _ | refine Below.alloc ?_ (by first | omega | (simp; done) | (simp; omega)) _ | refine Below.setCell ?_ (by first | omega | (simp; done) | (simp; omega)) _ | refine below_setRow ?_ (by first | omega | (simp; done) | (simp; omega)) _ ))⟩
  have hb1 : (W == 0) = false := by simp [h1]
  by_cases h2 : H = 0
  · have hr : isPathB W H m q = false := Bool.eq_false_iff.2 fun h => by have := (isPathB_iff.1 h).1; omega
    rw [hr]
    have hb : (H == 0) = true := by simp [h2]
    have H2 := Lib.hid h2; clear h2 hr
    go_enter Try.func61, Try.ntmps61
    go_wp2
    go_ret
    exact ⟨rfl, by (repeat (first | exact Below.refl _ _ | assumption | refine Below.drew ?_ | refine below_drewN ?_ _ | refine Below.alloc ?_ (by first | omega | (simp; done) | (simp; omega)) _ | refine Below.setCell ?_ (by first | omega | (simp; done) | (simp; omega)) _ | refine below_setRow ?_ (by first | omega | (simp; done) | (simp; omega)) _ ))⟩
  have hb2 : (H == 0) = false := by simp [h2]
  by_cases h3 : (m : Int) = W
  · have hb : ((m : Int) != W) = false := by simp [h3]
    have H3 := Lib.hid h3; clear h3
    have g1 : 1 ≤ W := by omega
    have g2 : 1 ≤ H := by omega
    clear h1 h2
    go_enter Try.func61, Try.ntmps61
    go_wp2_with fail
    clear hb hb1 hb2
    go_loopw [5] (fun s wr => ∃ i : Nat, i ≤ m ∧ s = .int .i64 i ∧ (∀ j : Int, 0 ≤ j → j < i → stepB H q j = true) ∧ Below w.heap.size w wr ∧ Blk wr w.heap.size 24 #[.int .i64 W, .int .i64 H, .slice A n c]) (fun s _ => m - (intOf s).toNat)
    case atStart => exact ⟨0, by omega, rfl, fun j a b => by omega, by (repeat (first | exact Below.refl _ _ | assumption | refine Below.drew ?_ | refine below_drewN ?_ _ | refine Below.alloc ?_ (by first | omega | (simp; done) | (simp; omega)) _ | refine Below.setCell ?_ (by first | omega | (simp; done) | (simp; omega)) _ | refine below_setRow ?_ (by first | omega | (simp; done) | (simp; omega)) _ )), Blk.new _ _ _⟩
    case round =>
      obtain ⟨i, hi, rfl, hall, b3, k3⟩ := hrel
      have HALL := Lib.hid hall; clear hall
      obtain ⟨p1, p2, p3⟩ := k3.cells3
      by_cases hlt : i < m
      · obtain ⟨bP, off, rfl, hbP, hcell⟩ := (ArrI.below hP b3).fn (by omega)
        have c1 := hcell i (by omega) (by omega)
        rw [Int.toNat_natCast] at c1
        have HC := Lib.hid hcell; clear hcell
        have hin : (i : Int) < (m : Int) := by omega
        have hi0 : (0 : Int) ≤ (i : Int) := by omega
        cases hs : stepB H q i
        · have hr : Hid (isPathB W H m q = false) := by
            show _ = _
            exact Bool.eq_false_iff.2 fun h => by have := (isPathB_iff.1 h).2 i hi0 hin; rw [hs] at this; cases this
          have hs' : ¬ (0 ≤ q i ∧ q i < H ∧ ((i : Int) ≤ 0 ∨ (q (i - 1) - 1 ≤ q i ∧ q i ≤ q (i - 1) + 1))) := fun h => by rw [stepB_iff.2 h] at hs; cases hs
          clear hs
          by_cases a1 : q i < 0
          · clear hs'
            generalize q i = y at *
            have e1 : decide (y < 0) = true := by simp; omega
            go_wp2_with fail
            go_quiet (fail)
            go_wp2
            go_ret
            exact ⟨ret_bool hr.out.symm, below_drewN b3 _⟩
          by_cases a2 : H ≤ q i
          · clear hs'
            generalize q i = y at *
            have e1 : decide (y < 0) = false := by simp; omega
            have e2 : decide (H ≤ y) = true := by simp; omega
            go_wp2_with fail
            go_quiet (fail)
            go_wp2
            go_ret
            exact ⟨ret_bool hr.out.symm, below_drewN b3 _⟩
          have a3 : (0 : Int) < i := by omega
          have c2 := HC.out ((i : Int) - 1) (by omega) (by omega)
          rw [show ((i : Int) - 1).toNat = i - 1 by omega] at c2
          have hq := stepB_iff.1 (HALL.out ((i : Int) - 1) (by omega) (by omega))
          obtain ⟨hq1, hq2, -⟩ := hq
          have d1 : (0 : Int) ≤ (i : Int) - 1 := by omega
          have d2 : (i : Int) - 1 < (m : Int) := by omega
          have d3 : ((i : Int) - 1).toNat = i - 1 := by omega
          generalize q i = y at *
          generalize q ((i : Int) - 1) = z at *
          have v2 : IntKind.i64.wrap ((i : Int) - 1) = (i : Int) - 1 := IntWalk.i64_in _ (by omega)
          have v3 : IntKind.i64.wrap (y - z) = y - z := IntWalk.i64_in _ (by omega)
          have v4 : IntKind.i64.wrap (z - y) = z - y := IntWalk.i64_in _ (by omega)
          have e1 : decide (y < 0) = false := by simp; omega
          have e2 : decide (H ≤ y) = false := by simp; omega
          have hdn : decide (0 < i) = true := by simp; omega
          have hdp : 0 < i := by omega
          by_cases a4 : 1 < y - z
          · have e3 : decide (1 < y - z) = true := by simp; omega
            clear hs'
            go_wp2_with fail
            go_quiet (fail)
            go_wp2_with fail
            go_quiet (fail)
            clear v2 v3 v4 d3
            go_wp2
            go_ret
            exact ⟨ret_bool hr.out.symm, by (repeat (first | exact Below.refl _ _ | assumption | refine Below.drew ?_ | refine below_drewN ?_ _ | refine Below.alloc ?_ (by first | omega | (simp; done) | (simp; omega)) _ | refine Below.setCell ?_ (by first | omega | (simp; done) | (simp; omega)) _ | refine below_setRow ?_ (by first | omega | (simp; done) | (simp; omega)) _ ))⟩
          · have a5 : 1 < z - y := by omega
            have e3 : decide (1 < y - z) = false := by simp; omega
            have e4 : decide (1 < z - y) = true := by simp; omega
            clear hs'
            go_wp2_with fail
            go_quiet (fail)
            go_wp2_with fail
            go_quiet (fail)
            clear v2 v3 v4 d3
            go_wp2
            go_ret
            exact ⟨ret_bool hr.out.symm, by (repeat (first | exact Below.refl _ _ | assumption | refine Below.drew ?_ | refine below_drewN ?_ _ | refine Below.alloc ?_ (by first | omega | (simp; done) | (simp; omega)) _ | refine Below.setCell ?_ (by first | omega | (simp; done) | (simp; omega)) _ | refine below_setRow ?_ (by first | omega | (simp; done) | (simp; omega)) _ ))⟩
        · obtain ⟨f1, f2, f3⟩ := stepB_iff.1 hs
          have HS := Lib.hid hs; clear hs
          by_cases hz : (i : Int) ≤ 0
          · clear f3
            generalize hy : q i = y at *
            clear hy
            have e1 : decide (y < 0) = false := by simp; omega
            have e2 : decide (H ≤ y) = false := by simp; omega
            have hdn : decide (0 < i) = false := by simp; omega
            go_wp2_with fail
            go_quiet (fail)
            go_wp2_with fail
            go_quiet (fail)
            clear e1 e2 hdn
            go_wp2
            go_roundw
            case rel => exact ⟨i + 1, by omega, by go_num, fun j a b => if e : j = i then e ▸ HS.out else HALL.out j a (by omega), by (repeat (first | exact Below.refl _ _ | assumption | refine Below.drew ?_ | refine below_drewN ?_ _ | refine Below.alloc ?_ (by first | omega | (simp; done) | (simp; omega)) _ | refine Below.setCell ?_ (by first | omega | (simp; done) | (simp; omega)) _ | refine below_setRow ?_ (by first | omega | (simp; done) | (simp; omega)) _ )), k3⟩
            case measure => simp [intOf]; omega
          · have f4 := f3.resolve_left hz
            obtain ⟨f5, f6⟩ := f4
            have c2 := HC.out ((i : Int) - 1) (by omega) (by omega)
            rw [show ((i : Int) - 1).toNat = i - 1 by omega] at c2
            have hq := stepB_iff.1 (HALL.out ((i : Int) - 1) (by omega) (by omega))
            obtain ⟨hq1, hq2, -⟩ := hq
            have d1 : (0 : Int) ≤ (i : Int) - 1 := by omega
            have d2 : (i : Int) - 1 < (m : Int) := by omega
            have d3 : ((i : Int) - 1).toNat = i - 1 := by omega
            clear f3
            generalize hy : q i = y at *
            generalize hz2 : q ((i : Int) - 1) = z at *
            clear hy hz2
            have v2 : IntKind.i64.wrap ((i : Int) - 1) = (i : Int) - 1 := IntWalk.i64_in _ (by omega)
            have v3 : IntKind.i64.wrap (y - z) = y - z := IntWalk.i64_in _ (by omega)
            have v4 : IntKind.i64.wrap (z - y) = z - y := IntWalk.i64_in _ (by omega)
            have e1 : decide (y < 0) = false := by simp; omega
            have e2 : decide (H ≤ y) = false := by simp; omega
            have e3 : decide (1 < y - z) = false := by simp; omega
            have e4 : decide (1 < z - y) = false := by simp; omega
            have hdn : decide (0 < i) = true := by simp; omega
            have hdp : 0 < i := by omega
            go_wp2_with fail
            go_quiet (fail)
            go_wp2_with fail
            go_quiet (fail)
            clear v2 v3 v4 d3 e1 e2 e3 e4 hdn
            go_wp2
            go_roundw
            case rel => exact ⟨i + 1, by omega, by go_num, fun j a b => if e : j = i then e ▸ HS.out else HALL.out j a (by omega), by (repeat (first | exact Below.refl _ _ | assumption | refine Below.drew ?_ | refine below_drewN ?_ _ | refine Below.alloc ?_ (by first | omega | (simp; done) | (simp; omega)) _ | refine Below.setCell ?_ (by first | omega | (simp; done) | (simp; omega)) _ | refine below_setRow ?_ (by first | omega | (simp; done) | (simp; omega)) _ )), k3⟩
            case measure => simp [intOf]; omega
      · obtain rfl : i = m := by omega
        have hr : Hid (isPathB W H i q = true) := by show _ = _; exact isPathB_iff.2 ⟨⟨g1, g2, H3.out⟩, HALL.out⟩
        go_wp2
        go_ret
        exact ⟨ret_bool hr.out.symm, b3⟩
  · have hr : isPathB W H m q = false := Bool.eq_false_iff.2 fun h => by have := (isPathB_iff.1 h).1; omega
    have hb : ((m : Int) != W) = true := by simp [h3]
    have H3 := Lib.hid h3; clear h3
    have HR := Lib.hid hr
    rw [hr]
    clear hr h1 h2
    go_enter Try.func61, Try.ntmps61
    go_wp2
    go_ret
    exact ⟨rfl, by (repeat (first | exact Below.refl _ _ | assumption | refine Below.drew ?_ | refine below_drewN ?_ _ | refine Below.alloc ?_ (by first | omega | (simp; done) | (simp; omega)) _ | refine Below.setCell ?_ (by first | omega | (simp; done) | (simp; omega)) _ | refine below_setRow ?_ (by first | omega | (simp; done) | (simp; omega)) _ ))⟩
end Go.Proofs.Ytdimlpcbbkokiaa
