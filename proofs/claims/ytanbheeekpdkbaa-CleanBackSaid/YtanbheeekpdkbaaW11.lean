/- Walks: a line of ink; the examples of the chapter. -/
import Derived.Test.YtanbheeekpdkbaaW9
import Derived.Test.YtanbheeekpdkbaaW10
import Derived.Deep.RegionHeld3
namespace Go.Proofs.Ytanbheeekpdkbaa
open Go.RowKit
set_option linter.unusedVariables false

set_option maxHeartbeats 400000 in
theorem line_any (W : Int) (N : Nat) (hW : (N : Int) = W) (hN : N ≤ 640) (w : World) :
    Calls Try.prog 41 #[.int .i64 W] w (New w fun v w' => OutN w w' W 1 N (fun _ => 1) v) := by
  have hmk := makeB W (by omega) (by omega)
  have e : W.toNat = N := by omega
  rw [e] at hmk
  have HW := Lib.hid hW
  clear hW e
  go_enter Try.func41, Try.ntmps41
  go_wp2
  go_loopw [12] (fun s wr => ∃ i : Nat, i ≤ N ∧ s = .int .i64 i ∧ Below w.heap.size w wr ∧ Blk wr w.heap.size 25 #[.int .i64 0, .int .i64 0, .slice none 0 0] ∧
     Blk wr (w.heap.size + 2) 25 #[.int .i64 W, .int .i64 1, .slice (some ⟨w.heap.size + 1, 0, none⟩) N N] ∧ Blk wr (w.heap.size + 1) 5 (u8s N (fun j => if j < i then 1 else 0))) (fun s _ => N - (intOf s).toNat)
  case atStart =>
    refine ⟨0, by omega, rfl, by (repeat (first | exact Below.refl _ _ | assumption | refine Below.drew ?_ | refine below_drewN ?_ _ | refine Below.alloc ?_ (by first | omega | (simp; done) | (simp; omega)) _ | refine Below.setCell ?_ (by first | omega | (simp; done) | (simp; omega)) _ | refine below_setRow ?_ (by first | omega | (simp; done) | (simp; omega)) _ )), ?_, ?_, ?_⟩
    · exact ((Blk.new _ _ _).alloc _).alloc _
    · exact Blk.new' (by simp) _ _
    · exact ((Blk.new' (by simp) _ _).alloc _).u8conv fun j h _ => by rw [if_neg (by omega)]
  case round =>
    obtain ⟨i, hi, rfl, b1, k0, k2, kg⟩ := hrel
    obtain ⟨p1, p2, p3⟩ := k2.cells3
    by_cases hlt : i < N
    · have hr := kg.u8at (i := (i : Int)) (by omega) (by omega)
      have hf := kg.frozen i
      rw [Int.toNat_natCast] at hr
      have KS := kg.u8set (i : Int) (by omega) 1
      rw [Int.toNat_natCast] at KS
      have KS := Lib.hid KS
      go_wp2
      go_roundw
      case rel =>
        refine ⟨i + 1, by omega, by go_num, by (repeat (first | exact Below.refl _ _ | assumption | refine Below.drew ?_ | refine below_drewN ?_ _ | refine Below.alloc ?_ (by first | omega | (simp; done) | (simp; omega)) _ | refine Below.setCell ?_ (by first | omega | (simp; done) | (simp; omega)) _ | refine below_setRow ?_ (by first | omega | (simp; done) | (simp; omega)) _ )), k0.far (by simp) _, k2.far (by simp) _, KS.out.u8conv fun j _ _ => ?_⟩
        show (if j = i then (1 : Int) else if j < i then 1 else 0) = _
        by_cases e : j = i
        · rw [if_pos e, if_pos (by omega)]
        · rw [if_neg e]
          by_cases e' : j < i
          · rw [if_pos e', if_pos (by omega)]
          · rw [if_neg e', if_neg (by omega)]
      case measure => simp [intOf]; omega
    · obtain rfl : i = N := by omega
      obtain ⟨r1, r2, r3⟩ := k0.cells3
      obtain ⟨f1, f2, f3⟩ := k0.frozen3
      go_wp2
      refine bodyPost_ret (v := .agg #[.int .i64 W, .int .i64 1, .slice (some ⟨w.heap.size + 1, 0, none⟩) i i]) (by simp [results, Try.results41, go_sem, r1, r2, r3]) rfl ?_
      exact ⟨_, rfl, OutN.mk (by omega) ((((kg.u8conv fun j _ h => by rw [if_pos h]).far (by simp) _).far (by simp) _).far (by simp) _), by (repeat (first | exact Below.refl _ _ | assumption | refine Below.drew ?_ | refine below_drewN ?_ _ | refine Below.alloc ?_ (by first | omega | (simp; done) | (simp; omega)) _ | refine Below.setCell ?_ (by first | omega | (simp; done) | (simp; omega)) _ | refine below_setRow ?_ (by first | omega | (simp; done) | (simp; omega)) _ ))⟩

def gA : Int → Int := movQ 129 1 (fun _ => 1) (-1) 1
theorem awA1 : movE 129 1 129 (fun _ => 1) (-1) 1 = 0 := by decide +kernel
theorem awA2 : (3 : Int) = 1 + grt 129 (-1) := by decide +kernel
theorem awA3 : findS 129 3 387 gA = -1 := by decide +kernel
theorem awA4 : chk 129 3 387 gA = 0 := by decide +kernel
theorem awB1 : movE 64 1 64 (fun _ => 1) 1 1 = 0 := by decide +kernel
theorem awB2 : (1 : Int) = 1 + grt 64 1 := by decide +kernel
theorem awB3 : allN 64 (fun i => decide (movQ 64 1 (fun _ => 1) 1 1 i = 1)) = true := by decide +kernel
theorem awL1 : levelS 4 (lit [10, 20, 200, 210]) = 110 := by decide +kernel
theorem awL2 : levelS 3 (lit [200, 0, 100]) = 50 := by decide +kernel
theorem awS1 : sidesB 4 1 (4 : Nat) = true := by decide
theorem awS2 : sidesB 3 1 (3 : Nat) = true := by decide

theorem cells_a : #[Value.int .u8 10, .int .u8 20, .int .u8 200, .int .u8 210] = u8s 4 (lit [10, 20, 200, 210]) := u8s_lit (l := [10, 20, 200, 210])
theorem cells_b : #[Value.int .u8 200, .int .u8 0, .int .u8 100] = u8s 3 (lit [200, 0, 100]) := u8s_lit (l := [200, 0, 100])
theorem isB_1 : IsB (fun _ => 1) := fun _ => by simp
theorem Blk.to {w : World} {g : Nat} {t : TypeId} {cs cs' : Array Value} (h : Blk w g t cs) (e : cs = cs') : Blk w g t cs' := e ▸ h

set_option maxRecDepth 100000 in
set_option maxHeartbeats 2000000 in
theorem awake_any (w : World) : Calls Try.prog 16 #[] w fun e w' => e = .returned (.bool true) ∧ Below w.heap.size w w' := by
  go_enter Try.func16, Try.ntmps16
  go_wp2_with fail
  refine (level_ok 4 1 (some ⟨w.heap.size, 0, none⟩) 4 4 (lit [10, 20, 200, 210]) _ (Blk.arrB ((Blk.new _ _ _).to cells_a) (by simp)) (by decide) (isB_lit (by decide)) awS1).mono ?_
  rintro e w1 ⟨rfl, hb1⟩
  rw [awL1]
  have b1 : Below w.heap.size w w1 := below_call (by (repeat (first | exact Below.refl _ _ | assumption | refine Below.drew ?_ | refine below_drewN ?_ _ | refine Below.alloc ?_ (by first | omega | (simp; done) | (simp; omega)) _ | refine Below.setCell ?_ (by first | omega | (simp; done) | (simp; omega)) _ | refine below_setRow ?_ (by first | omega | (simp; done) | (simp; omega)) _ ))) (by simp) hb1
  have z1 := b1.size
  clear hb1
  go_wp2_with fail
  refine (level_ok 3 1 (some ⟨w1.heap.size, 0, none⟩) 3 3 (lit [200, 0, 100]) _ (Blk.arrB ((Blk.new _ _ _).to cells_b) (by simp)) (by decide) (isB_lit (by decide)) awS2).mono ?_
  rintro e w2 ⟨rfl, hb2⟩
  rw [awL2]
  have b2 : Below w.heap.size w w2 := below_call (by (repeat (first | exact Below.refl _ _ | assumption | refine Below.drew ?_ | refine below_drewN ?_ _ | refine Below.alloc ?_ (by first | omega | (simp; done) | (simp; omega)) _ | refine Below.setCell ?_ (by first | omega | (simp; done) | (simp; omega)) _ | refine below_setRow ?_ (by first | omega | (simp; done) | (simp; omega)) _ ))) (by simp; omega) hb2
  have z2 := b2.size
  clear hb2 b1 z1
  go_wp2_with fail
  refine (line_any 129 129 rfl (by omega) _).mono ?_
  rintro e w3 ⟨_, rfl, ⟨g3, rfl, hg3, kg3⟩, hb3⟩
  have b3 : Below w.heap.size w w3 := below_call b2 z2 hb3
  have z3 := b3.size
  clear hb3 b2
  go_wp2_with fail
  refine (skew_ok 129 1 3 (some ⟨g3, 0, none⟩) 129 129 (fun _ => 1) (-1) _ (kg3.arrB kg3.lt) (by decide) isB_1 awA1 awA2).mono ?_
  rintro e w4 ⟨_, rfl, ⟨_, rfl, ⟨g4, rfl, hg4, kg4⟩⟩, hb4⟩
  have b4 : Below w.heap.size w w4 := below_call b3 z3 hb4
  have z4 := b4.size
  clear hb4 b3
  have e387 : ((129 : Int) * 3).toNat = 387 := rfl
  rw [e387] at kg4
  simp only [e387]
  have z4' := kg4.lt
  go_wp2_with fail
  refine (findSkew_ok 129 3 (some ⟨g4, 0, none⟩) 387 387 gA _ (Blk.arrB (kg4.alloc _) (by simp; omega)) (by decide) (isB_mov isB_1) awA4).mono ?_
  rintro e w5 ⟨rfl, hb5⟩
  rw [awA3]
  have k5 := (Blk.new _ _ _).below' hb5
  have b5 : Below w.heap.size w w5 := below_call (by (repeat (first | exact Below.refl _ _ | assumption | refine Below.drew ?_ | refine below_drewN ?_ _ | refine Below.alloc ?_ (by first | omega | (simp; done) | (simp; omega)) _ | refine Below.setCell ?_ (by first | omega | (simp; done) | (simp; omega)) _ | refine below_setRow ?_ (by first | omega | (simp; done) | (simp; omega)) _ ))) (by simp; omega) hb5
  have z5 : w4.heap.size < w5.heap.size := by have := hb5.size; simp at this; omega
  clear hb5 b4
  go_wp2_with fail
  refine (line_any 64 64 rfl (by omega) _).mono ?_
  rintro e w6 ⟨_, rfl, ⟨g6, rfl, hg6, kg6⟩, hb6⟩
  have k6 := k5.below' hb6
  have b6 : Below w.heap.size w w6 := below_call b5 (by omega) hb6
  have z6 := hb6.size
  clear hb6 b5 k5
  go_wp2_with fail
  refine (skew_ok 64 1 1 (some ⟨g6, 0, none⟩) 64 64 (fun _ => 1) 1 _ (kg6.arrB kg6.lt) (by decide) isB_1 awB1 awB2).mono ?_
  rintro e w7 ⟨_, rfl, ⟨_, rfl, ⟨g7, rfl, hg7, kg7⟩⟩, hb7⟩
  have k7 := k6.below' hb7
  have b7 : Below w.heap.size w w7 := below_call b6 (by omega) hb7
  have z7 := hb7.size
  clear hb7 b6 k6
  have e64 : ((64 : Int) * 1).toNat = 64 := rfl
  rw [e64] at kg7
  simp only [e64]
  have z7' := kg7.lt
  go_wp2_with fail
  have k8 := k7.alloc (.cells #[.int .i64 64, .int .i64 1, .slice (some ⟨g7, 0, none⟩) 64 64] 25)
  have n8 := Blk.new w7 25 #[.int .i64 64, .int .i64 1, .slice (some ⟨g7, 0, none⟩) 64 64]
  have kg8 := kg7.alloc (.cells #[.int .i64 64, .int .i64 1, .slice (some ⟨g7, 0, none⟩) 64 64] 25)
  have b8 : Below w.heap.size w (w7.alloc (.cells #[.int .i64 64, .int .i64 1, .slice (some ⟨g7, 0, none⟩) 64 64] 25)) := by (repeat (first | exact Below.refl _ _ | assumption | refine Below.drew ?_ | refine below_drewN ?_ _ | refine Below.alloc ?_ (by first | omega | (simp; done) | (simp; omega)) _ | refine Below.setCell ?_ (by first | omega | (simp; done) | (simp; omega)) _ | refine below_setRow ?_ (by first | omega | (simp; done) | (simp; omega)) _ ))
  have z8 : w7.heap.size < (w7.alloc (.cells #[.int .i64 64, .int .i64 1, .slice (some ⟨g7, 0, none⟩) 64 64] 25)).heap.size := by simp
  clear b7 k7 kg7
  generalize w7.alloc (.cells #[.int .i64 64, .int .i64 1, .slice (some ⟨g7, 0, none⟩) 64 64] 25) = w8 at *
  have K8 := Lib.hid k8; have N8 := Lib.hid n8; have G8 := Lib.hid kg8; have B8 := Lib.hid b8
  obtain ⟨a1, a2, a3⟩ := k8.cells3
  obtain ⟨d1, d2, d3⟩ := n8.cells3
  clear k8 n8 kg8 b8 kg3 kg4 kg6
  go_region_held3 (fun w' => w'.cell? ⟨w4.heap.size, 1, none⟩ = some (.int .i64 3) ∧ w'.cell? ⟨w7.heap.size, 0, none⟩ = some (.int .i64 64) ∧ w'.cell? ⟨w7.heap.size, 1, none⟩ = some (.int .i64 1) ∧ w'.cell? ⟨w7.heap.size, 2, none⟩ = some (.slice (some ⟨g7, 0, none⟩) 64 64))
    (simp [*])
    (first
      | (go_at_call 41; refine (line_any 64 64 rfl (by omega) _).mono ?_; rintro e w9 ⟨_, rfl, ⟨g9, rfl, hg9, kg9⟩, hb9⟩
         have k9 := K8.out.drew.below' hb9; have n9 := N8.out.drew.below' hb9; have kg9' := G8.out.drew.below' hb9; have b9 := B8.out.drew.trans (hb9.mono (B8.out.size))
         obtain ⟨x1, x2, x3⟩ := k9.cells3; obtain ⟨y1, y2, y3⟩ := n9.cells3)
      | (go_at_call 25; refine (sameInk_true 64 1 _ _ 64 64 64 _ _ _ (kg9'.arrB kg9'.lt) (kg9.arrB kg9.lt) (by decide) (fun i h0 hi => by simpa using allN_iff.1 awB3 i h0 hi)).mono ?_; rintro e w10 ⟨rfl, hb10⟩
         have k10 := k9.below' hb10; have n10 := n9.below' hb10; have b10 := b9.trans (hb10.mono b9.size)
         obtain ⟨x1, x2, x3⟩ := k10.cells3; obtain ⟨y1, y2, y3⟩ := n10.cells3))
  go_wp2
  go_ret
  exact ⟨rfl, by (repeat (first | exact Below.refl _ _ | assumption | refine Below.drew ?_ | refine below_drewN ?_ _ | refine Below.alloc ?_ (by first | omega | (simp; done) | (simp; omega)) _ | refine Below.setCell ?_ (by first | omega | (simp; done) | (simp; omega)) _ | refine below_setRow ?_ (by first | omega | (simp; done) | (simp; omega)) _ ))⟩
end Go.Proofs.Ytanbheeekpdkbaa
