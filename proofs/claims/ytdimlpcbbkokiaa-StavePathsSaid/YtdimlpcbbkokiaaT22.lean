/- Walk: the reference's costs of a column that is not the last one (custosref03.rest). -/
import Derived.Test.YtdimlpcbbkokiaaT21
import Derived.Deep.RegionHeld3
namespace Go.Proofs.Ytdimlpcbbkokiaa
open Go.RowKit
set_option linter.unusedVariables false
attribute [local go_sem] Oper.semAt_some

theorem min_if (a b : Int) : min a b = if b < a then b else a := by split <;> omega
set_option maxRecDepth 100000 in
set_option maxHeartbeats 4000000 in
theorem rest_step (W H : Int) (Hn : Nat) (A A' AA : Option Addr) (n c n' c' d : Nat) (p fb : Int → Int) (F : Int → Int → Bool) (x : Int) (w : World) (hA : ArrB w w.heap.size A n p) (hE : chk W H n p = 0) (hF : ArrB w w.heap.size A' n' fb) (hn' : (n' : Int) = W * H) (hFF : ∀ x y, 0 ≤ x → x < W → 0 ≤ y → y < H → inkB W H fb x y = F x y)
    (hW : 1 ≤ W) (hHn : (Hn : Int) = H) (k : Nat) (hk : (k : Int) + 1 < W) (hx : x = W - 1 - (k + 1 : Nat)) (hAA : ArrI w w.heap.size AA Hn (rcol 1000000000 W H (cst p W) F k)) :
    Calls Try.prog 107 #[.agg #[.int .i64 W, .int .i64 H, .slice A n c], .int .i64 x, .slice AA Hn d, .agg #[.int .i64 W, .int .i64 H, .slice A' n' c']] w
      (New w fun v w' => ∃ g, v = .slice (some ⟨g, 0, none⟩) Hn Hn ∧ w.heap.size ≤ g ∧ Blk w' g 3 (i64s Hn (rcol 1000000000 W H (cst p W) F (k + 1)))) := by
  obtain ⟨hW1, hW2, hH1, hH2, hnn, -⟩ := chk_ok hE
  have PX := Lib.hid fun (y : Int) w' hA' (y0 : 0 ≤ y) (y1 : y < H) => pixel_any W H A n c p x y w' hA' hE (by omega) (by omega) y0 y1
  have IK := Lib.hid fun (y : Int) w' hA' => rink_any W H A' n' c' fb x y w' hA' hW2 hH2 hn'
  have FF := Lib.hid fun (y : Int) (y0 : 0 ≤ y) (y1 : y < H) => hFF x y (by omega) (by omega) y0 y1
  have RC := Lib.hid fun (y : Int) => (show rcol 1000000000 W H (cst p W) F (k + 1) y = if F (W - 1 - (k + 1 : Nat)) y then 1000000000 else mfold 1000000000 (rgo 1000000000 H (cst p W (W - 1 - (k + 1 : Nat)) y) (rcol 1000000000 W H (cst p W) F k) y) (y - 1) 3 from by rw [rcol])
  have EB := Lib.hid fun (y : Int) (y0 : 0 ≤ y) (y1 : y < H) => rcol_bd (M := 1000000000) (W := W) (H := H) (F := F) (cst_bd p W) (by omega) k (by omega) y y0 y1
  have CB := Lib.hid fun (y : Int) => cst_bd p W x y
  have hmk := makeI (Hn : Int) (by omega) (by omega)
  rw [Int.toNat_natCast] at hmk
  have exx : (x == W - 1) = false := by simp; omega
  have vW : IntKind.i64.wrap (W - 1) = W - 1 := IntWalk.i64_in _ (by omega)
  have HX := Lib.hid hx
  have HHn := Lib.hid hHn
  rw [← HHn.out]
  rw [← HHn.out] at hH1 hH2 PX FF IK RC EB hAA
  clear hx hnn hFF hE hn' hHn
  go_enter Try.func107, Try.ntmps107
  go_wp2_with fail
  have k4 : Blk (((w.alloc (.cells #[.int .i64 W, .int .i64 Hn, .slice A n c] 24)).alloc (.cells #[.int .i64 W, .int .i64 Hn, .slice A' n' c'] 24)).alloc (.cells (i64s Hn fun _ => 0) 3)) w.heap.size 24 #[.int .i64 W, .int .i64 Hn, .slice A n c] := ((Blk.new _ _ _).alloc _).alloc _
  have k7 : Blk (((w.alloc (.cells #[.int .i64 W, .int .i64 Hn, .slice A n c] 24)).alloc (.cells #[.int .i64 W, .int .i64 Hn, .slice A' n' c'] 24)).alloc (.cells (i64s Hn fun _ => 0) 3)) (w.heap.size + 1) 24 #[.int .i64 W, .int .i64 Hn, .slice A' n' c'] := (Blk.new' (by simp) _ _).alloc _
  have k9 : Blk (((w.alloc (.cells #[.int .i64 W, .int .i64 Hn, .slice A n c] 24)).alloc (.cells #[.int .i64 W, .int .i64 Hn, .slice A' n' c'] 24)).alloc (.cells (i64s Hn fun _ => 0) 3)) (w.heap.size + 1 + 1) 3 (i64s Hn (upto (rcol 1000000000 W Hn (cst p W) F (k + 1)) 0)) := (Blk.new' (by simp) _ _).i64conv fun j j0 _ => by unfold upto; rw [if_neg (by omega)]
  have b1 : Below w.heap.size w (((w.alloc (.cells #[.int .i64 W, .int .i64 Hn, .slice A n c] 24)).alloc (.cells #[.int .i64 W, .int .i64 Hn, .slice A' n' c'] 24)).alloc (.cells (i64s Hn fun _ => 0) 3)) := by (repeat (first | exact Below.refl _ _ | assumption | refine Below.drew ?_ | refine below_drewN ?_ _ | refine Below.alloc ?_ (by first | omega | (simp; done) | (simp; omega)) _ | refine Below.setCell ?_ (by first | omega | (simp; done) | (simp; omega)) _ | refine below_setRow ?_ (by first | omega | (simp; done) | (simp; omega)) _ ))
  generalize ((w.alloc (.cells #[.int .i64 W, .int .i64 Hn, .slice A n c] 24)).alloc (.cells #[.int .i64 W, .int .i64 Hn, .slice A' n' c'] 24)).alloc (.cells (i64s Hn fun _ => 0) 3) = w1 at *
  go_loopw [10] (fun s wr => ∃ y : Nat, y ≤ Hn ∧ s = .int .i64 y ∧ Below w.heap.size w wr ∧ Blk wr w.heap.size 24 #[.int .i64 W, .int .i64 Hn, .slice A n c] ∧ Blk wr (w.heap.size + 1) 24 #[.int .i64 W, .int .i64 Hn, .slice A' n' c'] ∧ Blk wr (w.heap.size + 1 + 1) 3 (i64s Hn (upto (rcol 1000000000 W Hn (cst p W) F (k + 1)) y))) (fun s _ => Hn - (intOf s).toNat)
  case atStart => exact ⟨0, by omega, rfl, b1, k4, k7, k9⟩
  case round =>
    obtain ⟨y, hy, rfl, b2, q4, q7, q9⟩ := hrel
    clear b1 k4 k7 k9
    obtain ⟨p1, p2, p3⟩ := q4.cells3
    obtain ⟨r1, r2, r3⟩ := q7.cells3
    by_cases hlt : (y : Int) < (Hn : Int)
    · have y0 : (0 : Int) ≤ (y : Int) := by omega
      have f9 := q9.frozen y
      have c9 := q9.i64at y0 hlt
      rw [Int.toNat_natCast] at c9
      have q9' := q9.i64set y y0 1000000000
      rw [Int.toNat_natCast] at q9'
      have q4' := q4.far (p := ⟨w.heap.size + 1 + 1, y, none⟩) (by show w.heap.size ≠ w.heap.size + 1 + 1; omega) (.int .i64 1000000000)
      have q7' := q7.far (p := ⟨w.heap.size + 1 + 1, y, none⟩) (by show w.heap.size + 1 ≠ w.heap.size + 1 + 1; omega) (.int .i64 1000000000)
      have b2' : Below w.heap.size w (wr.setCell ⟨w.heap.size + 1 + 1, y, none⟩ (.int .i64 1000000000)) := b2.setCell (by show w.heap.size ≤ w.heap.size + 1 + 1; omega) _
      obtain ⟨s1, s2, s3⟩ := q4'.cells3
      obtain ⟨t1, t2, t3⟩ := q7'.cells3
      have IKy := Lib.hid fun w' hA' => IK.out y w' hA'
      rw [FF.out y y0 hlt] at IKy
      have PXy := Lib.hid fun w' hA' => PX.out y w' hA' y0 hlt
      have RCy := Lib.hid (RC.out y)
      cases hFy : F x y with
      | true =>
        rw [← HX.out, if_pos hFy] at RCy
        rw [hFy] at IKy
        clear hFy
        go_wp2_with fail
        refine (IKy.out _ (hF.to b2')).mono ?_
        rintro e w2 ⟨rfl, hb2⟩
        have b3 := below_call b2' b2'.size hb2
        have q4 := q4'.below' hb2
        have q7 := q7'.below' hb2
        have q9 := q9'.below' hb2
        clear b2 b2' hb2 q4' q7' q9' p1 p2 p3 r1 r2 r3 s1 s2 s3 t1 t2 t3 c9 f9
        obtain ⟨p1, p2, p3⟩ := q4.cells3
        go_wp2_with fail
        go_roundw
        case rel => exact ⟨y + 1, by omega, by go_num, b3, q4, q7, q9.i64conv fun j _ _ => upto_same' RCy.out j⟩
        case measure => simp [intOf]; omega
      | false =>
        rw [← HX.out, if_neg (by rw [hFy]; simp)] at RCy
        rw [hFy] at IKy
        clear hFy
        go_wp2_with fail
        refine (IKy.out _ (hF.to b2')).mono ?_
        rintro e w2 ⟨rfl, hb2⟩
        have b3 := below_call b2' b2'.size hb2
        have q4 := q4'.below' hb2
        have q7 := q7'.below' hb2
        have q9 := q9'.below' hb2
        clear b2 b2' hb2 q4' q7' q9' p1 p2 p3 r1 r2 r3 s1 s2 s3 t1 t2 t3 c9 f9
        obtain ⟨p1, p2, p3⟩ := q4.cells3
        go_wp2_with fail
        have cb := CB.out y
        obtain ⟨cb1, cb2⟩ := cb
        generalize hcy : cst p W x y = cy at *
        have HCY := Lib.hid hcy
        obtain ⟨f, hf⟩ : ∃ f, f = rcol 1000000000 W Hn (cst p W) F (k + 1) := ⟨_, rfl⟩
        obtain ⟨e, he⟩ : ∃ e, e = rcol 1000000000 W Hn (cst p W) F k := ⟨_, rfl⟩
        rw [← hf] at q9 RCy
        rw [← he] at RCy EB hAA
        obtain ⟨bA, oA, rfl, hbA, hcA⟩ := ArrI.fn hAA (by omega)
        have HCA := Lib.hid hcA
        have vy : IntKind.i64.wrap ((y : Int) - 1) = (y : Int) - 1 := IntWalk.i64_in _ (by omega)
        have HF2 := Lib.hid hf
        have HE2 := Lib.hid he
        clear hcy hf he hcA hAA
        go_loopw [11] (fun s wr => ∃ j : Nat, j ≤ 3 ∧ s = .int .i64 ((y : Int) - 1 + j) ∧ Below w.heap.size w wr ∧ Blk wr w.heap.size 24 #[.int .i64 W, .int .i64 Hn, .slice A n c] ∧ Blk wr (w.heap.size + 1) 24 #[.int .i64 W, .int .i64 Hn, .slice A' n' c'] ∧ Blk wr (w.heap.size + 1 + 1) 3 (i64s Hn (upd (upto f y) y (mfold 1000000000 (rgo 1000000000 Hn cy e y) ((y : Int) - 1) j)))) (fun s _ => ((y : Int) + 2 - intOf s).toNat)
        case atStart => exact ⟨0, by omega, by simp, b3, q4, q7, q9⟩
        case round =>
          obtain ⟨j, hj, rfl, b4, m4, m7, m9⟩ := hrel
          clear b3 q4 q7 q9 p1 p2 p3
          obtain ⟨p1, p2, p3⟩ := m4.cells3
          have u1 : IntKind.i64.wrap ((y : Int) + 1) = (y : Int) + 1 := IntWalk.i64_in _ (by omega)
          generalize ht : (y : Int) - 1 + j = t at *
          have HT := Lib.hid ht
          have tb : -1 ≤ t ∧ t ≤ 641 := by omega
          obtain ⟨tb1, tb2⟩ := tb
          have u2 : IntKind.i64.wrap (t + 1) = t + 1 := IntWalk.i64_in _ (by omega)
          by_cases j3 : j < 3
          · have tl : t ≤ (y : Int) + 1 := by omega
            by_cases ta : t < 0 ∨ (Hn : Int) ≤ t ∨ e t = 1000000000
            · have MO := Lib.hid (mfold_out (N := 1000000000) (f := rgo 1000000000 Hn cy e y) (lo := (y : Int) - 1) (j := j) (by rw [ht]; exact rgo_out ta))
              clear ht
              by_cases t0 : t < 0
              · go_wp2_with fail
                go_roundw
                case rel => exact ⟨j + 1, by omega, by rw [show (y : Int) - 1 + ((j + 1 : Nat) : Int) = t + 1 by have := HT.out; omega], b4, m4, m7, by rw [MO.out]; exact m9⟩
                case measure => simp [intOf]; omega
              by_cases t1 : (Hn : Int) ≤ t
              · go_wp2_with fail
                go_roundw
                case rel => exact ⟨j + 1, by omega, by rw [show (y : Int) - 1 + ((j + 1 : Nat) : Int) = t + 1 by have := HT.out; omega], b4, m4, m7, by rw [MO.out]; exact m9⟩
                case measure => simp [intOf]; omega
              have te := (ta.resolve_left t0).resolve_left t1
              have ce := (b4.cell (p := ⟨bA, oA + t.toNat, none⟩) hbA).trans (HCA.out t (by omega) (by omega))
              rw [te] at ce
              have t2 : 0 ≤ t := by omega
              have t3 : t < (Hn : Int) := by omega
              clear ta te t0 t1
              go_wp2_with fail
              go_roundw
              case rel => exact ⟨j + 1, by omega, by rw [show (y : Int) - 1 + ((j + 1 : Nat) : Int) = t + 1 by have := HT.out; omega], b4, m4, m7, by rw [MO.out]; exact m9⟩
              case measure => simp [intOf]; omega
            · have t2 : 0 ≤ t := by omega
              have t3 : t < (Hn : Int) := by omega
              have ne : ¬ e t = 1000000000 := by omega
              have RG := Lib.hid (rgo_in (cc := cy) (y := (y : Int)) t2 t3 ne)
              have eb := EB.out t t2 t3
              have ce := (b4.cell (p := ⟨bA, oA + t.toNat, none⟩) hbA).trans (HCA.out t t2 t3)
              generalize e t = et at *
              have ne' : (et == 1000000000) = false := by simp [ne]
              have ne'' : (et != 1000000000) = true := by simp [ne]
              have MF : Hid (mfold 1000000000 (rgo 1000000000 Hn cy e y) ((y : Int) - 1) (j + 1) = min (mfold 1000000000 (rgo 1000000000 Hn cy e y) ((y : Int) - 1) j) (cy + et + if t = y then 0 else 1)) := by
                show _ = _
                rw [mfold, ht, RG.out]
              have f9 := m9.frozen y
              have c9 := m9.i64at y0 hlt
              rw [Int.toNat_natCast, upd_self] at c9
              have mb := mfold_le 1000000000 (rgo 1000000000 Hn cy e y) ((y : Int) - 1) j
              generalize hS : mfold 1000000000 (rgo 1000000000 Hn cy e y) ((y : Int) - 1) j = S at *
              have US := Lib.hid fun v => m9.i64set y y0 v
              rw [Int.toNat_natCast] at US
              have u3 : IntKind.i64.wrap (cy + et) = cy + et := IntWalk.i64_in _ (by omega)
              have u4 : IntKind.i64.wrap (cy + et + 1) = cy + et + 1 := IntWalk.i64_in _ (by omega)
              have B4 := Lib.hid b4; have M4 := Lib.hid m4; have M7 := Lib.hid m7; have M9 := Lib.hid m9
              clear ta ne ht hS
              go_wp2_with fail
              go_region_held3 (fun w' => w'.cell? ⟨w.heap.size, 0, none⟩ = some (.int .i64 W) ∧ w'.cell? ⟨w.heap.size, 1, none⟩ = some (.int .i64 Hn) ∧ w'.cell? ⟨w.heap.size, 2, none⟩ = some (.slice A n c) ∧ w'.cell? ⟨bA, oA + t.toNat, none⟩ = some (.int .i64 et))
                (simp [go_sem, *])
                ((go_at_call 102
                  refine (PXy.out _ (hA.to B4.out.drew)).mono ?_
                  rintro e w4 ⟨rfl, hb4⟩
                  have b5 := below_call B4.out.drew B4.out.drew.size hb4
                  have k4 := M4.out.drew.below' hb4
                  have k7 := M7.out.drew.below' hb4
                  have k9 := M9.out.drew.below' hb4
                  obtain ⟨x1, x2, x3⟩ := k4.cells3
                  have x4 : w4.cell? ⟨bA, oA + t.toNat, none⟩ = some (.int .i64 et) := (hb4.cell (p := ⟨bA, oA + t.toNat, none⟩) (by show bA < _; have := B4.out.drew.size; omega)).trans ce))
              clear b4 m4 m7 m9 US f9 c9 p1 p2 p3 ce
              have f9 := k9.frozen y
              have c9 := k9.i64at y0 hlt
              rw [Int.toNat_natCast, upd_self] at c9
              by_cases ty : t = y
              · rw [if_pos ty, Int.add_zero] at MF
                have tb' : (t != (y : Int)) = false := by simp [ty]
                have HTY := Lib.hid ty
                clear ty u4
                have US := k9.i64set y y0 (if cy + et < S then cy + et else S)
                rw [Int.toNat_natCast] at US
                go_wp2_with fail
                go_roundw
                case rel => exact ⟨j + 1, by omega, by rw [show (y : Int) - 1 + ((j + 1 : Nat) : Int) = t + 1 by have := HT.out; omega], b5.setCell (by show w.heap.size ≤ w.heap.size + 1 + 1; omega) _, k4.far (p := ⟨w.heap.size + 1 + 1, y, none⟩) (by show w.heap.size ≠ w.heap.size + 1 + 1; omega) _, k7.far (p := ⟨w.heap.size + 1 + 1, y, none⟩) (by show w.heap.size + 1 ≠ w.heap.size + 1 + 1; omega) _, by rw [MF.out, min_if]; exact US.i64conv fun i _ _ => upd_twice _ _ _ _ i⟩
                case measure => simp [intOf]; omega
              · rw [if_neg ty] at MF
                have tb' : (t != (y : Int)) = true := by simp [ty]
                have HTY := Lib.hid ty
                clear ty
                have US := k9.i64set y y0 (if cy + et + 1 < S then cy + et + 1 else S)
                rw [Int.toNat_natCast] at US
                go_wp2_with fail
                go_roundw
                case rel => exact ⟨j + 1, by omega, by rw [show (y : Int) - 1 + ((j + 1 : Nat) : Int) = t + 1 by have := HT.out; omega], b5.setCell (by show w.heap.size ≤ w.heap.size + 1 + 1; omega) _, k4.far (p := ⟨w.heap.size + 1 + 1, y, none⟩) (by show w.heap.size ≠ w.heap.size + 1 + 1; omega) _, k7.far (p := ⟨w.heap.size + 1 + 1, y, none⟩) (by show w.heap.size + 1 ≠ w.heap.size + 1 + 1; omega) _, by rw [MF.out, min_if]; exact US.i64conv fun i _ _ => upd_twice _ _ _ _ i⟩
                case measure => simp [intOf]; omega
          · obtain rfl : j = 3 := by omega
            clear ht
            have RR : f y = mfold 1000000000 (rgo 1000000000 Hn cy e y) ((y : Int) - 1) 3 := RCy.out
            have tl : ¬ t ≤ (y : Int) + 1 := by have := HT.out; omega
            go_wp2_with fail
            go_roundw
            case rel => exact ⟨y + 1, by omega, by go_num, b4, m4, m7, by rw [← HF2.out]; exact m9.i64conv fun i _ _ => upto_same' RR i⟩
            case measure => simp [intOf]; omega
    · obtain rfl : y = Hn := by omega
      go_wp2
      go_ret
      exact ⟨_, rfl, ⟨_, rfl, by omega, q9.i64conv fun j j0 j1 => by unfold upto; rw [if_pos j1]⟩, b2⟩
end Go.Proofs.Ytdimlpcbbkokiaa
