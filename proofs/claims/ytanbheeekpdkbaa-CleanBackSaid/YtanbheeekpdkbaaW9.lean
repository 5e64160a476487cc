/- Walk: FindSkew. -/
import Derived.Test.YtanbheeekpdkbaaW8
namespace Go.Proofs.Ytanbheeekpdkbaa
open Go.RowKit Go.Shelf
set_option linter.unusedVariables false
attribute [local go_sem] Oper.semAt_some

structure FsR (w : World) (V1 V2 V3 : Value) (f : Int → Int) (B5 : Nat) (pre : List Int) (W : World) : Prop where
  bl : Below w.heap.size w W
  k1 : Blk W w.heap.size 25 #[V1, V2, V3]
  k5 : Blk W B5 3 #[.int .i64 (fsL f pre).1]
  k6 : Blk W (B5 + 1) 3 #[.int .i64 (fsL f pre).2]

set_option maxRecDepth 100000 in
set_option maxHeartbeats 2000000 in
theorem findSkew_ok (W H : Int) (A : Option Addr) (n c : Nat) (p : Int → Int) (w : World) (hA : ArrB w w.heap.size A n p) (hn : n ≤ maxLen) (hB : IsB p) (hE : chk W H n p = 0) :
    Calls Try.prog 13 #[.agg #[.int .i64 W, .int .i64 H, .slice A n c]] w
      fun e w' => e = .returned (.tuple #[.int .i64 (findS W H n p), .int .i64 0]) ∧ Below w.heap.size w w' := by
  refine (callsIn_wide (n := 5)).1 ?_
  refine callsIn_of_wp_marks Try.func13 rfl trivial ?_ rfl
  simp only [Try.ntmps13, List.size_toArray, List.length_cons, List.length_nil, Nat.reduceAdd, Nat.reduceSub, Array.replicate_succ, Array.replicate_zero, List.push_toArray, List.append_toArray, List.nil_append, List.cons_append]
  have HC := Lib.hid hE; clear hE
  gi_wp2_with fail
  refine ⟨trivial, ?_⟩
  refine (callsIn_wide.2 (check_any W H A n c p _ (hA.to (by (repeat (first | exact Below.refl _ _ | assumption | refine Below.drew ?_ | refine below_drewN ?_ _ | refine Below.alloc ?_ (by first | omega | (simp; done) | (simp; omega)) _ | refine Below.setCell ?_ (by first | omega | (simp; done) | (simp; omega)) _ | refine below_setRow ?_ (by first | omega | (simp; done) | (simp; omega)) _ )))) hn)).mono ?_
  rintro e w1 ⟨rfl, hb1⟩
  rw [HC.out]
  have k1 : Blk w1 w.heap.size 25 #[.int .i64 W, .int .i64 H, .slice A n c] := (Blk.new _ _ _).below' hb1
  have z1 : w.heap.size < w1.heap.size := by have := hb1.size; simp at this; omega
  have b1 : Below w.heap.size w w1 := below_call (by (repeat (first | exact Below.refl _ _ | assumption | refine Below.drew ?_ | refine below_drewN ?_ _ | refine Below.alloc ?_ (by first | omega | (simp; done) | (simp; omega)) _ | refine Below.setCell ?_ (by first | omega | (simp; done) | (simp; omega)) _ | refine below_setRow ?_ (by first | omega | (simp; done) | (simp; omega)) _ ))) (by simp; try omega) hb1
  clear hb1
  gi_wp2_with fail
  refine ⟨trivial, ?_⟩
  refine (callsIn_wide.2 (skews_any _)).mono ?_
  rintro e w2 ⟨rfl, rfl⟩
  gi_wp2_with fail
  have m0 : FsR w (.int .i64 W) (.int .i64 H) (.slice A n c) (fsN W H n p) w1.heap.size [] ((w1.alloc (.cells #[.int .i64 0] 3)).alloc (.cells #[.int .i64 (-1)] 3)) :=
    ⟨by (repeat (first | exact Below.refl _ _ | assumption | refine Below.drew ?_ | refine below_drewN ?_ _ | refine Below.alloc ?_ (by first | omega | (simp; done) | (simp; omega)) _ | refine Below.setCell ?_ (by first | omega | (simp; done) | (simp; omega)) _ | refine below_setRow ?_ (by first | omega | (simp; done) | (simp; omega)) _ )), (k1.alloc _).alloc _, (Blk.new _ _ _).alloc _, Blk.new' (by simp) _ _⟩
  have z2 : w1.heap.size + 2 ≤ ((w1.alloc (.cells #[.int .i64 0] 3)).alloc (.cells #[.int .i64 (-1)] 3)).heap.size := by simp
  generalize (w1.alloc (.cells #[.int .i64 0] 3)).alloc (.cells #[.int .i64 (-1)] 3) = w2 at *
  clear k1 b1
  refine wpIn_rangeFunc_ownF (F := Fence.wide) (n := 5) rfl (by omega) (gf := 79) (lb := #[]) rfl trivial (enters_of Try.func79 (by kernel_rfl) rfl) (skews_stops Fence.wide 4 trivial rfl (by omega) w2)
    (fun _ _ => trivial) (fun _ _ _ _ _ _ _ _ => trivial) (Below.refl _ _) (fun _ => rfl)
    (fun pre W' => FsR w (.int .i64 W) (.int .i64 H) (.slice A n c) (fsN W H n p) w1.heap.size pre W' ∧ w2.heap.size ≤ W'.heap.size) (fun _ _ _ => False)
    (ownFrom_of_below (fun s X Y hs hXY => ⟨⟨hs.1.bl.trans (hXY.mono (by omega)), hs.1.k1.below hXY (by omega), hs.1.k5.below hXY (by omega), hs.1.k6.below hXY (by omega)⟩, Nat.le_trans hs.2 hXY.size⟩) (fun s X hs => hs.2))
    (fun _ _ _ _ _ hs _ _ => hs) ⟨m0, Nat.le_refl _⟩
    (fun x => { tmps := #[.agg #[.int .i64 W, .int .i64 H, .slice A n c], .pointer (some ⟨w.heap.size, 0, none⟩), .int .i64 0, .int .i64 0, .int .i64 0, .pointer (some ⟨w1.heap.size, 0, none⟩), .pointer (some ⟨w1.heap.size + 1, 0, none⟩), .int .i64 x, undef, undef, undef, undef,
      .agg #[.int .i64 W, .int .i64 H, .slice A n c], .int .i64 0, .int .i64 0, .bool false, undef, .func (.func 79) #[] #[], .int .i64 x, undef, undef, undef, undef, undef, undef, undef, undef, undef, undef, undef, undef, undef, undef, undef, undef, undef, undef, undef], defers := [] }) ?assign ?body ?done ?stop
  case assign =>
    intro l x W' K hK
    gi_wp2
    exact hK
  case body =>
    rintro l pre x W' ⟨m, hz⟩ _
    obtain ⟨p1, p2, p3⟩ := m.k1.cells3
    have hA' : ArrB W' W'.heap.size A n p := (ArrB.below hA m.bl).more m.bl.size
    have SN := Lib.hid (fsL_snoc (fsN W H n p) pre x)
    by_cases hM : movE W H n p x (-1) = 0
    · obtain ⟨hc, hk1, hk2, hh1, hh2⟩ := movE_ok hM
      obtain ⟨h, hh⟩ : ∃ h, h = H - grt W x := ⟨_, rfl⟩
      have hN : Hid (fsN W H n p x = fullS W h (W * h).toNat (movQ W H p x (-1))) := by show _ = _; unfold fsN; rw [if_pos hM, hh]
      have hC2 := chk_mov hM (by rw [hh]; omega : h = H + -1 * grt W x)
      have US := Lib.hid (unskew_ok W H h A n c p x W' hA' hn hB hM hh)
      clear hc hh1 hh2 hh hM
      gi_wp2_with fail
      refine ⟨trivial, ?_⟩
      refine (CallsIn.inRound l (callsIn_wide.2 US.out)).mono ?_
      rintro e w3 ⟨_, rfl, ⟨_, rfl, ⟨g, rfl, hg, kg⟩⟩, hb3⟩
      clear US p1 p2 p3
      have hb3' := Lib.hid hb3
      have m3 : FsR w (.int .i64 W) (.int .i64 H) (.slice A n c) (fsN W H n p) w1.heap.size pre w3 := ⟨below_call m.bl m.bl.size hb3, m.k1.below' hb3, m.k5.below' hb3, m.k6.below' hb3⟩
      have z3 : W'.heap.size ≤ w3.heap.size := hb3.size
      clear hb3
      generalize hq : movQ W H p x (-1) = q at *
      have hqB : IsB q := by rw [← hq]; exact isB_mov hB
      have ha3 : ArrB (w3.alloc (.cells #[.int .i64 W, .int .i64 h, .slice (some ⟨g, 0, none⟩) (W * h).toNat (W * h).toNat] 25)) (w3.alloc (.cells #[.int .i64 W, .int .i64 h, .slice (some ⟨g, 0, none⟩) (W * h).toNat (W * h).toNat] 25)).heap.size (some ⟨g, 0, none⟩) (W * h).toNat q :=
        Blk.arrB (kg.alloc _) (by have := kg.lt; simp; omega)
      have FA := Lib.hid (full_ok W h _ _ (W * h).toNat q _ ha3 (by have := (area_bd (chk_ok hC2).1 (chk_ok hC2).2.1 (chk_ok hC2).2.2.1 (chk_ok hC2).2.2.2.1).2; unfold maxLen; omega) hqB hC2)
      clear hC2 hq
      obtain ⟨v, hv⟩ : ∃ v, v = fullS W h (W * h).toNat q := ⟨_, rfl⟩
      rw [← hv] at FA hN
      clear hv ha3
      gi_wp2_with fail
      refine ⟨trivial, ?_⟩
      refine (CallsIn.inRound l (callsIn_wide.2 FA.out)).mono ?_
      rintro e w4 ⟨rfl, hb4⟩
      clear FA
      have hb4' : Hid (Below w3.heap.size w3 w4) := by show Below _ _ _; exact ((Below.refl _ _).alloc (Nat.le_refl _) _).trans (hb4.mono (by simp))
      have m4 : FsR w (.int .i64 W) (.int .i64 H) (.slice A n c) (fsN W H n p) w1.heap.size pre w4 := ⟨below_call m3.bl m3.bl.size hb4'.out, m3.k1.below' hb4'.out, m3.k5.below' hb4'.out, m3.k6.below' hb4'.out⟩
      have z4 : w3.heap.size ≤ w4.heap.size := hb4'.out.size
      clear hb4
      have c6 := m4.k6.cells1
      have c5 := m4.k5.cells1
      have f6 := m4.k6.frozen 0
      have f5 := m4.k5.frozen 0
      have HW : Hid (Below W'.heap.size W' w4) := by show Below _ _ _; exact hb3'.out.trans (hb4'.out.mono z3)
      obtain ⟨o, mo⟩ : ∃ o : Int × Int, o = fsL (fsN W H n p) pre := ⟨_, rfl⟩
      rw [← mo] at c5 c6 SN
      have MO := Lib.hid mo; clear mo
      obtain ⟨oo, om⟩ := o
      dsimp only at c5 c6
      by_cases hlt : om < v
      · gi_wp2
        refine ⟨(keeps_of_below HW.out).trans ((KeepsOthers.setCell _ _ _).trans (KeepsOthers.setCell _ _ _)), trivial, ⟨?_, ?_, ?_, ?_⟩, by simp; omega⟩
        · have := m4.bl; (repeat (first | exact Below.refl _ _ | assumption | refine Below.drew ?_ | refine below_drewN ?_ _ | refine Below.alloc ?_ (by first | omega | (simp; done) | (simp; omega)) _ | refine Below.setCell ?_ (by first | omega | (simp; done) | (simp; omega)) _ | refine below_setRow ?_ (by first | omega | (simp; done) | (simp; omega)) _ ))
        · exact (m4.k1.far (by simp; omega) _).far (by simp; omega) _
        · rw [SN.out]
          have := (m4.k5.set_ 0 (.int .i64 x)).far (p := ⟨w1.heap.size + 1, 0, none⟩) (by simp) (.int .i64 v)
          simpa [fsStep, hN.out, hlt] using this
        · rw [SN.out]
          have := (m4.k6.far (p := ⟨w1.heap.size, 0, none⟩) (by simp) (.int .i64 x)).set_ 0 (.int .i64 v)
          simpa [fsStep, hN.out, hlt] using this
      · gi_wp2
        refine ⟨keeps_of_below HW.out, trivial, ⟨m4.bl, m4.k1, ?_, ?_⟩, by omega⟩
        · rw [SN.out]
          have e : fsStep (fsN W H n p) (oo, om) x = (oo, om) := by unfold fsStep; rw [hN.out, if_neg (by show ¬ om < v; omega)]
          rw [e, MO.out]; exact m4.k5
        · rw [SN.out]
          have e : fsStep (fsN W H n p) (oo, om) x = (oo, om) := by unfold fsStep; rw [hN.out, if_neg (by show ¬ om < v; omega)]
          rw [e, MO.out]; exact m4.k6
    · have hN : Hid (fsN W H n p x = -1) := by show _ = _; unfold fsN; rw [if_neg hM]
      have FB := Lib.hid (fsL_bd (fsN_bd W H n p) pre)
      have US := fun z hz => Lib.hid (unskew_bad W H A n c p x z W' hA' hn hz)
      have US := US _ rfl
      generalize movE W H n p x (-1) = z at *
      gi_wp2_with fail
      refine ⟨trivial, ?_⟩
      refine (CallsIn.inRound l (callsIn_wide.2 (US.out hM))).mono ?_
      rintro e w3 ⟨rfl, hb3⟩
      clear US p1 p2 p3
      unfold noImg
      have hb3' := Lib.hid hb3
      have m3 : FsR w (.int .i64 W) (.int .i64 H) (.slice A n c) (fsN W H n p) w1.heap.size pre w3 := ⟨below_call m.bl m.bl.size hb3, m.k1.below' hb3, m.k5.below' hb3, m.k6.below' hb3⟩
      have z3 : W'.heap.size ≤ w3.heap.size := hb3.size
      clear hb3
      gi_wp2
      refine ⟨(keeps_of_below hb3'.out).trans (KeepsOthers.alloc _ _), trivial, ⟨?_, m3.k1.alloc _, ?_, ?_⟩, by simp; omega⟩
      · have := m3.bl; (repeat (first | exact Below.refl _ _ | assumption | refine Below.drew ?_ | refine below_drewN ?_ _ | refine Below.alloc ?_ (by first | omega | (simp; done) | (simp; omega)) _ | refine Below.setCell ?_ (by first | omega | (simp; done) | (simp; omega)) _ | refine below_setRow ?_ (by first | omega | (simp; done) | (simp; omega)) _ ))
      · rw [SN.out]
        have h1 : fsStep (fsN W H n p) (fsL (fsN W H n p) pre) x = fsL (fsN W H n p) pre := by unfold fsStep; rw [hN.out, if_neg (by have := FB.out; omega)]
        rw [h1]; exact m3.k5.alloc _
      · rw [SN.out]
        have h1 : fsStep (fsN W H n p) (fsL (fsN W H n p) pre) x = fsL (fsN W H n p) pre := by unfold fsStep; rw [hN.out, if_neg (by have := FB.out; omega)]
        rw [h1]; exact m3.k6.alloc _
  case done =>
    rintro D xs W' hD rfl ⟨m, hz⟩ hK
    have c5 := m.k5.cells1
    gi_wp2
    refine ⟨by simp, .inl ⟨_, _, rfl, run_takeDeferred hK, ?_⟩⟩
    exact ⟨_, results_tmp2 rfl _ _ _, rfl, m.bl.trans (belowK_b (w := w) (Nat.le_refl _) W' D _ _ (by omega) hK rfl rfl)⟩
  case stop =>
    rintro D c pre W' _ _ h _
    exact h.elim
end Go.Proofs.Ytanbheeekpdkbaa
