/- Texts of mine in build order: J7, J27. Conditions: each theorem's own. -/
import Derived.Test.YtoonkpjddfiopaaDoorMImageBrushesx1
/- Walk of the law ImageGreys. -/
namespace Go.Proofs.YtoonkpjddfiopaaDoor
open Go.RowKit
set_option linter.unusedVariables false

theorem equalI_true (A B : Option Addr) (n c d : Nat) (p : Int → Int) (w : World) (hA : ArrI w w.heap.size A n p) (hB : ArrI w w.heap.size B n p) (hn : n ≤ maxLen) :
    Calls Tryd.prog 37 #[.slice A n c, .slice B n d] w fun e w' => e = .returned (.bool true) ∧ Below w.heap.size w w' := by
  refine (equalI_any A B n n c d p p w hA hB hn hn).mono ?_
  rintro e w' ⟨rfl, k, rfl⟩
  exact ⟨by rw [sameI_iff.2 ⟨rfl, fun _ _ _ => rfl⟩], below_drewN (Below.refl _ _) k⟩
set_option maxHeartbeats 400000 in
theorem same_true (W H E : Int) (A B : Option Addr) (n c d : Nat) (p q : Int → Int) (w : World) (hA : ArrB w w.heap.size A n p) (hB : ArrB w w.heap.size B n q) (hn : n ≤ maxLen) (he : ∀ i : Int, 0 ≤ i → i < n → p i = q i) :
    Calls Tryd.prog 24 #[.agg #[.int .i64 W, .int .i64 H, .slice A n c], .int .i64 E, .agg #[.int .i64 W, .int .i64 H, .slice B n d], .int .i64 E] w fun e w' => e = .returned (.bool true) ∧ Below w.heap.size w w' := by
  have b1 : Below w.heap.size w ((w.alloc (.cells #[.int .i64 W, .int .i64 H, .slice A n c] 24)).alloc (.cells #[.int .i64 W, .int .i64 H, .slice B n d] 24)) := by (repeat (first | exact Below.refl _ _ | assumption | refine Below.drew ?_ | refine below_drewN ?_ _ | refine Below.alloc ?_ (by first | omega | (simp; done) | (simp; omega)) _ | refine Below.setCell ?_ (by first | omega | (simp; done) | (simp; omega)) _ | refine below_setRow ?_ (by first | omega | (simp; done) | (simp; omega)) _ ))
  have SI := Lib.hid fun w' h1 h2 => sameInk_true W H A B n c d p q w' h1 h2 hn he
  clear he
  go_enter Tryd.func24, Tryd.ntmps24
  go_wp2_with fail
  refine (SI.out _ (hA.to b1) (hB.to b1)).mono ?_
  rintro e w2 ⟨rfl, hb2⟩
  have b2 := below_call b1 b1.size hb2
  go_wp2
  go_ret
  exact ⟨rfl, b2⟩

set_option maxRecDepth 100000 in
set_option maxHeartbeats 4000000 in
theorem imageGreys_any (W H lv : Int) (A : Option Addr) (n c : Nat) (p : Int → Int) (w : World) (hA : ArrB w w.heap.size A n p) (hn : n ≤ maxLen) (hB : IsB p) (hc : A = none → c = 0) :
    Calls Tryd.prog 5 #[.agg #[.int .i64 W, .int .i64 H, .slice A n c], .int .i64 lv] w fun e w' => e = .returned (.bool true) ∧ Below w.heap.size w w' := by
  unfold maxLen at hn
  by_cases h6 : (n : Int) > 4000
  · go_enter Tryd.func5, Tryd.ntmps5
    go_wp2_with fail
    refine (awake1_any _).mono ?_
    rintro e w1 ⟨rfl, hb1⟩
    go_wp2
    go_ret
    exact ⟨rfl, below_call (by (repeat (first | exact Below.refl _ _ | assumption | refine Below.drew ?_ | refine below_drewN ?_ _ | refine Below.alloc ?_ (by first | omega | (simp; done) | (simp; omega)) _ | refine Below.setCell ?_ (by first | omega | (simp; done) | (simp; omega)) _ | refine below_setRow ?_ (by first | omega | (simp; done) | (simp; omega)) _ ))) (by simp; try omega) hb1⟩
  have hnm : n ≤ maxLen := by unfold maxLen; omega
  have CG := Lib.hid fun w' hA' => copyGrey_any W H A n c p w' hA' hc (by omega)
  have hpos : thrE W H n lv = 0 → 0 ≤ W ∧ W ≤ 640 ∧ 0 ≤ H ∧ H ≤ 640 := by
    intro h
    unfold thrE at h
    split at h
    · rename_i hs; obtain ⟨a, b, c, d, _⟩ := sidesB_iff.1 hs; exact ⟨a, b, c, d⟩
    · cases h
  obtain ⟨Wx, Hx, Nx, ms⟩ := rsize_ex (thrE W H n lv) W H (fun h => by obtain ⟨a, b, c, d⟩ := hpos h; exact Int.mul_nonneg a c)
  have lx := rsize_le ms hpos
  have C1 := Lib.hid fun A' c' w' h' => thr_all W H lv A' n c' p _ Wx Hx Nx w' h' hB rfl ms
  have C2 := Lib.hid fun w' h' => rthr_all W H lv A n c p _ Wx Hx Nx w' h' hnm hB rfl ms
  have C4 := Lib.hid fun w' => rcheckGrey_any W H A n c w' hnm
  generalize thrQ p lv = qx at *
  generalize thrE W H n lv = Ex at *
  have b0 : Below w.heap.size w (w.alloc (.cells #[.int .i64 W, .int .i64 H, .slice A n c] 55)) := by (repeat (first | exact Below.refl _ _ | assumption | refine Below.drew ?_ | refine below_drewN ?_ _ | refine Below.alloc ?_ (by first | omega | (simp; done) | (simp; omega)) _ | refine Below.setCell ?_ (by first | omega | (simp; done) | (simp; omega)) _ | refine below_setRow ?_ (by first | omega | (simp; done) | (simp; omega)) _ ))
  have K0 := ((Kp.nil (w.alloc (.cells #[.int .i64 W, .int .i64 H, .slice A n c] 55))).addB (Blk.new w 55 #[.int .i64 W, .int .i64 H, .slice A n c])).addA (hA.to b0)
  cases hsd : sidesB W H n with
  | true =>
    rw [hsd] at C4
    have C3 := Lib.hid fun A' c' w' h' => levels_ok W H A' n c' p w' h' hnm hB hsd
    have C5 := Lib.hid fun w' h' => rlevels_any W H A n c p w' h' hnm hB
    clear ms hn hc hB hA hsd hpos
    go_enter Tryd.func5, Tryd.ntmps5
    go_wp2_with fail
    generalize w.alloc (.cells #[.int .i64 W, .int .i64 H, .slice A n c] 55) = w1 at *
    refine (CG.out _ (K0.a 0 rfl)).mono ?_
    rintro e v1 ⟨_, rfl, ⟨_, rfl, Aa, ca, rfl, hca, hna, hga, aa⟩, hb1⟩
    have K1a := (K0.below hb1).addA aa
    have b1a := below_call b0 b0.size hb1
    have z1 := b1a.size
    have b1 : Below w.heap.size w (v1.alloc (.cells #[.int .i64 W, .int .i64 H, .slice Aa n ca] 55)) := by (repeat (first | exact Below.refl _ _ | assumption | refine Below.drew ?_ | refine below_drewN ?_ _ | refine Below.alloc ?_ (by first | omega | (simp; done) | (simp; omega)) _ | refine Below.setCell ?_ (by first | omega | (simp; done) | (simp; omega)) _ | refine below_setRow ?_ (by first | omega | (simp; done) | (simp; omega)) _ ))
    have K1 := K1a.new 55 #[.int .i64 W, .int .i64 H, .slice Aa n ca]
    clear K0 b0 K1a b1a hb1 aa hga  z1 CG hca hna
    obtain ⟨p1, p2, p3⟩ := (K1.b 0 rfl).cells3
    go_wp2_with fail
    generalize v1.alloc (.cells #[.int .i64 W, .int .i64 H, .slice Aa n ca] 55) = w1 at *
    refine (C1.out _ _ _ (K1.a 0 rfl)).mono ?_
    rintro e v2 ⟨_, rfl, ⟨Ax, cx, rfl, hgx, ax⟩, hb2⟩
    have K2a := (K1.below hb2).addA ax
    have b2a := below_call b1 b1.size hb2
    have z2 := b2a.size
    have b2 : Below w.heap.size w (v2.alloc (.cells #[.int .i64 Wx, .int .i64 Hx, .slice Ax Nx cx] 24)) := by (repeat (first | exact Below.refl _ _ | assumption | refine Below.drew ?_ | refine below_drewN ?_ _ | refine Below.alloc ?_ (by first | omega | (simp; done) | (simp; omega)) _ | refine Below.setCell ?_ (by first | omega | (simp; done) | (simp; omega)) _ | refine below_setRow ?_ (by first | omega | (simp; done) | (simp; omega)) _ ))
    have K2 := K2a.new 24 #[.int .i64 Wx, .int .i64 Hx, .slice Ax Nx cx]
    clear K1 b1 K2a b2a hb2 ax hgx p1 p2 p3 z2 C1
    obtain ⟨p1, p2, p3⟩ := (K2.b 2 rfl).cells3
    go_wp2_with fail
    generalize v2.alloc (.cells #[.int .i64 Wx, .int .i64 Hx, .slice Ax Nx cx] 24) = w2 at *
    refine (C2.out _ (K2.a 2 rfl)).mono ?_
    rintro e v3 ⟨_, rfl, ⟨Ay, cy, rfl, hgy, ay⟩, hb3⟩
    have K3a := (K2.below hb3).addA ay
    have b3a := below_call b2 b2.size hb3
    have z3 := b3a.size
    have b3 : Below w.heap.size w (v3.alloc (.cells #[.int .i64 Wx, .int .i64 Hx, .slice Ay Nx cy] 24)) := by (repeat (first | exact Below.refl _ _ | assumption | refine Below.drew ?_ | refine below_drewN ?_ _ | refine Below.alloc ?_ (by first | omega | (simp; done) | (simp; omega)) _ | refine Below.setCell ?_ (by first | omega | (simp; done) | (simp; omega)) _ | refine below_setRow ?_ (by first | omega | (simp; done) | (simp; omega)) _ ))
    have K3 := K3a.new 24 #[.int .i64 Wx, .int .i64 Hx, .slice Ay Nx cy]
    clear K2 b2 K3a b3a hb3 ay hgy p1 p2 p3 z3 C2
    obtain ⟨p1, p2, p3⟩ := (K3.b 2 rfl).cells3
    go_wp2_with fail
    generalize v3.alloc (.cells #[.int .i64 Wx, .int .i64 Hx, .slice Ay Nx cy] 24) = w3 at *
    refine (C3.out _ _ _ (K3.a 2 rfl)).mono ?_
    rintro e v4 ⟨_, rfl, ⟨gl1, rfl, hgl1, kl1⟩, hb4⟩
    have K4 := (K3.below hb4).addB kl1
    have b4 := below_call b3 b3.size hb4
    clear K3 b3 hb4 p1 p2 p3 hgl1 kl1 C3
    obtain ⟨p1, p2, p3⟩ := (K4.b 4 rfl).cells3
    go_wp2_with fail
    refine (C4.out _).mono ?_
    rintro e v5 ⟨rfl, hb5⟩
    have K5 := K4.below hb5
    have b5 := below_call b4 b4.size hb5
    clear K4 b4 hb5 p1 p2 p3 C4
    obtain ⟨p1, p2, p3⟩ := (K5.b 4 rfl).cells3
    go_wp2_with fail
    refine (C5.out _ (K5.a 3 rfl)).mono ?_
    rintro e v6 ⟨_, rfl, ⟨gl2, rfl, hgl2, kl2⟩, hb6⟩
    have K6 := (K5.below hb6).addB kl2
    have b6 := below_call b5 b5.size hb6
    clear K5 b5 hb6 p1 p2 p3 hgl2 kl2 C5
    have e1 := (K6.b 1 rfl).arrI (K6.b 1 rfl).lt
    have e2 := (K6.b 0 rfl).arrI (K6.b 0 rfl).lt
    have EQ := Lib.hid (equalI_true (some ⟨gl1, 0, none⟩) (some ⟨gl2, 0, none⟩) 256 256 256 (cntS n p) _ e1 e2 (by unfold maxLen; omega))
    clear e1 e2
    go_wp2_with fail
    refine (EQ.out).mono ?_
    rintro e v7 ⟨rfl, hb7⟩
    have K7 := K6.below hb7
    have b7 := below_call b6 b6.size hb7
    clear K6 b6 hb7  EQ
    obtain ⟨p1, p2, p3⟩ := (K7.b 3 rfl).cells3
    obtain ⟨r1, r2, r3⟩ := (K7.b 2 rfl).cells3
    go_wp2_with fail
    refine (same_true Wx Hx Ex Ax Ay Nx cx cy qx qx _ (K7.a 1 rfl) (K7.a 0 rfl) (by unfold maxLen; omega) (fun _ _ _ => rfl)).mono ?_
    rintro e v8 ⟨rfl, hb8⟩
    have K8 := K7.below hb8
    have b8 := below_call b7 b7.size hb8
    clear K7 b7 hb8 p1 p2 p3 r1 r2 r3 
    obtain ⟨p1, p2, p3⟩ := (K8.b 4 rfl).cells3
    obtain ⟨r1, r2, r3⟩ := (K8.b 5 rfl).cells3
    go_wp2_with fail
    refine (sameGrey_true W H Aa A n ca c p p _ (K8.a 2 rfl) (K8.a 3 rfl) (by unfold maxLen; omega) (fun _ _ _ => rfl)).mono ?_
    rintro e v9 ⟨rfl, hb9⟩
    have K9 := K8.below hb9
    have b9 := below_call b8 b8.size hb9
    clear K8 b8 hb9 p1 p2 p3 r1 r2 r3 
    go_wp2_with fail
    refine (awake1_any _).mono ?_
    rintro e v10 ⟨rfl, hb10⟩
    have b10 := below_call b9 b9.size hb10
    go_wp2
    go_ret
    exact ⟨rfl, b10⟩
  | false =>
    rw [hsd] at C4
    have C3 := Lib.hid fun A' c' w' => levels_bad W H A' n c' w' hsd
    clear ms hn hc hB hA hsd hpos
    go_enter Tryd.func5, Tryd.ntmps5
    go_wp2_with fail
    generalize w.alloc (.cells #[.int .i64 W, .int .i64 H, .slice A n c] 55) = w1 at *
    refine (CG.out _ (K0.a 0 rfl)).mono ?_
    rintro e v1 ⟨_, rfl, ⟨_, rfl, Aa, ca, rfl, hca, hna, hga, aa⟩, hb1⟩
    have K1a := (K0.below hb1).addA aa
    have b1a := below_call b0 b0.size hb1
    have z1 := b1a.size
    have b1 : Below w.heap.size w (v1.alloc (.cells #[.int .i64 W, .int .i64 H, .slice Aa n ca] 55)) := by (repeat (first | exact Below.refl _ _ | assumption | refine Below.drew ?_ | refine below_drewN ?_ _ | refine Below.alloc ?_ (by first | omega | (simp; done) | (simp; omega)) _ | refine Below.setCell ?_ (by first | omega | (simp; done) | (simp; omega)) _ | refine below_setRow ?_ (by first | omega | (simp; done) | (simp; omega)) _ ))
    have K1 := K1a.new 55 #[.int .i64 W, .int .i64 H, .slice Aa n ca]
    clear K0 b0 K1a b1a hb1 aa hga  z1 CG hca hna
    obtain ⟨p1, p2, p3⟩ := (K1.b 0 rfl).cells3
    go_wp2_with fail
    generalize v1.alloc (.cells #[.int .i64 W, .int .i64 H, .slice Aa n ca] 55) = w1 at *
    refine (C1.out _ _ _ (K1.a 0 rfl)).mono ?_
    rintro e v2 ⟨_, rfl, ⟨Ax, cx, rfl, hgx, ax⟩, hb2⟩
    have K2a := (K1.below hb2).addA ax
    have b2a := below_call b1 b1.size hb2
    have z2 := b2a.size
    have b2 : Below w.heap.size w (v2.alloc (.cells #[.int .i64 Wx, .int .i64 Hx, .slice Ax Nx cx] 24)) := by (repeat (first | exact Below.refl _ _ | assumption | refine Below.drew ?_ | refine below_drewN ?_ _ | refine Below.alloc ?_ (by first | omega | (simp; done) | (simp; omega)) _ | refine Below.setCell ?_ (by first | omega | (simp; done) | (simp; omega)) _ | refine below_setRow ?_ (by first | omega | (simp; done) | (simp; omega)) _ ))
    have K2 := K2a.new 24 #[.int .i64 Wx, .int .i64 Hx, .slice Ax Nx cx]
    clear K1 b1 K2a b2a hb2 ax hgx p1 p2 p3 z2 C1
    obtain ⟨p1, p2, p3⟩ := (K2.b 2 rfl).cells3
    go_wp2_with fail
    generalize v2.alloc (.cells #[.int .i64 Wx, .int .i64 Hx, .slice Ax Nx cx] 24) = w2 at *
    refine (C2.out _ (K2.a 2 rfl)).mono ?_
    rintro e v3 ⟨_, rfl, ⟨Ay, cy, rfl, hgy, ay⟩, hb3⟩
    have K3a := (K2.below hb3).addA ay
    have b3a := below_call b2 b2.size hb3
    have z3 := b3a.size
    have b3 : Below w.heap.size w (v3.alloc (.cells #[.int .i64 Wx, .int .i64 Hx, .slice Ay Nx cy] 24)) := by (repeat (first | exact Below.refl _ _ | assumption | refine Below.drew ?_ | refine below_drewN ?_ _ | refine Below.alloc ?_ (by first | omega | (simp; done) | (simp; omega)) _ | refine Below.setCell ?_ (by first | omega | (simp; done) | (simp; omega)) _ | refine below_setRow ?_ (by first | omega | (simp; done) | (simp; omega)) _ ))
    have K3 := K3a.new 24 #[.int .i64 Wx, .int .i64 Hx, .slice Ay Nx cy]
    clear K2 b2 K3a b3a hb3 ay hgy p1 p2 p3 z3 C2
    obtain ⟨p1, p2, p3⟩ := (K3.b 2 rfl).cells3
    go_wp2_with fail
    generalize v3.alloc (.cells #[.int .i64 Wx, .int .i64 Hx, .slice Ay Nx cy] 24) = w3 at *
    refine (C3.out _ _ _).mono ?_
    rintro e v4 ⟨rfl, hb4⟩
    have K4 := K3.below hb4
    have b4 := below_call b3 b3.size hb4
    clear K3 b3 hb4 p1 p2 p3 C3
    obtain ⟨p1, p2, p3⟩ := (K4.b 3 rfl).cells3
    go_wp2_with fail
    refine (C4.out _).mono ?_
    rintro e v5 ⟨rfl, hb5⟩
    have K5 := K4.below hb5
    have b5 := below_call b4 b4.size hb5
    clear K4 b4 hb5 p1 p2 p3 C4
    obtain ⟨p1, p2, p3⟩ := (K5.b 1 rfl).cells3
    obtain ⟨r1, r2, r3⟩ := (K5.b 0 rfl).cells3
    go_wp2_with fail
    refine (same_true Wx Hx Ex Ax Ay Nx cx cy qx qx _ (K5.a 1 rfl) (K5.a 0 rfl) (by unfold maxLen; omega) (fun _ _ _ => rfl)).mono ?_
    rintro e v6 ⟨rfl, hb6⟩
    have K6 := K5.below hb6
    have b6 := below_call b5 b5.size hb6
    clear K5 b5 hb6 p1 p2 p3 r1 r2 r3 
    obtain ⟨p1, p2, p3⟩ := (K6.b 2 rfl).cells3
    obtain ⟨r1, r2, r3⟩ := (K6.b 3 rfl).cells3
    go_wp2_with fail
    refine (sameGrey_true W H Aa A n ca c p p _ (K6.a 2 rfl) (K6.a 3 rfl) (by unfold maxLen; omega) (fun _ _ _ => rfl)).mono ?_
    rintro e v7 ⟨rfl, hb7⟩
    have K7 := K6.below hb7
    have b7 := below_call b6 b6.size hb7
    clear K6 b6 hb7 p1 p2 p3 r1 r2 r3 
    go_wp2_with fail
    refine (awake1_any _).mono ?_
    rintro e v8 ⟨rfl, hb8⟩
    have b8 := below_call b7 b7.size hb8
    go_wp2
    go_ret
    exact ⟨rfl, b8⟩
end Go.Proofs.YtoonkpjddfiopaaDoor

/- Walk of the law ImageBrushes. Written by gen/j27.py. -/
namespace Go.Proofs.YtoonkpjddfiopaaDoor
open Go.RowKit
set_option linter.unusedVariables false
attribute [local go_sem] Oper.semAt_some

set_option maxRecDepth 100000 in
set_option maxHeartbeats 2000000 in
theorem thin_bad (W H : Int) (A : Option Addr) (n c : Nat) (p : Int → Int) (w : World) (hA : ArrB w w.heap.size A n p) (hn : n ≤ maxLen) (h0 : chk W H n p ≠ 0) :
    Calls Tryd.prog 20 #[.agg #[.int .i64 W, .int .i64 H, .slice A n c]] w (New w fun v w' => OutT w w' (chk W H n p) 0 0 0 (fun _ => 0) v) := by
  have CK := Lib.hid fun w' hA' => check_any W H A n c p w' hA' hn
  generalize chk W H n p = E at *
  have hz : (E != 0) = true := by simp [h0]
  clear h0
  have b1 : Below w.heap.size w ((w.alloc (.cells #[.int .i64 W, .int .i64 H, .slice A n c] 24)).alloc (.cells #[.int .i64 0, .int .i64 0, .slice none 0 0] 24)) := by (repeat (first | exact Below.refl _ _ | assumption | refine Below.drew ?_ | refine below_drewN ?_ _ | refine Below.alloc ?_ (by first | omega | (simp; done) | (simp; omega)) _ | refine Below.setCell ?_ (by first | omega | (simp; done) | (simp; omega)) _ | refine below_setRow ?_ (by first | omega | (simp; done) | (simp; omega)) _ ))
  have k2 : Blk ((w.alloc (.cells #[.int .i64 W, .int .i64 H, .slice A n c] 24)).alloc (.cells #[.int .i64 0, .int .i64 0, .slice none 0 0] 24)) (w.heap.size + 1) 24 #[.int .i64 0, .int .i64 0, .slice none 0 0] := Blk.new' (by simp) _ _
  go_enter Tryd.func20, Tryd.ntmps20
  go_wp2_with fail
  go_step3
  go_wp2_with fail
  generalize (w.alloc (.cells #[.int .i64 W, .int .i64 H, .slice A n c] 24)).alloc (.cells #[.int .i64 0, .int .i64 0, .slice none 0 0] 24) = w1 at *
  refine (CK.out _ (hA.to b1)).mono ?_
  rintro x w2 ⟨rfl, hb2⟩
  have b2 := below_call b1 b1.size hb2
  have k4 := k2.below' hb2
  obtain ⟨r1, r2, r3⟩ := k4.cells3
  obtain ⟨f1, f2, f3⟩ := k4.frozen3
  have k9 := ((k4.set_ 0 (.int .i64 0)).set_ 1 (.int .i64 0)).set_ 2 (.slice none 0 0)
  obtain ⟨s1, s2, s3⟩ := Blk.cells3 (a := .int .i64 0) (b := .int .i64 0) (c := .slice none 0 0) k9
  go_wp2_with fail
  rw [Exit.noGoto_ret]
  refine bodyPost_ret (v := .tuple #[noImg, .int .i64 E]) (by simp [results, Tryd.results20, go_sem, noImg, s1, s2, s3]) rfl ?_
  exact ⟨_, rfl, ⟨none, 0, rfl, (fun _ h => by cases h), ArrB.nil⟩, by (repeat (first | with_reducible exact Below.refl _ _ | with_reducible assumption | with_reducible refine Below.drew ?_ | (with_reducible refine below_alloc' ?_ ?_; focus (first | omega | (simp; done) | (simp; omega))) | (with_reducible refine below_fill3' ?_ ?_; focus omega) | (with_reducible refine below_setCell' ?_ ?_; focus (first | omega | (simp; done) | (simp; omega))) | (with_reducible apply below_call'; (focus (with_reducible assumption)); (focus (first | omega | (simp; done) | (simp; omega))))))⟩
theorem brush_same (v er : Bool) (hv : er = !v) (W H bw bh : Int) (n : Nat) (p : Int → Int) (E W2 H2 : Int) (N : Nat) (hE : brE W H n p bw bh = E) (hs : RSize E W H W2 H2 N) : ∀ i : Int, 0 ≤ i → i < N → brushQ v W H p bw.toNat bh.toNat i = brQ er W H p bw.toNat bh.toNat i := by
  intro i i0 i1
  by_cases h0 : E = 0
  · obtain ⟨-, -, hN⟩ := hs.1 h0
    have hk : chk W H n p = 0 := by
      unfold brE at hE
      split at hE
      · assumption
      · rw [hE]; exact h0
    obtain ⟨hW1, hW2, hH1, hH2, hnn, hp⟩ := chk_ok hk
    subst hv
    cases v
    · exact ero_pix hN hW1 hH1 _ _ i0 i1
    · exact dil_pix hN hW1 hH1 _ _ i0 i1
  · obtain ⟨-, -, rfl⟩ := hs.2 h0
    omega

set_option maxRecDepth 100000 in
set_option maxHeartbeats 4000000 in
theorem imageBrushes_any (W H bw bh : Int) (A : Option Addr) (n c : Nat) (p : Int → Int) (w : World) (hA : ArrB w w.heap.size A n p) (hn : n ≤ maxLen) (hB : IsB p) (hc : A = none → c = 0) :
    Calls Tryd.prog 3 #[.agg #[.int .i64 W, .int .i64 H, .slice A n c], .int .i64 bw, .int .i64 bh] w fun e w' => e = .returned (.bool true) ∧ Below w.heap.size w w' := by
  unfold maxLen at hn
  by_cases h6 : (n : Int) > 1200 ∨ (12 < bw ∧ bw < 64) ∨ (12 < bh ∧ bh < 64)
  · rcases (show (n : Int) > 1200 ∨ (¬ (n : Int) > 1200 ∧ 12 < bw ∧ bw < 64) ∨ (¬ (n : Int) > 1200 ∧ bw ≤ 12 ∧ 12 < bh ∧ bh < 64) ∨ (¬ (n : Int) > 1200 ∧ 64 ≤ bw ∧ 12 < bh ∧ bh < 64) by omega) with h | ⟨h, h1, h2⟩ | ⟨h, h1, h2, h3⟩ | ⟨h, h1, h2, h3⟩
    all_goals
      clear h6
      go_enter Tryd.func3, Tryd.ntmps3
      go_wp2_with fail
      refine (awake1_any _).mono ?_
      rintro e w1 ⟨rfl, hb1⟩
      go_wp2
      go_ret
      exact ⟨rfl, below_call (by (repeat (first | exact Below.refl _ _ | assumption | refine Below.drew ?_ | refine below_drewN ?_ _ | refine Below.alloc ?_ (by first | omega | (simp; done) | (simp; omega)) _ | refine Below.setCell ?_ (by first | omega | (simp; done) | (simp; omega)) _ | refine below_setRow ?_ (by first | omega | (simp; done) | (simp; omega)) _ ))) (by simp; try omega) hb1⟩
  have hnm : n ≤ maxLen := by unfold maxLen; omega
  have l0 : ¬ (n : Int) > 1200 := by omega
  have lw : bw ≤ 12 ∨ 64 ≤ bw := by omega
  have lh : bh ≤ 12 ∨ 64 ≤ bh := by omega
  obtain ⟨p, hAp, hBp, h01⟩ : ∃ p', ArrB w w.heap.size A n p' ∧ IsB p' ∧ (chk W H n p' = 0 → ∀ i, p' i = 0 ∨ p' i = 1) := by
    refine ⟨fun i => if 0 ≤ i ∧ i < n then p i else 0, hA.congr fun i i0 i1 => by rw [if_pos ⟨i0, i1⟩], fun i => ?_, fun h i => ?_⟩
    · by_cases hi : 0 ≤ i ∧ i < (n : Int)
      · simp only [if_pos hi]; exact hB i
      · simp only [if_neg hi]; omega
    · obtain ⟨_, _, _, _, _, hp⟩ := chk_ok h
      by_cases hi : 0 ≤ i ∧ i < (n : Int)
      · have := hp i hi.1 hi.2
        simp only [if_pos hi] at this ⊢
        have := hB i
        omega
      · exact .inl (if_neg hi)
  clear hA hB h6
  have CG := Lib.hid fun w' hA' => copyInk_any W H A n c p w' hA' hc (by omega)
  have C4 := Lib.hid fun w' h' => rcheck_any W H A n c p w' h' hnm hBp
  have hpos : brE W H n p bw bh = 0 → 0 ≤ W ∧ W ≤ 640 ∧ 0 ≤ H ∧ H ≤ 640 := by
    intro h
    unfold brE at h
    split at h
    · rename_i hk; obtain ⟨a, b, c, d, _⟩ := chk_ok hk; exact ⟨a, b, c, d⟩
    · contradiction
  obtain ⟨Wx, Hx, Nx, ms⟩ := rsize_ex (brE W H n p bw bh) W H (fun h => by obtain ⟨a, b, c, d⟩ := hpos h; exact Int.mul_nonneg a c)
  have lx := rsize_le ms hpos
  have nxm : Nx ≤ maxLen := by unfold maxLen; omega
  have D1 := Lib.hid fun A' c' w' h' => dilate_all W H bw bh A' n c' p _ Wx Hx Nx w' h' hnm hBp rfl ms
  have D2 := Lib.hid fun w' h' => rbrush_all false W H bw bh A n c p _ Wx Hx Nx w' h' hnm hBp rfl ms
  have D3 := Lib.hid fun A' c' w' h' => erode_all W H bw bh A' n c' p _ Wx Hx Nx w' h' hnm hBp rfl ms
  have D4 := Lib.hid fun w' h' => rbrush_all true W H bw bh A n c p _ Wx Hx Nx w' h' hnm hBp rfl ms
  have E1 := Lib.hid (brush_same true false rfl W H bw bh n p _ Wx Hx Nx rfl ms)
  have E2 := Lib.hid (brush_same false true rfl W H bw bh n p _ Wx Hx Nx rfl ms)
  generalize brushQ true W H p bw.toNat bh.toNat = q1 at *
  generalize brushQ false W H p bw.toNat bh.toNat = q2 at *
  generalize brQ false W H p bw.toNat bh.toNat = q3 at *
  generalize brQ true W H p bw.toNat bh.toNat = q4 at *
  generalize brE W H n p bw bh = Ex at *
  have b0 : Below w.heap.size w (w.alloc (.cells #[.int .i64 W, .int .i64 H, .slice A n c] 24)) := by (repeat (first | exact Below.refl _ _ | assumption | refine Below.drew ?_ | refine below_drewN ?_ _ | refine Below.alloc ?_ (by first | omega | (simp; done) | (simp; omega)) _ | refine Below.setCell ?_ (by first | omega | (simp; done) | (simp; omega)) _ | refine below_setRow ?_ (by first | omega | (simp; done) | (simp; omega)) _ ))
  have K0 := ((Kp.nil (w.alloc (.cells #[.int .i64 W, .int .i64 H, .slice A n c] 24))).addB (Blk.new w 24 #[.int .i64 W, .int .i64 H, .slice A n c])).addA (hAp.to b0)
  by_cases h0 : chk W H n p = 0
  · rw [h0] at C4
    have p01 := h01 h0
    obtain ⟨hW1, hW2, hH1, hH2, hnn, hp⟩ := chk_ok h0
    obtain ⟨Wn, hWn⟩ : ∃ x : Nat, W = x := ⟨W.toNat, by omega⟩
    obtain ⟨Hn, hHn⟩ : ∃ x : Nat, H = x := ⟨H.toNat, by omega⟩
    have hN : n = Wn * Hn := by rw [hWn, hHn] at hnn; exact_mod_cast hnn
    have C1 := Lib.hid fun A' c' w' h' => thin_any Wn Hn A' n c' p w' h' hBp (by omega) (by omega) hN (by rw [← hWn, ← hHn]; exact h0) p01
    have C2 := Lib.hid fun w' h' => rthin_any Wn Hn A n c p w' h' hc (by omega) (by omega) hN p01
    rw [← hWn, ← hHn] at C1 C2
    have UQ := Lib.hid fun (q q' : Int → Int) (h : Thinned Wn Hn p q) (h' : Thinned Wn Hn p q') => h.uniq h'
    clear hn hc hBp hAp h0 hp hnn hN h01 p01 hWn hHn ms hpos
    go_enter Tryd.func3, Tryd.ntmps3
    go_upto_region 1 with fail
    have k0 := K0.b 0 rfl
    obtain ⟨p1, p2, p3⟩ := k0.cells3
    generalize w.alloc (.cells #[.int .i64 W, .int .i64 H, .slice A n c] 24) = w1 at *
    go_cut [38] (fun t wx => t = .bool false ∧ wx = w1)
    case first =>
      rcases lw with lw | lw <;> rcases lh with lh | lh
      all_goals
        go_wp2_with fail
        go_meet
        exact ⟨by first | rfl | (simp; omega), by first | rfl | trivial⟩
    case rest =>
    obtain ⟨rfl, rfl⟩ := hcut
    clear k0 p1 p2 p3
    obtain ⟨p1, p2, p3⟩ := (K0.b 0 rfl).cells3
    go_wp2_with fail
    refine (CG.out _ (K0.a 0 rfl)).mono ?_
    rintro e v1 ⟨_, rfl, ⟨_, rfl, Aa, ca, rfl, hca, hna, hga, aa⟩, hb1⟩
    have K1a := (K0.below hb1).addA aa
    have b1a := below_call b0 b0.size hb1
    have z1 := b1a.size
    have b1 : Below w.heap.size w (v1.alloc (.cells #[.int .i64 W, .int .i64 H, .slice Aa n ca] 24)) := by (repeat (first | exact Below.refl _ _ | assumption | refine Below.drew ?_ | refine below_drewN ?_ _ | refine Below.alloc ?_ (by first | omega | (simp; done) | (simp; omega)) _ | refine Below.setCell ?_ (by first | omega | (simp; done) | (simp; omega)) _ | refine below_setRow ?_ (by first | omega | (simp; done) | (simp; omega)) _ ))
    have K1 := K1a.new 24 #[.int .i64 W, .int .i64 H, .slice Aa n ca]
    clear K0 b0 K1a b1a hb1 aa hga p1 p2 p3 z1 CG hca hna
    obtain ⟨p1, p2, p3⟩ := (K1.b 0 rfl).cells3
    go_wp2_with fail
    generalize v1.alloc (.cells #[.int .i64 W, .int .i64 H, .slice Aa n ca] 24) = w1 at *
    refine (D1.out _ _ _ (K1.a 0 rfl)).mono ?_
    rintro e v2 ⟨_, rfl, ⟨Ax1, cx1, rfl, hgx1, ax1⟩, hb2⟩
    have K2a := (K1.below hb2).addA ax1
    have b2a := below_call b1 b1.size hb2
    have z2 := b2a.size
    have b2 : Below w.heap.size w (v2.alloc (.cells #[.int .i64 Wx, .int .i64 Hx, .slice Ax1 Nx cx1] 24)) := by (repeat (first | exact Below.refl _ _ | assumption | refine Below.drew ?_ | refine below_drewN ?_ _ | refine Below.alloc ?_ (by first | omega | (simp; done) | (simp; omega)) _ | refine Below.setCell ?_ (by first | omega | (simp; done) | (simp; omega)) _ | refine below_setRow ?_ (by first | omega | (simp; done) | (simp; omega)) _ ))
    have K2 := K2a.new 24 #[.int .i64 Wx, .int .i64 Hx, .slice Ax1 Nx cx1]
    clear K1 b1 K2a b2a hb2 ax1 hgx1 p1 p2 p3 z2 D1
    obtain ⟨p1, p2, p3⟩ := (K2.b 2 rfl).cells3
    go_wp2_with fail
    generalize v2.alloc (.cells #[.int .i64 Wx, .int .i64 Hx, .slice Ax1 Nx cx1] 24) = w2 at *
    refine (D2.out _ (K2.a 2 rfl)).mono ?_
    rintro e v3 ⟨_, rfl, ⟨Ay1, cy1, rfl, hgy1, ay1⟩, hb3⟩
    have K3a := (K2.below hb3).addA ay1
    have b3a := below_call b2 b2.size hb3
    have z3 := b3a.size
    have b3 : Below w.heap.size w (v3.alloc (.cells #[.int .i64 Wx, .int .i64 Hx, .slice Ay1 Nx cy1] 24)) := by (repeat (first | exact Below.refl _ _ | assumption | refine Below.drew ?_ | refine below_drewN ?_ _ | refine Below.alloc ?_ (by first | omega | (simp; done) | (simp; omega)) _ | refine Below.setCell ?_ (by first | omega | (simp; done) | (simp; omega)) _ | refine below_setRow ?_ (by first | omega | (simp; done) | (simp; omega)) _ ))
    have K3 := K3a.new 24 #[.int .i64 Wx, .int .i64 Hx, .slice Ay1 Nx cy1]
    clear K2 b2 K3a b3a hb3 ay1 hgy1 p1 p2 p3 z3 D2
    obtain ⟨p1, p2, p3⟩ := (K3.b 2 rfl).cells3
    go_wp2_with fail
    generalize v3.alloc (.cells #[.int .i64 Wx, .int .i64 Hx, .slice Ay1 Nx cy1] 24) = w3 at *
    refine (D3.out _ _ _ (K3.a 2 rfl)).mono ?_
    rintro e v4 ⟨_, rfl, ⟨Ax2, cx2, rfl, hgx2, ax2⟩, hb4⟩
    have K4a := (K3.below hb4).addA ax2
    have b4a := below_call b3 b3.size hb4
    have z4 := b4a.size
    have b4 : Below w.heap.size w (v4.alloc (.cells #[.int .i64 Wx, .int .i64 Hx, .slice Ax2 Nx cx2] 24)) := by (repeat (first | exact Below.refl _ _ | assumption | refine Below.drew ?_ | refine below_drewN ?_ _ | refine Below.alloc ?_ (by first | omega | (simp; done) | (simp; omega)) _ | refine Below.setCell ?_ (by first | omega | (simp; done) | (simp; omega)) _ | refine below_setRow ?_ (by first | omega | (simp; done) | (simp; omega)) _ ))
    have K4 := K4a.new 24 #[.int .i64 Wx, .int .i64 Hx, .slice Ax2 Nx cx2]
    clear K3 b3 K4a b4a hb4 ax2 hgx2 p1 p2 p3 z4 D3
    obtain ⟨p1, p2, p3⟩ := (K4.b 4 rfl).cells3
    go_wp2_with fail
    generalize v4.alloc (.cells #[.int .i64 Wx, .int .i64 Hx, .slice Ax2 Nx cx2] 24) = w4 at *
    refine (D4.out _ (K4.a 4 rfl)).mono ?_
    rintro e v5 ⟨_, rfl, ⟨Ay2, cy2, rfl, hgy2, ay2⟩, hb5⟩
    have K5a := (K4.below hb5).addA ay2
    have b5a := below_call b4 b4.size hb5
    have z5 := b5a.size
    have b5 : Below w.heap.size w (v5.alloc (.cells #[.int .i64 Wx, .int .i64 Hx, .slice Ay2 Nx cy2] 24)) := by (repeat (first | exact Below.refl _ _ | assumption | refine Below.drew ?_ | refine below_drewN ?_ _ | refine Below.alloc ?_ (by first | omega | (simp; done) | (simp; omega)) _ | refine Below.setCell ?_ (by first | omega | (simp; done) | (simp; omega)) _ | refine below_setRow ?_ (by first | omega | (simp; done) | (simp; omega)) _ ))
    have K5 := K5a.new 24 #[.int .i64 Wx, .int .i64 Hx, .slice Ay2 Nx cy2]
    clear K4 b4 K5a b5a hb5 ay2 hgy2 p1 p2 p3 z5 D4
    obtain ⟨p1, p2, p3⟩ := (K5.b 4 rfl).cells3
    go_wp2_with fail
    generalize v5.alloc (.cells #[.int .i64 Wx, .int .i64 Hx, .slice Ay2 Nx cy2] 24) = w5 at *
    refine (C1.out _ _ _ (K5.a 4 rfl)).mono ?_
    rintro e v6 ⟨_, rfl, ⟨q, ht, Ath, cth, rfl, hgth, ath⟩, hb6⟩
    have K6a := (K5.below hb6).addA ath
    have b6a := below_call b5 b5.size hb6
    have z6 := b6a.size
    have b6 : Below w.heap.size w (v6.alloc (.cells #[.int .i64 W, .int .i64 H, .slice Ath n cth] 24)) := by (repeat (first | exact Below.refl _ _ | assumption | refine Below.drew ?_ | refine below_drewN ?_ _ | refine Below.alloc ?_ (by first | omega | (simp; done) | (simp; omega)) _ | refine Below.setCell ?_ (by first | omega | (simp; done) | (simp; omega)) _ | refine below_setRow ?_ (by first | omega | (simp; done) | (simp; omega)) _ ))
    have K6 := K6a.new 24 #[.int .i64 W, .int .i64 H, .slice Ath n cth]
    clear K5 b5 K6a b6a hb6 ath hgth p1 p2 p3 z6 C1
    obtain ⟨p1, p2, p3⟩ := (K6.b 6 rfl).cells3
    obtain ⟨r1, r2, r3⟩ := (K6.b 0 rfl).cells3
    go_wp2_with fail
    generalize v6.alloc (.cells #[.int .i64 W, .int .i64 H, .slice Ath n cth] 24) = w6 at *
    refine (C4.out _ (K6.a 6 rfl)).mono ?_
    rintro e v7 ⟨rfl, hb7⟩
    have K7 := K6.below hb7
    have b7 := below_call b6 b6.size hb7
    clear K6 b6 hb7 p1 p2 p3 r1 r2 r3 C4
    go_upto_region 10 with fail
    have KS := Lib.hid fun (w' : World) (h : Below v7.heap.size v7 w') => (⟨((K7.b 0 rfl).below' h).cells3.1, ((K7.b 0 rfl).below' h).cells3.2.1, ((K7.b 0 rfl).below' h).cells3.2.2, ((K7.b 6 rfl).below' h).cells3.1, ((K7.b 6 rfl).below' h).cells3.2.1, ((K7.b 6 rfl).below' h).cells3.2.2⟩ : w'.cell? ⟨v6.heap.size, 0, none⟩ = some (.int .i64 W) ∧ w'.cell? ⟨v6.heap.size, 1, none⟩ = some (.int .i64 H) ∧ w'.cell? ⟨v6.heap.size, 2, none⟩ = some (.slice Ath n cth) ∧ w'.cell? ⟨w.heap.size, 0, none⟩ = some (.int .i64 W) ∧ w'.cell? ⟨w.heap.size, 1, none⟩ = some (.int .i64 H) ∧ w'.cell? ⟨w.heap.size, 2, none⟩ = some (.slice A n c))
    have bw : Below v7.heap.size v7 v7.drew := (Below.refl _ _).drew
    refine wp_region_held_drew (S := fun w' => w'.cell? ⟨v6.heap.size, 0, none⟩ = some (.int .i64 W) ∧ w'.cell? ⟨v6.heap.size, 1, none⟩ = some (.int .i64 H) ∧ w'.cell? ⟨v6.heap.size, 2, none⟩ = some (.slice Ath n cth) ∧ w'.cell? ⟨w.heap.size, 0, none⟩ = some (.int .i64 W) ∧ w'.cell? ⟨w.heap.size, 1, none⟩ = some (.int .i64 H) ∧ w'.cell? ⟨w.heap.size, 2, none⟩ = some (.slice A n c)) (by kernel_rfl) (KS.out _ (Below.refl _ _).drew) (fun hHeld => ?_)
    refine wpAnyH_take (i := 0) (oi := _) (v := ?_) (by simp only [List.getElem?_toArray, List.getElem?_cons_zero]; exact rfl) (by kernel_rfl) (by kernel_rfl) (by kernel_rfl) (by exact fun _ _ _ h => h) (Or.inl ⟨by rfl, ?_⟩) (by assumption) ?_
    rotate_left 1
    · intro w hSw
      (try dsimp only at hSw)
      go_simp
      try with_reducible rfl
    try simp only [Act.put, List.setIfInBounds_toArray, List.set_cons_zero, List.set_cons_succ]
    refine wpAnyH_take (i := 1) (oi := _) (v := ?_) (by simp only [List.getElem?_toArray, List.getElem?_cons_zero, List.getElem?_cons_succ]; exact rfl) (by kernel_rfl) (by kernel_rfl) (by kernel_rfl) (by exact fun _ _ _ h => h) (Or.inl ⟨by rfl, ?_⟩) (by assumption) ?_
    rotate_left 1
    · intro w hSw
      (try dsimp only at hSw)
      go_simp
      try with_reducible rfl
    try simp only [Act.put, List.setIfInBounds_toArray, List.set_cons_zero, List.set_cons_succ]
    refine wpAnyH_take (i := 2) (oi := _) (v := ?_) (by simp only [List.getElem?_toArray, List.getElem?_cons_zero, List.getElem?_cons_succ]; exact rfl) (by kernel_rfl) (by kernel_rfl) (by kernel_rfl) (by exact fun _ _ _ h => h) (Or.inl ⟨by rfl, ?_⟩) (by assumption) ?_
    rotate_left 1
    · intro w hSw
      (try dsimp only at hSw)
      go_simp
      try with_reducible rfl
    try simp only [Act.put, List.setIfInBounds_toArray, List.set_cons_zero, List.set_cons_succ]
    refine wpAnyH_take (i := 3) (oi := _) (v := ?_) (by simp only [List.getElem?_toArray, List.getElem?_cons_zero, List.getElem?_cons_succ]; exact rfl) (by kernel_rfl) (by kernel_rfl) (by kernel_rfl) (by exact fun _ _ _ h => h) (Or.inl ⟨by rfl, ?_⟩) (by assumption) ?_
    rotate_left 1
    · intro w hSw
      (try dsimp only at hSw)
      go_simp
      try with_reducible rfl
    try simp only [Act.put, List.setIfInBounds_toArray, List.set_cons_zero, List.set_cons_succ]
    refine wpAnyH_take (i := 4) (oi := _) (v := ?_) (by simp only [List.getElem?_toArray, List.getElem?_cons_zero, List.getElem?_cons_succ]; exact rfl) (by kernel_rfl) (by kernel_rfl) (by kernel_rfl) (by exact fun _ _ _ h => h) (Or.inl ⟨by rfl, ?_⟩) (by assumption) ?_
    rotate_left 1
    · intro w hSw
      (try dsimp only at hSw)
      go_simp
      try with_reducible rfl
    try simp only [Act.put, List.setIfInBounds_toArray, List.set_cons_zero, List.set_cons_succ]
    refine wpAnyH_take (i := 5) (oi := _) (v := ?_) (by simp only [List.getElem?_toArray, List.getElem?_cons_zero, List.getElem?_cons_succ]; exact rfl) (by kernel_rfl) (by kernel_rfl) (by kernel_rfl) (by exact fun _ _ _ h => h) (Or.inl ⟨by rfl, ?_⟩) (by assumption) ?_
    rotate_left 1
    · intro w hSw
      (try dsimp only at hSw)
      go_simp
      try with_reducible rfl
    try simp only [Act.put, List.setIfInBounds_toArray, List.set_cons_zero, List.set_cons_succ]
    refine wpAnyH_take (i := 6) (oi := _) (v := ?_) (by simp only [List.getElem?_toArray, List.getElem?_cons_zero, List.getElem?_cons_succ]; exact rfl) (by kernel_rfl) (by kernel_rfl) (by kernel_rfl) (by exact fun _ _ _ h => h) (Or.inl ⟨by rfl, ?_⟩) (by assumption) ?_
    rotate_left 1
    · intro w hSw
      (try dsimp only at hSw)
      go_simp
      try with_reducible rfl
    try simp only [Act.put, List.setIfInBounds_toArray, List.set_cons_zero, List.set_cons_succ]
    refine wpAnyH_take (i := 7) (oi := _) (v := ?_) (by simp only [List.getElem?_toArray, List.getElem?_cons_zero, List.getElem?_cons_succ]; exact rfl) (by kernel_rfl) (by kernel_rfl) (by kernel_rfl) (by exact fun _ _ _ h => h) (Or.inl ⟨by rfl, ?_⟩) (by assumption) ?_
    rotate_left 1
    · intro w hSw
      (try dsimp only at hSw)
      go_simp
      try with_reducible rfl
    try simp only [Act.put, List.setIfInBounds_toArray, List.set_cons_zero, List.set_cons_succ]
    refine wpAnyH_take (i := 8) (oi := _) (v := ?_) (by simp only [List.getElem?_toArray, List.getElem?_cons_zero, List.getElem?_cons_succ]; exact rfl) (by kernel_rfl) (by kernel_rfl) (by kernel_rfl) (by exact fun _ _ _ h => h) (Or.inl ⟨by rfl, ?_⟩) (by assumption) ?_
    rotate_left 1
    · intro w hSw
      (try dsimp only at hSw)
      go_simp
      try with_reducible rfl
    try simp only [Act.put, List.setIfInBounds_toArray, List.set_cons_zero, List.set_cons_succ]
    refine wpAnyH_ready (rs := [9]) (by kernel_rfl) (by simp) ?_
    refine (AllReadyH.cons (o := _) (by simp only [List.getElem?_toArray, List.getElem?_cons_zero, List.getElem?_cons_succ]; exact rfl) (fun K' hK => ?_) AllReadyH.nil)
    go_simp
    refine (C2.out _ ((K7.below bw).a 6 rfl)).mono ?_
    rintro ee x1 ⟨_, rfl, ⟨Ar, cr, q', rfl, ht', ar⟩, hx1⟩
    have c1 := below_call bw bw.size hx1
    refine hK.out _ _ (KS.out _ c1) (fun hHeld => ?_)
    clear hK K'
    try simp only [Act.put, List.setIfInBounds_toArray, List.set_cons_zero, List.set_cons_succ]
    refine wpAnyH_ready (rs := [10]) (by kernel_rfl) (by simp) ?_
    refine (AllReadyH.cons (o := _) (by simp only [List.getElem?_toArray, List.getElem?_cons_zero, List.getElem?_cons_succ]; exact rfl) (fun K' hK => ?_) AllReadyH.nil)
    go_simp
    refine (sameInk_true W H Ath Ar n cth cr q q' _ ((K7.below c1).a 0 rfl) ar hnm (fun _ _ _ => by rw [UQ.out q q' ht ht'])).mono ?_
    rintro ee x2 ⟨rfl, hx2⟩
    have c2 := below_call c1 c1.size hx2
    refine hK.out _ _ (KS.out _ c2) (fun hHeld => ?_)
    clear hK K'
    try simp only [Act.put, List.setIfInBounds_toArray, List.set_cons_zero, List.set_cons_succ]
    refine wpAnyH_take (i := 11) (oi := _) (v := ?_) (by simp only [List.getElem?_toArray, List.getElem?_cons_zero, List.getElem?_cons_succ]; exact rfl) (by kernel_rfl) (by kernel_rfl) (by kernel_rfl) (by exact fun _ _ _ h => h) (Or.inl ⟨by rfl, ?_⟩) (by assumption) ?_
    rotate_left 1
    · intro w hSw
      (try dsimp only at hSw)
      go_simp
      try with_reducible rfl
    try simp only [Act.put, List.setIfInBounds_toArray, List.set_cons_zero, List.set_cons_succ]
    refine wpAnyH_take (i := 12) (oi := _) (v := ?_) (by simp only [List.getElem?_toArray, List.getElem?_cons_zero, List.getElem?_cons_succ]; exact rfl) (by kernel_rfl) (by kernel_rfl) (by kernel_rfl) (by exact fun _ _ _ h => h) (Or.inl ⟨by rfl, ?_⟩) (by assumption) ?_
    rotate_left 1
    · intro w hSw
      (try dsimp only at hSw)
      go_simp
      try with_reducible rfl
    try simp only [Act.put, List.setIfInBounds_toArray, List.set_cons_zero, List.set_cons_succ]
    refine wpAnyH_take (i := 13) (oi := _) (v := ?_) (by simp only [List.getElem?_toArray, List.getElem?_cons_zero, List.getElem?_cons_succ]; exact rfl) (by kernel_rfl) (by kernel_rfl) (by kernel_rfl) (by exact fun _ _ _ h => h) (Or.inl ⟨by rfl, ?_⟩) (by assumption) ?_
    rotate_left 1
    · intro w hSw
      (try dsimp only at hSw)
      go_simp
      try with_reducible rfl
    try simp only [Act.put, List.setIfInBounds_toArray, List.set_cons_zero, List.set_cons_succ]
    refine wpAnyH_take (i := 14) (oi := _) (v := ?_) (by simp only [List.getElem?_toArray, List.getElem?_cons_zero, List.getElem?_cons_succ]; exact rfl) (by kernel_rfl) (by kernel_rfl) (by kernel_rfl) (by exact fun _ _ _ h => h) (Or.inl ⟨by rfl, ?_⟩) (by assumption) ?_
    rotate_left 1
    · intro w hSw
      (try dsimp only at hSw)
      go_simp
      try with_reducible rfl
    try simp only [Act.put, List.setIfInBounds_toArray, List.set_cons_zero, List.set_cons_succ]
    refine wpAnyH_take (i := 15) (oi := _) (v := ?_) (by simp only [List.getElem?_toArray, List.getElem?_cons_zero, List.getElem?_cons_succ]; exact rfl) (by kernel_rfl) (by kernel_rfl) (by kernel_rfl) (by exact fun _ _ _ h => h) (Or.inl ⟨by rfl, ?_⟩) (by assumption) ?_
    rotate_left 1
    · intro w hSw
      (try dsimp only at hSw)
      go_simp
      try with_reducible rfl
    try simp only [Act.put, List.setIfInBounds_toArray, List.set_cons_zero, List.set_cons_succ]
    refine wpAnyH_take (i := 16) (oi := _) (v := ?_) (by simp only [List.getElem?_toArray, List.getElem?_cons_zero, List.getElem?_cons_succ]; exact rfl) (by kernel_rfl) (by kernel_rfl) (by kernel_rfl) (by exact fun _ _ _ h => h) (Or.inl ⟨by rfl, ?_⟩) (by assumption) ?_
    rotate_left 1
    · intro w hSw
      (try dsimp only at hSw)
      go_simp
      try with_reducible rfl
    try simp only [Act.put, List.setIfInBounds_toArray, List.set_cons_zero, List.set_cons_succ]
    refine wpAnyH_take (i := 17) (oi := _) (v := ?_) (by simp only [List.getElem?_toArray, List.getElem?_cons_zero, List.getElem?_cons_succ]; exact rfl) (by kernel_rfl) (by kernel_rfl) (by kernel_rfl) (by exact fun _ _ _ h => h) (Or.inl ⟨by rfl, ?_⟩) (by assumption) ?_
    rotate_left 1
    · intro w hSw
      (try dsimp only at hSw)
      go_simp
      try with_reducible rfl
    try simp only [Act.put, List.setIfInBounds_toArray, List.set_cons_zero, List.set_cons_succ]
    refine wpAnyH_take (i := 18) (oi := _) (v := undef) (by simp only [List.getElem?_toArray, List.getElem?_cons_zero, List.getElem?_cons_succ]; exact rfl) (by kernel_rfl) (by kernel_rfl) (by kernel_rfl) (by exact fun _ _ _ h => h) (Or.inr ⟨by rfl, rfl⟩) (by assumption) ?_
    try simp only [Act.put, List.setIfInBounds_toArray, List.set_cons_zero, List.set_cons_succ]
    refine wpAnyH_take (i := 19) (oi := _) (v := undef) (by simp only [List.getElem?_toArray, List.getElem?_cons_zero, List.getElem?_cons_succ]; exact rfl) (by kernel_rfl) (by kernel_rfl) (by kernel_rfl) (by exact fun _ _ _ h => h) (Or.inr ⟨by rfl, rfl⟩) (by assumption) ?_
    try simp only [Act.put, List.setIfInBounds_toArray, List.set_cons_zero, List.set_cons_succ]
    refine wpAnyH_take (i := 20) (oi := _) (v := undef) (by simp only [List.getElem?_toArray, List.getElem?_cons_zero, List.getElem?_cons_succ]; exact rfl) (by kernel_rfl) (by kernel_rfl) (by kernel_rfl) (by exact fun _ _ _ h => h) (Or.inr ⟨by rfl, rfl⟩) (by assumption) ?_
    try simp only [Act.put, List.setIfInBounds_toArray, List.set_cons_zero, List.set_cons_succ]
    refine wpAnyH_take (i := 21) (oi := _) (v := undef) (by simp only [List.getElem?_toArray, List.getElem?_cons_zero, List.getElem?_cons_succ]; exact rfl) (by kernel_rfl) (by kernel_rfl) (by kernel_rfl) (by exact fun _ _ _ h => h) (Or.inr ⟨by rfl, rfl⟩) (by assumption) ?_
    try simp only [Act.put, List.setIfInBounds_toArray, List.set_cons_zero, List.set_cons_succ]
    refine wpAnyH_take (i := 22) (oi := _) (v := ?_) (by simp only [List.getElem?_toArray, List.getElem?_cons_zero, List.getElem?_cons_succ]; exact rfl) (by kernel_rfl) (by kernel_rfl) (by kernel_rfl) (by exact fun _ _ _ h => h) (Or.inl ⟨by rfl, ?_⟩) (by assumption) ?_
    rotate_left 1
    · intro w hSw
      (try dsimp only at hSw)
      go_simp
      try with_reducible rfl
    try simp only [Act.put, List.setIfInBounds_toArray, List.set_cons_zero, List.set_cons_succ]
    refine wpAnyH_take (i := 23) (oi := _) (v := ?_) (by simp only [List.getElem?_toArray, List.getElem?_cons_zero, List.getElem?_cons_succ]; exact rfl) (by kernel_rfl) (by kernel_rfl) (by kernel_rfl) (by exact fun _ _ _ h => h) (Or.inl ⟨by rfl, ?_⟩) (by assumption) ?_
    rotate_left 1
    · intro w hSw
      (try dsimp only at hSw)
      go_simp
      try with_reducible rfl
    try simp only [Act.put, List.setIfInBounds_toArray, List.set_cons_zero, List.set_cons_succ]
    refine wpAnyH_done (by kernel_rfl) ?_ _
    have K8 := K7.below c2
    have b8 := below_call b7 b7.size c2
    clear K7 b7 KS hHeld ht ht' ar UQ C2 hx1 hx2 c1 c2  bw
    generalize x2 = w8 at *
    obtain ⟨p1, p2, p3⟩ := (K8.b 4 rfl).cells3
    obtain ⟨r1, r2, r3⟩ := (K8.b 3 rfl).cells3
    go_wp2_with fail
    refine (same_true Wx Hx Ex Ax1 Ay1 Nx cx1 cy1 q1 q3 _ (K8.a 4 rfl) (K8.a 3 rfl) nxm E1.out).mono ?_
    rintro e v9 ⟨rfl, hb9⟩
    have K9 := K8.below hb9
    have b9 := below_call b8 b8.size hb9
    clear K8 b8 hb9 p1 p2 p3 r1 r2 r3 
    obtain ⟨p1, p2, p3⟩ := (K9.b 2 rfl).cells3
    obtain ⟨r1, r2, r3⟩ := (K9.b 1 rfl).cells3
    go_wp2_with fail
    refine (same_true Wx Hx Ex Ax2 Ay2 Nx cx2 cy2 q2 q4 _ (K9.a 2 rfl) (K9.a 1 rfl) nxm E2.out).mono ?_
    rintro e v10 ⟨rfl, hb10⟩
    have K10 := K9.below hb10
    have b10 := below_call b9 b9.size hb10
    clear K9 b9 hb10 p1 p2 p3 r1 r2 r3 
    obtain ⟨p1, p2, p3⟩ := (K10.b 5 rfl).cells3
    obtain ⟨r1, r2, r3⟩ := (K10.b 6 rfl).cells3
    go_wp2_with fail
    refine (sameInk_true W H Aa A n ca c p p _ (K10.a 5 rfl) (K10.a 6 rfl) hnm (fun _ _ _ => rfl)).mono ?_
    rintro e v11 ⟨rfl, hb11⟩
    have K11 := K10.below hb11
    have b11 := below_call b10 b10.size hb11
    clear K10 b10 hb11 p1 p2 p3 r1 r2 r3 
    go_wp2_with fail
    refine (awake1_any _).mono ?_
    rintro e v12 ⟨rfl, hb12⟩
    have b12 := below_call b11 b11.size hb12
    go_wp2
    go_ret
    exact ⟨rfl, b12⟩
  · have C1 := Lib.hid fun A' c' w' h' => thin_bad W H A' n c' p w' h' hnm h0
    obtain ⟨E, hE⟩ : ∃ E, chk W H n p = E := ⟨_, rfl⟩
    rw [hE] at C1 C4 h0
    have hz : (E != 0) = true := by simp [h0]
    have hz2 : (E == 0) = false := by simp [h0]
    clear hn hc hBp hAp hE h0 h01 ms hpos
    go_enter Tryd.func3, Tryd.ntmps3
    go_upto_region 1 with fail
    have k0 := K0.b 0 rfl
    obtain ⟨p1, p2, p3⟩ := k0.cells3
    generalize w.alloc (.cells #[.int .i64 W, .int .i64 H, .slice A n c] 24) = w1 at *
    go_cut [38] (fun t wx => t = .bool false ∧ wx = w1)
    case first =>
      rcases lw with lw | lw <;> rcases lh with lh | lh
      all_goals
        go_wp2_with fail
        go_meet
        exact ⟨by first | rfl | (simp; omega), by first | rfl | trivial⟩
    case rest =>
    obtain ⟨rfl, rfl⟩ := hcut
    clear k0 p1 p2 p3
    obtain ⟨p1, p2, p3⟩ := (K0.b 0 rfl).cells3
    go_wp2_with fail
    refine (CG.out _ (K0.a 0 rfl)).mono ?_
    rintro e v1 ⟨_, rfl, ⟨_, rfl, Aa, ca, rfl, hca, hna, hga, aa⟩, hb1⟩
    have K1a := (K0.below hb1).addA aa
    have b1a := below_call b0 b0.size hb1
    have z1 := b1a.size
    have b1 : Below w.heap.size w (v1.alloc (.cells #[.int .i64 W, .int .i64 H, .slice Aa n ca] 24)) := by (repeat (first | exact Below.refl _ _ | assumption | refine Below.drew ?_ | refine below_drewN ?_ _ | refine Below.alloc ?_ (by first | omega | (simp; done) | (simp; omega)) _ | refine Below.setCell ?_ (by first | omega | (simp; done) | (simp; omega)) _ | refine below_setRow ?_ (by first | omega | (simp; done) | (simp; omega)) _ ))
    have K1 := K1a.new 24 #[.int .i64 W, .int .i64 H, .slice Aa n ca]
    clear K0 b0 K1a b1a hb1 aa hga p1 p2 p3 z1 CG hca hna
    obtain ⟨p1, p2, p3⟩ := (K1.b 0 rfl).cells3
    go_wp2_with fail
    generalize v1.alloc (.cells #[.int .i64 W, .int .i64 H, .slice Aa n ca] 24) = w1 at *
    refine (D1.out _ _ _ (K1.a 0 rfl)).mono ?_
    rintro e v2 ⟨_, rfl, ⟨Ax1, cx1, rfl, hgx1, ax1⟩, hb2⟩
    have K2a := (K1.below hb2).addA ax1
    have b2a := below_call b1 b1.size hb2
    have z2 := b2a.size
    have b2 : Below w.heap.size w (v2.alloc (.cells #[.int .i64 Wx, .int .i64 Hx, .slice Ax1 Nx cx1] 24)) := by (repeat (first | exact Below.refl _ _ | assumption | refine Below.drew ?_ | refine below_drewN ?_ _ | refine Below.alloc ?_ (by first | omega | (simp; done) | (simp; omega)) _ | refine Below.setCell ?_ (by first | omega | (simp; done) | (simp; omega)) _ | refine below_setRow ?_ (by first | omega | (simp; done) | (simp; omega)) _ ))
    have K2 := K2a.new 24 #[.int .i64 Wx, .int .i64 Hx, .slice Ax1 Nx cx1]
    clear K1 b1 K2a b2a hb2 ax1 hgx1 p1 p2 p3 z2 D1
    obtain ⟨p1, p2, p3⟩ := (K2.b 2 rfl).cells3
    go_wp2_with fail
    generalize v2.alloc (.cells #[.int .i64 Wx, .int .i64 Hx, .slice Ax1 Nx cx1] 24) = w2 at *
    refine (D2.out _ (K2.a 2 rfl)).mono ?_
    rintro e v3 ⟨_, rfl, ⟨Ay1, cy1, rfl, hgy1, ay1⟩, hb3⟩
    have K3a := (K2.below hb3).addA ay1
    have b3a := below_call b2 b2.size hb3
    have z3 := b3a.size
    have b3 : Below w.heap.size w (v3.alloc (.cells #[.int .i64 Wx, .int .i64 Hx, .slice Ay1 Nx cy1] 24)) := by (repeat (first | exact Below.refl _ _ | assumption | refine Below.drew ?_ | refine below_drewN ?_ _ | refine Below.alloc ?_ (by first | omega | (simp; done) | (simp; omega)) _ | refine Below.setCell ?_ (by first | omega | (simp; done) | (simp; omega)) _ | refine below_setRow ?_ (by first | omega | (simp; done) | (simp; omega)) _ ))
    have K3 := K3a.new 24 #[.int .i64 Wx, .int .i64 Hx, .slice Ay1 Nx cy1]
    clear K2 b2 K3a b3a hb3 ay1 hgy1 p1 p2 p3 z3 D2
    obtain ⟨p1, p2, p3⟩ := (K3.b 2 rfl).cells3
    go_wp2_with fail
    generalize v3.alloc (.cells #[.int .i64 Wx, .int .i64 Hx, .slice Ay1 Nx cy1] 24) = w3 at *
    refine (D3.out _ _ _ (K3.a 2 rfl)).mono ?_
    rintro e v4 ⟨_, rfl, ⟨Ax2, cx2, rfl, hgx2, ax2⟩, hb4⟩
    have K4a := (K3.below hb4).addA ax2
    have b4a := below_call b3 b3.size hb4
    have z4 := b4a.size
    have b4 : Below w.heap.size w (v4.alloc (.cells #[.int .i64 Wx, .int .i64 Hx, .slice Ax2 Nx cx2] 24)) := by (repeat (first | exact Below.refl _ _ | assumption | refine Below.drew ?_ | refine below_drewN ?_ _ | refine Below.alloc ?_ (by first | omega | (simp; done) | (simp; omega)) _ | refine Below.setCell ?_ (by first | omega | (simp; done) | (simp; omega)) _ | refine below_setRow ?_ (by first | omega | (simp; done) | (simp; omega)) _ ))
    have K4 := K4a.new 24 #[.int .i64 Wx, .int .i64 Hx, .slice Ax2 Nx cx2]
    clear K3 b3 K4a b4a hb4 ax2 hgx2 p1 p2 p3 z4 D3
    obtain ⟨p1, p2, p3⟩ := (K4.b 4 rfl).cells3
    go_wp2_with fail
    generalize v4.alloc (.cells #[.int .i64 Wx, .int .i64 Hx, .slice Ax2 Nx cx2] 24) = w4 at *
    refine (D4.out _ (K4.a 4 rfl)).mono ?_
    rintro e v5 ⟨_, rfl, ⟨Ay2, cy2, rfl, hgy2, ay2⟩, hb5⟩
    have K5a := (K4.below hb5).addA ay2
    have b5a := below_call b4 b4.size hb5
    have z5 := b5a.size
    have b5 : Below w.heap.size w (v5.alloc (.cells #[.int .i64 Wx, .int .i64 Hx, .slice Ay2 Nx cy2] 24)) := by (repeat (first | exact Below.refl _ _ | assumption | refine Below.drew ?_ | refine below_drewN ?_ _ | refine Below.alloc ?_ (by first | omega | (simp; done) | (simp; omega)) _ | refine Below.setCell ?_ (by first | omega | (simp; done) | (simp; omega)) _ | refine below_setRow ?_ (by first | omega | (simp; done) | (simp; omega)) _ ))
    have K5 := K5a.new 24 #[.int .i64 Wx, .int .i64 Hx, .slice Ay2 Nx cy2]
    clear K4 b4 K5a b5a hb5 ay2 hgy2 p1 p2 p3 z5 D4
    obtain ⟨p1, p2, p3⟩ := (K5.b 4 rfl).cells3
    go_wp2_with fail
    generalize v5.alloc (.cells #[.int .i64 Wx, .int .i64 Hx, .slice Ay2 Nx cy2] 24) = w5 at *
    refine (C1.out _ _ _ (K5.a 4 rfl)).mono ?_
    rintro e v6 ⟨_, rfl, ⟨Ath, cth, rfl, hgth, ath⟩, hb6⟩
    have K6a := (K5.below hb6).addA ath
    have b6a := below_call b5 b5.size hb6
    have z6 := b6a.size
    have b6 : Below w.heap.size w (v6.alloc (.cells #[.int .i64 0, .int .i64 0, .slice Ath (0 : Nat) cth] 24)) := by (repeat (first | exact Below.refl _ _ | assumption | refine Below.drew ?_ | refine below_drewN ?_ _ | refine Below.alloc ?_ (by first | omega | (simp; done) | (simp; omega)) _ | refine Below.setCell ?_ (by first | omega | (simp; done) | (simp; omega)) _ | refine below_setRow ?_ (by first | omega | (simp; done) | (simp; omega)) _ ))
    have K6 := K6a.new 24 #[.int .i64 0, .int .i64 0, .slice Ath (0 : Nat) cth]
    clear K5 b5 K6a b6a hb6 ath hgth p1 p2 p3 z6 C1
    obtain ⟨p1, p2, p3⟩ := (K6.b 6 rfl).cells3
    obtain ⟨r1, r2, r3⟩ := (K6.b 0 rfl).cells3
    go_wp2_with fail
    generalize v6.alloc (.cells #[.int .i64 0, .int .i64 0, .slice Ath (0 : Nat) cth] 24) = w6 at *
    refine (C4.out _ (K6.a 6 rfl)).mono ?_
    rintro e v7 ⟨rfl, hb7⟩
    have K7 := K6.below hb7
    have b7 := below_call b6 b6.size hb7
    clear K6 b6 hb7 p1 p2 p3 r1 r2 r3 C4
    go_upto_region 10 with fail
    have KS := Lib.hid fun (w' : World) (h : Below v7.heap.size v7 w') => (⟨((K7.b 0 rfl).below' h).cells3.1, ((K7.b 0 rfl).below' h).cells3.2.1, ((K7.b 0 rfl).below' h).cells3.2.2, ((K7.b 6 rfl).below' h).cells3.1, ((K7.b 6 rfl).below' h).cells3.2.1, ((K7.b 6 rfl).below' h).cells3.2.2⟩ : w'.cell? ⟨v6.heap.size, 0, none⟩ = some (.int .i64 0) ∧ w'.cell? ⟨v6.heap.size, 1, none⟩ = some (.int .i64 0) ∧ w'.cell? ⟨v6.heap.size, 2, none⟩ = some (.slice Ath 0 cth) ∧ w'.cell? ⟨w.heap.size, 0, none⟩ = some (.int .i64 W) ∧ w'.cell? ⟨w.heap.size, 1, none⟩ = some (.int .i64 H) ∧ w'.cell? ⟨w.heap.size, 2, none⟩ = some (.slice A n c))
    have bw : Below v7.heap.size v7 v7.drew := (Below.refl _ _).drew
    refine wp_region_held_drew (S := fun w' => w'.cell? ⟨v6.heap.size, 0, none⟩ = some (.int .i64 0) ∧ w'.cell? ⟨v6.heap.size, 1, none⟩ = some (.int .i64 0) ∧ w'.cell? ⟨v6.heap.size, 2, none⟩ = some (.slice Ath 0 cth) ∧ w'.cell? ⟨w.heap.size, 0, none⟩ = some (.int .i64 W) ∧ w'.cell? ⟨w.heap.size, 1, none⟩ = some (.int .i64 H) ∧ w'.cell? ⟨w.heap.size, 2, none⟩ = some (.slice A n c)) (by kernel_rfl) (KS.out _ (Below.refl _ _).drew) (fun hHeld => ?_)
    refine wpAnyH_take (i := 0) (oi := _) (v := ?_) (by simp only [List.getElem?_toArray, List.getElem?_cons_zero]; exact rfl) (by kernel_rfl) (by kernel_rfl) (by kernel_rfl) (by exact fun _ _ _ h => h) (Or.inl ⟨by rfl, ?_⟩) (by assumption) ?_
    rotate_left 1
    · intro w hSw
      (try dsimp only at hSw)
      go_simp
      try with_reducible rfl
    try simp only [Act.put, List.setIfInBounds_toArray, List.set_cons_zero, List.set_cons_succ]
    refine wpAnyH_take (i := 1) (oi := _) (v := ?_) (by simp only [List.getElem?_toArray, List.getElem?_cons_zero, List.getElem?_cons_succ]; exact rfl) (by kernel_rfl) (by kernel_rfl) (by kernel_rfl) (by exact fun _ _ _ h => h) (Or.inl ⟨by rfl, ?_⟩) (by assumption) ?_
    rotate_left 1
    · intro w hSw
      (try dsimp only at hSw)
      go_simp
      try with_reducible rfl
    try simp only [Act.put, List.setIfInBounds_toArray, List.set_cons_zero, List.set_cons_succ]
    refine wpAnyH_take (i := 2) (oi := _) (v := ?_) (by simp only [List.getElem?_toArray, List.getElem?_cons_zero, List.getElem?_cons_succ]; exact rfl) (by kernel_rfl) (by kernel_rfl) (by kernel_rfl) (by exact fun _ _ _ h => h) (Or.inl ⟨by rfl, ?_⟩) (by assumption) ?_
    rotate_left 1
    · intro w hSw
      (try dsimp only at hSw)
      go_simp
      try with_reducible rfl
    try simp only [Act.put, List.setIfInBounds_toArray, List.set_cons_zero, List.set_cons_succ]
    refine wpAnyH_take (i := 3) (oi := _) (v := ?_) (by simp only [List.getElem?_toArray, List.getElem?_cons_zero, List.getElem?_cons_succ]; exact rfl) (by kernel_rfl) (by kernel_rfl) (by kernel_rfl) (by exact fun _ _ _ h => h) (Or.inl ⟨by rfl, ?_⟩) (by assumption) ?_
    rotate_left 1
    · intro w hSw
      (try dsimp only at hSw)
      go_simp
      try with_reducible rfl
    try simp only [Act.put, List.setIfInBounds_toArray, List.set_cons_zero, List.set_cons_succ]
    refine wpAnyH_take (i := 4) (oi := _) (v := ?_) (by simp only [List.getElem?_toArray, List.getElem?_cons_zero, List.getElem?_cons_succ]; exact rfl) (by kernel_rfl) (by kernel_rfl) (by kernel_rfl) (by exact fun _ _ _ h => h) (Or.inl ⟨by rfl, ?_⟩) (by assumption) ?_
    rotate_left 1
    · intro w hSw
      (try dsimp only at hSw)
      go_simp
      try with_reducible rfl
    try simp only [Act.put, List.setIfInBounds_toArray, List.set_cons_zero, List.set_cons_succ]
    refine wpAnyH_take (i := 5) (oi := _) (v := ?_) (by simp only [List.getElem?_toArray, List.getElem?_cons_zero, List.getElem?_cons_succ]; exact rfl) (by kernel_rfl) (by kernel_rfl) (by kernel_rfl) (by exact fun _ _ _ h => h) (Or.inl ⟨by rfl, ?_⟩) (by assumption) ?_
    rotate_left 1
    · intro w hSw
      (try dsimp only at hSw)
      go_simp
      try with_reducible rfl
    try simp only [Act.put, List.setIfInBounds_toArray, List.set_cons_zero, List.set_cons_succ]
    refine wpAnyH_take (i := 6) (oi := _) (v := ?_) (by simp only [List.getElem?_toArray, List.getElem?_cons_zero, List.getElem?_cons_succ]; exact rfl) (by kernel_rfl) (by kernel_rfl) (by kernel_rfl) (by exact fun _ _ _ h => h) (Or.inl ⟨by rfl, ?_⟩) (by assumption) ?_
    rotate_left 1
    · intro w hSw
      (try dsimp only at hSw)
      go_simp
      try with_reducible rfl
    try simp only [Act.put, List.setIfInBounds_toArray, List.set_cons_zero, List.set_cons_succ]
    refine wpAnyH_take (i := 7) (oi := _) (v := undef) (by simp only [List.getElem?_toArray, List.getElem?_cons_zero, List.getElem?_cons_succ]; exact rfl) (by kernel_rfl) (by kernel_rfl) (by kernel_rfl) (by exact fun _ _ _ h => h) (Or.inr ⟨by rfl, rfl⟩) (by assumption) ?_
    try simp only [Act.put, List.setIfInBounds_toArray, List.set_cons_zero, List.set_cons_succ]
    refine wpAnyH_take (i := 8) (oi := _) (v := undef) (by simp only [List.getElem?_toArray, List.getElem?_cons_zero, List.getElem?_cons_succ]; exact rfl) (by kernel_rfl) (by kernel_rfl) (by kernel_rfl) (by exact fun _ _ _ h => h) (Or.inr ⟨by rfl, rfl⟩) (by assumption) ?_
    try simp only [Act.put, List.setIfInBounds_toArray, List.set_cons_zero, List.set_cons_succ]
    refine wpAnyH_take (i := 9) (oi := _) (v := undef) (by simp only [List.getElem?_toArray, List.getElem?_cons_zero, List.getElem?_cons_succ]; exact rfl) (by kernel_rfl) (by kernel_rfl) (by kernel_rfl) (by exact fun _ _ _ h => h) (Or.inr ⟨by rfl, rfl⟩) (by assumption) ?_
    try simp only [Act.put, List.setIfInBounds_toArray, List.set_cons_zero, List.set_cons_succ]
    refine wpAnyH_take (i := 10) (oi := _) (v := undef) (by simp only [List.getElem?_toArray, List.getElem?_cons_zero, List.getElem?_cons_succ]; exact rfl) (by kernel_rfl) (by kernel_rfl) (by kernel_rfl) (by exact fun _ _ _ h => h) (Or.inr ⟨by rfl, rfl⟩) (by assumption) ?_
    try simp only [Act.put, List.setIfInBounds_toArray, List.set_cons_zero, List.set_cons_succ]
    refine wpAnyH_take (i := 11) (oi := _) (v := undef) (by simp only [List.getElem?_toArray, List.getElem?_cons_zero, List.getElem?_cons_succ]; exact rfl) (by kernel_rfl) (by kernel_rfl) (by kernel_rfl) (by exact fun _ _ _ h => h) (Or.inr ⟨by rfl, rfl⟩) (by assumption) ?_
    try simp only [Act.put, List.setIfInBounds_toArray, List.set_cons_zero, List.set_cons_succ]
    refine wpAnyH_take (i := 12) (oi := _) (v := ?_) (by simp only [List.getElem?_toArray, List.getElem?_cons_zero, List.getElem?_cons_succ]; exact rfl) (by kernel_rfl) (by kernel_rfl) (by kernel_rfl) (by exact fun _ _ _ h => h) (Or.inl ⟨by rfl, ?_⟩) (by assumption) ?_
    rotate_left 1
    · intro w hSw
      (try dsimp only at hSw)
      go_simp
      try with_reducible rfl
    try simp only [Act.put, List.setIfInBounds_toArray, List.set_cons_zero, List.set_cons_succ]
    refine wpAnyH_take (i := 13) (oi := _) (v := ?_) (by simp only [List.getElem?_toArray, List.getElem?_cons_zero, List.getElem?_cons_succ]; exact rfl) (by kernel_rfl) (by kernel_rfl) (by kernel_rfl) (by exact fun _ _ _ h => h) (Or.inl ⟨by rfl, ?_⟩) (by assumption) ?_
    rotate_left 1
    · intro w hSw
      (try dsimp only at hSw)
      go_simp
      try with_reducible rfl
    try simp only [Act.put, List.setIfInBounds_toArray, List.set_cons_zero, List.set_cons_succ]
    refine wpAnyH_take (i := 14) (oi := _) (v := ?_) (by simp only [List.getElem?_toArray, List.getElem?_cons_zero, List.getElem?_cons_succ]; exact rfl) (by kernel_rfl) (by kernel_rfl) (by kernel_rfl) (by exact fun _ _ _ h => h) (Or.inl ⟨by rfl, ?_⟩) (by assumption) ?_
    rotate_left 1
    · intro w hSw
      (try dsimp only at hSw)
      go_simp
      try with_reducible rfl
    try simp only [Act.put, List.setIfInBounds_toArray, List.set_cons_zero, List.set_cons_succ]
    refine wpAnyH_take (i := 15) (oi := _) (v := ?_) (by simp only [List.getElem?_toArray, List.getElem?_cons_zero, List.getElem?_cons_succ]; exact rfl) (by kernel_rfl) (by kernel_rfl) (by kernel_rfl) (by exact fun _ _ _ h => h) (Or.inl ⟨by rfl, ?_⟩) (by assumption) ?_
    rotate_left 1
    · intro w hSw
      (try dsimp only at hSw)
      go_simp
      try with_reducible rfl
    try simp only [Act.put, List.setIfInBounds_toArray, List.set_cons_zero, List.set_cons_succ]
    refine wpAnyH_take (i := 16) (oi := _) (v := ?_) (by simp only [List.getElem?_toArray, List.getElem?_cons_zero, List.getElem?_cons_succ]; exact rfl) (by kernel_rfl) (by kernel_rfl) (by kernel_rfl) (by exact fun _ _ _ h => h) (Or.inl ⟨by rfl, ?_⟩) (by assumption) ?_
    rotate_left 1
    · intro w hSw
      (try dsimp only at hSw)
      go_simp
      try with_reducible rfl
    try simp only [Act.put, List.setIfInBounds_toArray, List.set_cons_zero, List.set_cons_succ]
    refine wpAnyH_take (i := 17) (oi := _) (v := ?_) (by simp only [List.getElem?_toArray, List.getElem?_cons_zero, List.getElem?_cons_succ]; exact rfl) (by kernel_rfl) (by kernel_rfl) (by kernel_rfl) (by exact fun _ _ _ h => h) (Or.inl ⟨by rfl, ?_⟩) (by assumption) ?_
    rotate_left 1
    · intro w hSw
      (try dsimp only at hSw)
      go_simp
      try with_reducible rfl
    try simp only [Act.put, List.setIfInBounds_toArray, List.set_cons_zero, List.set_cons_succ]
    refine wpAnyH_take (i := 18) (oi := _) (v := ?_) (by simp only [List.getElem?_toArray, List.getElem?_cons_zero, List.getElem?_cons_succ]; exact rfl) (by kernel_rfl) (by kernel_rfl) (by kernel_rfl) (by exact fun _ _ _ h => h) (Or.inl ⟨by rfl, ?_⟩) (by assumption) ?_
    rotate_left 1
    · intro w hSw
      (try dsimp only at hSw)
      go_simp
      try with_reducible rfl
    try simp only [Act.put, List.setIfInBounds_toArray, List.set_cons_zero, List.set_cons_succ]
    refine wpAnyH_take (i := 19) (oi := _) (v := ?_) (by simp only [List.getElem?_toArray, List.getElem?_cons_zero, List.getElem?_cons_succ]; exact rfl) (by kernel_rfl) (by kernel_rfl) (by kernel_rfl) (by exact fun _ _ _ h => h) (Or.inl ⟨by rfl, ?_⟩) (by assumption) ?_
    rotate_left 1
    · intro w hSw
      (try dsimp only at hSw)
      go_simp
      try with_reducible rfl
    try simp only [Act.put, List.setIfInBounds_toArray, List.set_cons_zero, List.set_cons_succ]
    refine wpAnyH_take (i := 20) (oi := _) (v := ?_) (by simp only [List.getElem?_toArray, List.getElem?_cons_zero, List.getElem?_cons_succ]; exact rfl) (by kernel_rfl) (by kernel_rfl) (by kernel_rfl) (by exact fun _ _ _ h => h) (Or.inl ⟨by rfl, ?_⟩) (by assumption) ?_
    rotate_left 1
    · intro w hSw
      (try dsimp only at hSw)
      go_simp
      try with_reducible rfl
    try simp only [Act.put, List.setIfInBounds_toArray, List.set_cons_zero, List.set_cons_succ]
    refine wpAnyH_take (i := 21) (oi := _) (v := ?_) (by simp only [List.getElem?_toArray, List.getElem?_cons_zero, List.getElem?_cons_succ]; exact rfl) (by kernel_rfl) (by kernel_rfl) (by kernel_rfl) (by exact fun _ _ _ h => h) (Or.inl ⟨by rfl, ?_⟩) (by assumption) ?_
    rotate_left 1
    · intro w hSw
      (try dsimp only at hSw)
      go_simp
      try with_reducible rfl
    try simp only [Act.put, List.setIfInBounds_toArray, List.set_cons_zero, List.set_cons_succ]
    refine wpAnyH_take (i := 22) (oi := _) (v := ?_) (by simp only [List.getElem?_toArray, List.getElem?_cons_zero, List.getElem?_cons_succ]; exact rfl) (by kernel_rfl) (by kernel_rfl) (by kernel_rfl) (by exact fun _ _ _ h => h) (Or.inl ⟨by rfl, ?_⟩) (by assumption) ?_
    rotate_left 1
    · intro w hSw
      (try dsimp only at hSw)
      go_simp
      try with_reducible rfl
    try simp only [Act.put, List.setIfInBounds_toArray, List.set_cons_zero, List.set_cons_succ]
    refine wpAnyH_take (i := 23) (oi := _) (v := ?_) (by simp only [List.getElem?_toArray, List.getElem?_cons_zero, List.getElem?_cons_succ]; exact rfl) (by kernel_rfl) (by kernel_rfl) (by kernel_rfl) (by exact fun _ _ _ h => h) (Or.inl ⟨by rfl, ?_⟩) (by assumption) ?_
    rotate_left 1
    · intro w hSw
      (try dsimp only at hSw)
      go_simp
      try with_reducible rfl
    try simp only [Act.put, List.setIfInBounds_toArray, List.set_cons_zero, List.set_cons_succ]
    refine wpAnyH_done (by kernel_rfl) ?_ _
    have K8 := K7.below bw
    have b8 := below_call b7 b7.size bw
    clear K7 b7 KS hHeld  
    generalize v7.drew = w8 at *
    obtain ⟨p1, p2, p3⟩ := (K8.b 4 rfl).cells3
    obtain ⟨r1, r2, r3⟩ := (K8.b 3 rfl).cells3
    go_wp2_with fail
    refine (same_true Wx Hx Ex Ax1 Ay1 Nx cx1 cy1 q1 q3 _ (K8.a 4 rfl) (K8.a 3 rfl) nxm E1.out).mono ?_
    rintro e v9 ⟨rfl, hb9⟩
    have K9 := K8.below hb9
    have b9 := below_call b8 b8.size hb9
    clear K8 b8 hb9 p1 p2 p3 r1 r2 r3 
    obtain ⟨p1, p2, p3⟩ := (K9.b 2 rfl).cells3
    obtain ⟨r1, r2, r3⟩ := (K9.b 1 rfl).cells3
    go_wp2_with fail
    refine (same_true Wx Hx Ex Ax2 Ay2 Nx cx2 cy2 q2 q4 _ (K9.a 2 rfl) (K9.a 1 rfl) nxm E2.out).mono ?_
    rintro e v10 ⟨rfl, hb10⟩
    have K10 := K9.below hb10
    have b10 := below_call b9 b9.size hb10
    clear K9 b9 hb10 p1 p2 p3 r1 r2 r3 
    obtain ⟨p1, p2, p3⟩ := (K10.b 5 rfl).cells3
    obtain ⟨r1, r2, r3⟩ := (K10.b 6 rfl).cells3
    go_wp2_with fail
    refine (sameInk_true W H Aa A n ca c p p _ (K10.a 5 rfl) (K10.a 6 rfl) hnm (fun _ _ _ => rfl)).mono ?_
    rintro e v11 ⟨rfl, hb11⟩
    have K11 := K10.below hb11
    have b11 := below_call b10 b10.size hb11
    clear K10 b10 hb11 p1 p2 p3 r1 r2 r3 
    go_wp2_with fail
    refine (awake1_any _).mono ?_
    rintro e v12 ⟨rfl, hb12⟩
    have b12 := below_call b11 b11.size hb12
    go_wp2
    go_ret
    exact ⟨rfl, b12⟩
end Go.Proofs.YtoonkpjddfiopaaDoor
