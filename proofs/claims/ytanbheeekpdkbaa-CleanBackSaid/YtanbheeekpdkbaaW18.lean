/- Walk of the law CleanSkews. -/
import Derived.Test.YtanbheeekpdkbaaW14
import Derived.Test.YtanbheeekpdkbaaW17
import Derived.Test.YtanbheeekpdkbaaW11
import Derived.Test.YtanbheeekpdkbaaLib3
import Derived.Deep.DeepCutAuto
import Derived.Deep.Cut
namespace Go.Proofs.Ytanbheeekpdkbaa
open Go.RowKit
set_option linter.unusedVariables false

theorem drop_one (W k x : Int) : ∃ dv de : Int, (dropBad W k x = false → dv = dropI W k x ∧ de = 0) ∧ (dropBad W k x = true → dv = 0 ∧ de = 1) ∧
    ∀ w : World, Calls Try.prog 18 #[.int .i64 W, .int .i64 k, .int .i64 x] w fun e w' => e = .returned (.tuple #[.int .i64 dv, .int .i64 de]) ∧ Below w.heap.size w w' := by
  cases h : dropBad W k x
  · exact ⟨_, _, (fun _ => ⟨rfl, rfl⟩), (fun e => by cases e), fun w => cdrop_ok W k x w h⟩
  · exact ⟨0, 1, (fun e => by cases e), (fun _ => ⟨rfl, rfl⟩), fun w => (cdrop_bad W k x w h).mono fun e w' ⟨he, hw⟩ => ⟨he, hw ▸ Below.refl _ _⟩⟩
theorem msize_le {W H E Wm Hm : Int} {N n : Nat} {p : Int → Int} {k way : Int} (hE : movE W H n p k way = E) (hs : MSize W H (way * grt W k) E Wm Hm N) : N ≤ 409600 := by
  by_cases e : E = 0
  · subst e
    obtain ⟨h1, h2, h3⟩ := hs.ok rfl
    obtain ⟨a, b, c, d, f⟩ := movE_ok hE
    obtain ⟨a1, a2, a3, a4, -, -⟩ := chk_ok a
    have := (area_bd a1 a2 d f).2
    omega
  · have := (hs.bad e).2.2; omega
/-- Full and FindSkew with their errors -/
theorem full_all (W H : Int) (A : Option Addr) (n c : Nat) (p : Int → Int) (E V : Int) (w : World) (hA : ArrB w w.heap.size A n p) (hn : n ≤ maxLen) (hB : IsB p) (hE : chk W H n p = E) (hV : V = if E = 0 then fullS W H n p else 0) :
    Calls Try.prog 15 #[.agg #[.int .i64 W, .int .i64 H, .slice A n c]] w fun e w' => e = .returned (.tuple #[.int .i64 V, .int .i64 E]) ∧ Below w.heap.size w w' := by
  by_cases e : E = 0
  · subst e; rw [if_pos rfl] at hV; subst hV; exact full_ok W H A n c p w hA hn hB hE
  · rw [if_neg e] at hV; subst hV; exact full_bad W H A n c p E w hA hn hE e

set_option maxHeartbeats 400000 in
theorem findSkew_bad (W H : Int) (A : Option Addr) (n c : Nat) (p : Int → Int) (z : Int) (w : World) (hA : ArrB w w.heap.size A n p) (hn : n ≤ maxLen) (hE : chk W H n p = z) (hz : z ≠ 0) :
    Calls Try.prog 13 #[.agg #[.int .i64 W, .int .i64 H, .slice A n c]] w
      fun e w' => e = .returned (.tuple #[.int .i64 0, .int .i64 z]) ∧ Below w.heap.size w w' := by
  have hz' : (z != 0) = true := by simp [hz]
  have CK := Lib.hid fun w' hA' => check_any W H A n c p w' hA' hn
  rw [hE] at CK
  have HZ := Lib.hid hz; clear hz hE
  go_enter Try.func13, Try.ntmps13
  go_wp2_with fail
  refine (CK.out _ (hA.to (by (repeat (first | exact Below.refl _ _ | assumption | refine Below.drew ?_ | refine below_drewN ?_ _ | refine Below.alloc ?_ (by first | omega | (simp; done) | (simp; omega)) _ | refine Below.setCell ?_ (by first | omega | (simp; done) | (simp; omega)) _ | refine below_setRow ?_ (by first | omega | (simp; done) | (simp; omega)) _ ))))).mono ?_
  rintro e w1 ⟨rfl, hb1⟩
  have b1 : Below w.heap.size w w1 := below_call (by (repeat (first | exact Below.refl _ _ | assumption | refine Below.drew ?_ | refine below_drewN ?_ _ | refine Below.alloc ?_ (by first | omega | (simp; done) | (simp; omega)) _ | refine Below.setCell ?_ (by first | omega | (simp; done) | (simp; omega)) _ | refine below_setRow ?_ (by first | omega | (simp; done) | (simp; omega)) _ ))) (by simp; try omega) hb1
  go_wp2
  go_ret2
  exact ⟨rfl, b1⟩
theorem findSkew_all (W H : Int) (A : Option Addr) (n c : Nat) (p : Int → Int) (E V : Int) (w : World) (hA : ArrB w w.heap.size A n p) (hn : n ≤ maxLen) (hB : IsB p) (hE : chk W H n p = E) (hV : V = if E = 0 then findS W H n p else 0) :
    Calls Try.prog 13 #[.agg #[.int .i64 W, .int .i64 H, .slice A n c]] w fun e w' => e = .returned (.tuple #[.int .i64 V, .int .i64 E]) ∧ Below w.heap.size w w' := by
  by_cases e : E = 0
  · subst e; rw [if_pos rfl] at hV; subst hV; exact findSkew_ok W H A n c p w hA hn hB hE
  · rw [if_neg e] at hV; subst hV; exact findSkew_bad W H A n c p E w hA hn hE e

set_option maxRecDepth 100000 in
set_option maxHeartbeats 4000000 in
theorem cleanSkews_any (W H k wd x : Int) (A : Option Addr) (n c : Nat) (p : Int → Int) (w : World) (hA : ArrB w w.heap.size A n p) (hn : n ≤ maxLen) (hB : IsB p) (hc : A = none → c = 0) :
    Calls Try.prog 4 #[.agg #[.int .i64 W, .int .i64 H, .slice A n c], .int .i64 k, .int .i64 wd, .int .i64 x] w fun e w' => e = .returned (.bool true) ∧ Below w.heap.size w w' := by
  unfold maxLen at hn
  by_cases h6 : (n : Int) > 6000
  · go_enter Try.func4, Try.ntmps4
    go_wp2_with fail
    refine (awake_any _).mono ?_
    rintro e w1 ⟨rfl, hb1⟩
    go_wp2
    go_ret
    exact ⟨rfl, below_call (by (repeat (first | exact Below.refl _ _ | assumption | refine Below.drew ?_ | refine below_drewN ?_ _ | refine Below.alloc ?_ (by first | omega | (simp; done) | (simp; omega)) _ | refine Below.setCell ?_ (by first | omega | (simp; done) | (simp; omega)) _ | refine below_setRow ?_ (by first | omega | (simp; done) | (simp; omega)) _ ))) (by simp; try omega) hb1⟩
  · have CP := Lib.hid fun w' hA' => copyInk_any W H A n c p w' hA' hc (by omega)
    clear hc
    go_enter Try.func4, Try.ntmps4
    go_wp2_with fail
    refine (CP.out _ (hA.to (by (repeat (first | exact Below.refl _ _ | assumption | refine Below.drew ?_ | refine below_drewN ?_ _ | refine Below.alloc ?_ (by first | omega | (simp; done) | (simp; omega)) _ | refine Below.setCell ?_ (by first | omega | (simp; done) | (simp; omega)) _ | refine below_setRow ?_ (by first | omega | (simp; done) | (simp; omega)) _ ))))).mono ?_
    rintro e w1 ⟨_, rfl, ⟨_, rfl, A', c', rfl, hc', hnil', hge', ha'⟩, hb1⟩
    have b1 : Below w.heap.size w w1 := below_call (by (repeat (first | exact Below.refl _ _ | assumption | refine Below.drew ?_ | refine below_drewN ?_ _ | refine Below.alloc ?_ (by first | omega | (simp; done) | (simp; omega)) _ | refine Below.setCell ?_ (by first | omega | (simp; done) | (simp; omega)) _ | refine below_setRow ?_ (by first | omega | (simp; done) | (simp; omega)) _ ))) (by simp; try omega) hb1
    have K1 := (((Kp.nil _).new 25 #[.int .i64 W, .int .i64 H, .slice A n c]).addA (hA.to (by (repeat (first | exact Below.refl _ _ | assumption | refine Below.drew ?_ | refine below_drewN ?_ _ | refine Below.alloc ?_ (by first | omega | (simp; done) | (simp; omega)) _ | refine Below.setCell ?_ (by first | omega | (simp; done) | (simp; omega)) _ | refine below_setRow ?_ (by first | omega | (simp; done) | (simp; omega)) _ ))))).below hb1 |>.addA ha'
    clear hb1 ha' hge' hnil'
    have K2 := K1.new 25 #[.int .i64 W, .int .i64 H, .slice A' n c']
    have z1 := b1.size
    have b2 : Below w.heap.size w (w1.alloc (.cells #[.int .i64 W, .int .i64 H, .slice A' n c'] 25)) := by (repeat (first | exact Below.refl _ _ | assumption | refine Below.drew ?_ | refine below_drewN ?_ _ | refine Below.alloc ?_ (by first | omega | (simp; done) | (simp; omega)) _ | refine Below.setCell ?_ (by first | omega | (simp; done) | (simp; omega)) _ | refine below_setRow ?_ (by first | omega | (simp; done) | (simp; omega)) _ ))
    clear b1 K1
    obtain ⟨dv, de, d1, d2, dc⟩ := drop_one wd k x
    have D1 := Lib.hid d1; have D2 := Lib.hid d2; have DC := Lib.hid dc
    clear d1 d2 dc
    obtain ⟨b, hb⟩ : ∃ b, dropBad wd k x = b := ⟨_, rfl⟩
    have HB := Lib.hid hb; clear hb
    go_wp2_with fail
    generalize w1.alloc (.cells #[.int .i64 W, .int .i64 H, .slice A' n c'] 25) = w2 at *
    refine (DC.out _).mono ?_
    rintro e w3 ⟨rfl, hb3⟩
    have K3 := K2.below hb3
    have b3 := below_call b2 b2.size hb3
    clear K2 b2 hb3 z1 DC
    go_upto_region 5 with fail
    go_cut [12] (fun t wx => t = .bool b ∧ wx = w3)
    case first =>
      cases b
      · have h' : ¬ (wd < 1 ∨ 640 < wd ∨ k < -3 ∨ 3 < k ∨ x < 0 ∨ wd ≤ x) := by simpa [dropBad] using HB.out
        have h1 : 1 ≤ wd := by omega
        have h2 : wd ≤ 640 := by omega
        have h3 : -3 ≤ k := by omega
        have h4 : k ≤ 3 := by omega
        have h5 : 0 ≤ x := by omega
        have h6 : x < wd := by omega
        clear h'
        go_wp2_with fail
        go_meet
        exact ⟨by first | rfl | (simp; done) | (simp; omega), rfl⟩
      · have h' : wd < 1 ∨ 640 < wd ∨ k < -3 ∨ 3 < k ∨ x < 0 ∨ wd ≤ x := by simpa [dropBad] using HB.out
        rcases (by omega : wd < 1 ∨ (¬ wd < 1 ∧ 640 < wd) ∨ (¬ wd < 1 ∧ ¬ 640 < wd ∧ k < -3) ∨ (¬ wd < 1 ∧ ¬ 640 < wd ∧ ¬ k < -3 ∧ 3 < k) ∨ (¬ wd < 1 ∧ ¬ 640 < wd ∧ ¬ k < -3 ∧ ¬ 3 < k ∧ x < 0) ∨ (¬ wd < 1 ∧ ¬ 640 < wd ∧ ¬ k < -3 ∧ ¬ 3 < k ∧ ¬ x < 0 ∧ wd ≤ x)) with h | ⟨h, h1⟩ | ⟨h, h1, h2⟩ | ⟨h, h1, h2, h3⟩ | ⟨h, h1, h2, h3, h4⟩ | ⟨h, h1, h2, h3, h4, h5⟩
        all_goals
          clear h'
          go_wp2_with fail
          go_meet
          exact ⟨by first | rfl | (simp; done) | (simp; omega), rfl⟩
    case rest =>
    obtain ⟨rfl, rfl⟩ := hcut
    go_upto_region 6 with fail
    go_cut [89] (fun t wx => t = .bool false ∧ wx = wc)
    case first =>
      cases b
      · have h' : ¬ (wd < 1 ∨ 640 < wd ∨ k < -3 ∨ 3 < k ∨ x < 0 ∨ wd ≤ x) := by simpa [dropBad] using HB.out
        have h1 : 1 ≤ wd := by omega
        have h2 : wd ≤ 640 := by omega
        have h3 : -3 ≤ k := by omega
        have h4 : k ≤ 3 := by omega
        have h5 : 0 ≤ x := by omega
        have h6 : x < wd := by omega
        obtain ⟨rfl, rfl⟩ := D1.out HB.out
        have RD := Lib.hid fun w' => rdrop_any wd k x w' h2 h3 h4 h5 h6
        generalize dropI wd k x = D at *
        clear h'
        clear D1 D2
        go_wp2_with (go_at_call 19; refine (RD.out _).mono ?_; rintro e w' ⟨rfl, rfl⟩)
        go_meet
        exact ⟨by first | rfl | (simp; done) | (simp; omega), rfl⟩
      · obtain ⟨rfl, rfl⟩ := D2.out HB.out
        go_wp2_with fail
        go_meet
        exact ⟨by first | rfl | (simp; done) | (simp; omega), rfl⟩
    case rest =>
    obtain ⟨rfl, rfl⟩ := hcut
    -- straight part (made by gen/w18.py)
    clear D1 D2
    have hnm : n ≤ maxLen := by unfold maxLen; omega
    obtain ⟨Wa, Ha, Na, ma⟩ := msize_ex W H (grt W k) (movE W H n p k 1) (fun h => by have := movE_sides h; omega)
    obtain ⟨Wb, Hb, Nb, mb⟩ := msize_ex W H (-grt W k) (movE W H n p k (-1)) (fun h => by have := movE_sides h; omega)
    have la : Na ≤ 409600 := msize_le (way := 1) rfl (by simpa using ma)
    have lb : Nb ≤ 409600 := msize_le (way := -1) rfl (by simpa [Int.neg_mul] using mb)
    have C1 := Lib.hid fun w' h' => skew_all W H Wa Ha _ Na A' n c' p k w' h' hnm hB rfl ma
    have C2 := Lib.hid fun w' h' => rskew_all W H Wa Ha _ Na A n c p k w' h' hnm hB rfl ma
    have C3 := Lib.hid fun w' h' => unskew_all W H Wb Hb _ Nb A' n c' p k w' h' hnm hB rfl mb
    have C4 := Lib.hid fun w' h' => runskew_all W H Wb Hb _ Nb A n c p k w' h' hnm hB rfl mb
    have C5 := Lib.hid fun w' h' => full_all W H A' n c' p _ _ w' h' hnm hB rfl rfl
    have C6 := Lib.hid fun w' h' => findSkew_all W H A' n c' p _ _ w' h' hnm hB rfl rfl
    have C7 := Lib.hid fun w' h' => rcheck_any W H A n c p w' h' hnm hB
    have C8 := Lib.hid fun w' h' hE => rfull_ok W H A n c p w' h' hB hE
    have C9 := Lib.hid fun w' h' hE => rfindSkew_ok W H A n c p w' h' hnm hB hE
    have F1 : Hid (chk W H n p = 0 → (if chk W H n p = 0 then fullS W H n p else 0) = fullS W H n p) := by intro h; rw [if_pos h]
    have F2 : Hid (chk W H n p = 0 → (if chk W H n p = 0 then findS W H n p else 0) = findS W H n p) := by intro h; rw [if_pos h]
    have G1 : Hid (chk W H n p ≠ 0 → (if chk W H n p = 0 then fullS W H n p else 0) = 0) := by intro h; rw [if_neg h]
    have G2 : Hid (chk W H n p ≠ 0 → (if chk W H n p = 0 then findS W H n p else 0) = 0) := by intro h; rw [if_neg h]
    generalize (if chk W H n p = 0 then fullS W H n p else 0) = fu at *
    generalize (if chk W H n p = 0 then findS W H n p else 0) = fi at *
    generalize fullS W H n p = fuR at *
    generalize findS W H n p = fiR at *
    generalize chk W H n p = E at *
    generalize movE W H n p k 1 = Ea at *
    generalize movE W H n p k (-1) = Eb at *
    generalize movQ W H p k 1 = qa at *
    generalize movQ W H p k (-1) = qb at *
    clear ma mb CP hB hA
    generalize w1.heap.size = B9 at *
    obtain ⟨p1, p2, p3⟩ := (K3.b 0 rfl).cells3
    go_wp2_with fail
    refine (C1.out _ (K3.a 0 rfl)).mono ?_
    rintro e v1 ⟨_, rfl, ⟨Ax1, cx1, rfl, hgx1, ax1⟩, hb1⟩
    have K11a := (K3.below hb1).addA ax1
    have b11a := below_call b3 b3.size hb1
    have z11 := b11a.size
    have b11 : Below w.heap.size w (v1.alloc (.cells #[.int .i64 Wa, .int .i64 Ha, .slice Ax1 Na cx1] 25)) := by (repeat (first | exact Below.refl _ _ | assumption | refine Below.drew ?_ | refine below_drewN ?_ _ | refine Below.alloc ?_ (by first | omega | (simp; done) | (simp; omega)) _ | refine Below.setCell ?_ (by first | omega | (simp; done) | (simp; omega)) _ | refine below_setRow ?_ (by first | omega | (simp; done) | (simp; omega)) _ ))
    have K11 := K11a.new 25 #[.int .i64 Wa, .int .i64 Ha, .slice Ax1 Na cx1]
    clear K3 b3 K11a b11a hb1 ax1 hgx1 p1 p2 p3 C1 z11
    obtain ⟨p1, p2, p3⟩ := (K11.b 2 rfl).cells3
    go_wp2_with fail
    generalize v1.alloc (.cells #[.int .i64 Wa, .int .i64 Ha, .slice Ax1 Na cx1] 25) = w12 at *
    refine (C2.out _ (K11.a 2 rfl)).mono ?_
    rintro e v2 ⟨_, rfl, ⟨Ay1, cy1, rfl, hgy1, ay1⟩, hb2⟩
    have K12a := (K11.below hb2).addA ay1
    have b12a := below_call b11 b11.size hb2
    have z12 := b12a.size
    have b12 : Below w.heap.size w (v2.alloc (.cells #[.int .i64 Wa, .int .i64 Ha, .slice Ay1 Na cy1] 25)) := by (repeat (first | exact Below.refl _ _ | assumption | refine Below.drew ?_ | refine below_drewN ?_ _ | refine Below.alloc ?_ (by first | omega | (simp; done) | (simp; omega)) _ | refine Below.setCell ?_ (by first | omega | (simp; done) | (simp; omega)) _ | refine below_setRow ?_ (by first | omega | (simp; done) | (simp; omega)) _ ))
    have K12 := K12a.new 25 #[.int .i64 Wa, .int .i64 Ha, .slice Ay1 Na cy1]
    clear K11 b11 K12a b12a hb2 ay1 hgy1 p1 p2 p3 C2 z12
    obtain ⟨p1, p2, p3⟩ := (K12.b 2 rfl).cells3
    go_wp2_with fail
    generalize v2.alloc (.cells #[.int .i64 Wa, .int .i64 Ha, .slice Ay1 Na cy1] 25) = w13 at *
    refine (C3.out _ (K12.a 2 rfl)).mono ?_
    rintro e v3 ⟨_, rfl, ⟨Ax2, cx2, rfl, hgx2, ax2⟩, hb3⟩
    have K13a := (K12.below hb3).addA ax2
    have b13a := below_call b12 b12.size hb3
    have z13 := b13a.size
    have b13 : Below w.heap.size w (v3.alloc (.cells #[.int .i64 Wb, .int .i64 Hb, .slice Ax2 Nb cx2] 25)) := by (repeat (first | exact Below.refl _ _ | assumption | refine Below.drew ?_ | refine below_drewN ?_ _ | refine Below.alloc ?_ (by first | omega | (simp; done) | (simp; omega)) _ | refine Below.setCell ?_ (by first | omega | (simp; done) | (simp; omega)) _ | refine below_setRow ?_ (by first | omega | (simp; done) | (simp; omega)) _ ))
    have K13 := K13a.new 25 #[.int .i64 Wb, .int .i64 Hb, .slice Ax2 Nb cx2]
    clear K12 b12 K13a b13a hb3 ax2 hgx2 p1 p2 p3 C3 z13
    obtain ⟨p1, p2, p3⟩ := (K13.b 4 rfl).cells3
    go_wp2_with fail
    generalize v3.alloc (.cells #[.int .i64 Wb, .int .i64 Hb, .slice Ax2 Nb cx2] 25) = w14 at *
    refine (C4.out _ (K13.a 4 rfl)).mono ?_
    rintro e v4 ⟨_, rfl, ⟨Ay2, cy2, rfl, hgy2, ay2⟩, hb4⟩
    have K14a := (K13.below hb4).addA ay2
    have b14a := below_call b13 b13.size hb4
    have z14 := b14a.size
    have b14 : Below w.heap.size w (v4.alloc (.cells #[.int .i64 Wb, .int .i64 Hb, .slice Ay2 Nb cy2] 25)) := by (repeat (first | exact Below.refl _ _ | assumption | refine Below.drew ?_ | refine below_drewN ?_ _ | refine Below.alloc ?_ (by first | omega | (simp; done) | (simp; omega)) _ | refine Below.setCell ?_ (by first | omega | (simp; done) | (simp; omega)) _ | refine below_setRow ?_ (by first | omega | (simp; done) | (simp; omega)) _ ))
    have K14 := K14a.new 25 #[.int .i64 Wb, .int .i64 Hb, .slice Ay2 Nb cy2]
    clear K13 b13 K14a b14a hb4 ay2 hgy2 p1 p2 p3 C4 z14
    obtain ⟨p1, p2, p3⟩ := (K14.b 4 rfl).cells3
    go_wp2_with fail
    generalize v4.alloc (.cells #[.int .i64 Wb, .int .i64 Hb, .slice Ay2 Nb cy2] 25) = w15 at *
    refine (C5.out _ (K14.a 4 rfl)).mono ?_
    rintro e v5 ⟨rfl, hb5⟩
    have K15 := K14.below hb5
    have b15 := below_call b14 b14.size hb5
    clear K14 b14 hb5 p1 p2 p3 C5
    obtain ⟨p1, p2, p3⟩ := (K15.b 4 rfl).cells3
    go_wp2_with fail
    refine (C6.out _ (K15.a 4 rfl)).mono ?_
    rintro e v6 ⟨rfl, hb6⟩
    have K16 := K15.below hb6
    have b16 := below_call b15 b15.size hb6
    clear K15 b15 hb6 p1 p2 p3 C6
    obtain ⟨p1, p2, p3⟩ := (K16.b 5 rfl).cells3
    go_wp2_with fail
    refine (C7.out _ (K16.a 5 rfl)).mono ?_
    rintro e v7 ⟨rfl, hb7⟩
    have K17 := K16.below hb7
    have b17 := below_call b16 b16.size hb7
    clear K16 b16 hb7 p1 p2 p3 C7
    obtain ⟨p1, p2, p3⟩ := (K17.b 5 rfl).cells3
    by_cases hE : E = 0
    · subst hE
      obtain rfl := F1.out rfl
      obtain rfl := F2.out rfl
      have D8 := Lib.hid fun w' h' => C8.out w' h' rfl
      have D9 := Lib.hid fun w' h' => C9.out w' h' rfl
      clear F1 F2 G1 G2 C8 C9
      go_wp2_with fail
      refine (D8.out _ (K17.a 5 rfl)).mono ?_
      rintro e v8 ⟨rfl, hb8⟩
      have K18 := K17.below hb8
      have b18 := below_call b17 b17.size hb8
      clear K17 b17 hb8 p1 p2 p3 D8
      obtain ⟨p1, p2, p3⟩ := (K18.b 5 rfl).cells3
      go_wp2_with fail
      refine (D9.out _ (K18.a 5 rfl)).mono ?_
      rintro e v9 ⟨rfl, hb9⟩
      have K19 := K18.below hb9
      have b19 := below_call b18 b18.size hb9
      clear K18 b18 hb9 p1 p2 p3 D9
      obtain ⟨p1, p2, p3⟩ := (K19.b 3 rfl).cells3
      obtain ⟨r1, r2, r3⟩ := (K19.b 2 rfl).cells3
      go_wp2_with fail
      refine (sameInk_true Wa Ha Ax1 Ay1 Na cx1 cy1 qa qa _ (K19.a 3 rfl) (K19.a 2 rfl) (by unfold maxLen; omega) (fun _ _ _ => rfl)).mono ?_
      rintro e v10 ⟨rfl, hb10⟩
      have K20 := K19.below hb10
      have b20 := below_call b19 b19.size hb10
      clear K19 b19 hb10 p1 p2 p3 r1 r2 r3
      obtain ⟨p1, p2, p3⟩ := (K20.b 1 rfl).cells3
      obtain ⟨r1, r2, r3⟩ := (K20.b 0 rfl).cells3
      go_wp2_with fail
      refine (sameInk_true Wb Hb Ax2 Ay2 Nb cx2 cy2 qb qb _ (K20.a 1 rfl) (K20.a 0 rfl) (by unfold maxLen; omega) (fun _ _ _ => rfl)).mono ?_
      rintro e v11 ⟨rfl, hb11⟩
      have K21 := K20.below hb11
      have b21 := below_call b20 b20.size hb11
      clear K20 b20 hb11 p1 p2 p3 r1 r2 r3
      obtain ⟨p1, p2, p3⟩ := (K21.b 4 rfl).cells3
      obtain ⟨r1, r2, r3⟩ := (K21.b 5 rfl).cells3
      go_wp2_with fail
      refine (sameInk_true W H A' A n c' c p p _ (K21.a 4 rfl) (K21.a 5 rfl) (by unfold maxLen; omega) (fun _ _ _ => rfl)).mono ?_
      rintro e v12 ⟨rfl, hb12⟩
      have K22 := K21.below hb12
      have b22 := below_call b21 b21.size hb12
      clear K21 b21 hb12 p1 p2 p3 r1 r2 r3
      go_wp2_with fail
      refine (awake_any _).mono ?_
      rintro e v13 ⟨rfl, hb13⟩
      have b23 := below_call b22 b22.size hb13
      go_wp2
      go_ret
      exact ⟨rfl, b23⟩
    · obtain rfl := G1.out hE
      obtain rfl := G2.out hE
      have hb1 : (E == 0) = false := by simp [hE]
      have hb2 : (E != 0) = true := by simp [hE]
      have HE := Lib.hid hE; clear hE F1 F2 G1 G2 C8 C9 p1 p2 p3
      obtain ⟨p1, p2, p3⟩ := (K17.b 3 rfl).cells3
      obtain ⟨r1, r2, r3⟩ := (K17.b 2 rfl).cells3
      go_wp2_with fail
      refine (sameInk_true Wa Ha Ax1 Ay1 Na cx1 cy1 qa qa _ (K17.a 3 rfl) (K17.a 2 rfl) (by unfold maxLen; omega) (fun _ _ _ => rfl)).mono ?_
      rintro e v10 ⟨rfl, hb10⟩
      have K20 := K17.below hb10
      have b20 := below_call b17 b17.size hb10
      clear K17 b17 hb10 p1 p2 p3 r1 r2 r3
      obtain ⟨p1, p2, p3⟩ := (K20.b 1 rfl).cells3
      obtain ⟨r1, r2, r3⟩ := (K20.b 0 rfl).cells3
      go_wp2_with fail
      refine (sameInk_true Wb Hb Ax2 Ay2 Nb cx2 cy2 qb qb _ (K20.a 1 rfl) (K20.a 0 rfl) (by unfold maxLen; omega) (fun _ _ _ => rfl)).mono ?_
      rintro e v11 ⟨rfl, hb11⟩
      have K21 := K20.below hb11
      have b21 := below_call b20 b20.size hb11
      clear K20 b20 hb11 p1 p2 p3 r1 r2 r3
      obtain ⟨p1, p2, p3⟩ := (K21.b 4 rfl).cells3
      obtain ⟨r1, r2, r3⟩ := (K21.b 5 rfl).cells3
      go_wp2_with fail
      refine (sameInk_true W H A' A n c' c p p _ (K21.a 4 rfl) (K21.a 5 rfl) (by unfold maxLen; omega) (fun _ _ _ => rfl)).mono ?_
      rintro e v12 ⟨rfl, hb12⟩
      have K22 := K21.below hb12
      have b22 := below_call b21 b21.size hb12
      clear K21 b21 hb12 p1 p2 p3 r1 r2 r3
      go_wp2_with fail
      refine (awake_any _).mono ?_
      rintro e v13 ⟨rfl, hb13⟩
      have b23 := below_call b22 b22.size hb13
      go_wp2
      go_ret
      exact ⟨rfl, b23⟩
end Go.Proofs.Ytanbheeekpdkbaa
