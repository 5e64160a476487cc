/- Walk of the law CleanLevels. -/
import Derived.Test.YtanbheeekpdkbaaW19
import Derived.Test.YtanbheeekpdkbaaW17
import Derived.Test.YtanbheeekpdkbaaW11
import Derived.Test.YtanbheeekpdkbaaLib3
namespace Go.Proofs.Ytanbheeekpdkbaa
open Go.RowKit
set_option linter.unusedVariables false

def levE (W H : Int) (n : Nat) : Int := if sidesB W H n then 0 else 2
theorem level_all (W H : Int) (A : Option Addr) (n c : Nat) (p : Int → Int) (E V : Int) (w : World) (hA : ArrB w w.heap.size A n p) (hn : n ≤ maxLen) (hB : IsB p) (hE : levE W H n = E) (hV : V = if E = 0 then levelS n p else 0) :
    Calls Try.prog 27 #[.agg #[.int .i64 W, .int .i64 H, .slice A n c]] w fun e w' => e = .returned (.tuple #[.int .i64 V, .int .i64 E]) ∧ Below w.heap.size w w' := by
  unfold levE at hE
  cases h : sidesB W H n
  · rw [h] at hE; subst hE; subst hV
    exact level_bad W H A n c w h
  · rw [h] at hE; subst hE; subst hV
    exact level_ok W H A n c p w hA hn hB h
def greyE (E d l : Int) : Int := if E ≠ 0 then E else if d < 0 ∨ 255 < d ∨ l < 0 ∨ 255 < l then 1 else 0
structure GSize (W H E Wm Hm : Int) (n Nm : Nat) : Prop where
  ok : E = 0 → Wm = W ∧ Hm = H ∧ Nm = n
  bad : E ≠ 0 → Wm = 0 ∧ Hm = 0 ∧ Nm = 0
theorem gsize_ex (W H E : Int) (n : Nat) : ∃ Wm Hm Nm, GSize W H E Wm Hm n Nm := by
  by_cases e : E = 0
  · exact ⟨W, H, n, fun _ => ⟨rfl, rfl, rfl⟩, fun h => absurd e h⟩
  · exact ⟨0, 0, 0, fun h => absurd h e, fun _ => ⟨rfl, rfl, rfl⟩⟩
set_option maxHeartbeats 1000000 in
theorem grey_bad (W H d l z : Int) (A : Option Addr) (n c : Nat) (p : Int → Int) (w : World) (hA : ArrB w w.heap.size A n p) (hn : n ≤ maxLen) (hE : greyE (chk W H n p) d l = z) (hz : z ≠ 0) :
    Calls Try.prog 30 #[.agg #[.int .i64 W, .int .i64 H, .slice A n c], .int .i64 d, .int .i64 l] w
      fun e w' => e = .returned (.tuple #[noImg, .int .i64 z]) ∧ Below w.heap.size w w' := by
  have CK := Lib.hid fun w' hA' => check_any W H A n c p w' hA' hn
  have EN : ∀ w1, Below ((w.alloc (.cells #[.int .i64 W, .int .i64 H, .slice A n c] 25)).alloc (.cells #[.int .i64 0, .int .i64 0, .slice none 0 0] 42)).heap.size ((w.alloc (.cells #[.int .i64 W, .int .i64 H, .slice A n c] 25)).alloc (.cells #[.int .i64 0, .int .i64 0, .slice none 0 0] 42)) w1 →
      Below w.heap.size w w1 ∧ Blk w1 (w.heap.size + 1) 42 #[.int .i64 0, .int .i64 0, .slice none 0 0] := by
    intro w1 hb1
    exact ⟨below_call (by (repeat (first | exact Below.refl _ _ | assumption | refine Below.drew ?_ | refine below_drewN ?_ _ | refine Below.alloc ?_ (by first | omega | (simp; done) | (simp; omega)) _ | refine Below.setCell ?_ (by first | omega | (simp; done) | (simp; omega)) _ | refine below_setRow ?_ (by first | omega | (simp; done) | (simp; omega)) _ ))) (by simp; try omega) hb1, (Blk.new' (by simp) _ _).below' hb1⟩
  by_cases hc : chk W H n p = 0
  · rw [hc] at hE CK
    have hbad : d < 0 ∨ 255 < d ∨ l < 0 ∨ 255 < l := by
      refine Classical.byContradiction fun h => hz ?_
      rw [← hE]; unfold greyE; rw [if_neg (by simp), if_neg h]
    have hz1 : z = 1 := by rw [← hE]; unfold greyE; rw [if_neg (by simp), if_pos hbad]
    subst hz1
    clear hc hE hz
    rcases (by omega : (d < l ∧ d < 0) ∨ (d < l ∧ ¬ d < 0 ∧ 255 < l) ∨ (l < d ∧ l < 0) ∨ (l < d ∧ ¬ l < 0 ∧ 255 < d) ∨ (d = l ∧ d < 0) ∨ (d = l ∧ ¬ d < 0 ∧ 255 < d)) with ⟨g1, g2⟩ | ⟨g1, g2, g3⟩ | ⟨g1, g2⟩ | ⟨g1, g2, g3⟩ | ⟨rfl, g2⟩ | ⟨rfl, g2, g3⟩
    all_goals
      clear hbad
      go_enter Try.func30, Try.ntmps30
      go_wp2_with fail
      refine (CK.out _ (hA.to (by (repeat (first | exact Below.refl _ _ | assumption | refine Below.drew ?_ | refine below_drewN ?_ _ | refine Below.alloc ?_ (by first | omega | (simp; done) | (simp; omega)) _ | refine Below.setCell ?_ (by first | omega | (simp; done) | (simp; omega)) _ | refine below_setRow ?_ (by first | omega | (simp; done) | (simp; omega)) _ ))))).mono ?_
      rintro e w1 ⟨rfl, hb1⟩
      obtain ⟨b1, k2⟩ := EN _ hb1
      clear hb1 EN CK
      obtain ⟨s1, s2, s3⟩ := k2.cells3
      obtain ⟨f1, f2, f3⟩ := k2.frozen3
      have lt2 := k2.lt
      go_wp2
      refine bodyPost_ret (v := .tuple #[noImg, .int .i64 1]) (by simp [results, Try.results30, go_sem, s1, s2, s3, noImg]) rfl ?_
      exact ⟨rfl, by (repeat (first | exact Below.refl _ _ | assumption | refine Below.drew ?_ | refine below_drewN ?_ _ | refine Below.alloc ?_ (by first | omega | (simp; done) | (simp; omega)) _ | refine Below.setCell ?_ (by first | omega | (simp; done) | (simp; omega)) _ | refine below_setRow ?_ (by first | omega | (simp; done) | (simp; omega)) _ ))⟩
  · have hz1 : chk W H n p = z := by rw [← hE]; unfold greyE; rw [if_pos hc]
    rw [hz1] at CK
    have hb : (z != 0) = true := by simp [hz]
    have HZ := Lib.hid hz
    clear hc hE hz hz1
    go_enter Try.func30, Try.ntmps30
    go_wp2_with fail
    refine (CK.out _ (hA.to (by (repeat (first | exact Below.refl _ _ | assumption | refine Below.drew ?_ | refine below_drewN ?_ _ | refine Below.alloc ?_ (by first | omega | (simp; done) | (simp; omega)) _ | refine Below.setCell ?_ (by first | omega | (simp; done) | (simp; omega)) _ | refine below_setRow ?_ (by first | omega | (simp; done) | (simp; omega)) _ ))))).mono ?_
    rintro e w1 ⟨rfl, hb1⟩
    obtain ⟨b1, k2⟩ := EN _ hb1
    clear hb1 EN CK
    obtain ⟨s1, s2, s3⟩ := k2.cells3
    obtain ⟨f1, f2, f3⟩ := k2.frozen3
    have lt2 := k2.lt
    go_wp2
    refine bodyPost_ret (v := .tuple #[noImg, .int .i64 z]) (by simp [results, Try.results30, go_sem, s1, s2, s3, noImg]) rfl ?_
    exact ⟨rfl, by (repeat (first | exact Below.refl _ _ | assumption | refine Below.drew ?_ | refine below_drewN ?_ _ | refine Below.alloc ?_ (by first | omega | (simp; done) | (simp; omega)) _ | refine Below.setCell ?_ (by first | omega | (simp; done) | (simp; omega)) _ | refine below_setRow ?_ (by first | omega | (simp; done) | (simp; omega)) _ ))⟩
theorem greyE_ok {E d l : Int} (h : greyE E d l = 0) : E = 0 ∧ 0 ≤ d ∧ d ≤ 255 ∧ 0 ≤ l ∧ l ≤ 255 := by
  unfold greyE at h
  by_cases e : E = 0
  · rw [if_neg (by simp [e])] at h
    by_cases b : d < 0 ∨ 255 < d ∨ l < 0 ∨ 255 < l
    · rw [if_pos b] at h; cases h
    · omega
  · rw [if_pos e] at h; exact absurd h e
theorem grey_all (W H d l E Wm Hm : Int) (A : Option Addr) (n c Nm : Nat) (p : Int → Int) (w : World) (hA : ArrB w w.heap.size A n p) (hn : n ≤ maxLen) (hB : IsB p) (hE : greyE (chk W H n p) d l = E) (hs : GSize W H E Wm Hm n Nm) :
    Calls Try.prog 30 #[.agg #[.int .i64 W, .int .i64 H, .slice A n c], .int .i64 d, .int .i64 l] w
      (New w fun v w' => OutM w w' E Wm Hm Nm (greyQ p d l) v) := by
  by_cases e : E = 0
  · subst e
    obtain ⟨rfl, rfl, rfl⟩ := hs.ok rfl
    obtain ⟨h1, h2, h3, h4, h5⟩ := greyE_ok hE
    refine (grey_ok Wm Hm d l A Nm c p w hA hn hB h1 h2 h3 h4 h5).mono ?_
    rintro _ w' ⟨_, rfl, ⟨g, rfl, hg, kg⟩, hb⟩
    exact ⟨_, rfl, ⟨_, _, rfl, fun _ h => by (cases h; exact hg), kg.arrB kg.lt⟩, hb⟩
  · refine (grey_bad W H d l E A n c p w hA hn hE e).mono ?_
    rintro _ w' ⟨rfl, hb⟩
    exact ⟨_, rfl, outM_bad (hs.bad e), hb⟩

set_option maxRecDepth 100000 in
set_option maxHeartbeats 4000000 in
theorem cleanLevels_any (W H W2 H2 d l : Int) (A A2 : Option Addr) (n c n2 c2 : Nat) (p pp : Int → Int) (w : World) (hA : ArrB w w.heap.size A n p) (hn : n ≤ maxLen) (hB : IsB p) (hc : A = none → c = 0)
    (hA2 : ArrB w w.heap.size A2 n2 pp) (hn2 : n2 ≤ maxLen) (hB2 : IsB pp) (hc2 : A2 = none → c2 = 0) :
    Calls Try.prog 5 #[.agg #[.int .i64 W, .int .i64 H, .slice A n c], .agg #[.int .i64 W2, .int .i64 H2, .slice A2 n2 c2], .int .i64 d, .int .i64 l] w fun e w' => e = .returned (.bool true) ∧ Below w.heap.size w w' := by
  unfold maxLen at hn hn2
  by_cases h6 : (n : Int) > 4000
  · go_enter Try.func5, Try.ntmps5
    go_wp2_with fail
    refine (awake_any _).mono ?_
    rintro e w1 ⟨rfl, hb1⟩
    go_wp2
    go_ret
    exact ⟨rfl, below_call (by (repeat (first | exact Below.refl _ _ | assumption | refine Below.drew ?_ | refine below_drewN ?_ _ | refine Below.alloc ?_ (by first | omega | (simp; done) | (simp; omega)) _ | refine Below.setCell ?_ (by first | omega | (simp; done) | (simp; omega)) _ | refine below_setRow ?_ (by first | omega | (simp; done) | (simp; omega)) _ ))) (by simp; try omega) hb1⟩
  by_cases h7 : (n2 : Int) > 4000
  · go_enter Try.func5, Try.ntmps5
    go_wp2_with fail
    refine (awake_any _).mono ?_
    rintro e w1 ⟨rfl, hb1⟩
    go_wp2
    go_ret
    exact ⟨rfl, below_call (by (repeat (first | exact Below.refl _ _ | assumption | refine Below.drew ?_ | refine below_drewN ?_ _ | refine Below.alloc ?_ (by first | omega | (simp; done) | (simp; omega)) _ | refine Below.setCell ?_ (by first | omega | (simp; done) | (simp; omega)) _ | refine below_setRow ?_ (by first | omega | (simp; done) | (simp; omega)) _ ))) (by simp; try omega) hb1⟩
  have CG := Lib.hid fun w' hA' => copyGrey_any W H A n c p w' hA' hc (by omega)
  have CI := Lib.hid fun w' hA' => copyInk_any W2 H2 A2 n2 c2 pp w' hA' hc2 (by omega)
  clear hc hc2
  go_enter Try.func5, Try.ntmps5
  go_wp2_with fail
  have k1 : Blk ((w.alloc (.cells #[.int .i64 W, .int .i64 H, .slice A n c] 42)).alloc (.cells #[.int .i64 W2, .int .i64 H2, .slice A2 n2 c2] 25)) w.heap.size 42 #[.int .i64 W, .int .i64 H, .slice A n c] := (Blk.new _ _ _).alloc _
  have k2 : Blk ((w.alloc (.cells #[.int .i64 W, .int .i64 H, .slice A n c] 42)).alloc (.cells #[.int .i64 W2, .int .i64 H2, .slice A2 n2 c2] 25)) (w.heap.size + 1) 25 #[.int .i64 W2, .int .i64 H2, .slice A2 n2 c2] := Blk.new' (by simp) _ _
  have b1 : Below w.heap.size w ((w.alloc (.cells #[.int .i64 W, .int .i64 H, .slice A n c] 42)).alloc (.cells #[.int .i64 W2, .int .i64 H2, .slice A2 n2 c2] 25)) := by (repeat (first | exact Below.refl _ _ | assumption | refine Below.drew ?_ | refine below_drewN ?_ _ | refine Below.alloc ?_ (by first | omega | (simp; done) | (simp; omega)) _ | refine Below.setCell ?_ (by first | omega | (simp; done) | (simp; omega)) _ | refine below_setRow ?_ (by first | omega | (simp; done) | (simp; omega)) _ ))
  have a1 := hA.to b1
  have a2 := hA2.to b1
  generalize (w.alloc (.cells #[.int .i64 W, .int .i64 H, .slice A n c] 42)).alloc (.cells #[.int .i64 W2, .int .i64 H2, .slice A2 n2 c2] 25) = w1 at *
  clear hA hA2
  have Z1 := k1.lt; have Z2 := k2.lt
  obtain ⟨p1, p2, p3⟩ := k1.cells3
  obtain ⟨q1, q2, q3⟩ := k2.cells3
  go_upto_region 3 with fail
  go_cut [9, 10] (fun f1 f2 wx => ∃ B1 B2 A' c' A2' c2', f1 = .pointer (some ⟨B1, 0, none⟩) ∧ f2 = .pointer (some ⟨B2, 0, none⟩) ∧ Below w1.heap.size w1 wx ∧
     Blk wx B1 42 #[.int .i64 W, .int .i64 H, .slice A' n c'] ∧ Blk wx B2 25 #[.int .i64 W2, .int .i64 H2, .slice A2' n2 c2'] ∧ ArrB wx wx.heap.size A' n p ∧ ArrB wx wx.heap.size A2' n2 pp)
  case first =>
    go_region_held3 (fun w' => w'.cell? ⟨w.heap.size, 0, none⟩ = some (.int .i64 W) ∧ w'.cell? ⟨w.heap.size, 1, none⟩ = some (.int .i64 H) ∧ w'.cell? ⟨w.heap.size, 2, none⟩ = some (.slice A n c) ∧ w'.cell? ⟨w.heap.size + 1, 0, none⟩ = some (.int .i64 W2) ∧ w'.cell? ⟨w.heap.size + 1, 1, none⟩ = some (.int .i64 H2) ∧ w'.cell? ⟨w.heap.size + 1, 2, none⟩ = some (.slice A2 n2 c2))
      (simp [go_sem, *])
      (first
        | (go_at_call 26
           refine Calls.mono (CG.out _ ?_) ?_
           focus (repeat (first | with_reducible assumption | with_reducible refine ArrB.alloc1 ?_ _ | with_reducible refine ArrB.drew1 ?_ | (with_reducible apply ArrB.fillN; (focus (with_reducible assumption)); (focus omega)) | (with_reducible apply ArrB.fillL; (focus (with_reducible assumption)); (focus (first | omega | (simp; done) | (simp; omega)))) | (with_reducible apply ArrB.to'; focus (with_reducible assumption))))
           rintro e v1 ⟨_, rfl, ⟨_, rfl, A', c', rfl, hc1, hnil1, hge1, ha1⟩, hb1⟩
           have kk1 : Blk v1 (w.heap.size) 42 #[.int .i64 W, .int .i64 H, .slice A n c] := by (repeat (first | with_reducible assumption | with_reducible exact Blk.new _ _ _ | with_reducible exact Blk.new' (World.size_alloc _ _) _ _ | (with_reducible refine Blk.new' ?_ _ _; focus (simp; done)) | with_reducible apply Blk.fill3 | (with_reducible refine Blk.far3' ?_ ?_; focus omega) | with_reducible refine Blk.alloc ?_ _ | with_reducible refine Blk.drew ?_ | (with_reducible apply Blk.below2; focus (with_reducible assumption))))
           obtain ⟨x1, x2, x3⟩ := kk1.cells3
           have ll1 : Blk v1 (w.heap.size + 1) 25 #[.int .i64 W2, .int .i64 H2, .slice A2 n2 c2] := by (repeat (first | with_reducible assumption | with_reducible exact Blk.new _ _ _ | with_reducible exact Blk.new' (World.size_alloc _ _) _ _ | (with_reducible refine Blk.new' ?_ _ _; focus (simp; done)) | with_reducible apply Blk.fill3 | (with_reducible refine Blk.far3' ?_ ?_; focus omega) | with_reducible refine Blk.alloc ?_ _ | with_reducible refine Blk.drew ?_ | (with_reducible apply Blk.below2; focus (with_reducible assumption))))
           obtain ⟨x4, x5, x6⟩ := ll1.cells3
           have s1 := hb1.size
           try simp at s1
           have y11 := kk1.lt
           have y12 := ll1.lt
           first | (have g11 : Blk v1 (w1.heap.size) 42 #[.int .i64 0, .int .i64 0, .slice none 0 0] := by ((repeat (first | with_reducible assumption | with_reducible exact Blk.new _ _ _ | with_reducible exact Blk.new' (World.size_alloc _ _) _ _ | (with_reducible refine Blk.new' ?_ _ _; focus (simp; done)) | with_reducible apply Blk.fill3 | (with_reducible refine Blk.far3' ?_ ?_; focus omega) | with_reducible refine Blk.alloc ?_ _ | with_reducible refine Blk.drew ?_ | (with_reducible apply Blk.below2; focus (with_reducible assumption)))); done)
                    obtain ⟨h1, h2, h3⟩ := g11.cells3; obtain ⟨f1, f2, f3⟩ := g11.frozen3; have lt11 := g11.lt) | skip
           first | (have g12 : Blk v1 (w1.heap.size) 25 #[.int .i64 0, .int .i64 0, .slice none 0 0] := by ((repeat (first | with_reducible assumption | with_reducible exact Blk.new _ _ _ | with_reducible exact Blk.new' (World.size_alloc _ _) _ _ | (with_reducible refine Blk.new' ?_ _ _; focus (simp; done)) | with_reducible apply Blk.fill3 | (with_reducible refine Blk.far3' ?_ ?_; focus omega) | with_reducible refine Blk.alloc ?_ _ | with_reducible refine Blk.drew ?_ | (with_reducible apply Blk.below2; focus (with_reducible assumption)))); done)
                    obtain ⟨h1, h2, h3⟩ := g12.cells3; obtain ⟨f1, f2, f3⟩ := g12.frozen3; have lt12 := g12.lt) | skip
           first | (have g13 : Blk v1 (w1.heap.size + 1) 42 #[.int .i64 0, .int .i64 0, .slice none 0 0] := by ((repeat (first | with_reducible assumption | with_reducible exact Blk.new _ _ _ | with_reducible exact Blk.new' (World.size_alloc _ _) _ _ | (with_reducible refine Blk.new' ?_ _ _; focus (simp; done)) | with_reducible apply Blk.fill3 | (with_reducible refine Blk.far3' ?_ ?_; focus omega) | with_reducible refine Blk.alloc ?_ _ | with_reducible refine Blk.drew ?_ | (with_reducible apply Blk.below2; focus (with_reducible assumption)))); done)
                    obtain ⟨h1, h2, h3⟩ := g13.cells3; obtain ⟨f1, f2, f3⟩ := g13.frozen3; have lt13 := g13.lt) | skip
           first | (have g14 : Blk v1 (w1.heap.size + 1) 25 #[.int .i64 0, .int .i64 0, .slice none 0 0] := by ((repeat (first | with_reducible assumption | with_reducible exact Blk.new _ _ _ | with_reducible exact Blk.new' (World.size_alloc _ _) _ _ | (with_reducible refine Blk.new' ?_ _ _; focus (simp; done)) | with_reducible apply Blk.fill3 | (with_reducible refine Blk.far3' ?_ ?_; focus omega) | with_reducible refine Blk.alloc ?_ _ | with_reducible refine Blk.drew ?_ | (with_reducible apply Blk.below2; focus (with_reducible assumption)))); done)
                    obtain ⟨h1, h2, h3⟩ := g14.cells3; obtain ⟨f1, f2, f3⟩ := g14.frozen3; have lt14 := g14.lt) | skip)
        | (go_at_call 17
           refine Calls.mono (CI.out _ ?_) ?_
           focus (repeat (first | with_reducible assumption | with_reducible refine ArrB.alloc1 ?_ _ | with_reducible refine ArrB.drew1 ?_ | (with_reducible apply ArrB.fillN; (focus (with_reducible assumption)); (focus omega)) | (with_reducible apply ArrB.fillL; (focus (with_reducible assumption)); (focus (first | omega | (simp; done) | (simp; omega)))) | (with_reducible apply ArrB.to'; focus (with_reducible assumption))))
           rintro e v2 ⟨_, rfl, ⟨_, rfl, A2', c2', rfl, hc2, hnil2, hge2, ha2⟩, hb2⟩
           have kk2 : Blk v2 (w.heap.size) 42 #[.int .i64 W, .int .i64 H, .slice A n c] := by (repeat (first | with_reducible assumption | with_reducible exact Blk.new _ _ _ | with_reducible exact Blk.new' (World.size_alloc _ _) _ _ | (with_reducible refine Blk.new' ?_ _ _; focus (simp; done)) | with_reducible apply Blk.fill3 | (with_reducible refine Blk.far3' ?_ ?_; focus omega) | with_reducible refine Blk.alloc ?_ _ | with_reducible refine Blk.drew ?_ | (with_reducible apply Blk.below2; focus (with_reducible assumption))))
           obtain ⟨z1, z2, z3⟩ := kk2.cells3
           have ll2 : Blk v2 (w.heap.size + 1) 25 #[.int .i64 W2, .int .i64 H2, .slice A2 n2 c2] := by (repeat (first | with_reducible assumption | with_reducible exact Blk.new _ _ _ | with_reducible exact Blk.new' (World.size_alloc _ _) _ _ | (with_reducible refine Blk.new' ?_ _ _; focus (simp; done)) | with_reducible apply Blk.fill3 | (with_reducible refine Blk.far3' ?_ ?_; focus omega) | with_reducible refine Blk.alloc ?_ _ | with_reducible refine Blk.drew ?_ | (with_reducible apply Blk.below2; focus (with_reducible assumption))))
           obtain ⟨z4, z5, z6⟩ := ll2.cells3
           have s2 := hb2.size
           try simp at s2
           have y21 := kk2.lt
           have y22 := ll2.lt
           first | (have g21 : Blk v2 (w1.heap.size) 42 #[.int .i64 0, .int .i64 0, .slice none 0 0] := by ((repeat (first | with_reducible assumption | with_reducible exact Blk.new _ _ _ | with_reducible exact Blk.new' (World.size_alloc _ _) _ _ | (with_reducible refine Blk.new' ?_ _ _; focus (simp; done)) | with_reducible apply Blk.fill3 | (with_reducible refine Blk.far3' ?_ ?_; focus omega) | with_reducible refine Blk.alloc ?_ _ | with_reducible refine Blk.drew ?_ | (with_reducible apply Blk.below2; focus (with_reducible assumption)))); done)
                    obtain ⟨h1, h2, h3⟩ := g21.cells3; obtain ⟨f1, f2, f3⟩ := g21.frozen3; have lt21 := g21.lt) | skip
           first | (have g22 : Blk v2 (w1.heap.size) 25 #[.int .i64 0, .int .i64 0, .slice none 0 0] := by ((repeat (first | with_reducible assumption | with_reducible exact Blk.new _ _ _ | with_reducible exact Blk.new' (World.size_alloc _ _) _ _ | (with_reducible refine Blk.new' ?_ _ _; focus (simp; done)) | with_reducible apply Blk.fill3 | (with_reducible refine Blk.far3' ?_ ?_; focus omega) | with_reducible refine Blk.alloc ?_ _ | with_reducible refine Blk.drew ?_ | (with_reducible apply Blk.below2; focus (with_reducible assumption)))); done)
                    obtain ⟨h1, h2, h3⟩ := g22.cells3; obtain ⟨f1, f2, f3⟩ := g22.frozen3; have lt22 := g22.lt) | skip
           first | (have g23 : Blk v2 (w1.heap.size + 1) 42 #[.int .i64 0, .int .i64 0, .slice none 0 0] := by ((repeat (first | with_reducible assumption | with_reducible exact Blk.new _ _ _ | with_reducible exact Blk.new' (World.size_alloc _ _) _ _ | (with_reducible refine Blk.new' ?_ _ _; focus (simp; done)) | with_reducible apply Blk.fill3 | (with_reducible refine Blk.far3' ?_ ?_; focus omega) | with_reducible refine Blk.alloc ?_ _ | with_reducible refine Blk.drew ?_ | (with_reducible apply Blk.below2; focus (with_reducible assumption)))); done)
                    obtain ⟨h1, h2, h3⟩ := g23.cells3; obtain ⟨f1, f2, f3⟩ := g23.frozen3; have lt23 := g23.lt) | skip
           first | (have g24 : Blk v2 (w1.heap.size + 1) 25 #[.int .i64 0, .int .i64 0, .slice none 0 0] := by ((repeat (first | with_reducible assumption | with_reducible exact Blk.new _ _ _ | with_reducible exact Blk.new' (World.size_alloc _ _) _ _ | (with_reducible refine Blk.new' ?_ _ _; focus (simp; done)) | with_reducible apply Blk.fill3 | (with_reducible refine Blk.far3' ?_ ?_; focus omega) | with_reducible refine Blk.alloc ?_ _ | with_reducible refine Blk.drew ?_ | (with_reducible apply Blk.below2; focus (with_reducible assumption)))); done)
                    obtain ⟨h1, h2, h3⟩ := g24.cells3; obtain ⟨f1, f2, f3⟩ := g24.frozen3; have lt24 := g24.lt) | skip
           first | (have g25 : Blk v2 (v1.heap.size) 42 #[.int .i64 0, .int .i64 0, .slice none 0 0] := by ((repeat (first | with_reducible assumption | with_reducible exact Blk.new _ _ _ | with_reducible exact Blk.new' (World.size_alloc _ _) _ _ | (with_reducible refine Blk.new' ?_ _ _; focus (simp; done)) | with_reducible apply Blk.fill3 | (with_reducible refine Blk.far3' ?_ ?_; focus omega) | with_reducible refine Blk.alloc ?_ _ | with_reducible refine Blk.drew ?_ | (with_reducible apply Blk.below2; focus (with_reducible assumption)))); done)
                    obtain ⟨h1, h2, h3⟩ := g25.cells3; obtain ⟨f1, f2, f3⟩ := g25.frozen3; have lt25 := g25.lt) | skip
           first | (have g26 : Blk v2 (v1.heap.size) 25 #[.int .i64 0, .int .i64 0, .slice none 0 0] := by ((repeat (first | with_reducible assumption | with_reducible exact Blk.new _ _ _ | with_reducible exact Blk.new' (World.size_alloc _ _) _ _ | (with_reducible refine Blk.new' ?_ _ _; focus (simp; done)) | with_reducible apply Blk.fill3 | (with_reducible refine Blk.far3' ?_ ?_; focus omega) | with_reducible refine Blk.alloc ?_ _ | with_reducible refine Blk.drew ?_ | (with_reducible apply Blk.below2; focus (with_reducible assumption)))); done)
                    obtain ⟨h1, h2, h3⟩ := g26.cells3; obtain ⟨f1, f2, f3⟩ := g26.frozen3; have lt26 := g26.lt) | skip
           first | (have g27 : Blk v2 (v1.heap.size + 1) 42 #[.int .i64 0, .int .i64 0, .slice none 0 0] := by ((repeat (first | with_reducible assumption | with_reducible exact Blk.new _ _ _ | with_reducible exact Blk.new' (World.size_alloc _ _) _ _ | (with_reducible refine Blk.new' ?_ _ _; focus (simp; done)) | with_reducible apply Blk.fill3 | (with_reducible refine Blk.far3' ?_ ?_; focus omega) | with_reducible refine Blk.alloc ?_ _ | with_reducible refine Blk.drew ?_ | (with_reducible apply Blk.below2; focus (with_reducible assumption)))); done)
                    obtain ⟨h1, h2, h3⟩ := g27.cells3; obtain ⟨f1, f2, f3⟩ := g27.frozen3; have lt27 := g27.lt) | skip
           first | (have g28 : Blk v2 (v1.heap.size + 1) 25 #[.int .i64 0, .int .i64 0, .slice none 0 0] := by ((repeat (first | with_reducible assumption | with_reducible exact Blk.new _ _ _ | with_reducible exact Blk.new' (World.size_alloc _ _) _ _ | (with_reducible refine Blk.new' ?_ _ _; focus (simp; done)) | with_reducible apply Blk.fill3 | (with_reducible refine Blk.far3' ?_ ?_; focus omega) | with_reducible refine Blk.alloc ?_ _ | with_reducible refine Blk.drew ?_ | (with_reducible apply Blk.below2; focus (with_reducible assumption)))); done)
                    obtain ⟨h1, h2, h3⟩ := g28.cells3; obtain ⟨f1, f2, f3⟩ := g28.frozen3; have lt28 := g28.lt) | skip))
    all_goals
      go_wp2_with fail
      go_meet
      refine ⟨_, _, A', c', A2', c2', rfl, rfl, ?_, ?_, ?_, ?_, ?_⟩
      focus (repeat (first | with_reducible exact Below.refl _ _ | with_reducible assumption | with_reducible refine Below.drew ?_ | (with_reducible refine below_alloc' ?_ ?_; focus (first | omega | (simp; done) | (simp; omega))) | (with_reducible refine below_fill3' ?_ ?_; focus omega) | (with_reducible refine below_setCell' ?_ ?_; focus (first | omega | (simp; done) | (simp; omega))) | (with_reducible apply below_call'; (focus (with_reducible assumption)); (focus (first | omega | (simp; done) | (simp; omega))))))
      focus (repeat (first | with_reducible assumption | with_reducible exact Blk.new _ _ _ | with_reducible exact Blk.new' (World.size_alloc _ _) _ _ | (with_reducible refine Blk.new' ?_ _ _; focus (simp; done)) | with_reducible apply Blk.fill3 | (with_reducible refine Blk.far3' ?_ ?_; focus omega) | with_reducible refine Blk.alloc ?_ _ | with_reducible refine Blk.drew ?_ | (with_reducible apply Blk.below2; focus (with_reducible assumption))))
      focus (repeat (first | with_reducible assumption | with_reducible exact Blk.new _ _ _ | with_reducible exact Blk.new' (World.size_alloc _ _) _ _ | (with_reducible refine Blk.new' ?_ _ _; focus (simp; done)) | with_reducible apply Blk.fill3 | (with_reducible refine Blk.far3' ?_ ?_; focus omega) | with_reducible refine Blk.alloc ?_ _ | with_reducible refine Blk.drew ?_ | (with_reducible apply Blk.below2; focus (with_reducible assumption))))
      focus (repeat (first | with_reducible assumption | with_reducible refine ArrB.alloc1 ?_ _ | with_reducible refine ArrB.drew1 ?_ | (with_reducible apply ArrB.fillN; (focus (with_reducible assumption)); (focus omega)) | (with_reducible apply ArrB.fillL; (focus (with_reducible assumption)); (focus (first | omega | (simp; done) | (simp; omega)))) | (with_reducible apply ArrB.to'; focus (with_reducible assumption))))
      focus (repeat (first | with_reducible assumption | with_reducible refine ArrB.alloc1 ?_ _ | with_reducible refine ArrB.drew1 ?_ | (with_reducible apply ArrB.fillN; (focus (with_reducible assumption)); (focus omega)) | (with_reducible apply ArrB.fillL; (focus (with_reducible assumption)); (focus (first | omega | (simp; done) | (simp; omega)))) | (with_reducible apply ArrB.to'; focus (with_reducible assumption))))
  case rest =>
  obtain ⟨B1, B2, A', c', A2', c2', rfl, rfl, hb2, kB1, kB2, aa1, aa2⟩ := hcut
  have K0 := ((((((((Kp.nil wc).addB (k2.below' hb2)).addB (k1.below' hb2)).addB kB2).addB kB1).addA (a2.to hb2)).addA (a1.to hb2)).addA aa2).addA aa1
  have b0 := below_call b1 b1.size hb2
  clear hb2 kB1 kB2 aa1 aa2 a1 a2 k1 k2 b1 Z1 Z2 p1 p2 p3 q1 q2 q3 CG CI
  have hnm : n ≤ maxLen := by unfold maxLen; omega
  have hnm2 : n2 ≤ maxLen := by unfold maxLen; omega
  obtain ⟨Wm, Hm, Nm, ms⟩ := gsize_ex W2 H2 (greyE (chk W2 H2 n2 pp) d l) n2
  have C1 := Lib.hid fun w' h' => level_all W H A' n c' p _ _ w' h' hnm hB rfl rfl
  have C2 : Hid (∀ w', Calls Try.prog 28 #[.agg #[.int .i64 W, .int .i64 H, .slice A n c]] w' fun e w'' => e = .returned (.int .i64 (levE W H n)) ∧ Below w'.heap.size w' w'') := by
    show ∀ _, _; exact fun w' => rcheckGrey_any W H A n c w' hnm
  have C3 := Lib.hid fun w' h' => rlevel_any W H A n c p w' h' hnm hB
  have C4 := Lib.hid fun w' h' => grey_all W2 H2 d l _ Wm Hm A2' n2 c2' Nm pp w' h' hnm2 hB2 rfl ms
  have C5 := Lib.hid fun w' h' => rcheck_any W2 H2 A2 n2 c2 pp w' h' hnm2 hB2
  have F1 : Hid (levE W H n = 0 ∨ levE W H n = 2) := by show _ ∨ _; unfold levE; split <;> simp
  have F2 : Hid (levE W H n = 0 → (if levE W H n = 0 then levelS n p else 0) = levelS n p) := by intro h; rw [if_pos h]
  have F3 : Hid (levE W H n = 2 → (if levE W H n = 0 then levelS n p else 0) = 0) := by intro h; rw [h]; rfl
  have G1 : Hid (chk W2 H2 n2 pp ≠ 0 → greyE (chk W2 H2 n2 pp) d l = chk W2 H2 n2 pp) := by intro h; unfold greyE; rw [if_pos h]
  have G2 : Hid (chk W2 H2 n2 pp = 0 → (d < 0 ∨ 255 < d ∨ l < 0 ∨ 255 < l) → greyE (chk W2 H2 n2 pp) d l = 1) := by intro h hb; unfold greyE; rw [if_neg (by simp [h]), if_pos hb]
  have G3 : Hid (chk W2 H2 n2 pp = 0 → ¬ (d < 0 ∨ 255 < d ∨ l < 0 ∨ 255 < l) → greyE (chk W2 H2 n2 pp) d l = 0) := by intro h hb; unfold greyE; rw [if_neg (by simp [h]), if_neg hb]
  have MS := Lib.hid ms; clear ms
  generalize (if levE W H n = 0 then levelS n p else 0) = V at *
  generalize levelS n p = VR at *
  generalize levE W H n = E0 at *
  generalize greyE (chk W2 H2 n2 pp) d l = Em at *
  generalize chk W2 H2 n2 pp = E at *
  obtain ⟨p1, p2, p3⟩ := (K0.b 0 rfl).cells3
  go_wp2_with fail
  refine (C1.out _ (K0.a 0 rfl)).mono ?_
  rintro e v1 ⟨rfl, hb1⟩
  have K1 := K0.below hb1
  have b1 := below_call b0 b0.size hb1
  clear K0 b0 hb1 p1 p2 p3 C1
  obtain ⟨p1, p2, p3⟩ := (K1.b 2 rfl).cells3
  go_wp2_with fail
  refine (C2.out _).mono ?_
  rintro e v2 ⟨rfl, hb2⟩
  have K2 := K1.below hb2
  have b2 := below_call b1 b1.size hb2
  clear K1 b1 hb2 p1 p2 p3 C2
  obtain ⟨p1, p2, p3⟩ := (K2.b 2 rfl).cells3
  go_upto_region 6 with fail
  go_cut [61] (fun t wx => t = .bool false ∧ Below v2.heap.size v2 wx)
  case first =>
    rcases F1.out with rfl | rfl
    · obtain rfl := F2.out rfl
      clear F1 F2 F3 G1 G2 G3
      go_wp2_with fail
      refine (C3.out _ (K2.a 2 rfl)).mono ?_
      rintro e v9 ⟨rfl, hb9⟩
      go_wp2_with fail
      go_meet
      exact ⟨by first | rfl | (simp; done), hb9⟩
    · obtain rfl := F3.out rfl
      clear F1 F2 F3 G1 G2 G3
      go_wp2_with fail
      go_meet
      exact ⟨by first | rfl | (simp; done), Below.refl _ _⟩
  case rest =>
  obtain ⟨rfl, hb3⟩ := hcut
  have K3 := K2.below hb3
  have b3 := below_call b2 b2.size hb3
  clear K2 b2 hb3 p1 p2 p3 F1 F2 F3 C3
  obtain ⟨p1, p2, p3⟩ := (K3.b 1 rfl).cells3
  go_wp2_with fail
  refine (C4.out _ (K3.a 1 rfl)).mono ?_
  rintro e v4 ⟨_, rfl, ⟨Ax, cx, rfl, hgx, ax⟩, hb4⟩
  have K4a := (K3.below hb4).addA ax
  have b4a := below_call b3 b3.size hb4
  have z4 := b4a.size
  have b4 : Below w.heap.size w (v4.alloc (.cells #[.int .i64 Wm, .int .i64 Hm, .slice Ax Nm cx] 42)) := by (repeat (first | exact Below.refl _ _ | assumption | refine Below.drew ?_ | refine below_drewN ?_ _ | refine Below.alloc ?_ (by first | omega | (simp; done) | (simp; omega)) _ | refine Below.setCell ?_ (by first | omega | (simp; done) | (simp; omega)) _ | refine below_setRow ?_ (by first | omega | (simp; done) | (simp; omega)) _ ))
  have K4 := K4a.new 42 #[.int .i64 Wm, .int .i64 Hm, .slice Ax Nm cx]
  clear K3 b3 K4a b4a hb4 ax hgx p1 p2 p3 z4 C4
  obtain ⟨p1, p2, p3⟩ := (K4.b 4 rfl).cells3
  go_wp2_with fail
  generalize v4.alloc (.cells #[.int .i64 Wm, .int .i64 Hm, .slice Ax Nm cx] 42) = w4 at *
  refine (C5.out _ (K4.a 4 rfl)).mono ?_
  rintro e v5 ⟨rfl, hb5⟩
  have K5 := K4.below hb5
  have b5 := below_call b4 b4.size hb5
  clear K4 b4 hb5 p1 p2 p3 C5
  by_cases hE : E = 0
  · subst hE
    have G2 := Lib.hid (G2.out rfl); have G3 := Lib.hid (G3.out rfl)
    clear G1
    by_cases hbad : d < 0 ∨ 255 < d ∨ l < 0 ∨ 255 < l
    · obtain rfl := G2.out hbad
      obtain ⟨rfl, rfl, rfl⟩ := MS.out.bad (by decide)
      clear G2 G3 MS
      rcases (by omega : d < 0 ∨ (¬ d < 0 ∧ 255 < d) ∨ (¬ d < 0 ∧ ¬ 255 < d ∧ l < 0) ∨ (¬ d < 0 ∧ ¬ 255 < d ∧ ¬ l < 0 ∧ 255 < l)) with g1 | ⟨g1, g2⟩ | ⟨g1, g2, g3⟩ | ⟨g1, g2, g3, g4⟩
      all_goals
        clear hbad
        obtain ⟨p1, p2, p3⟩ := (K5.b 1 rfl).cells3
        obtain ⟨r1, r2, r3⟩ := (K5.b 3 rfl).cells3
        go_wp2_with fail
        refine (sameGrey_true W H A' A n c' c p p _ (K5.a 1 rfl) (K5.a 3 rfl) (by unfold maxLen; omega) (fun _ _ _ => rfl)).mono ?_
        rintro e v6 ⟨rfl, hb6⟩
        have K6 := K5.below hb6
        have b6 := below_call b5 b5.size hb6
        clear K5 b5 hb6 p1 p2 p3 r1 r2 r3 
        obtain ⟨p1, p2, p3⟩ := (K6.b 2 rfl).cells3
        obtain ⟨r1, r2, r3⟩ := (K6.b 4 rfl).cells3
        go_wp2_with fail
        refine (sameInk_true W2 H2 A2' A2 n2 c2' c2 pp pp _ (K6.a 2 rfl) (K6.a 4 rfl) (by unfold maxLen; omega) (fun _ _ _ => rfl)).mono ?_
        rintro e v7 ⟨rfl, hb7⟩
        have K7 := K6.below hb7
        have b7 := below_call b6 b6.size hb7
        clear K6 b6 hb7 p1 p2 p3 r1 r2 r3 
        obtain ⟨p1, p2, p3⟩ := (K7.b 0 rfl).cells3
        go_wp2_with fail
        refine (awake_any _).mono ?_
        rintro e v8 ⟨rfl, hb8⟩
        have b8 := below_call b7 b7.size hb8
        go_wp2
        go_ret
        exact ⟨rfl, b8⟩
    · obtain rfl := G3.out hbad
      obtain ⟨rfl, rfl, rfl⟩ := MS.out.ok rfl
      have g1 : 0 ≤ d := by omega
      have g2 : d ≤ 255 := by omega
      have g3 : 0 ≤ l := by omega
      have g4 : l ≤ 255 := by omega
      clear hbad G2 G3 MS
      obtain ⟨p1, p2, p3⟩ := (K5.b 1 rfl).cells3
      obtain ⟨r1, r2, r3⟩ := (K5.b 3 rfl).cells3
      go_wp2_with fail
      refine (sameGrey_true W H A' A n c' c p p _ (K5.a 1 rfl) (K5.a 3 rfl) (by unfold maxLen; omega) (fun _ _ _ => rfl)).mono ?_
      rintro e v6 ⟨rfl, hb6⟩
      have K6 := K5.below hb6
      have b6 := below_call b5 b5.size hb6
      clear K5 b5 hb6 p1 p2 p3 r1 r2 r3 
      obtain ⟨p1, p2, p3⟩ := (K6.b 2 rfl).cells3
      obtain ⟨r1, r2, r3⟩ := (K6.b 4 rfl).cells3
      go_wp2_with fail
      refine (sameInk_true Wm Hm A2' A2 Nm c2' c2 pp pp _ (K6.a 2 rfl) (K6.a 4 rfl) (by unfold maxLen; omega) (fun _ _ _ => rfl)).mono ?_
      rintro e v7 ⟨rfl, hb7⟩
      have K7 := K6.below hb7
      have b7 := below_call b6 b6.size hb7
      clear K6 b6 hb7 p1 p2 p3 r1 r2 r3 
      obtain ⟨p1, p2, p3⟩ := (K7.b 0 rfl).cells3
      obtain ⟨r1, r2, r3⟩ := (K7.b 4 rfl).cells3
      go_wp2_with fail
      have AX := Lib.hid (K7.a 0 rfl); have AI := Lib.hid (K7.a 4 rfl)
      have BB := Lib.hid b7
      go_loop [143] (fun s => ∃ i : Nat, i ≤ Nm ∧ s = .int .i64 i) (fun s => Nm - (intOf s).toNat)
      case atStart => exact ⟨0, by omega, rfl⟩
      case round =>
        obtain ⟨i, hi, rfl⟩ := hrel
        by_cases hlt : i < Nm
        · have hi0 : (0 : Int) ≤ (i : Int) := by omega
          have hin : (i : Int) < (Nm : Int) := by omega
          obtain ⟨bx, ox, rfl, hbx, hcx⟩ := ArrB.at_ AX.out hi0 hin
          obtain ⟨by', oy, rfl, hby, hcy⟩ := ArrB.at_ AI.out hi0 hin
          rw [Int.toNat_natCast] at hcx hcy
          by_cases e1 : pp i = 1
          · have G : Hid (greyQ pp d l i = d) := by show _ = _; unfold greyQ; rw [if_pos e1]
            rw [G.out] at hcx
            rw [e1] at hcy
            have E1 := Lib.hid e1; clear e1
            go_wp2
            go_round
            case rel => exact ⟨i + 1, by omega, by go_num⟩
            case measure => simp [intOf]; omega
          · have G : Hid (greyQ pp d l i = l) := by show _ = _; unfold greyQ; rw [if_neg e1]
            rw [G.out] at hcx
            have hb : (pp i == 1) = false := by simp [e1]
            have E1 := Lib.hid e1; clear e1
            go_wp2
            go_round
            case rel => exact ⟨i + 1, by omega, by go_num⟩
            case measure => simp [intOf]; omega
        · go_wp2_with fail
          refine (awake_any _).mono ?_
          rintro e v20 ⟨rfl, hb20⟩
          have b20 := below_call BB.out BB.out.size hb20
          go_wp2
          go_ret
          exact ⟨rfl, b20⟩
  · obtain rfl := G1.out hE
    obtain ⟨rfl, rfl, rfl⟩ := MS.out.bad hE
    have hb1 : (Em == 0) = false := by simp [hE]
    have hb2 : (Em != 0) = true := by simp [hE]
    have HE := Lib.hid hE; clear hE G1 G2 G3 MS
    obtain ⟨p1, p2, p3⟩ := (K5.b 1 rfl).cells3
    obtain ⟨r1, r2, r3⟩ := (K5.b 3 rfl).cells3
    go_wp2_with fail
    refine (sameGrey_true W H A' A n c' c p p _ (K5.a 1 rfl) (K5.a 3 rfl) (by unfold maxLen; omega) (fun _ _ _ => rfl)).mono ?_
    rintro e v6 ⟨rfl, hb6⟩
    have K6 := K5.below hb6
    have b6 := below_call b5 b5.size hb6
    clear K5 b5 hb6 p1 p2 p3 r1 r2 r3 
    obtain ⟨p1, p2, p3⟩ := (K6.b 2 rfl).cells3
    obtain ⟨r1, r2, r3⟩ := (K6.b 4 rfl).cells3
    go_wp2_with fail
    refine (sameInk_true W2 H2 A2' A2 n2 c2' c2 pp pp _ (K6.a 2 rfl) (K6.a 4 rfl) (by unfold maxLen; omega) (fun _ _ _ => rfl)).mono ?_
    rintro e v7 ⟨rfl, hb7⟩
    have K7 := K6.below hb7
    have b7 := below_call b6 b6.size hb7
    clear K6 b6 hb7 p1 p2 p3 r1 r2 r3 
    obtain ⟨p1, p2, p3⟩ := (K7.b 0 rfl).cells3
    go_wp2_with fail
    refine (awake_any _).mono ?_
    rintro e v8 ⟨rfl, hb8⟩
    have b8 := below_call b7 b7.size hb8
    go_wp2
    go_ret
    exact ⟨rfl, b8⟩
end Go.Proofs.Ytanbheeekpdkbaa
