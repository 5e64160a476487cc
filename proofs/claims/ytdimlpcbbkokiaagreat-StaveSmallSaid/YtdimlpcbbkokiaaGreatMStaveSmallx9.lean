/- Texts of mine in build order: T40, T41, T57, T58, T59. Conditions: each theorem's own. -/
import Derived.Test.YtdimlpcbbkokiaaGreatMStaveSmallx8
import Derived.StillTailTactics
/- The program's Rectify and Restore, each in one piece. Written by gen/t40.py. -/
namespace Go.Proofs.YtdimlpcbbkokiaaGreat
open Go.RowKit Go.Shelf
set_option linter.unusedVariables false
/-- which error Rectify returns -/
def recE (W H : Int) (n : Nat) (p : Int → Int) (K : Nat) (m : Nat → Nat) (ln : Nat → Nat → Int) (up down : Int) : Int :=
  if stChk W H n p K m ln ≠ 0 then stChk W H n p K m ln else if up < 0 ∨ down < 0 then 1 else if 639 < up ∨ 639 - up < down then 2 else 0
theorem stChk_ok {W H : Int} {n : Nat} {p : Int → Int} {K : Nat} {m : Nat → Nat} {ln : Nat → Nat → Int} (h : stChk W H n p K m ln = 0) : chk W H n p = 0 ∧ StP W H K m ln := by
  unfold stChk at h
  by_cases hc : chk W H n p ≠ 0
  · rw [if_pos hc] at h; exact absurd h hc
  · rw [if_neg hc] at h
    refine ⟨Classical.not_not.1 hc, ?_⟩
    by_cases hs : stFits W H K m ln = true
    · exact stFits_iff.1 hs
    · rw [if_neg hs] at h; omega
theorem StP.pos {W H : Int} {K : Nat} {m : Nat → Nat} {ln : Nat → Nat → Int} (h : StP W H K m ln) : 1 ≤ W ∧ 1 ≤ H := by
  obtain ⟨-, h, -⟩ := h
  exact ⟨(isPathB_iff.1 (h 0 (by omega))).1.1, (isPathB_iff.1 (h 0 (by omega))).1.2.1⟩
theorem recE_ok {W H : Int} {n : Nat} {p : Int → Int} {K : Nat} {m : Nat → Nat} {ln : Nat → Nat → Int} {up down : Int} (h : recE W H n p K m ln up down = 0) : stChk W H n p K m ln = 0 ∧ 0 ≤ up ∧ 0 ≤ down ∧ up + down + 1 ≤ 640 := by
  unfold recE at h
  by_cases h1 : stChk W H n p K m ln ≠ 0
  · rw [if_pos h1] at h; exact absurd h h1
  · rw [if_neg h1] at h
    by_cases h2 : up < 0 ∨ down < 0
    · rw [if_pos h2] at h; omega
    · rw [if_neg h2] at h
      by_cases h3 : 639 < up ∨ 639 - up < down
      · rw [if_pos h3] at h; omega
      · exact ⟨Classical.not_not.1 h1, by omega, by omega, by omega⟩
theorem rectify_all (W H : Int) (A AL : Option Addr) (n c K cL : Nat) (p : Int → Int) (m : Nat → Nat) (ln : Nat → Nat → Int) (up down : Int) (E W2 H2 : Int) (N : Nat) (w : World) (hA : ArrB w w.heap.size A n p) (hn : n ≤ maxLen) (hB : IsB p) (hL : Lines w w.heap.size AL K m ln) (hm : ∀ i, i < K → m i ≤ maxLen) (hE : recE W H n p K m ln up down = E) (hs : RSize E W (up + down + 1) W2 H2 N) :
    Calls Tryz.prog 42 #[.agg #[.int .i64 W, .int .i64 H, .slice A n c], .agg #[.slice AL K cL], .int .i64 up, .int .i64 down] w (New w fun v w' => OutT w w' E W2 H2 N (recQ W H p (ln 4) up) v) := by
  by_cases h0 : E = 0
  · subst h0
    obtain ⟨h1, h2, h3, h4⟩ := recE_ok hE
    obtain ⟨hc, hP⟩ := stChk_ok h1
    obtain ⟨rfl, rfl, hN⟩ := hs.1 rfl
    exact (rectify_ok W2 H A AL n c K cL N p m ln up down _ w hA hn hB hL hm h1 hc hP h2 h3 rfl h4 hN).mono fun e w' ⟨v, he, ⟨g, hv, ho⟩, hb⟩ => ⟨v, he, by rw [hv]; exact ho.outT, hb⟩
  · have key : Calls Tryz.prog 42 #[.agg #[.int .i64 W, .int .i64 H, .slice A n c], .agg #[.slice AL K cL], .int .i64 up, .int .i64 down] w fun e w' => e = .returned (.tuple #[noImg, .int .i64 E]) ∧ Below w.heap.size w w' := by
      unfold recE at hE
      by_cases h1 : stChk W H n p K m ln ≠ 0
      · rw [if_pos h1] at hE
        exact rectify_chk W H A AL n c K cL p m ln up down E w hA hn hL hm hE h0
      · rw [if_neg h1] at hE
        have hz := Classical.not_not.1 h1
        by_cases h2 : up < 0 ∨ down < 0
        · rw [if_pos h2] at hE
          subst hE
          exact rectify_arg W H A AL n c K cL p m ln up down w hA hn hL hm hz h2
        · rw [if_neg h2] at hE
          by_cases h3 : 639 < up ∨ 639 - up < down
          · rw [if_pos h3] at hE
            subst hE
            by_cases h4 : 640 ≤ up ∨ 640 ≤ down
            · exact rectify_size1 W H A AL n c K cL p m ln up down w hA hn hL hm hz (by omega) (by omega) h4
            · exact rectify_size2 W H A AL n c K cL p m ln up down w hA hn hL hm hz (by omega) (by omega) (by omega) (by omega) (by omega)
          · rw [if_neg h3] at hE; omega
    exact key.mono fun e w' ⟨he, hb⟩ => ⟨_, he, outT_bad hs h0, hb⟩
theorem resE_ok {W H SW SH : Int} {n sn : Nat} {p sp : Int → Int} {K : Nat} {m : Nat → Nat} {ln : Nat → Nat → Int} {up : Int} (h : resE W H n p SW SH sn sp K m ln up = 0) :
    chk W H n p = 0 ∧ chk SW SH sn sp = 0 ∧ StP W H K m ln ∧ 0 ≤ up ∧ up < SH ∧ SW = W := by
  unfold resE at h
  by_cases h1 : orE (chk W H n p) (chk SW SH sn sp) ≠ 0
  · rw [if_pos h1] at h; exact absurd h h1
  · rw [if_neg h1] at h
    obtain ⟨e1, e2⟩ := orE_zero.1 (Classical.not_not.1 h1)
    by_cases h2 : stFits W H K m ln = false
    · rw [if_pos h2] at h; omega
    · rw [if_neg h2] at h
      by_cases h3 : up < 0 ∨ SH ≤ up
      · rw [if_pos h3] at h; omega
      · rw [if_neg h3] at h
        by_cases h4 : SW ≠ W
        · rw [if_pos h4] at h; omega
        · exact ⟨e1, e2, stFits_iff.1 (by simpa using h2), by omega, by omega, Classical.not_not.1 h4⟩
theorem restore_all (W H SW SH : Int) (A SA AL : Option Addr) (n c sn sc K cL : Nat) (p sp : Int → Int) (m : Nat → Nat) (ln : Nat → Nat → Int) (up : Int) (E W2 H2 : Int) (N : Nat) (w : World) (hA : ArrB w w.heap.size A n p) (hn : n ≤ 1000000) (hS : ArrB w w.heap.size SA sn sp) (hsn : sn ≤ maxLen) (hL : Lines w w.heap.size AL K m ln) (hm : ∀ i, i < K → m i ≤ maxLen) (hE : resE W H n p SW SH sn sp K m ln up = E) (hs : RSize E W H W2 H2 N) :
    Calls Tryz.prog 44 #[.agg #[.int .i64 W, .int .i64 H, .slice A n c], .agg #[.int .i64 SW, .int .i64 SH, .slice SA sn sc], .agg #[.slice AL K cL], .int .i64 up] w (New w fun v w' => OutT w w' E W2 H2 N (resQ W H SH p sp (ln 4) up) v) := by
  have hn2 : n ≤ maxLen := by unfold maxLen; omega
  by_cases h0 : E = 0
  · subst h0
    obtain ⟨rfl, rfl, hN⟩ := hs.1 rfl
    have hnn := (chk_ok (resE_ok hE).1).2.2.2.2.1
    obtain rfl : N = n := by omega
    exact restore_ok W2 H2 SW SH A SA AL N c sn sc K cL p sp m ln up w hA hn2 hS hsn hL hm hn hE
  · exact (restore_bad W H SW SH A SA AL n c sn sc K cL p sp m ln up w hA hn2 hS hsn hL hm E hE h0).mono fun e w' ⟨he, hb⟩ => ⟨_, he, outT_bad hs h0, hb⟩
end Go.Proofs.YtdimlpcbbkokiaaGreat

/- Walk: the reference's Rectify. Written by gen/t40.py. -/
namespace Go.Proofs.YtdimlpcbbkokiaaGreat
open Go.RowKit Go.Shelf
set_option linter.unusedVariables false
attribute [local go_sem] Oper.semAt_some
set_option maxRecDepth 100000 in
set_option maxHeartbeats 4000000 in
theorem rrectify_bad (W H : Int) (A AL : Option Addr) (n c K cL : Nat) (p : Int → Int) (m : Nat → Nat) (ln : Nat → Nat → Int) (up down : Int) (E : Int) (w : World) (hA : ArrB w w.heap.size A n p) (hn : n ≤ maxLen) (hB : IsB p) (hL : Lines w w.heap.size AL K m ln) (hm : ∀ i, i < K → m i ≤ maxLen) (hE : recE W H n p K m ln up down = E) (hE0 : E ≠ 0) :
    Calls Tryz.prog 43 #[.agg #[.int .i64 W, .int .i64 H, .slice A n c], .agg #[.slice AL K cL], .int .i64 up, .int .i64 down] w fun e w' => e = .returned (.tuple #[noImg, .int .i64 E]) ∧ Below w.heap.size w w' := by
  have HE := Lib.hid hE; have HE0 := Lib.hid hE0
  clear hE hE0
  have CK := Lib.hid fun w' hA' hL' => rcheck_st W H A AL n c K cL p m ln (stChk W H n p K m ln) w' hA' hn hB hL' hm rfl
  generalize hz : stChk W H n p K m ln = z at *
  have HZ := Lib.hid hz
  clear hz
  have b1 : Below w.heap.size w (((w.alloc (.cells #[.int .i64 W, .int .i64 H, .slice A n c] 24)).alloc (.cells #[.slice AL K cL] 40)).alloc (.cells #[.int .i64 0, .int .i64 0, .slice none 0 0] 24)) := by (repeat (first | exact Below.refl _ _ | assumption | refine Below.drew ?_ | refine below_drewN ?_ _ | refine Below.alloc ?_ (by first | omega | (simp; done) | (simp; omega)) _ | refine Below.setCell ?_ (by first | omega | (simp; done) | (simp; omega)) _ | refine below_setRow ?_ (by first | omega | (simp; done) | (simp; omega)) _ ))
  have k3 : Blk (((w.alloc (.cells #[.int .i64 W, .int .i64 H, .slice A n c] 24)).alloc (.cells #[.slice AL K cL] 40)).alloc (.cells #[.int .i64 0, .int .i64 0, .slice none 0 0] 24)) (w.heap.size + 1 + 1) 24 #[.int .i64 0, .int .i64 0, .slice none 0 0] := Blk.new' (by simp) _ _
  have k1 : Blk (((w.alloc (.cells #[.int .i64 W, .int .i64 H, .slice A n c] 24)).alloc (.cells #[.slice AL K cL] 40)).alloc (.cells #[.int .i64 0, .int .i64 0, .slice none 0 0] 24)) w.heap.size 24 #[.int .i64 W, .int .i64 H, .slice A n c] := ((Blk.new _ _ _).alloc _).alloc _
  have k2 : Blk (((w.alloc (.cells #[.int .i64 W, .int .i64 H, .slice A n c] 24)).alloc (.cells #[.slice AL K cL] 40)).alloc (.cells #[.int .i64 0, .int .i64 0, .slice none 0 0] 24)) (w.heap.size + 1) 40 #[.slice AL K cL] := (Blk.new' (by simp) _ _).alloc _
  go_enter Tryz.func43, Tryz.ntmps43
  go_wp2_with fail
  generalize (((w.alloc (.cells #[.int .i64 W, .int .i64 H, .slice A n c] 24)).alloc (.cells #[.slice AL K cL] 40)).alloc (.cells #[.int .i64 0, .int .i64 0, .slice none 0 0] 24)) = w1 at *
  refine (CK.out _ (hA.to b1) (hL.below b1)).mono ?_
  rintro e w2 ⟨rfl, hb2⟩
  have b2 := below_call b1 b1.size hb2
  replace k1 := k1.below' hb2
  replace k2 := k2.below' hb2
  replace k3 := k3.below' hb2
  clear hb2 b1 CK
  obtain ⟨p1, p2, p3⟩ := k1.cells3
  have p4 := k2.cells0
  have RE : Hid (E = if z ≠ 0 then z else if up < 0 ∨ down < 0 then 1 else if 639 < up ∨ 639 - up < down then 2 else 0) := by
    show _ = _
    rw [← HE.out]; unfold recE; rw [HZ.out]
  by_cases h0 : z = 0
  · subst h0
    by_cases h1 : up < 0 ∨ down < 0
    · have hE : E = 1 := by rw [RE.out, if_neg (by simp), if_pos h1]
      subst hE
      clear RE HE
      by_cases hu : up < 0
      · have d1 : decide (up < 0) = true := decide_eq_true hu
        clear h1
        obtain ⟨r1, r2, r3⟩ := k3.cells3
        obtain ⟨f1, f2, f3⟩ := k3.frozen3
        have k9 := ((k3.set_ 0 (.int .i64 0)).set_ 1 (.int .i64 0)).set_ 2 (.slice none 0 0)
        obtain ⟨s1, s2, s3⟩ := Blk.cells3 (a := .int .i64 0) (b := .int .i64 0) (c := .slice none 0 0) k9
        go_wp2_with fail
        refine bodyPost_ret (v := .tuple #[noImg, .int .i64 1]) (by simp [results, Tryz.results43, go_sem, noImg, s1, s2, s3]) rfl ?_
        exact ⟨rfl, by (repeat (first | with_reducible exact Below.refl _ _ | with_reducible assumption | with_reducible refine Below.drew ?_ | (with_reducible refine below_alloc' ?_ ?_; focus (first | omega | (simp; done) | (simp; omega))) | (with_reducible refine below_fill3' ?_ ?_; focus omega) | (with_reducible refine below_setCell' ?_ ?_; focus (first | omega | (simp; done) | (simp; omega))) | (with_reducible apply below_call'; (focus (with_reducible assumption)); (focus (first | omega | (simp; done) | (simp; omega))))))⟩
      · have d1 : decide (up < 0) = false := decide_eq_false hu
        have hd : down < 0 := by omega
        have d2 : decide (down < 0) = true := decide_eq_true hd
        clear h1
        obtain ⟨r1, r2, r3⟩ := k3.cells3
        obtain ⟨f1, f2, f3⟩ := k3.frozen3
        have k9 := ((k3.set_ 0 (.int .i64 0)).set_ 1 (.int .i64 0)).set_ 2 (.slice none 0 0)
        obtain ⟨s1, s2, s3⟩ := Blk.cells3 (a := .int .i64 0) (b := .int .i64 0) (c := .slice none 0 0) k9
        go_wp2_with fail
        refine bodyPost_ret (v := .tuple #[noImg, .int .i64 1]) (by simp [results, Tryz.results43, go_sem, noImg, s1, s2, s3]) rfl ?_
        exact ⟨rfl, by (repeat (first | with_reducible exact Below.refl _ _ | with_reducible assumption | with_reducible refine Below.drew ?_ | (with_reducible refine below_alloc' ?_ ?_; focus (first | omega | (simp; done) | (simp; omega))) | (with_reducible refine below_fill3' ?_ ?_; focus omega) | (with_reducible refine below_setCell' ?_ ?_; focus (first | omega | (simp; done) | (simp; omega))) | (with_reducible apply below_call'; (focus (with_reducible assumption)); (focus (first | omega | (simp; done) | (simp; omega))))))⟩
    · have hE : E = 2 := by
        rw [RE.out, if_neg (by simp), if_neg h1]
        by_cases h3 : 639 < up ∨ 639 - up < down
        · rw [if_pos h3]
        · exact absurd (by rw [RE.out, if_neg (by simp), if_neg h1, if_neg h3]) HE0.out
      have h3 : 639 < up ∨ 639 - up < down := by
        by_cases h3 : 639 < up ∨ 639 - up < down
        · exact h3
        · exact absurd (by rw [RE.out, if_neg (by simp), if_neg h1, if_neg h3]) HE0.out
      subst hE
      have d1 : decide (up < 0) = false := decide_eq_false (by omega)
      have d2 : decide (down < 0) = false := decide_eq_false (by omega)
      have u0 : 0 ≤ up := by omega
      have u1 : 0 ≤ down := by omega
      clear RE HE h1
      by_cases hu : 639 < up
      · have d3 : decide (639 < up) = true := decide_eq_true hu
        clear h3
        obtain ⟨r1, r2, r3⟩ := k3.cells3
        obtain ⟨f1, f2, f3⟩ := k3.frozen3
        have k9 := ((k3.set_ 0 (.int .i64 0)).set_ 1 (.int .i64 0)).set_ 2 (.slice none 0 0)
        obtain ⟨s1, s2, s3⟩ := Blk.cells3 (a := .int .i64 0) (b := .int .i64 0) (c := .slice none 0 0) k9
        go_wp2_with fail
        refine bodyPost_ret (v := .tuple #[noImg, .int .i64 2]) (by simp [results, Tryz.results43, go_sem, noImg, s1, s2, s3]) rfl ?_
        exact ⟨rfl, by (repeat (first | with_reducible exact Below.refl _ _ | with_reducible assumption | with_reducible refine Below.drew ?_ | (with_reducible refine below_alloc' ?_ ?_; focus (first | omega | (simp; done) | (simp; omega))) | (with_reducible refine below_fill3' ?_ ?_; focus omega) | (with_reducible refine below_setCell' ?_ ?_; focus (first | omega | (simp; done) | (simp; omega))) | (with_reducible apply below_call'; (focus (with_reducible assumption)); (focus (first | omega | (simp; done) | (simp; omega))))))⟩
      · have d3 : decide (639 < up) = false := decide_eq_false hu
        have hd : 639 - up < down := by omega
        have d4 : decide (639 - up < down) = true := decide_eq_true hd
        clear h3
        obtain ⟨r1, r2, r3⟩ := k3.cells3
        obtain ⟨f1, f2, f3⟩ := k3.frozen3
        have k9 := ((k3.set_ 0 (.int .i64 0)).set_ 1 (.int .i64 0)).set_ 2 (.slice none 0 0)
        obtain ⟨s1, s2, s3⟩ := Blk.cells3 (a := .int .i64 0) (b := .int .i64 0) (c := .slice none 0 0) k9
        go_wp2_with fail
        refine bodyPost_ret (v := .tuple #[noImg, .int .i64 2]) (by simp [results, Tryz.results43, go_sem, noImg, s1, s2, s3]) rfl ?_
        exact ⟨rfl, by (repeat (first | with_reducible exact Below.refl _ _ | with_reducible assumption | with_reducible refine Below.drew ?_ | (with_reducible refine below_alloc' ?_ ?_; focus (first | omega | (simp; done) | (simp; omega))) | (with_reducible refine below_fill3' ?_ ?_; focus omega) | (with_reducible refine below_setCell' ?_ ?_; focus (first | omega | (simp; done) | (simp; omega))) | (with_reducible apply below_call'; (focus (with_reducible assumption)); (focus (first | omega | (simp; done) | (simp; omega))))))⟩
  · have hE : E = z := by rw [RE.out, if_pos h0]
    subst hE
    have hz2 : (E != 0) = true := by simp [h0]
    have HH := Lib.hid h0
    clear h0 RE HE
    obtain ⟨r1, r2, r3⟩ := k3.cells3
    obtain ⟨f1, f2, f3⟩ := k3.frozen3
    have k9 := ((k3.set_ 0 (.int .i64 0)).set_ 1 (.int .i64 0)).set_ 2 (.slice none 0 0)
    obtain ⟨s1, s2, s3⟩ := Blk.cells3 (a := .int .i64 0) (b := .int .i64 0) (c := .slice none 0 0) k9
    go_wp2_with fail
    refine bodyPost_ret (v := .tuple #[noImg, .int .i64 E]) (by simp [results, Tryz.results43, go_sem, noImg, s1, s2, s3]) rfl ?_
    exact ⟨rfl, by (repeat (first | with_reducible exact Below.refl _ _ | with_reducible assumption | with_reducible refine Below.drew ?_ | (with_reducible refine below_alloc' ?_ ?_; focus (first | omega | (simp; done) | (simp; omega))) | (with_reducible refine below_fill3' ?_ ?_; focus omega) | (with_reducible refine below_setCell' ?_ ?_; focus (first | omega | (simp; done) | (simp; omega))) | (with_reducible apply below_call'; (focus (with_reducible assumption)); (focus (first | omega | (simp; done) | (simp; omega))))))⟩

set_option maxRecDepth 100000 in
set_option maxHeartbeats 4000000 in
theorem rrectify_ok (W H : Int) (A AL : Option Addr) (n c K cL : Nat) (p : Int → Int) (m : Nat → Nat) (ln : Nat → Nat → Int) (up down : Int) (h : Int) (N : Nat) (w : World) (hA : ArrB w w.heap.size A n p) (hn : n ≤ maxLen) (hB : IsB p) (hL : Lines w w.heap.size AL K m ln) (hm : ∀ i, i < K → m i ≤ maxLen) (hE : recE W H n p K m ln up down = 0) (hh : h = up + down + 1) (hN : (N : Int) = W * h) :
    Calls Tryz.prog 43 #[.agg #[.int .i64 W, .int .i64 H, .slice A n c], .agg #[.slice AL K cL], .int .i64 up, .int .i64 down] w (New w fun v w' => OutT w w' 0 W h N (fillB (recC W H p (ln 4) up) W) v) := by
  obtain ⟨e1, e2, e3, e4⟩ := recE_ok hE
  obtain ⟨hc, hP⟩ := stChk_ok e1
  obtain ⟨hW1, hW2, hH1, hH2, hnn, -⟩ := chk_ok hc
  obtain ⟨W1, H1⟩ := hP.pos
  obtain ⟨rfl, hpath, -⟩ := hP
  obtain ⟨⟨-, -, m4⟩, hst2⟩ := isPathB_iff.1 (hpath 4 (by omega))
  have PB := Lib.hid fun (x : Nat) (hx : (x : Int) < m 4) => stepB_iff.1 (hst2 x (by omega) hx)
  have NO := Lib.hid fun w' => rnew_any W h N w' hW1 hW2 (by omega) (by omega) hN
  have HM4 := Lib.hid m4; have HNN := Lib.hid hnn; have HN := Lib.hid hN; have HHH := Lib.hid hh
  have nb := (area_bd (W := W) (H := h) hW1 hW2 (by omega) (by omega)).2
  have d1 : decide (up < 0) = false := decide_eq_false (by omega)
  have d2 : decide (down < 0) = false := decide_eq_false (by omega)
  have d3 : decide (639 < up) = false := decide_eq_false (by omega)
  have d4 : decide (639 - up < down) = false := decide_eq_false (by omega)
  have v1 : IntKind.i64.wrap (up + down) = up + down := IntWalk.i64_in _ (by omega)
  have v2 : IntKind.i64.wrap (up + down + 1) = h := by rw [hh]; exact IntWalk.i64_in _ (by omega)
  have v3 : IntKind.i64.wrap (639 - up) = 639 - up := IntWalk.i64_in _ (by omega)
  have hh2 : 1 ≤ h ∧ h ≤ 640 := by omega
  have HE1 := Lib.hid e1
  have ev : up + down + 1 = h := hh.symm
  clear hE e1 hpath hst2 m4 hnn hN hh hc
  have CK := Lib.hid fun w' hA' hL' => rcheck_st W H A AL n c 5 cL p m ln (stChk W H n p 5 m ln) w' hA' hn hB hL' hm rfl
  generalize hz : stChk W H n p 5 m ln = z at *
  have HZ := Lib.hid hz
  clear hz
  have b1 : Below w.heap.size w (((w.alloc (.cells #[.int .i64 W, .int .i64 H, .slice A n c] 24)).alloc (.cells #[.slice AL 5 cL] 40)).alloc (.cells #[.int .i64 0, .int .i64 0, .slice none 0 0] 24)) := by (repeat (first | exact Below.refl _ _ | assumption | refine Below.drew ?_ | refine below_drewN ?_ _ | refine Below.alloc ?_ (by first | omega | (simp; done) | (simp; omega)) _ | refine Below.setCell ?_ (by first | omega | (simp; done) | (simp; omega)) _ | refine below_setRow ?_ (by first | omega | (simp; done) | (simp; omega)) _ ))
  have k3 : Blk (((w.alloc (.cells #[.int .i64 W, .int .i64 H, .slice A n c] 24)).alloc (.cells #[.slice AL 5 cL] 40)).alloc (.cells #[.int .i64 0, .int .i64 0, .slice none 0 0] 24)) (w.heap.size + 1 + 1) 24 #[.int .i64 0, .int .i64 0, .slice none 0 0] := Blk.new' (by simp) _ _
  have k1 : Blk (((w.alloc (.cells #[.int .i64 W, .int .i64 H, .slice A n c] 24)).alloc (.cells #[.slice AL 5 cL] 40)).alloc (.cells #[.int .i64 0, .int .i64 0, .slice none 0 0] 24)) w.heap.size 24 #[.int .i64 W, .int .i64 H, .slice A n c] := ((Blk.new _ _ _).alloc _).alloc _
  have k2 : Blk (((w.alloc (.cells #[.int .i64 W, .int .i64 H, .slice A n c] 24)).alloc (.cells #[.slice AL 5 cL] 40)).alloc (.cells #[.int .i64 0, .int .i64 0, .slice none 0 0] 24)) (w.heap.size + 1) 40 #[.slice AL 5 cL] := (Blk.new' (by simp) _ _).alloc _
  go_enter Tryz.func43, Tryz.ntmps43
  go_wp2_with fail
  generalize (((w.alloc (.cells #[.int .i64 W, .int .i64 H, .slice A n c] 24)).alloc (.cells #[.slice AL 5 cL] 40)).alloc (.cells #[.int .i64 0, .int .i64 0, .slice none 0 0] 24)) = w1 at *
  refine (CK.out _ (hA.to b1) (hL.below b1)).mono ?_
  rintro e w2 ⟨rfl, hb2⟩
  have b2 := below_call b1 b1.size hb2
  replace k1 := k1.below' hb2
  replace k2 := k2.below' hb2
  replace k3 := k3.below' hb2
  clear hb2 b1 CK
  obtain ⟨p1, p2, p3⟩ := k1.cells3
  have p4 := k2.cells0
  obtain rfl : z = 0 := HE1.out
  go_wp2_with fail
  refine (NO.out _).mono ?_
  rintro e w3 ⟨_, rfl, ⟨gp, rfl, hgp, kp⟩, hb3⟩
  have HV := Lib.hid ev
  clear ev d1 d2 d3 d4 v1 v2 v3 p1 p2 p3 p4 NO
  have z2 := k3.lt
  have z3 := hb3.size
  have z4 := kp.lt
  have b3 := below_call b2 b2.size hb3
  have b5 : Below w.heap.size w (w3.alloc (.cells #[.int .i64 W, .int .i64 h, .slice (some ⟨gp, 0, none⟩) N N] 24)) := b3.alloc b3.size _
  replace k1 := (k1.below' hb3).alloc (.cells #[.int .i64 W, .int .i64 h, .slice (some ⟨gp, 0, none⟩) N N] 24)
  replace k2 := (k2.below' hb3).alloc (.cells #[.int .i64 W, .int .i64 h, .slice (some ⟨gp, 0, none⟩) N N] 24)
  replace k3 := (k3.below' hb3).alloc (.cells #[.int .i64 W, .int .i64 h, .slice (some ⟨gp, 0, none⟩) N N] 24)
  have kx := Blk.new w3 24 #[.int .i64 W, .int .i64 h, .slice (some ⟨gp, 0, none⟩) N N]
  obtain ⟨C, hC⟩ : ∃ C, C = recC W H p (ln 4) up := ⟨_, rfl⟩
  have HC := Lib.hid hC
  have kp2 : Blk (w3.alloc (.cells #[.int .i64 W, .int .i64 h, .slice (some ⟨gp, 0, none⟩) N N] 24)) gp 5 (u8s N (byRow W (fillB C W) (fun _ => 0) (0 : Nat) (0 : Nat))) := (kp.alloc _).u8conv fun i i0 _ => (byRow_zero (W := W) (q := fillB C W) (z := fun _ => 0) (by omega) i0).symm
  have hgx : gp ≠ w3.heap.size := by omega
  obtain ⟨bA, oA, A4, c4, rfl, hbA, hcA, haA⟩ := hL.at_ (i := 4) (by omega)
  obtain ⟨b5', o5, rfl, hb5, hc5⟩ := ArrI.fn haA (by have := HM4.out; omega)
  have HC5 := Lib.hid hc5
  have HCA := Lib.hid hcA
  clear hC hc5 hcA kp b2 b3 hb3
  go_wp2_with fail
  generalize w3.alloc (.cells #[.int .i64 W, .int .i64 h, .slice (some ⟨gp, 0, none⟩) N N] 24) = w5 at *
  generalize w3.heap.size = gx at *
  go_loopw [12] (fun s wr => ∃ y : Nat, (y : Int) ≤ h ∧ s = .int .i64 y ∧ Below w.heap.size w wr ∧ Blk wr w.heap.size 24 #[.int .i64 W, .int .i64 H, .slice A n c] ∧ Blk wr (w.heap.size + 1) 40 #[.slice (some ⟨bA, oA, none⟩) 5 cL] ∧ Blk wr (w.heap.size + 1 + 1) 24 #[.int .i64 0, .int .i64 0, .slice none 0 0] ∧ Blk wr gx 24 #[.int .i64 W, .int .i64 h, .slice (some ⟨gp, 0, none⟩) N N] ∧ Blk wr gp 5 (u8s N (byRow W (fillB C W) (fun _ => 0) y (0 : Nat)))) (fun s _ => (h - intOf s).toNat)
  case atStart => exact ⟨0, by omega, rfl, b5, k1, k2, k3, kx, kp2⟩
  case round =>
    obtain ⟨y, hy, rfl, b6, t1, t2, t3, tx, tp⟩ := hrel
    clear b5 k1 k2 k3 kx kp2
    obtain ⟨x1, x2, x3⟩ := tx.cells3
    by_cases yl : (y : Int) < h
    · go_wp2_with fail
      go_loopw [13] (fun s wr => ∃ x : Nat, (x : Int) ≤ W ∧ s = .int .i64 x ∧ Below w.heap.size w wr ∧ Blk wr w.heap.size 24 #[.int .i64 W, .int .i64 H, .slice A n c] ∧ Blk wr (w.heap.size + 1) 40 #[.slice (some ⟨bA, oA, none⟩) 5 cL] ∧ Blk wr (w.heap.size + 1 + 1) 24 #[.int .i64 0, .int .i64 0, .slice none 0 0] ∧ Blk wr gx 24 #[.int .i64 W, .int .i64 h, .slice (some ⟨gp, 0, none⟩) N N] ∧ Blk wr gp 5 (u8s N (byRow W (fillB C W) (fun _ => 0) y x))) (fun s _ => (W - intOf s).toNat)
      case atStart => exact ⟨0, by omega, rfl, b6, t1, t2, t3, tx, tp⟩
      case round =>
        obtain ⟨x, hx, rfl, b7, a1, a2, a3, ax, ap⟩ := hrel
        clear x1 x2 x3 b6 t1 t2 t3 tx tp
        obtain ⟨x1, x2, x3⟩ := ax.cells3
        obtain ⟨p1, p2, p3⟩ := a1.cells3
        have p4 := a2.cells0
        by_cases xl : (x : Int) < W
        · have p5 := (b7.cell (p := ⟨bA, oA + 4, none⟩) hbA).trans HCA.out
          have xm : (x : Int) < m 4 := by have := HM4.out; omega
          have lx := HC5.out x (by omega) xm
          rw [Int.toNat_natCast] at lx
          have p6 := (b7.cell (p := ⟨b5', o5 + x, none⟩) hb5).trans lx
          obtain ⟨pb1, pb2, -⟩ := PB.out x xm
          rw [Int.toNat_natCast] at pb1 pb2
          generalize hlx : ln 4 x = l at *
          have HLX := Lib.hid hlx
          have v4 : IntKind.i64.wrap (l - up) = l - up := IntWalk.i64_in _ (by have := HV.out; omega)
          have v5 : IntKind.i64.wrap (l - up + y) = l - up + y := IntWalk.i64_in _ (by have := HV.out; omega)
          have IK := Lib.hid fun w' hA' => rink_any W H A n c p x (l - up + y) w' hA' hW2 hH2 HNN.out
          have CE : Hid (C x y = inkB W H p x (l - up + y)) := by
            show _ = _
            rw [HC.out]; unfold recC; rw [Int.toNat_natCast, HLX.out]
          have AB := Lib.hid ((ArrB.below hA b7).more b7.size)
          have g3 : (5 : Nat) ≤ 5 := Nat.le_refl _
          clear lx hlx
          cases hi : inkB W H p x (l - up + y) with
          | true =>
            rw [hi] at IK CE
            clear hi
            go_wp2_with fail
            go_still_tail 13, (by kernel_rfl)
            change wpList _ _ _ _ _ wr.drew
            have AB2 := Lib.hid (show ArrB wr.drew wr.drew.heap.size A n p from AB.out)
            have c1 := a1.drew; have c2 := a2.drew; have c3 := a3.drew; have cx := ax.drew; have cp := ap.drew; have cb := b7.drew
            clear v4 v5 a1 a2 a3 ax ap b7 AB
            generalize wr.drew = w6 at *
            go_wp2_with fail
            refine (IK.out _ AB2.out).mono ?_
            rintro e w7 ⟨rfl, hb7⟩
            replace c1 := c1.below' hb7; replace c2 := c2.below' hb7; replace c3 := c3.below' hb7; replace cx := cx.below' hb7; replace cp := cp.below' hb7; replace cb := below_call cb cb.size hb7
            clear hb7 p1 p2 p3 p4 p5 p6 x1 x2 x3
            obtain ⟨q1, q2, q3⟩ := cx.cells3
            go_wp2_with fail
            refine (rset_any W h gp N N 5 _ x y _ cp (by omega) xl (by omega) yl hW2 hh2.2 HN.out).mono ?_
            rintro e w8 ⟨rfl, hk8, hg8⟩
            have zz := cb.size
            replace c1 := c1.grown hg8 (by simp; omega); replace c2 := c2.grown hg8 (by simp; omega); replace c3 := c3.grown hg8 (by simp; omega); replace cx := cx.grown hg8 (by simp; omega)
            have cb2 : Below w.heap.size w w8 := cb.grown hg8 cb.size (fun k hk => by cases hk; omega)
            clear q1 q2 q3 cp cb hg8
            go_wp2_with fail
            go_roundw
            case rel => exact ⟨x + 1, by omega, by go_num, cb2, c1, c2, c3, cx, hk8.u8conv fun i _ _ => by rw [Int.natCast_add]; exact fill_yes (by omega) xl CE.out⟩
            case measure => simp [intOf]; omega
          | false =>
            rw [hi] at IK CE
            clear hi
            go_wp2_with fail
            go_still_tail 13, (by kernel_rfl)
            change wpList _ _ _ _ _ wr.drew
            have AB2 := Lib.hid (show ArrB wr.drew wr.drew.heap.size A n p from AB.out)
            have c1 := a1.drew; have c2 := a2.drew; have c3 := a3.drew; have cx := ax.drew; have cp := ap.drew; have cb := b7.drew
            clear v4 v5 a1 a2 a3 ax ap b7 AB
            generalize wr.drew = w6 at *
            go_wp2_with fail
            refine (IK.out _ AB2.out).mono ?_
            rintro e w7 ⟨rfl, hb7⟩
            replace c1 := c1.below' hb7; replace c2 := c2.below' hb7; replace c3 := c3.below' hb7; replace cx := cx.below' hb7; replace cp := cp.below' hb7; replace cb := below_call cb cb.size hb7
            clear hb7 p1 p2 p3 p4 p5 p6 x1 x2 x3
            go_wp2_with fail
            go_roundw
            case rel => exact ⟨x + 1, by omega, by go_num, cb, c1, c2, c3, cx, cp.u8conv fun i _ _ => by rw [Int.natCast_add]; exact fill_no (by omega) xl CE.out⟩
            case measure => simp [intOf]; omega
        · have ex : (x : Int) = W := by omega
          have ap2 := ap.u8conv (r := byRow W (fillB C W) (fun _ => 0) ((y : Int) + 1) (0 : Nat)) fun i _ _ => by rw [ex]; exact byRow_row (by omega)
          clear ap ex
          go_wp2_with fail
          go_roundw
          case rel => exact ⟨y + 1, by omega, by go_num, b7, a1, a2, a3, ax, ap2⟩
          case measure => simp [intOf]; omega
    · have ey : (y : Int) = h := by omega
      obtain ⟨u1, u2, u3⟩ := t3.cells3
      obtain ⟨f1, f2, f3⟩ := t3.frozen3
      have k5 := ((t3.set_ 0 (.int .i64 W)).set_ 1 (.int .i64 h)).set_ 2 (.slice (some ⟨gp, 0, none⟩) N N)
      obtain ⟨s4, s5, s6⟩ := Blk.cells3 (a := .int .i64 W) (b := .int .i64 h) (c := .slice (some ⟨gp, 0, none⟩) N N) k5
      have zz := b6.size
      have g1 : gp ≠ w.heap.size + 1 + 1 := by omega
      have TP := Lib.hid (tp.u8conv (r := fillB C W) fun i _ i1 => by rw [ey]; exact byRow_end (h := h) (by omega) (by have := HN.out; omega))
      clear tp ey
      go_wp2_with fail
      refine bodyPost_ret (v := .tuple #[.agg #[.int .i64 W, .int .i64 h, .slice (some ⟨gp, 0, none⟩) N N], .int .i64 0]) (by simp [results, Tryz.results43, go_sem, s4, s5, s6]) rfl ?_
      refine ⟨_, rfl, ⟨_, _, rfl, (fun a e => by cases e; show w.heap.size ≤ gp; omega), ?_⟩, by (repeat (first | exact Below.refl _ _ | assumption | refine Below.drew ?_ | refine below_drewN ?_ _ | refine Below.alloc ?_ (by first | omega | (simp; done) | (simp; omega)) _ | refine Below.setCell ?_ (by first | omega | (simp; done) | (simp; omega)) _ | refine below_setRow ?_ (by first | omega | (simp; done) | (simp; omega)) _ ))⟩
      have KE := Blk.far (Blk.far (Blk.far TP.out (p := ⟨w.heap.size + 1 + 1, 0, none⟩) g1 (.int .i64 W)) (p := ⟨w.heap.size + 1 + 1, 1, none⟩) g1 (.int .i64 h)) (p := ⟨w.heap.size + 1 + 1, 2, none⟩) g1 (.slice (some ⟨gp, 0, none⟩) N N)
      rw [HC.out] at KE
      exact KE.arrB KE.lt
end Go.Proofs.YtdimlpcbbkokiaaGreat

/- Walks: the reference's Flip and Rows. -/
namespace Go.Proofs.YtdimlpcbbkokiaaGreat
open Go.RowKit Go.Shelf
set_option linter.unusedVariables false
attribute [local go_sem] Oper.semAt_some

set_option maxRecDepth 100000 in
set_option maxHeartbeats 4000000 in
theorem rflip_any (W H : Nat) (A : Option Addr) (n c : Nat) (p : Int → Int) (w : World) (hA : ArrB w w.heap.size A n p) (hW : W ≤ 640) (hH : H ≤ 640) (hn : (n : Int) = (W : Int) * H) :
    Calls Tryz.prog 69 #[.agg #[.int .i64 W, .int .i64 H, .slice A n c]] w (New w fun v w' => OutN w w' H W n (fillB (fun x y => inkB W H p y x) H) v) := by
  have IK := Lib.hid fun (x y : Int) w' hA' => rink_any W H A n c p x y w' hA' (by omega) (by omega) hn
  have NW := Lib.hid fun w' => rnew_any H W n w' (by omega) (by omega) (by omega) (by omega) (by rw [hn]; exact Int.mul_comm _ _)
  have HNN := Lib.hid hn
  have HA := Lib.hid hA
  clear hn hA
  go_enter Tryz.func69, Tryz.ntmps69
  go_wp2_with fail
  have k1 : Blk ((w.alloc (.cells #[.int .i64 W, .int .i64 H, .slice A n c] 24)).alloc (.cells #[.int .i64 0, .int .i64 0, .slice none 0 0] 24)) w.heap.size 24 #[.int .i64 W, .int .i64 H, .slice A n c] := (Blk.new _ _ _).alloc _
  have k2 : Blk ((w.alloc (.cells #[.int .i64 W, .int .i64 H, .slice A n c] 24)).alloc (.cells #[.int .i64 0, .int .i64 0, .slice none 0 0] 24)) (w.heap.size + 1) 24 #[.int .i64 0, .int .i64 0, .slice none 0 0] := Blk.new' (by simp) _ _
  have b1 : Below w.heap.size w ((w.alloc (.cells #[.int .i64 W, .int .i64 H, .slice A n c] 24)).alloc (.cells #[.int .i64 0, .int .i64 0, .slice none 0 0] 24)) := by (repeat (first | exact Below.refl _ _ | assumption | refine Below.drew ?_ | refine below_drewN ?_ _ | refine Below.alloc ?_ (by first | omega | (simp; done) | (simp; omega)) _ | refine Below.setCell ?_ (by first | omega | (simp; done) | (simp; omega)) _ | refine below_setRow ?_ (by first | omega | (simp; done) | (simp; omega)) _ ))
  generalize (w.alloc (.cells #[.int .i64 W, .int .i64 H, .slice A n c] 24)).alloc (.cells #[.int .i64 0, .int .i64 0, .slice none 0 0] 24) = w1 at *
  refine (NW.out w1).mono ?_
  rintro e w2 ⟨_, rfl, ⟨g, rfl, hg, kg⟩, hb2⟩
  have b2 := below_call b1 b1.size hb2
  have zk2 := k2.lt
  replace k1 := (k1.below' hb2).alloc (.cells #[.int .i64 H, .int .i64 W, .slice (some ⟨g, 0, none⟩) n n] 24)
  replace k2 := (k2.below' hb2).alloc (.cells #[.int .i64 H, .int .i64 W, .slice (some ⟨g, 0, none⟩) n n] 24)
  have zg := kg.lt
  have kx := Blk.new w2 24 #[.int .i64 H, .int .i64 W, .slice (some ⟨g, 0, none⟩) n n]
  have zs := hb2.size
  obtain ⟨Q, hQ⟩ : ∃ Q, Q = fillB (fun x y => inkB W H p y x) H := ⟨_, rfl⟩
  have b3 := b2.alloc b2.size (.cells #[.int .i64 H, .int .i64 W, .slice (some ⟨g, 0, none⟩) n n] 24)
  obtain ⟨gx, hgx⟩ : ∃ gx, w2.heap.size = gx := ⟨_, rfl⟩
  have zz : (w2.alloc (.cells #[.int .i64 H, .int .i64 W, .slice (some ⟨g, 0, none⟩) n n] 24)).heap.size = gx + 1 := by simp [hgx]
  have kp : Blk (w2.alloc (.cells #[.int .i64 H, .int .i64 W, .slice (some ⟨g, 0, none⟩) n n] 24)) g 5 (u8s n (byCol H Q (fun _ => 0) (0 : Nat) (0 : Nat))) := (kg.alloc _).u8conv fun i i0 i1 => by
    by_cases hH0 : H = 0
    · have := HNN.out; rw [hH0] at this; omega
    · exact (byCol_zero (W := H) (q := Q) (z := fun _ => 0) (by omega) i0).symm
  rw [hgx] at kx zg zs
  have HQ := Lib.hid hQ
  clear kg hQ b2 b1
  go_upto_region 2 with fail
  generalize w2.alloc (.cells #[.int .i64 H, .int .i64 W, .slice (some ⟨g, 0, none⟩) n n] 24) = w3 at *
  clear hgx hb2
  go_wp2_with fail
  go_loopw [4] (fun s wr => ∃ y : Nat, y ≤ H ∧ s = .int .i64 y ∧ But (gx + 1) g w3 wr ∧ Blk wr g 5 (u8s n (byCol H Q (fun _ => 0) y (0 : Nat)))) (fun s _ => H - (intOf s).toNat)
  case atStart => exact ⟨0, by omega, rfl, But.refl _ (by omega), kp⟩
  case round =>
    obtain ⟨y, hy, rfl, bu, ap⟩ := hrel
    clear kp
    have m1 := k1.but bu (by omega) (by omega)
    obtain ⟨p1, p2, p3⟩ := m1.cells3
    by_cases yl : (y : Int) < H
    · go_wp2_with fail
      go_loopw [5] (fun s wr => ∃ x : Nat, x ≤ W ∧ s = .int .i64 x ∧ But (gx + 1) g w3 wr ∧ Blk wr g 5 (u8s n (byCol H Q (fun _ => 0) y x))) (fun s _ => W - (intOf s).toNat)
      case atStart => exact ⟨0, by omega, rfl, bu, ap⟩
      case round =>
        obtain ⟨x, hx, rfl, bv, aq⟩ := hrel
        clear ap bu m1 p1 p2 p3
        have m1 := k1.but bv (by omega) (by omega)
        have mx := kx.but bv (by omega) (by omega)
        obtain ⟨p1, p2, p3⟩ := m1.cells3
        obtain ⟨x1, x2, x3⟩ := mx.cells3
        by_cases xl : (x : Int) < W
        · have hb0 : Below w.heap.size w wr := b3.trans (bv.to zz (by omega) (by omega))
          have hA4 := HA.out.to hb0
          have QE : Hid (Q ((x : Int) * H + y) = if inkB W H p x y = true then 1 else 0) := Lib.hid (by rw [HQ.out, fillB_at (by omega) yl])
          have hnc : (n : Int) = (H : Int) * W := by rw [HNN.out]; exact Int.mul_comm _ _
          have HNC := Lib.hid hnc
          clear hnc
          cases hi : inkB W H p x y with
          | true =>
            have IK1 := Lib.hid (IK.out x y wr hA4)
            rw [hi] at IK1 QE
            clear hi
            go_wp2_with fail
            refine IK1.out.mono ?_
            rintro e w5 ⟨rfl, hb5⟩
            have bz := bv.then (hb5.mono bv.size)
            have aq5 := aq.below' hb5
            have mx5 := mx.below' hb5
            clear p1 p2 p3 x1 x2 x3
            obtain ⟨x1, x2, x3⟩ := mx5.cells3
            go_wp2_with fail
            refine (rset_any H W g n n 5 _ y x _ aq5 (by omega) yl (by omega) xl (by omega) (by omega) HNC.out).mono ?_
            rintro e w6 ⟨rfl, hk6, hg6⟩
            have bz6 : But (gx + 1) g w3 w6 := ⟨hg6.os.trans bz.os, hg6.tape.trans bz.tape, hg6.output.trans bz.output, Nat.le_trans bz.size hg6.size, fun j hj hk => (hg6.block j (Nat.lt_of_lt_of_le hj bz.size) (fun e => hk (by cases e; rfl))).trans (bz.block j hj hk)⟩
            have aq6 : Blk w6 g 5 (u8s n (byCol H Q (fun _ => 0) y ((x + 1 : Nat) : Int))) := hk6.u8conv fun i _ _ => by
              have h := byCol_set (q := Q) (z := fun _ => 0) (y := (x : Int)) (i := i) (show (0 : Int) ≤ y by omega) yl
              rw [QE.out, if_pos trivial] at h
              rw [h]; push_cast; rfl
            clear hk6 hg6 bz aq5 mx5 x1 x2 x3
            go_wp2_with fail
            go_round
            case rel => exact ⟨x + 1, by omega, by go_num, bz6, aq6⟩
            case measure => simp [intOf]; omega
          | false =>
            have IK1 := Lib.hid (IK.out x y wr hA4)
            rw [hi] at IK1 QE
            clear hi
            go_wp2_with fail
            refine IK1.out.mono ?_
            rintro e w5 ⟨rfl, hb5⟩
            have bz := bv.then (hb5.mono bv.size)
            have aq6 : Blk w5 g 5 (u8s n (byCol H Q (fun _ => 0) y ((x + 1 : Nat) : Int))) := (aq.below' hb5).u8conv fun i _ _ => by
              have h := byCol_skip (q := Q) (z := fun _ => 0) (y := (x : Int)) (i := i) (show (0 : Int) ≤ y by omega) yl (by rw [QE.out]; rfl)
              rw [h]; push_cast; rfl
            clear p1 p2 p3 x1 x2 x3
            go_wp2_with fail
            go_round
            case rel => exact ⟨x + 1, by omega, by go_num, bz, aq6⟩
            case measure => simp [intOf]; omega
        · have hxW : x = W := by omega
          have aq6 : Blk wr g 5 (u8s n (byCol H Q (fun _ => 0) ((y + 1 : Nat) : Int) (0 : Nat))) := aq.u8conv fun i i0 i1 => by
            have h := byCol_col (q := Q) (z := fun _ => 0) (W := H) (h := W) (x := (y : Int)) (i := i) (by omega) i0 (by have := HNN.out; rw [Int.mul_comm] at this; omega)
            rw [hxW, h]; push_cast; rfl
          clear aq hxW
          go_wp2_with fail
          go_round
          case rel => exact ⟨y + 1, by omega, by go_num, bv, aq6⟩
          case measure => simp [intOf]; omega
    · have hyH : y = H := by omega
      have m2 := k2.but bu (by omega) (by omega)
      have mx := kx.but bu (by omega) (by omega)
      obtain ⟨x1, x2, x3⟩ := mx.cells3
      obtain ⟨f1, f2, f3⟩ := m2.frozen3
      obtain ⟨y1, y2, y3⟩ := m2.cells3
      have k5 := ((m2.set_ 0 (.int .i64 H)).set_ 1 (.int .i64 W)).set_ 2 (.slice (some ⟨g, 0, none⟩) n n)
      obtain ⟨s1, s2, s3⟩ := Blk.cells3 (a := .int .i64 H) (b := .int .i64 W) (c := .slice (some ⟨g, 0, none⟩) n n) k5
      have bE : Below w.heap.size w wr := b3.trans (bu.to zz (by omega) (by omega))
      have aq : Blk wr g 5 (u8s n Q) := ap.u8conv fun i i0 i1 => by
        rw [hyH]
        by_cases hH0 : H = 0
        · have := HNN.out; rw [hH0] at this; omega
        · exact byCol_end (by omega)
      clear ap hyH
      go_wp2_with fail
      refine bodyPost_ret (v := .agg #[.int .i64 H, .int .i64 W, .slice (some ⟨g, 0, none⟩) n n]) (by simp [results, Tryz.results69, go_sem, s1, s2, s3]) rfl ?_
      refine ⟨_, rfl, ?_, by (repeat (first | exact Below.refl _ _ | assumption | refine Below.drew ?_ | refine below_drewN ?_ _ | refine Below.alloc ?_ (by first | omega | (simp; done) | (simp; omega)) _ | refine Below.setCell ?_ (by first | omega | (simp; done) | (simp; omega)) _ | refine below_setRow ?_ (by first | omega | (simp; done) | (simp; omega)) _ ))⟩
      rw [← HQ.out]
      have g1 : g ≠ w.heap.size + 1 := by omega
      exact OutN.mk (by omega) (Blk.far (Blk.far (Blk.far aq (p := ⟨w.heap.size + 1, 0, none⟩) g1 (.int .i64 H)) (p := ⟨w.heap.size + 1, 1, none⟩) g1 (.int .i64 W)) (p := ⟨w.heap.size + 1, 2, none⟩) g1 (.slice (some ⟨g, 0, none⟩) n n))

theorem inkB_prev {W H : Nat} {p : Int → Int} {x y : Nat} : inkB W H p ((x : Int) - 1) y = (decide (0 < x) && inkB W H p ((x - 1 : Nat) : Int) y) := by
  by_cases h : 0 < x
  · rw [decide_eq_true h, Bool.true_and, show ((x - 1 : Nat) : Int) = (x : Int) - 1 by omega]
  · rw [decide_eq_false h, Bool.false_and]
    unfold inkB
    rw [decide_eq_false (by omega)]
    simp

set_option maxRecDepth 100000 in
set_option maxHeartbeats 4000000 in
theorem rrows_any (W H : Nat) (A : Option Addr) (n c : Nat) (p : Int → Int) (w : World) (hA : ArrB w w.heap.size A n p) (hW : W ≤ 640) (hH : H ≤ 640) (hn : (n : Int) = (W : Int) * H) :
    Calls Tryz.prog 68 #[.agg #[.int .i64 W, .int .i64 H, .slice A n c]] w (New w fun v w' => RunRow w' w.heap.size v (rLs (fun y x => inkB W H p x y) W H)) := by
  have IK := Lib.hid fun (x y : Int) w' hA' => rink_any W H A n c p x y w' hA' (by omega) (by omega) hn
  have HA := Lib.hid hA
  obtain ⟨r0, hr0, hrz0, hrz1, hrz2⟩ := info_parts infoRun
  clear hn hA
  go_enter Tryz.func68, Tryz.ntmps68
  go_wp2_with fail
  have k1 := Blk.new w 24 #[.int .i64 W, .int .i64 H, .slice A n c]
  have b1 : Below w.heap.size w (w.alloc (.cells #[.int .i64 W, .int .i64 H, .slice A n c] 24)) := (Below.refl _ _).alloc (Nat.le_refl _) _
  generalize w.alloc (.cells #[.int .i64 W, .int .i64 H, .slice A n c] 24) = w1 at *
  obtain ⟨B, hB⟩ : ∃ B, w1.heap.size = B := ⟨_, rfl⟩
  have hgB : w.heap.size < B := by rw [← hB]; exact k1.lt
  have HB := Lib.hid hB
  clear hB
  go_loopw [4, 3] (fun s v wr => ∃ (y : Nat) (L : List Rn), y ≤ H ∧ s = .int .i64 y ∧ RunRow wr B v L ∧ Below w1.heap.size w1 wr ∧ Hid (L = rLs (fun y x => inkB W H p x y) W y) ∧ L.length ≤ y * 640) (fun s _ _ => H - (intOf s).toNat)
  case atStart => exact ⟨0, [], by omega, rfl, RunRow.nil _ _, Below.refl _ _, Lib.hid rfl, by simp⟩
  case round =>
    obtain ⟨y, L, hy, rfl, hR, d1, HL, hLl⟩ := hrel
    have m1 := k1.below' d1
    obtain ⟨p1, p2, p3⟩ := m1.cells3
    by_cases yl : (y : Int) < H
    · go_wp2_with fail
      go_loopw [5, 3] (fun s v wr => ∃ (x : Nat) (L2 : List Rn), x ≤ W ∧ s = .int .i64 x ∧ RunRow wr B v L2 ∧ Below w1.heap.size w1 wr ∧ Hid (L2 = L ++ rL (fun x => inkB W H p x y) W y x) ∧ L2.length ≤ y * 640 + x) (fun s _ _ => W - (intOf s).toNat)
      case atStart => exact ⟨0, L, by omega, rfl, hR, d1, Lib.hid (by simp [rL]), by omega⟩
      case round =>
        obtain ⟨x, L2, hx, rfl, hR2, d2, HL2, hL2l⟩ := hrel
        clear hR m1 p1 p2 p3 d1
        have m1 := k1.below' d2
        obtain ⟨p1, p2, p3⟩ := m1.cells3
        by_cases xl : (x : Int) < W
        · have hA4 := HA.out.to (b1.trans (d2.mono b1.size))
          have v0 : IntKind.i64.wrap ((x : Int) - 1) = (x : Int) - 1 := IntWalk.i64_in _ (by omega)
          have IK1 := Lib.hid (IK.out x y wr hA4)
          have SB : Hid (stB (fun x => inkB W H p x y) x = (inkB W H p x y && !(inkB W H p ((x : Int) - 1) y))) := Lib.hid (by unfold stB; rw [inkB_prev])
          obtain ⟨i1, hi1⟩ : ∃ b, inkB W H p x y = b := ⟨_, rfl⟩
          rw [hi1] at IK1 SB
          obtain ⟨i2, hi2⟩ : ∃ b, inkB W H p ((x : Int) - 1) y = b := ⟨_, rfl⟩
          rw [hi2] at SB
          have HI1 := Lib.hid hi1; have HI2 := Lib.hid hi2
          clear hi1 hi2
          cases i1
          · go_wp2_with fail
            refine IK1.out.mono ?_
            rintro e w5 ⟨rfl, hb5⟩
            have d5 := below_call d2 d2.size hb5
            have hR5 := hR2.below hb5
            clear p1 p2 p3
            go_wp2_with fail
            go_round
            case rel => exact ⟨x + 1, L2, by omega, by go_num, hR5, d5, Lib.hid (by
              rw [HL2.out, rL]
              unfold rnA
              rw [SB.out, if_neg (by simp), List.append_nil]), by omega⟩
            case measure => simp [intOf]; omega
          · go_wp2_with fail
            refine IK1.out.mono ?_
            rintro e w5 ⟨rfl, hb5⟩
            have d5 := below_call d2 d2.size hb5
            have hR5 := hR2.below hb5
            have m5 := m1.below' hb5
            have IK2 := Lib.hid (IK.out ((x : Int) - 1) y w5 (hA4.to hb5))
            rw [HI2.out] at IK2
            clear p1 p2 p3 IK1
            obtain ⟨p1, p2, p3⟩ := m5.cells3
            go_wp2_with fail
            refine IK2.out.mono ?_
            rintro e w6 ⟨rfl, hb6⟩
            have d6 := below_call d5 d5.size hb6
            have hR6 := hR5.below hb6
            clear p1 p2 p3 IK2 d5 hR5 m5 hb5 d2 hR2 hA4
            cases i2
            · go_wp2_with fail
              go_loopw [6] (fun s wr => ∃ t : Nat, x ≤ t ∧ t < W ∧ s = .int .i64 t ∧ Hid (enB (fun x => inkB W H p x y) (W - 1 - t) t = enB (fun x => inkB W H p x y) (W - 1 - x) x) ∧ Below w6.heap.size w6 wr) (fun s _ => W - (intOf s).toNat)
              case atStart => exact ⟨x, by omega, by omega, rfl, Lib.hid rfl, Below.refl _ _⟩
              case round =>
                obtain ⟨t, ht, htW, rfl, HT, d7⟩ := hrel
                have d8 := below_call d6 d6.size d7
                have m8 := k1.below' d8
                have hA8 := HA.out.to (b1.trans (d8.mono b1.size))
                obtain ⟨p1, p2, p3⟩ := m8.cells3
                have v1 : IntKind.i64.wrap ((t : Int) + 1) = ((t + 1 : Nat) : Int) := (IntWalk.i64_in _ (by omega)).trans (by omega)
                obtain ⟨t', ht'⟩ : ∃ t', t + 1 = t' := ⟨_, rfl⟩
                rw [ht'] at v1
                have IK3 := Lib.hid (IK.out t' y wr hA8)
                obtain ⟨i3, hi3⟩ : ∃ b, inkB W H p t' y = b := ⟨_, rfl⟩
                rw [hi3] at IK3
                have ET : Hid (enB (fun x => inkB W H p x y) (W - 1 - t) t = if i3 = true then enB (fun x => inkB W H p x y) (W - 1 - t') t' else t) := Lib.hid (by
                  by_cases c : t' < W
                  · obtain ⟨k, hk⟩ : ∃ k, W - 1 - t = k + 1 := ⟨W - 1 - t - 1, by omega⟩
                    rw [hk, show W - 1 - t' = k by omega, ← ht', ← hi3, ← ht']
                    rfl
                  · have e0 : W - 1 - t = 0 := by omega
                    have e1 : i3 = false := by rw [← hi3]; unfold inkB; rw [decide_eq_false (show ¬ (t' : Int) < W by omega)]; simp
                    rw [e0, e1, if_neg (by simp)]
                    rfl)
                have HT' : Hid (i3 = true → t' < W) := Lib.hid (fun h => by
                  apply Classical.byContradiction
                  intro c
                  have e1 : i3 = false := by rw [← hi3]; unfold inkB; rw [decide_eq_false (show ¬ (t' : Int) < W by omega)]; simp
                  rw [h] at e1; cases e1)
                have HTT := Lib.hid ht'
                clear hi3 ht'
                cases i3
                · go_wp2_with fail
                  refine IK3.out.mono ?_
                  rintro e w9 ⟨rfl, hb9⟩
                  have d9 := below_call d8 d8.size hb9
                  have hR9 := (hR6.below d7).below hb9
                  have z9 := d9.size
                  have e9 : enB (fun x => inkB W H p x y) (W - 1 - x) x = t := by rw [← HT.out, ET.out, if_neg (by simp)]
                  have HE9 := Lib.hid e9
                  have hBz := HB.out
                  clear p1 p2 p3 e9 m8 hA8 IK3 v1 hb9 d8 d7
                  go_wp2_with (at_builtin; refine wpList_append_own _ rfl (.tmp 39) (.tmp 44) 53 rfl B 57 r0 (.agg #[.int .i64 0, .int .i64 0, .int .i64 0]) 3 24 Tryz.underlying53 hr0 hrz0 hrz1 hrz2 rfl (by decide) _ _ _ rfl (hR9.alloc _) ⟨w9.heap.size, 0, none⟩ 1 1 [.int .i64 y, .int .i64 x, .int .i64 t] rfl rfl ?c1 ?c2 ?c3 ?c4 ?c5 ?_)
                  case c1 =>
                    intro j u hj
                    match j, hj with
                    | 0, hj => cases hj; exact (Blk.new w9 57 #[.int .i64 y, .int .i64 x, .int .i64 t]).cell 0
                    | 1, hj => cases hj; exact (Blk.new w9 57 #[.int .i64 y, .int .i64 x, .int .i64 t]).cell 1
                    | 2, hj => cases hj; exact (Blk.new w9 57 #[.int .i64 y, .int .i64 x, .int .i64 t]).cell 2
                    | j + 3, hj => simp at hj
                  case c2 => simp [Value.oneCell']
                  case c3 => unfold maxLen; omega
                  case c4 => omega
                  case c5 => simp; omega
                  intro v' w12 own12 hg12 _
                  have b12 : Below w1.heap.size w1 w12 := (d9.alloc d9.size _).grown hg12 (by simp; omega) (fun j hj => by rw [hBz]; exact (own_ge hR9 hj).1)
                  have R12 : RunRow w12 B v' (L2 ++ [((y : Int), (x : Int), (t : Int))]) := by
                    unfold RunRow
                    rw [flatR_snoc, List.length_append]
                    exact own12
                  clear own12 hg12
                  go_wp2
                  go_round
                  case rel => exact ⟨x + 1, _, by omega, by go_num, R12, b12, Lib.hid (by
                    rw [HL2.out, rL]
                    unfold rnA
                    rw [SB.out, if_pos (by simp), HE9.out, List.append_assoc]), by simp; omega⟩
                  case measure => simp [intOf]; omega
                · have ht2 := HT'.out rfl
                  have ht3 := HTT.out
                  go_wp2_with fail
                  refine IK3.out.mono ?_
                  rintro e w9 ⟨rfl, hb9⟩
                  have d9 := below_call d7 d7.size hb9
                  clear p1 p2 p3
                  go_wp2_with fail
                  go_round
                  case rel => exact ⟨t', by omega, ht2, by first | rfl | go_num, Lib.hid (by rw [← HT.out, ET.out, if_pos trivial]), d9⟩
                  case measure => simp [intOf]; omega
            · go_wp2_with fail
              go_round
              case rel => exact ⟨x + 1, L2, by omega, by go_num, hR6, d6, Lib.hid (by
                rw [HL2.out, rL]
                unfold rnA
                rw [SB.out, if_neg (by simp), List.append_nil]), by omega⟩
              case measure => simp [intOf]; omega
        · have hxW : x = W := by omega
          have HXW := Lib.hid hxW
          clear hxW
          go_wp2_with fail
          go_round
          case rel => exact ⟨y + 1, L2, by omega, by go_num, hR2, d2, Lib.hid (by rw [HL2.out, HL.out, HXW.out]; rfl), by omega⟩
          case measure => simp [intOf]; omega
    · have hyH : y = H := by omega
      rw [hyH] at HL
      have bE : Below w.heap.size w wr := b1.trans (d1.mono b1.size)
      go_wp2
      go_ret
      exact ⟨_, rfl, HL.out ▸ hR.base (by omega), bE⟩
end Go.Proofs.YtdimlpcbbkokiaaGreat

/- Walks: the reference's Columns; runs painted (FromRows, FromColumns), where they are in order. -/
namespace Go.Proofs.YtdimlpcbbkokiaaGreat
open Go.RowKit Go.Shelf
set_option linter.unusedVariables false
attribute [local go_sem] Oper.semAt_some

set_option maxHeartbeats 1000000 in
theorem rcolumns_any (W H : Nat) (A : Option Addr) (n c : Nat) (p : Int → Int) (w : World) (hA : ArrB w w.heap.size A n p) (hW : W ≤ 640) (hH : H ≤ 640) (hn : (n : Int) = (W : Int) * H) :
    Calls Tryz.prog 22 #[.agg #[.int .i64 W, .int .i64 H, .slice A n c]] w (New w fun v w' => RunRow w' w.heap.size v (rLs (fun x y => inkB W H p x y) H W)) := by
  have hn2 : (n : Int) = (H : Int) * W := by rw [hn]; exact Int.mul_comm _ _
  have FL := Lib.hid fun w' hA' => rflip_any W H A n c p w' hA' hW hH hn
  have RW := Lib.hid fun A' c' w' hA' => rrows_any H W A' n c' (fillB (fun x y => inkB W H p y x) H) w' hA' hH hW hn2
  rw [show rLs (fun y x => inkB H W (fillB (fun x y => inkB W H p y x) H) x y) H W = rLs (fun x y => inkB W H p x y) H W from rLs_congr fun x j hx hj => by
    rw [inkB_in (by omega) (by omega) (by omega) (by omega), fillB_at (by omega) (by omega)]
    cases inkB W H p x j <;> simp] at RW
  have HA := Lib.hid hA
  clear hn hn2 hA
  go_enter Tryz.func22, Tryz.ntmps22
  go_wp2_with fail
  have b1 : Below w.heap.size w (w.alloc (.cells #[.int .i64 W, .int .i64 H, .slice A n c] 24)) := (Below.refl _ _).alloc (Nat.le_refl _) _
  generalize w.alloc (.cells #[.int .i64 W, .int .i64 H, .slice A n c] 24) = w1 at *
  refine (FL.out w1 (HA.out.to b1)).mono ?_
  rintro e w2 ⟨_, rfl, ⟨g, rfl, hg, kg⟩, hb2⟩
  have b2 := below_call b1 b1.size hb2
  go_wp2_with fail
  refine (RW.out (some ⟨g, 0, none⟩) n w2 (kg.arrB kg.lt)).mono ?_
  rintro e w3 ⟨v, rfl, hR, hb3⟩
  have b3 := below_call b2 b2.size hb3
  have z := b2.size
  go_wp2
  go_ret
  exact ⟨_, rfl, hR.base z, b3⟩

/-- a pixel of some runs of rows -/
def hitR (W : Int) (r : Rn) (i : Int) : Bool := decide (r.1 = i / W ∧ r.2.1 ≤ i % W ∧ i % W ≤ r.2.2)
def paintR (W : Int) (l : List Rn) : Int → Int := fun i => if l.any (fun r => hitR W r i) = true then 1 else 0
/-- and of one run more the columns before x -/
def paintX (W : Int) (r : Rn) (x : Int) (q : Int → Int) : Int → Int := fun i => if r.1 = i / W ∧ r.2.1 ≤ i % W ∧ i % W < x then 1 else q i
section
variable {W x i : Int} {r : Rn} {l : List Rn} {q : Int → Int}
theorem paintX_start : paintX W r r.2.1 q i = q i := by unfold paintX; rw [if_neg (by omega)]
theorem paintX_set (h0 : 0 ≤ x) (x1 : x < W) (y0 : r.2.1 ≤ x) : upd (paintX W r x q) (r.1 * W + x) 1 i = paintX W r (x + 1) q i := by
  have a := idx_mod (y := r.1) h0 x1
  have b := idx_div (y := r.1) h0 x1
  unfold upd paintX
  by_cases e : i = r.1 * W + x
  · subst e
    rw [if_pos rfl, a, b, if_pos ⟨rfl, y0, by omega⟩]
  · rw [if_neg e]
    have hne : r.1 = i / W → i % W ≠ x := fun h3 h4 => e (by
      have := Int.emod_add_mul_ediv i W
      rw [← h3, h4, Int.mul_comm] at this; omega)
    by_cases c : r.1 = i / W ∧ r.2.1 ≤ i % W ∧ i % W < x
    · rw [if_pos c, if_pos (by omega)]
    · rw [if_neg c, if_neg (by omega)]
theorem paintR_nil : paintR W [] i = 0 := by simp [paintR]
theorem paintR_snoc : paintX W r (r.2.2 + 1) (paintR W l) i = paintR W (l ++ [r]) i := by
  unfold paintX paintR
  rw [List.any_append]
  by_cases c : r.1 = i / W ∧ r.2.1 ≤ i % W ∧ i % W ≤ r.2.2
  · have e : hitR W r i = true := decide_eq_true c
    rw [if_pos (by omega), if_pos (by rw [List.any_cons, e]; simp)]
  · have e : hitR W r i = false := decide_eq_false c
    rw [if_neg (by omega), show [r].any (fun r => hitR W r i) = false by rw [List.any_cons, e]; rfl, Bool.or_false]
theorem paintR_01 : Is01 (paintR W l) := fun i => by unfold paintR; split <;> simp
end
/-- runs in order and apart, within a grid of h rows of w places -/
structure RunsOk (w h : Nat) (l : List Rn) : Prop where
  in_ : ∀ (i : Nat) (r : Rn), l[i]? = some r → 0 ≤ r.1 ∧ r.1 < h ∧ 0 ≤ r.2.1 ∧ r.2.1 ≤ r.2.2 ∧ r.2.2 < w
  apart : ∀ (i : Nat) (p r : Rn), l[i]? = some p → l[i + 1]? = some r → p.1 < r.1 ∨ (p.1 = r.1 ∧ p.2.2 + 1 < r.2.1)
theorem RunRow.arr {w : World} {B : Nat} {v : Value} {l : List Rn} (h : RunRow w B v l) : ∃ A c, v = .slice A l.length c ∧ RunArr w A l := by
  obtain ⟨A, c, e, -, h⟩ := h.cells
  exact ⟨A, c, e, h⟩

theorem But.row {B g : Nat} {w w' w'' : World} (h : But B g w w') (hg : w'.grownBy w'' (some g)) : But B g w w'' :=
  ⟨hg.os.trans h.os, hg.tape.trans h.tape, hg.output.trans h.output, Nat.le_trans h.size hg.size, fun j hj hk => (hg.block j (Nat.lt_of_lt_of_le hj h.size) (fun e => hk (by cases e; rfl))).trans (h.block j hj hk)⟩

set_option maxRecDepth 100000 in
set_option maxHeartbeats 4000000 in
theorem rfromrows_ok (W H n : Nat) (l : List Rn) (A : Option Addr) (c : Nat) (w : World) (hW : W ≤ 640) (hH : H ≤ 640) (hn : (n : Int) = (W : Int) * H) (hA : RunArr w A l) (hl : RunsOk W H l) (hll : l.length ≤ 1000000000) :
    Calls Tryz.prog 113 #[.int .i64 W, .int .i64 H, .slice A l.length c] w (New w fun v w' => ∃ u, v = .tuple #[u, .int .i64 0] ∧ OutN w w' W H n (paintR W l) u) := by
  have NW := Lib.hid fun w' => rnew_any W H n w' (by omega) (by omega) (by omega) (by omega) hn
  have FI := Lib.hid fun w' => fits_any W H w'
  have hfit : fitsB W H = true := by unfold fitsB; simp; omega
  rw [hfit] at FI
  have HNN := Lib.hid hn; have HA := Lib.hid hA; have HL := Lib.hid hl
  clear hn hA hl hfit
  go_enter Tryz.func113, Tryz.ntmps113
  go_wp2_with fail
  have k0 := Blk.new w 24 #[.int .i64 0, .int .i64 0, .slice none 0 0]
  have b1 : Below w.heap.size w (w.alloc (.cells #[.int .i64 0, .int .i64 0, .slice none 0 0] 24)) := (Below.refl _ _).alloc (Nat.le_refl _) _
  generalize w.alloc (.cells #[.int .i64 0, .int .i64 0, .slice none 0 0] 24) = w1 at *
  refine (FI.out w1).mono ?_
  rintro e w1' ⟨rfl, rfl⟩
  go_wp2_with fail
  refine (NW.out w1).mono ?_
  rintro e w2 ⟨_, rfl, ⟨g, rfl, hg, kg⟩, hb2⟩
  have zk0 := k0.lt
  have b2 := below_call b1 b1.size hb2
  have zg := kg.lt
  have bA : Below w2.heap.size w2 (w2.alloc (.cells #[.int .i64 W, .int .i64 H, .slice (some ⟨g, 0, none⟩) n n] 24)) := (Below.refl _ _).alloc (Nat.le_refl _) _
  have n0 := (k0.below' hb2).below' bA
  have kp := (kg.below' bA).u8conv (r := paintR W (l.take 0)) fun j _ _ => by rw [List.take_zero, paintR_nil]
  have k8 := Blk.new w2 24 #[.int .i64 W, .int .i64 H, .slice (some ⟨g, 0, none⟩) n n]
  have hA3 := (HA.out.to (b2.trans (bA.mono b2.size)))
  have b3 := b2.trans (bA.mono b2.size)
  obtain ⟨g8, hg8⟩ : ∃ g8, w2.heap.size = g8 := ⟨_, rfl⟩
  have zs : (w2.alloc (.cells #[.int .i64 W, .int .i64 H, .slice (some ⟨g, 0, none⟩) n n] 24)).heap.size = g8 + 1 := by simp [hg8]
  have HRA : Hid (l ≠ [] → ∃ gr, A = some ⟨gr, 0, none⟩ ∧ gr < w.heap.size) := Lib.hid (fun h => by obtain ⟨gr, e, h1, -⟩ := HA.out h; exact ⟨gr, e, h1⟩)
  rw [hg8] at k8 zg
  go_upto_region 4 with fail
  generalize w2.alloc (.cells #[.int .i64 W, .int .i64 H, .slice (some ⟨g, 0, none⟩) n n] 24) = w3 at *
  obtain ⟨B3, hB3⟩ : ∃ B3, g8 + 1 = B3 := ⟨_, rfl⟩
  rw [hB3] at zs
  clear hg8 kg k0 b1 b2 hb2 bA
  go_wp2_with fail
  go_loopw [9] (fun s wr => ∃ i : Nat, i ≤ l.length ∧ s = .int .i64 i ∧ But B3 g w3 wr ∧ Blk wr g 5 (u8s n (paintR W (l.take i)))) (fun s _ => l.length - (intOf s).toNat)
  case atStart => exact ⟨0, by omega, rfl, But.refl _ (by omega), kp⟩
  case round =>
    obtain ⟨i, hi, rfl, bu, kq⟩ := hrel
    clear kp
    by_cases il : (i : Int) < l.length
    · have ilN : i < l.length := by omega
      obtain ⟨r, hr⟩ : ∃ r, l[i]? = some r := ⟨l[i], List.getElem?_eq_getElem ilN⟩
      have htk : l.take (i + 1) = l.take i ++ [r] := by rw [List.take_add_one, hr]; rfl
      have rA := HA.out.to (b3.trans (bu.to zs (show w.heap.size ≤ g by omega) (by omega)))
      obtain ⟨gR, rfl, hgR, rc⟩ := rA (by intro h; rw [h] at ilN; simp at ilN)
      obtain ⟨b1', b2', b3', b4', b5'⟩ := HL.out.in_ i r hr
      obtain ⟨d1, d2, d3⟩ := rc i r hr
      have HPV := Lib.hid fun (h0 : 0 < i) => (show ∃ pv : Rn, wr.cell? ⟨gR, (i - 1) * 3, none⟩ = some (.int .i64 pv.1) ∧ wr.cell? ⟨gR, (i - 1) * 3 + 1, none⟩ = some (.int .i64 pv.2.1) ∧ wr.cell? ⟨gR, (i - 1) * 3 + 2, none⟩ = some (.int .i64 pv.2.2) ∧ (0 ≤ pv.2.2 ∧ pv.2.2 < W) ∧ (pv.1 < r.1 ∨ (pv.1 = r.1 ∧ pv.2.2 + 1 < r.2.1)) from by
        obtain ⟨pv, hpv⟩ : ∃ pv, l[i - 1]? = some pv := ⟨l[i - 1], List.getElem?_eq_getElem (by omega)⟩
        obtain ⟨q1, q2, q3⟩ := rc (i - 1) pv hpv
        have h4 := HL.out.in_ (i - 1) pv hpv
        exact ⟨pv, q1, q2, q3, ⟨by omega, h4.2.2.2.2⟩, HL.out.apart (i - 1) pv r hpv (by rw [show i - 1 + 1 = i by omega]; exact hr)⟩)
      obtain ⟨ry, rf, rt⟩ := r
      simp only at d1 d2 d3 b1' b2' b3' b4' b5'
      obtain ⟨y, rfl⟩ := Int.eq_ofNat_of_zero_le b1'
      obtain ⟨f, rfl⟩ := Int.eq_ofNat_of_zero_le b3'
      obtain ⟨t, rfl⟩ := Int.eq_ofNat_of_zero_le (Int.le_trans b3' b4')
      have HTK := Lib.hid htk
      obtain ⟨q, hq⟩ : ∃ q, paintR W (l.take i) = q := ⟨_, rfl⟩
      rw [hq] at kq
      have HQ := Lib.hid hq
      obtain ⟨gb, hgb⟩ : ∃ g, wr.heap.size = g := ⟨_, rfl⟩
      have zw := bu.size
      clear htk hr rc hq rA
      go_upto_region 8 with fail
      have bw5 := bu.then ((Below.refl _ wr).alloc bu.size (.cells #[.int .i64 (y : Int), .int .i64 (f : Int), .int .i64 (t : Int)] 57))
      have bA5 := (Below.refl wr.heap.size wr).alloc (Nat.le_refl _) (.cells #[.int .i64 (y : Int), .int .i64 (f : Int), .int .i64 (t : Int)] 57)
      have BX5 := Blk.new wr 57 #[.int .i64 (y : Int), .int .i64 (f : Int), .int .i64 (t : Int)]
      have np5 := kq.alloc (.cells #[.int .i64 (y : Int), .int .i64 (f : Int), .int .i64 (t : Int)] 57)
      have n85 := (k8.but bu (by omega) (by omega)).alloc (.cells #[.int .i64 (y : Int), .int .i64 (f : Int), .int .i64 (t : Int)] 57)
      have zw5 : (wr.alloc (.cells #[.int .i64 (y : Int), .int .i64 (f : Int), .int .i64 (t : Int)] 57)).heap.size = gb + 1 := by simp [hgb]
      have HPV5 := Lib.hid fun (h0 : 0 < i) => (show ∃ pv : Rn, (wr.alloc (.cells #[.int .i64 (y : Int), .int .i64 (f : Int), .int .i64 (t : Int)] 57)).cell? ⟨gR, (i - 1) * 3, none⟩ = some (.int .i64 pv.1) ∧ (wr.alloc (.cells #[.int .i64 (y : Int), .int .i64 (f : Int), .int .i64 (t : Int)] 57)).cell? ⟨gR, (i - 1) * 3 + 1, none⟩ = some (.int .i64 pv.2.1) ∧ (wr.alloc (.cells #[.int .i64 (y : Int), .int .i64 (f : Int), .int .i64 (t : Int)] 57)).cell? ⟨gR, (i - 1) * 3 + 2, none⟩ = some (.int .i64 pv.2.2) ∧ (0 ≤ pv.2.2 ∧ pv.2.2 < W) ∧ (pv.1 < (y : Int) ∨ (pv.1 = (y : Int) ∧ pv.2.2 + 1 < (f : Int))) from by
        obtain ⟨pv, q1, q2, q3, q4, q5⟩ := HPV.out h0
        exact ⟨pv, (bA5.cell (p := ⟨gR, (i - 1) * 3, none⟩) hgR).trans q1, (bA5.cell (p := ⟨gR, (i - 1) * 3 + 1, none⟩) hgR).trans q2, (bA5.cell (p := ⟨gR, (i - 1) * 3 + 2, none⟩) hgR).trans q3, q4, q5⟩)
      generalize wr.alloc (.cells #[.int .i64 (y : Int), .int .i64 (f : Int), .int .i64 (t : Int)] 57) = w5 at *
      rw [hgb] at BX5 zw
      clear bu kq d1 d2 d3 hgR HPV bA5
      obtain ⟨d1, d2, d3⟩ := BX5.cells3
      by_cases i0 : i = 0
      · have e0 : decide (0 < i) = false := by simp [i0]
        have e1 : ¬ (i : Int) > 0 := by omega
        clear i0
        go_upto_region 14 with fail
        clear d1 d2 d3
        obtain ⟨w6, hw6⟩ : ∃ x, w5 = x := ⟨_, rfl⟩
        rw [hw6] at BX5 np5 n85 bw5 zw5
        subst hw6
        obtain ⟨Bk, hBk⟩ : ∃ B, gb + 1 = B := ⟨_, rfl⟩
        rw [hBk] at zw5
        have BX := BX5; have np := np5; have n8 := n85; have bw := bw5
        clear BX5 np5 n85 bw5
        generalize hw6 : w5 = w6 at *
        obtain ⟨c1, c2, c3⟩ := BX.cells3
        go_wp2_with fail
        clear c1 c2 c3
        go_loopw [12] (fun s wr => ∃ x : Nat, f ≤ x ∧ x ≤ t + 1 ∧ s = .int .i64 x ∧ But Bk g w6 wr ∧ Blk wr g 5 (u8s n (paintX W ((y : Int), (f : Int), (t : Int)) x q))) (fun s _ => t + 1 - (intOf s).toNat)
        case atStart => exact ⟨f, by omega, by omega, rfl, But.refl _ (by omega), np.u8conv fun j _ _ => paintX_start.symm⟩
        case round =>
          obtain ⟨x, hfx, hxt, rfl, bv, kq⟩ := hrel
          have mX := BX.but bv (by omega) (by omega)
          have m8 := n8.but bv (by omega) (by omega)
          clear np
          obtain ⟨c1, c2, c3⟩ := mX.cells3
          obtain ⟨x1, x2, x3⟩ := m8.cells3
          by_cases xl : (x : Int) ≤ t
          · have PS := Lib.hid fun i => paintX_set (r := ((y : Int), (f : Int), (t : Int))) (q := q) (i := i) (x := (x : Int)) (W := (W : Int)) (by omega) (by omega) (show (f : Int) ≤ x by omega)
            go_wp2_with fail
            refine (rset_any W H g n n 5 _ x y _ kq (by omega) (by omega) (by omega) (by omega) (by omega) (by omega) HNN.out).mono ?_
            rintro e w9 ⟨rfl, hk9, hg9⟩
            have bz : But Bk g w6 w9 := bv.row hg9
            have kq9 : Blk w9 g 5 (u8s n (paintX W ((y : Int), (f : Int), (t : Int)) ((x + 1 : Nat) : Int) q)) := hk9.u8conv fun i _ _ => by
              have h := PS.out i
              rw [h]; push_cast; rfl
            clear hk9 hg9 bv kq c1 c2 c3 x1 x2 x3
            go_wp2_with fail
            go_round
            case rel => exact ⟨x + 1, by omega, by omega, by go_num, bz, kq9⟩
            case measure => simp [intOf]; omega
          · have kp2 : Blk wr g 5 (u8s n (paintR W (l.take (i + 1)))) := kq.u8conv fun j _ _ => by
              rw [HTK.out, ← paintR_snoc, HQ.out]
              have hx : x = t + 1 := by omega
              rw [hx]; push_cast; rfl
            have bz : But B3 g w3 wr := bw.trans bv (by omega)
            clear kq
            go_wp2_with fail
            go_round
            case rel => exact ⟨i + 1, by omega, by go_num, bz, kp2⟩
            case measure => simp [intOf]; omega
      · have e1 : (i : Int) > 0 := by omega
        obtain ⟨⟨py, pf, pt⟩, q1, q2, q3, ⟨q4, q5⟩, q6⟩ := HPV5.out (by omega)
        simp only at q1 q2 q3 q4 q5 q6
        have v1 : IntKind.i64.wrap ((i : Int) - 1) = ((i - 1 : Nat) : Int) := (IntWalk.i64_in _ (by omega)).trans (by omega)
        have v2 : IntKind.i64.wrap (pt + 1) = pt + 1 := IntWalk.i64_in _ (by omega)
        have i1 : ((i - 1 : Nat) : Int) < l.length := by omega
        obtain ⟨im, him⟩ : ∃ im, i - 1 = im := ⟨_, rfl⟩
        rw [him] at q1 q2 q3 v1 i1
        clear i0 him
        by_cases c : py < (y : Int)
        · have c' : ¬ py > (y : Int) := by omega
          have c2 : (py == (y : Int)) = false := by simp; omega
          clear q6
          go_upto_region 14 with fail
          have bA6 := (Below.refl w5.heap.size w5).alloc (Nat.le_refl _) (.cells #[.int .i64 py, .int .i64 pf, .int .i64 pt] 57)
          have bw := bw5.then (bA6.mono bw5.size)
          have BX := BX5.alloc (.cells #[.int .i64 py, .int .i64 pf, .int .i64 pt] 57)
          have np := np5.alloc (.cells #[.int .i64 py, .int .i64 pf, .int .i64 pt] 57)
          have n8 := n85.alloc (.cells #[.int .i64 py, .int .i64 pf, .int .i64 pt] 57)
          obtain ⟨Bk, hBk⟩ : ∃ B, gb + 1 + 1 = B := ⟨_, rfl⟩
          have zw6 : (w5.alloc (.cells #[.int .i64 py, .int .i64 pf, .int .i64 pt] 57)).heap.size = Bk := by simp [zw5, hBk]
          clear bA6 q1 q2 q3 d1 d2 d3 BX5 np5 n85 bw5
          generalize w5.alloc (.cells #[.int .i64 py, .int .i64 pf, .int .i64 pt] 57) = w6 at *
          obtain ⟨c1, c2, c3⟩ := BX.cells3
          go_wp2_with fail
          clear c1 c2 c3
          go_loopw [12] (fun s wr => ∃ x : Nat, f ≤ x ∧ x ≤ t + 1 ∧ s = .int .i64 x ∧ But Bk g w6 wr ∧ Blk wr g 5 (u8s n (paintX W ((y : Int), (f : Int), (t : Int)) x q))) (fun s _ => t + 1 - (intOf s).toNat)
          case atStart => exact ⟨f, by omega, by omega, rfl, But.refl _ (by omega), np.u8conv fun j _ _ => paintX_start.symm⟩
          case round =>
            obtain ⟨x, hfx, hxt, rfl, bv, kq⟩ := hrel
            have mX := BX.but bv (by omega) (by omega)
            have m8 := n8.but bv (by omega) (by omega)
            clear np
            obtain ⟨c1, c2, c3⟩ := mX.cells3
            obtain ⟨x1, x2, x3⟩ := m8.cells3
            by_cases xl : (x : Int) ≤ t
            · have PS := Lib.hid fun i => paintX_set (r := ((y : Int), (f : Int), (t : Int))) (q := q) (i := i) (x := (x : Int)) (W := (W : Int)) (by omega) (by omega) (show (f : Int) ≤ x by omega)
              go_wp2_with fail
              refine (rset_any W H g n n 5 _ x y _ kq (by omega) (by omega) (by omega) (by omega) (by omega) (by omega) HNN.out).mono ?_
              rintro e w9 ⟨rfl, hk9, hg9⟩
              have bz : But Bk g w6 w9 := bv.row hg9
              have kq9 : Blk w9 g 5 (u8s n (paintX W ((y : Int), (f : Int), (t : Int)) ((x + 1 : Nat) : Int) q)) := hk9.u8conv fun i _ _ => by
                have h := PS.out i
                rw [h]; push_cast; rfl
              clear hk9 hg9 bv kq c1 c2 c3 x1 x2 x3
              go_wp2_with fail
              go_round
              case rel => exact ⟨x + 1, by omega, by omega, by go_num, bz, kq9⟩
              case measure => simp [intOf]; omega
            · have kp2 : Blk wr g 5 (u8s n (paintR W (l.take (i + 1)))) := kq.u8conv fun j _ _ => by
                rw [HTK.out, ← paintR_snoc, HQ.out]
                have hx : x = t + 1 := by omega
                rw [hx]; push_cast; rfl
              have bz : But B3 g w3 wr := bw.trans bv (by omega)
              clear kq
              go_wp2_with fail
              go_round
              case rel => exact ⟨i + 1, by omega, by go_num, bz, kp2⟩
              case measure => simp [intOf]; omega
        · have c' : ¬ py > (y : Int) := by omega
          obtain rfl : py = (y : Int) := by omega
          have c2 : ¬ pt + 1 ≥ (f : Int) := by omega
          clear q6 c
          go_upto_region 14 with fail
          have bA6 := (Below.refl w5.heap.size w5).alloc (Nat.le_refl _) (.cells #[.int .i64 (y : Int), .int .i64 pf, .int .i64 pt] 57)
          have bw := bw5.then (bA6.mono bw5.size)
          have BX := BX5.alloc (.cells #[.int .i64 (y : Int), .int .i64 pf, .int .i64 pt] 57)
          have np := np5.alloc (.cells #[.int .i64 (y : Int), .int .i64 pf, .int .i64 pt] 57)
          have n8 := n85.alloc (.cells #[.int .i64 (y : Int), .int .i64 pf, .int .i64 pt] 57)
          obtain ⟨Bk, hBk⟩ : ∃ B, gb + 1 + 1 = B := ⟨_, rfl⟩
          have zw6 : (w5.alloc (.cells #[.int .i64 (y : Int), .int .i64 pf, .int .i64 pt] 57)).heap.size = Bk := by simp [zw5, hBk]
          clear bA6 q1 q2 q3 d1 d2 d3 BX5 np5 n85 bw5
          generalize w5.alloc (.cells #[.int .i64 (y : Int), .int .i64 pf, .int .i64 pt] 57) = w6 at *
          obtain ⟨c1, c2, c3⟩ := BX.cells3
          go_wp2_with fail
          clear c1 c2 c3
          go_loopw [12] (fun s wr => ∃ x : Nat, f ≤ x ∧ x ≤ t + 1 ∧ s = .int .i64 x ∧ But Bk g w6 wr ∧ Blk wr g 5 (u8s n (paintX W ((y : Int), (f : Int), (t : Int)) x q))) (fun s _ => t + 1 - (intOf s).toNat)
          case atStart => exact ⟨f, by omega, by omega, rfl, But.refl _ (by omega), np.u8conv fun j _ _ => paintX_start.symm⟩
          case round =>
            obtain ⟨x, hfx, hxt, rfl, bv, kq⟩ := hrel
            have mX := BX.but bv (by omega) (by omega)
            have m8 := n8.but bv (by omega) (by omega)
            clear np
            obtain ⟨c1, c2, c3⟩ := mX.cells3
            obtain ⟨x1, x2, x3⟩ := m8.cells3
            by_cases xl : (x : Int) ≤ t
            · have PS := Lib.hid fun i => paintX_set (r := ((y : Int), (f : Int), (t : Int))) (q := q) (i := i) (x := (x : Int)) (W := (W : Int)) (by omega) (by omega) (show (f : Int) ≤ x by omega)
              go_wp2_with fail
              refine (rset_any W H g n n 5 _ x y _ kq (by omega) (by omega) (by omega) (by omega) (by omega) (by omega) HNN.out).mono ?_
              rintro e w9 ⟨rfl, hk9, hg9⟩
              have bz : But Bk g w6 w9 := bv.row hg9
              have kq9 : Blk w9 g 5 (u8s n (paintX W ((y : Int), (f : Int), (t : Int)) ((x + 1 : Nat) : Int) q)) := hk9.u8conv fun i _ _ => by
                have h := PS.out i
                rw [h]; push_cast; rfl
              clear hk9 hg9 bv kq c1 c2 c3 x1 x2 x3
              go_wp2_with fail
              go_round
              case rel => exact ⟨x + 1, by omega, by omega, by go_num, bz, kq9⟩
              case measure => simp [intOf]; omega
            · have kp2 : Blk wr g 5 (u8s n (paintR W (l.take (i + 1)))) := kq.u8conv fun j _ _ => by
                rw [HTK.out, ← paintR_snoc, HQ.out]
                have hx : x = t + 1 := by omega
                rw [hx]; push_cast; rfl
              have bz : But B3 g w3 wr := bw.trans bv (by omega)
              clear kq
              go_wp2_with fail
              go_round
              case rel => exact ⟨i + 1, by omega, by go_num, bz, kp2⟩
              case measure => simp [intOf]; omega
    · have hiL : i = l.length := by omega
      have kp2 : Blk wr g 5 (u8s n (paintR W l)) := by rw [hiL, List.take_length] at kq; exact kq
      have m0 := n0.but bu (by omega) (by omega)
      have m8 := k8.but bu (by omega) (by omega)
      obtain ⟨x1, x2, x3⟩ := m8.cells3
      obtain ⟨f1, f2, f3⟩ := m0.frozen3
      obtain ⟨y1, y2, y3⟩ := m0.cells3
      have k5 := ((m0.set_ 0 (.int .i64 W)).set_ 1 (.int .i64 H)).set_ 2 (.slice (some ⟨g, 0, none⟩) n n)
      obtain ⟨s1, s2, s3⟩ := Blk.cells3 (a := .int .i64 W) (b := .int .i64 H) (c := .slice (some ⟨g, 0, none⟩) n n) k5
      have bE : Below w.heap.size w wr := b3.trans (bu.to zs (by omega) (by omega))
      clear kq hiL
      go_wp2_with fail
      refine bodyPost_ret (v := .tuple #[.agg #[.int .i64 W, .int .i64 H, .slice (some ⟨g, 0, none⟩) n n], .int .i64 0]) (by simp [results, Tryz.results113, go_sem, s1, s2, s3]) rfl ?_
      refine ⟨_, rfl, ⟨_, rfl, ?_⟩, by (repeat (first | exact Below.refl _ _ | assumption | refine Below.drew ?_ | refine below_drewN ?_ _ | refine Below.alloc ?_ (by first | omega | (simp; done) | (simp; omega)) _ | refine Below.setCell ?_ (by first | omega | (simp; done) | (simp; omega)) _ | refine below_setRow ?_ (by first | omega | (simp; done) | (simp; omega)) _ ))⟩
      have g1 : g ≠ w.heap.size := by omega
      exact OutN.mk (by omega) (Blk.far (Blk.far (Blk.far kp2 (p := ⟨w.heap.size, 0, none⟩) g1 (.int .i64 W)) (p := ⟨w.heap.size, 1, none⟩) g1 (.int .i64 H)) (p := ⟨w.heap.size, 2, none⟩) g1 (.slice (some ⟨g, 0, none⟩) n n))

set_option maxRecDepth 100000 in
set_option maxHeartbeats 4000000 in
theorem rfromcols_ok (W H n : Nat) (l : List Rn) (A : Option Addr) (c : Nat) (w : World) (hW : W ≤ 640) (hH : H ≤ 640) (hn : (n : Int) = (W : Int) * H) (hA : RunArr w A l) (hl : RunsOk H W l) (hll : l.length ≤ 1000000000) :
    Calls Tryz.prog 93 #[.int .i64 W, .int .i64 H, .slice A l.length c] w (New w fun v w' => ∃ u, v = .tuple #[u, .int .i64 0] ∧ OutN w w' W H n (fillB (fun x y => inkB H W (paintR H l) y x) W) u) := by
  have hn2 : (n : Int) = (H : Int) * W := by rw [hn]; exact Int.mul_comm _ _
  have FR := Lib.hid fun w' hA' => rfromrows_ok H W n l A c w' hH hW hn2 hA' hl hll
  have FL := Lib.hid fun A' c' w' hA' => rflip_any H W A' n c' (paintR H l) w' hA' hH hW hn2
  have HA := Lib.hid hA
  generalize l.length = ll at *
  clear hn hn2 hA
  go_enter Tryz.func93, Tryz.ntmps93
  go_wp2_with fail
  have k0 := Blk.new w 24 #[.int .i64 0, .int .i64 0, .slice none 0 0]
  have b1 : Below w.heap.size w (w.alloc (.cells #[.int .i64 0, .int .i64 0, .slice none 0 0] 24)) := (Below.refl _ _).alloc (Nat.le_refl _) _
  generalize w.alloc (.cells #[.int .i64 0, .int .i64 0, .slice none 0 0] 24) = w1 at *
  refine (FR.out w1 (HA.out.to b1)).mono ?_
  rintro e w2 ⟨_, rfl, ⟨_, rfl, ⟨g, rfl, hg, kg⟩⟩, hb2⟩
  have b2 := below_call b1 b1.size hb2
  have bA : Below w2.heap.size w2 (w2.alloc (.cells #[.int .i64 H, .int .i64 W, .slice (some ⟨g, 0, none⟩) n n] 24)) := (Below.refl _ _).alloc (Nat.le_refl _) _
  have k02 := (k0.below' hb2).below' bA
  have kg2 := kg.below' bA
  have k8 := Blk.new w2 24 #[.int .i64 H, .int .i64 W, .slice (some ⟨g, 0, none⟩) n n]
  have b3 := b2.trans (bA.mono b2.size)
  obtain ⟨x1, x2, x3⟩ := k8.cells3
  clear k0 b1 b2 hb2 bA kg
  go_upto_region 2 with fail
  generalize w2.alloc (.cells #[.int .i64 H, .int .i64 W, .slice (some ⟨g, 0, none⟩) n n] 24) = w3 at *
  go_wp2_with fail
  refine (FL.out (some ⟨g, 0, none⟩) n w3 (kg2.arrB kg2.lt)).mono ?_
  rintro e w4 ⟨_, rfl, ⟨g4, rfl, hg4, kg4⟩, hb4⟩
  have b4 := below_call b3 b3.size hb4
  have m0 := k02.below' hb4
  have z0 := k02.lt
  obtain ⟨f1, f2, f3⟩ := m0.frozen3
  obtain ⟨y1, y2, y3⟩ := m0.cells3
  have k5 := ((m0.set_ 0 (.int .i64 W)).set_ 1 (.int .i64 H)).set_ 2 (.slice (some ⟨g4, 0, none⟩) n n)
  obtain ⟨s1, s2, s3⟩ := Blk.cells3 (a := .int .i64 W) (b := .int .i64 H) (c := .slice (some ⟨g4, 0, none⟩) n n) k5
  clear x1 x2 x3 hb4
  go_wp2_with fail
  refine bodyPost_ret (v := .tuple #[.agg #[.int .i64 W, .int .i64 H, .slice (some ⟨g4, 0, none⟩) n n], .int .i64 0]) (by simp [results, Tryz.results93, go_sem, s1, s2, s3]) rfl ?_
  refine ⟨_, rfl, ⟨_, rfl, ?_⟩, by (repeat (first | exact Below.refl _ _ | assumption | refine Below.drew ?_ | refine below_drewN ?_ _ | refine Below.alloc ?_ (by first | omega | (simp; done) | (simp; omega)) _ | refine Below.setCell ?_ (by first | omega | (simp; done) | (simp; omega)) _ | refine below_setRow ?_ (by first | omega | (simp; done) | (simp; omega)) _ ))⟩
  have z3 := b3.size
  have g1 : g4 ≠ w.heap.size := by omega
  exact OutN.mk (by omega) (Blk.far (Blk.far (Blk.far kg4 (p := ⟨w.heap.size, 0, none⟩) g1 (.int .i64 W)) (p := ⟨w.heap.size, 1, none⟩) g1 (.int .i64 H)) (p := ⟨w.heap.size, 2, none⟩) g1 (.slice (some ⟨g4, 0, none⟩) n n))
end Go.Proofs.YtdimlpcbbkokiaaGreat

/- Walk: the reference's Pair, ink of the first image that is no ink of the second. -/
namespace Go.Proofs.YtdimlpcbbkokiaaGreat
open Go.RowKit Go.Shelf
set_option linter.unusedVariables false
attribute [local go_sem] Oper.semAt_some

set_option maxRecDepth 100000 in
set_option maxHeartbeats 8000000 in
theorem rpair2_ok (W H n ca cb : Nat) (A B : Option Addr) (p q : Int → Int) (w : World) (hA : ArrB w w.heap.size A n p) (hB : ArrB w w.heap.size B n q) (hW : W ≤ 640) (hH : H ≤ 640) (hn : (n : Int) = (W : Int) * H)
    (hp : chk W H n p = 0) (hq : chk W H n q = 0) (hBp : IsB p) (hBq : IsB q) :
    Calls Tryz.prog 94 #[.agg #[.int .i64 W, .int .i64 H, .slice A n ca], .agg #[.int .i64 W, .int .i64 H, .slice B n cb], .int .i64 2] w
      (New w fun v w' => ∃ u, v = .tuple #[u, .int .i64 0] ∧ OutN w w' W H n (fillB (fun x y => inkB W H p x y && !inkB W H q x y) W) u) := by
  have hnm : n ≤ maxLen := by
    have := (area_bd (W := W) (H := H) (by omega) (by omega) (by omega) (by omega)).2
    unfold maxLen; omega
  have C1 := Lib.hid fun w' hA' => rcheck_any W H A n ca p w' hA' hnm hBp
  have C2 := Lib.hid fun w' hA' => rcheck_any W H B n cb q w' hA' hnm hBq
  rw [hp] at C1
  rw [hq] at C2
  have I1 := Lib.hid fun (x y : Int) w' hA' => rink_any W H A n ca p x y w' hA' (by omega) (by omega) hn
  have I2 := Lib.hid fun (x y : Int) w' hA' => rink_any W H B n cb q x y w' hA' (by omega) (by omega) hn
  have NW := Lib.hid fun w' => rnew_any W H n w' (by omega) (by omega) (by omega) (by omega) hn
  have HNN := Lib.hid hn
  clear hn hp hq hBp hBq hnm
  have k1 : Blk (((w.alloc (.cells #[.int .i64 W, .int .i64 H, .slice A n ca] 24)).alloc (.cells #[.int .i64 W, .int .i64 H, .slice B n cb] 24)).alloc (.cells #[.int .i64 0, .int .i64 0, .slice none 0 0] 24)) w.heap.size 24 #[.int .i64 W, .int .i64 H, .slice A n ca] := ((Blk.new _ _ _).alloc _).alloc _
  have k2 : Blk (((w.alloc (.cells #[.int .i64 W, .int .i64 H, .slice A n ca] 24)).alloc (.cells #[.int .i64 W, .int .i64 H, .slice B n cb] 24)).alloc (.cells #[.int .i64 0, .int .i64 0, .slice none 0 0] 24)) (w.heap.size + 1) 24 #[.int .i64 W, .int .i64 H, .slice B n cb] := (Blk.new' (by simp) _ _).alloc _
  have k3 : Blk (((w.alloc (.cells #[.int .i64 W, .int .i64 H, .slice A n ca] 24)).alloc (.cells #[.int .i64 W, .int .i64 H, .slice B n cb] 24)).alloc (.cells #[.int .i64 0, .int .i64 0, .slice none 0 0] 24)) (w.heap.size + 1 + 1) 24 #[.int .i64 0, .int .i64 0, .slice none 0 0] := Blk.new' (by simp) _ _
  have b1 : Below w.heap.size w (((w.alloc (.cells #[.int .i64 W, .int .i64 H, .slice A n ca] 24)).alloc (.cells #[.int .i64 W, .int .i64 H, .slice B n cb] 24)).alloc (.cells #[.int .i64 0, .int .i64 0, .slice none 0 0] 24)) := by (repeat (first | exact Below.refl _ _ | assumption | refine Below.drew ?_ | refine below_drewN ?_ _ | refine Below.alloc ?_ (by first | omega | (simp; done) | (simp; omega)) _ | refine Below.setCell ?_ (by first | omega | (simp; done) | (simp; omega)) _ | refine below_setRow ?_ (by first | omega | (simp; done) | (simp; omega)) _ ))
  go_enter Tryz.func94, Tryz.ntmps94
  go_wp2_with fail
  generalize ((w.alloc (.cells #[.int .i64 W, .int .i64 H, .slice A n ca] 24)).alloc (.cells #[.int .i64 W, .int .i64 H, .slice B n cb] 24)).alloc (.cells #[.int .i64 0, .int .i64 0, .slice none 0 0] 24) = w1 at *
  have ha1 := hA.to b1
  have hb1 := hB.to b1
  refine (C1.out w1 ha1).mono ?_
  rintro e w2 ⟨rfl, d2⟩
  replace k1 := k1.below' d2; replace k2 := k2.below' d2; replace k3 := k3.below' d2
  have ha2 := ha1.to d2; have hb2 := hb1.to d2
  have b2 := below_call b1 b1.size d2
  clear ha1 hb1 b1 d2
  obtain ⟨p1, p2, p3⟩ := k1.cells3
  obtain ⟨q1, q2, q3⟩ := k2.cells3
  go_wp2_with fail
  refine (C2.out w2 hb2).mono ?_
  rintro e w3 ⟨rfl, d3⟩
  replace k1 := k1.below' d3; replace k2 := k2.below' d3; replace k3 := k3.below' d3
  have ha3 := ha2.to d3; have hb3 := hb2.to d3
  have b3 := below_call b2 b2.size d3
  clear ha2 hb2 b2 d3 p1 p2 p3 q1 q2 q3 C1 C2
  obtain ⟨p1, p2, p3⟩ := k1.cells3
  obtain ⟨q1, q2, q3⟩ := k2.cells3
  go_wp2_with fail
  refine (NW.out w3).mono ?_
  rintro e w4 ⟨_, rfl, ⟨g, rfl, hg, kg⟩, d4⟩
  have zk := k3.lt
  have bA : Below w4.heap.size w4 (w4.alloc (.cells #[.int .i64 W, .int .i64 H, .slice (some ⟨g, 0, none⟩) n n] 24)) := (Below.refl _ _).alloc (Nat.le_refl _) _
  replace k1 := (k1.below' d4).below' bA; replace k2 := (k2.below' d4).below' bA; replace k3 := (k3.below' d4).below' bA
  have ha5 := Lib.hid ((hA.to b3).to d4 |>.to bA)
  have b5 := (below_call b3 b3.size d4).trans (bA.mono (below_call b3 b3.size d4).size)
  have zg := kg.lt
  have zd := d4.size
  obtain ⟨Q, hQ⟩ : ∃ Q, Q = fillB (fun x y => inkB W H p x y && !inkB W H q x y) W := ⟨_, rfl⟩
  have kp : Blk (w4.alloc (.cells #[.int .i64 W, .int .i64 H, .slice (some ⟨g, 0, none⟩) n n] 24)) g 5 (u8s n (byRow W (fillB (fun x y => inkB W H p x y && !inkB W H q x y) W) (fun _ => 0) (0 : Nat) (0 : Nat))) := (kg.below' bA).u8conv fun i i0 i1 => by
    by_cases h0 : W = 0
    · have := HNN.out; rw [h0] at this; omega
    · exact (byRow_zero (W := W) (z := fun _ => 0) (by omega) i0).symm
  have kx := Blk.new w4 24 #[.int .i64 W, .int .i64 H, .slice (some ⟨g, 0, none⟩) n n]
  obtain ⟨gx, hgx⟩ : ∃ gx, w4.heap.size = gx := ⟨_, rfl⟩
  have zs : (w4.alloc (.cells #[.int .i64 W, .int .i64 H, .slice (some ⟨g, 0, none⟩) n n] 24)).heap.size = gx + 1 := by simp [hgx]
  rw [hgx] at kx zg zd
  clear ha3 hb3 b3 d4 bA p1 p2 p3 q1 q2 q3 kg NW hQ
  go_upto_region 10 with fail
  generalize w4.alloc (.cells #[.int .i64 W, .int .i64 H, .slice (some ⟨g, 0, none⟩) n n] 24) = w5 at *
  clear hgx
  go_wp2_with fail
  go_loopw [11] (fun s wr => ∃ y : Nat, y ≤ H ∧ s = .int .i64 y ∧ But (gx + 1) g w5 wr ∧ Blk wr g 5 (u8s n (byRow W (fillB (fun x y => inkB W H p x y && !inkB W H q x y) W) (fun _ => 0) y (0 : Nat)))) (fun s _ => H - (intOf s).toNat)
  case atStart => exact ⟨0, by omega, rfl, But.refl _ (by omega), kp⟩
  case round =>
    obtain ⟨y, hy, rfl, bu, ap⟩ := hrel
    clear kp
    have m1 := k1.but bu (by omega) (by omega)
    obtain ⟨p1, p2, p3⟩ := m1.cells3
    by_cases yl : (y : Int) < H
    · go_wp2_with fail
      clear p1 p2 p3 m1
      go_loopw [12] (fun s wr => ∃ x : Nat, x ≤ W ∧ s = .int .i64 x ∧ But (gx + 1) g w5 wr ∧ Blk wr g 5 (u8s n (byRow W (fillB (fun x y => inkB W H p x y && !inkB W H q x y) W) (fun _ => 0) y x))) (fun s _ => W - (intOf s).toNat)
      case atStart => exact ⟨0, by omega, rfl, bu, ap⟩
      case round =>
        obtain ⟨x, hx, rfl, bv, aq⟩ := hrel
        clear ap bu
        have m1 := k1.but bv (by omega) (by omega)
        have m2 := k2.but bv (by omega) (by omega)
        have mx := kx.but bv (by omega) (by omega)
        obtain ⟨p1, p2, p3⟩ := m1.cells3
        obtain ⟨q1, q2, q3⟩ := m2.cells3
        by_cases xl : (x : Int) < W
        · have bE : Below w.heap.size w wr := b5.trans (bv.to zs (by omega) (by omega))
          have ha6 := hA.to bE
          have hb6 := hB.to bE
          have J1 := Lib.hid fun w' hA' => I1.out x y w' hA'
          have J2 := Lib.hid fun w' hA' => I2.out x y w' hA'
          obtain ⟨i1, hi1⟩ : ∃ b, inkB W H p x y = b := ⟨_, rfl⟩
          obtain ⟨i2, hi2⟩ : ∃ b, inkB W H q x y = b := ⟨_, rfl⟩
          have CE : Hid ((fun x y : Int => inkB W H p x y && !inkB W H q x y) x y = (i1 && !i2)) := Lib.hid (by show (inkB W H p x y && !inkB W H q x y) = _; rw [hi1, hi2])
          rw [hi1] at J1
          rw [hi2] at J2
          have zr := bv.size
          clear hi1 hi2
          go_upto_region 16 with fail
          go_cut [13, 14] (fun a b wx => a = .bool i1 ∧ b = .bool i2 ∧ Below wr.heap.size wr wx)
          case first =>
            go_region_held3 (fun w' => (w'.cell? ⟨w.heap.size, 0, none⟩ = some (.int .i64 W) ∧ w'.cell? ⟨w.heap.size, 1, none⟩ = some (.int .i64 H) ∧ w'.cell? ⟨w.heap.size, 2, none⟩ = some (.slice A n ca)) ∧ w'.cell? ⟨w.heap.size + 1, 0, none⟩ = some (.int .i64 W) ∧ w'.cell? ⟨w.heap.size + 1, 1, none⟩ = some (.int .i64 H) ∧ w'.cell? ⟨w.heap.size + 1, 2, none⟩ = some (.slice B n cb))
              (first | (simp [go_sem, *]; done) | (go_keep; done))
              (first
              | (go_at_call 83
                 with_reducible refine Calls.mono (J1.out _ ?_) ?_
                 focus (repeat (first | with_reducible assumption | with_reducible refine ArrB.alloc1 ?_ _ | with_reducible refine ArrB.drew1 ?_ | (with_reducible apply ArrB.fillN; (focus (with_reducible assumption)); (focus omega)) | (with_reducible apply ArrB.fillL; (focus (with_reducible assumption)); (focus (first | omega | (simp; done) | (simp; omega)))) | (with_reducible apply ArrB.to'; focus (with_reducible assumption))))
                 rintro e v1 ⟨rfl, hb1⟩
                 have kk1 : Blk v1 w.heap.size 24 #[.int .i64 W, .int .i64 H, .slice A n ca] := by (repeat (first | with_reducible assumption | with_reducible exact Blk.new _ _ _ | with_reducible exact Blk.new' (World.size_alloc _ _) _ _ | (with_reducible refine Blk.new' ?_ _ _; focus (simp; done)) | with_reducible apply Blk.fill3 | (with_reducible refine Blk.far3' ?_ ?_; focus omega) | with_reducible refine Blk.alloc ?_ _ | with_reducible refine Blk.drew ?_ | (with_reducible apply Blk.below2; focus (with_reducible assumption))))
                 have ll1 : Blk v1 (w.heap.size + 1) 24 #[.int .i64 W, .int .i64 H, .slice B n cb] := by (repeat (first | with_reducible assumption | with_reducible exact Blk.new _ _ _ | with_reducible exact Blk.new' (World.size_alloc _ _) _ _ | (with_reducible refine Blk.new' ?_ _ _; focus (simp; done)) | with_reducible apply Blk.fill3 | (with_reducible refine Blk.far3' ?_ ?_; focus omega) | with_reducible refine Blk.alloc ?_ _ | with_reducible refine Blk.drew ?_ | (with_reducible apply Blk.below2; focus (with_reducible assumption))))
                 obtain ⟨x11, x12, x13⟩ := kk1.cells3
                 obtain ⟨x14, x15, x16⟩ := ll1.cells3
                 have zz1 := hb1.size; try simp at zz1)
              | (go_at_call 83
                 with_reducible refine Calls.mono (J2.out _ ?_) ?_
                 focus (repeat (first | with_reducible assumption | with_reducible refine ArrB.alloc1 ?_ _ | with_reducible refine ArrB.drew1 ?_ | (with_reducible apply ArrB.fillN; (focus (with_reducible assumption)); (focus omega)) | (with_reducible apply ArrB.fillL; (focus (with_reducible assumption)); (focus (first | omega | (simp; done) | (simp; omega)))) | (with_reducible apply ArrB.to'; focus (with_reducible assumption))))
                 rintro e v2 ⟨rfl, hb2⟩
                 have kk2 : Blk v2 w.heap.size 24 #[.int .i64 W, .int .i64 H, .slice A n ca] := by (repeat (first | with_reducible assumption | with_reducible exact Blk.new _ _ _ | with_reducible exact Blk.new' (World.size_alloc _ _) _ _ | (with_reducible refine Blk.new' ?_ _ _; focus (simp; done)) | with_reducible apply Blk.fill3 | (with_reducible refine Blk.far3' ?_ ?_; focus omega) | with_reducible refine Blk.alloc ?_ _ | with_reducible refine Blk.drew ?_ | (with_reducible apply Blk.below2; focus (with_reducible assumption))))
                 have ll2 : Blk v2 (w.heap.size + 1) 24 #[.int .i64 W, .int .i64 H, .slice B n cb] := by (repeat (first | with_reducible assumption | with_reducible exact Blk.new _ _ _ | with_reducible exact Blk.new' (World.size_alloc _ _) _ _ | (with_reducible refine Blk.new' ?_ _ _; focus (simp; done)) | with_reducible apply Blk.fill3 | (with_reducible refine Blk.far3' ?_ ?_; focus omega) | with_reducible refine Blk.alloc ?_ _ | with_reducible refine Blk.drew ?_ | (with_reducible apply Blk.below2; focus (with_reducible assumption))))
                 obtain ⟨x21, x22, x23⟩ := kk2.cells3
                 obtain ⟨x24, x25, x26⟩ := ll2.cells3
                 have zz2 := hb2.size; try simp at zz2))
            all_goals
              go_wp2_with fail
              go_meet
              exact ⟨rfl, rfl, by (repeat (first | with_reducible exact Below.refl _ _ | with_reducible assumption | with_reducible refine Below.drew ?_ | (with_reducible refine below_alloc' ?_ ?_; focus (first | omega | (simp; done) | (simp; omega))) | (with_reducible refine below_fill3' ?_ ?_; focus omega) | (with_reducible refine below_setCell' ?_ ?_; focus (first | omega | (simp; done) | (simp; omega))) | (with_reducible apply below_call'; (focus (with_reducible assumption)); (focus (first | omega | (simp; done) | (simp; omega))))))⟩
          case rest =>
          obtain ⟨rfl, rfl, hb7⟩ := hcut
          have bz := bv.then (hb7.mono zr)
          have aq7 := aq.below' hb7
          have mx7 := mx.below' hb7
          obtain ⟨x1, x2, x3⟩ := mx7.cells3
          clear p1 p2 p3 q1 q2 q3 m1 m2 mx aq bv hb7 ha6 hb6 bE
          cases i1
          · have aq8 : Blk wc g 5 (u8s n (byRow W (fillB (fun x y => inkB W H p x y && !inkB W H q x y) W) (fun _ => 0) y ((x + 1 : Nat) : Int))) := aq7.u8conv fun i _ _ => by
              have h := fill_no (C := fun x y => inkB W H p x y && !inkB W H q x y) (W := W) (y := (y : Int)) (i := i) (show (0 : Int) ≤ x by omega) xl (CE.out.trans rfl)
              rw [h]; push_cast; rfl
            go_wp2_with fail
            go_round
            case rel => exact ⟨x + 1, by omega, by go_num, bz, aq8⟩
            case measure => simp [intOf]; omega
          · cases i2
            · go_wp2_with fail
              refine (rset_any W H g n n 5 _ x y _ aq7 (by omega) xl (by omega) yl (by omega) (by omega) HNN.out).mono ?_
              rintro e w8 ⟨rfl, hk8, hg8⟩
              have bz8 := bz.row hg8
              have aq8 : Blk w8 g 5 (u8s n (byRow W (fillB (fun x y => inkB W H p x y && !inkB W H q x y) W) (fun _ => 0) y ((x + 1 : Nat) : Int))) := hk8.u8conv fun i _ _ => by
                have h := fill_yes (C := fun x y => inkB W H p x y && !inkB W H q x y) (W := W) (y := (y : Int)) (i := i) (show (0 : Int) ≤ x by omega) xl (CE.out.trans rfl)
                rw [h]; push_cast; rfl
              clear hk8 hg8 bz aq7 mx7 x1 x2 x3
              go_wp2_with fail
              go_round
              case rel => exact ⟨x + 1, by omega, by go_num, bz8, aq8⟩
              case measure => simp [intOf]; omega
            · have aq8 : Blk wc g 5 (u8s n (byRow W (fillB (fun x y => inkB W H p x y && !inkB W H q x y) W) (fun _ => 0) y ((x + 1 : Nat) : Int))) := aq7.u8conv fun i _ _ => by
                have h := fill_no (C := fun x y => inkB W H p x y && !inkB W H q x y) (W := W) (y := (y : Int)) (i := i) (show (0 : Int) ≤ x by omega) xl (CE.out.trans rfl)
                rw [h]; push_cast; rfl
              go_wp2_with fail
              go_round
              case rel => exact ⟨x + 1, by omega, by go_num, bz, aq8⟩
              case measure => simp [intOf]; omega
        · have hxW : x = W := by omega
          have aq8 : Blk wr g 5 (u8s n (byRow W (fillB (fun x y => inkB W H p x y && !inkB W H q x y) W) (fun _ => 0) ((y + 1 : Nat) : Int) (0 : Nat))) := aq.u8conv fun i i0 i1 => by
            have h := byRow_row (W := W) (q := fillB (fun x y => inkB W H p x y && !inkB W H q x y) W) (z := fun _ => 0) (y := (y : Int)) (i := i) (by have := HNN.out; by_cases h0 : W = 0; (rw [h0] at this; omega); omega)
            rw [hxW, h]; push_cast; rfl
          clear hxW aq
          go_wp2_with fail
          go_round
          case rel => exact ⟨y + 1, by omega, by go_num, bv, aq8⟩
          case measure => simp [intOf]; omega
    · have hyH : y = H := by omega
      have kp2 : Blk wr g 5 (u8s n (fillB (fun x y => inkB W H p x y && !inkB W H q x y) W)) := ap.u8conv fun i i0 i1 => by
        rw [hyH]
        by_cases h0 : W = 0
        · have := HNN.out; rw [h0] at this; omega
        · exact byRow_end (h := H) (by omega) (by have := HNN.out; omega)
      have m3 := k3.but bu (by omega) (by omega)
      have mx := kx.but bu (by omega) (by omega)
      obtain ⟨x1, x2, x3⟩ := mx.cells3
      obtain ⟨f1, f2, f3⟩ := m3.frozen3
      obtain ⟨y1, y2, y3⟩ := m3.cells3
      have k5 := ((m3.set_ 0 (.int .i64 W)).set_ 1 (.int .i64 H)).set_ 2 (.slice (some ⟨g, 0, none⟩) n n)
      obtain ⟨s1, s2, s3⟩ := Blk.cells3 (a := .int .i64 W) (b := .int .i64 H) (c := .slice (some ⟨g, 0, none⟩) n n) k5
      have bE : Below w.heap.size w wr := b5.trans (bu.to zs (by omega) (by omega))
      clear ap hyH
      go_wp2_with fail
      refine bodyPost_ret (v := .tuple #[.agg #[.int .i64 W, .int .i64 H, .slice (some ⟨g, 0, none⟩) n n], .int .i64 0]) (by simp [results, Tryz.results94, go_sem, s1, s2, s3]) rfl ?_
      refine ⟨_, rfl, ⟨_, rfl, ?_⟩, by (repeat (first | exact Below.refl _ _ | assumption | refine Below.drew ?_ | refine below_drewN ?_ _ | refine Below.alloc ?_ (by first | omega | (simp; done) | (simp; omega)) _ | refine Below.setCell ?_ (by first | omega | (simp; done) | (simp; omega)) _ | refine below_setRow ?_ (by first | omega | (simp; done) | (simp; omega)) _ ))⟩
      have g1 : g ≠ w.heap.size + 1 + 1 := by omega
      exact OutN.mk (by omega) (Blk.far (Blk.far (Blk.far kp2 (p := ⟨w.heap.size + 1 + 1, 0, none⟩) g1 (.int .i64 W)) (p := ⟨w.heap.size + 1 + 1, 1, none⟩) g1 (.int .i64 H)) (p := ⟨w.heap.size + 1 + 1, 2, none⟩) g1 (.slice (some ⟨g, 0, none⟩) n n))
end Go.Proofs.YtdimlpcbbkokiaaGreat
