/- Texts of mine in build order: T38, S11, T39, S12, T40, T41, T57. Conditions: each theorem's own. -/
import Derived.Test.YtdimlpcbbkokiaaMStaveRunsx8
import Derived.StillTailTactics
/- Walk: a strip put back (stave.Restore), where it is refused. Written by gen/t38.py. -/
namespace Go.Proofs.Ytdimlpcbbkokiaa
open Go.RowKit Go.Shelf
set_option linter.unusedVariables false
attribute [local go_sem] Oper.semAt_some

/-- which error Restore returns -/
def resE (W H : Int) (n : Nat) (p : Int → Int) (SW SH : Int) (sn : Nat) (sp : Int → Int) (K : Nat) (m : Nat → Nat) (ln : Nat → Nat → Int) (up : Int) : Int :=
  if orE (chk W H n p) (chk SW SH sn sp) ≠ 0 then orE (chk W H n p) (chk SW SH sn sp) else if stFits W H K m ln = false then 10 else if up < 0 ∨ SH ≤ up then 1 else if SW ≠ W then 2 else 0
theorem orE_zero {a b : Int} : orE a b = 0 ↔ a = 0 ∧ b = 0 := by
  unfold orE
  by_cases h : a = 0
  · rw [if_pos h]; simp [h]
  · rw [if_neg h]; simp [h]

set_option maxRecDepth 100000 in
set_option maxHeartbeats 4000000 in
theorem restore_bad (W H SW SH : Int) (A SA AL : Option Addr) (n c sn sc K cL : Nat) (p sp : Int → Int) (m : Nat → Nat) (ln : Nat → Nat → Int) (up : Int) (w : World) (hA : ArrB w w.heap.size A n p) (hn : n ≤ maxLen) (hS : ArrB w w.heap.size SA sn sp) (hsn : sn ≤ maxLen) (hL : Lines w w.heap.size AL K m ln) (hm : ∀ i, i < K → m i ≤ maxLen) (E : Int) (hE : resE W H n p SW SH sn sp K m ln up = E) (hE0 : E ≠ 0) :
    Calls Try.prog 45 #[.agg #[.int .i64 W, .int .i64 H, .slice A n c], .agg #[.int .i64 SW, .int .i64 SH, .slice SA sn sc], .agg #[.slice AL K cL], .int .i64 up] w fun e w' => e = .returned (.tuple #[noImg, .int .i64 E]) ∧ Below w.heap.size w w' := by
  have HE := Lib.hid hE; have HE0 := Lib.hid hE0
  clear hE hE0
  have C1 := Lib.hid fun w' hA' => check_any W H A n c p w' hA' hn
  have C2 := Lib.hid fun w' hA' => check_any SW SH SA sn sc sp w' hA' hsn
  have b1 : Below w.heap.size w ((((w.alloc (.cells #[.int .i64 W, .int .i64 H, .slice A n c] 24)).alloc (.cells #[.int .i64 SW, .int .i64 SH, .slice SA sn sc] 24)).alloc (.cells #[.slice AL K cL] 54)).alloc (.cells #[.int .i64 0, .int .i64 0, .slice none 0 0] 24)) := by (repeat (first | exact Below.refl _ _ | assumption | refine Below.drew ?_ | refine below_drewN ?_ _ | refine Below.alloc ?_ (by first | omega | (simp; done) | (simp; omega)) _ | refine Below.setCell ?_ (by first | omega | (simp; done) | (simp; omega)) _ | refine below_setRow ?_ (by first | omega | (simp; done) | (simp; omega)) _ ))
  have k4 : Blk ((((w.alloc (.cells #[.int .i64 W, .int .i64 H, .slice A n c] 24)).alloc (.cells #[.int .i64 SW, .int .i64 SH, .slice SA sn sc] 24)).alloc (.cells #[.slice AL K cL] 54)).alloc (.cells #[.int .i64 0, .int .i64 0, .slice none 0 0] 24)) (w.heap.size + 1 + 1 + 1) 24 #[.int .i64 0, .int .i64 0, .slice none 0 0] := Blk.new' (by simp) _ _
  have k1 : Blk ((((w.alloc (.cells #[.int .i64 W, .int .i64 H, .slice A n c] 24)).alloc (.cells #[.int .i64 SW, .int .i64 SH, .slice SA sn sc] 24)).alloc (.cells #[.slice AL K cL] 54)).alloc (.cells #[.int .i64 0, .int .i64 0, .slice none 0 0] 24)) w.heap.size 24 #[.int .i64 W, .int .i64 H, .slice A n c] := (((Blk.new _ _ _).alloc _).alloc _).alloc _
  have k2 : Blk ((((w.alloc (.cells #[.int .i64 W, .int .i64 H, .slice A n c] 24)).alloc (.cells #[.int .i64 SW, .int .i64 SH, .slice SA sn sc] 24)).alloc (.cells #[.slice AL K cL] 54)).alloc (.cells #[.int .i64 0, .int .i64 0, .slice none 0 0] 24)) (w.heap.size + 1) 24 #[.int .i64 SW, .int .i64 SH, .slice SA sn sc] := ((Blk.new' (by simp) _ _).alloc _).alloc _
  have k3 : Blk ((((w.alloc (.cells #[.int .i64 W, .int .i64 H, .slice A n c] 24)).alloc (.cells #[.int .i64 SW, .int .i64 SH, .slice SA sn sc] 24)).alloc (.cells #[.slice AL K cL] 54)).alloc (.cells #[.int .i64 0, .int .i64 0, .slice none 0 0] 24)) (w.heap.size + 1 + 1) 54 #[.slice AL K cL] := (Blk.new' (by simp) _ _).alloc _
  generalize hz1 : chk W H n p = z1 at *
  generalize hz2 : chk SW SH sn sp = z2 at *
  have HZ1 := Lib.hid hz1; have HZ2 := Lib.hid hz2
  clear hz1 hz2
  go_enter Try.func45, Try.ntmps45
  go_wp2_with fail
  generalize ((((w.alloc (.cells #[.int .i64 W, .int .i64 H, .slice A n c] 24)).alloc (.cells #[.int .i64 SW, .int .i64 SH, .slice SA sn sc] 24)).alloc (.cells #[.slice AL K cL] 54)).alloc (.cells #[.int .i64 0, .int .i64 0, .slice none 0 0] 24)) = w1 at *
  obtain ⟨p1, p2, p3⟩ := k1.cells3
  obtain ⟨q1, q2, q3⟩ := k2.cells3
  have HA := hA.to b1
  have HS := hS.to b1
  go_upto_region 1 with fail
  go_cut [10] (fun f wx => f = .int .i64 (orE z1 z2) ∧ Below w1.heap.size w1 wx)
  case first =>
    go_region_held3 (fun w' => (w'.cell? ⟨w.heap.size, 0, none⟩ = some (.int .i64 W) ∧ w'.cell? ⟨w.heap.size, 1, none⟩ = some (.int .i64 H) ∧ w'.cell? ⟨w.heap.size, 2, none⟩ = some (.slice A n c)) ∧ w'.cell? ⟨w.heap.size + 1, 0, none⟩ = some (.int .i64 SW) ∧ w'.cell? ⟨w.heap.size + 1, 1, none⟩ = some (.int .i64 SH) ∧ w'.cell? ⟨w.heap.size + 1, 2, none⟩ = some (.slice SA sn sc))
      (first | (simp [go_sem, *]; done) | (go_keep; done))
      (first
      | (go_at_call 58
         with_reducible refine Calls.mono (C1.out _ ?_) ?_
         focus (repeat (first | with_reducible assumption | with_reducible refine ArrB.alloc1 ?_ _ | with_reducible refine ArrB.drew1 ?_ | (with_reducible apply ArrB.fillN; (focus (with_reducible assumption)); (focus omega)) | (with_reducible apply ArrB.fillL; (focus (with_reducible assumption)); (focus (first | omega | (simp; done) | (simp; omega)))) | (with_reducible apply ArrB.to'; focus (with_reducible assumption))))
         rintro e v1 ⟨rfl, hb1⟩
         have kk1 : Blk v1 w.heap.size 24 #[.int .i64 W, .int .i64 H, .slice A n c] := by (repeat (first | with_reducible assumption | with_reducible exact Blk.new _ _ _ | with_reducible exact Blk.new' (World.size_alloc _ _) _ _ | (with_reducible refine Blk.new' ?_ _ _; focus (simp; done)) | with_reducible apply Blk.fill3 | (with_reducible refine Blk.far3' ?_ ?_; focus omega) | with_reducible refine Blk.alloc ?_ _ | with_reducible refine Blk.drew ?_ | (with_reducible apply Blk.below2; focus (with_reducible assumption))))
         have ll1 : Blk v1 (w.heap.size + 1) 24 #[.int .i64 SW, .int .i64 SH, .slice SA sn sc] := by (repeat (first | with_reducible assumption | with_reducible exact Blk.new _ _ _ | with_reducible exact Blk.new' (World.size_alloc _ _) _ _ | (with_reducible refine Blk.new' ?_ _ _; focus (simp; done)) | with_reducible apply Blk.fill3 | (with_reducible refine Blk.far3' ?_ ?_; focus omega) | with_reducible refine Blk.alloc ?_ _ | with_reducible refine Blk.drew ?_ | (with_reducible apply Blk.below2; focus (with_reducible assumption))))
         obtain ⟨x11, x12, x13⟩ := kk1.cells3
         obtain ⟨x14, x15, x16⟩ := ll1.cells3
         have zz1 := hb1.size; try simp at zz1)
      | (go_at_call 58
         with_reducible refine Calls.mono (C2.out _ ?_) ?_
         focus (repeat (first | with_reducible assumption | with_reducible refine ArrB.alloc1 ?_ _ | with_reducible refine ArrB.drew1 ?_ | (with_reducible apply ArrB.fillN; (focus (with_reducible assumption)); (focus omega)) | (with_reducible apply ArrB.fillL; (focus (with_reducible assumption)); (focus (first | omega | (simp; done) | (simp; omega)))) | (with_reducible apply ArrB.to'; focus (with_reducible assumption))))
         rintro e v2 ⟨rfl, hb2⟩
         have kk2 : Blk v2 w.heap.size 24 #[.int .i64 W, .int .i64 H, .slice A n c] := by (repeat (first | with_reducible assumption | with_reducible exact Blk.new _ _ _ | with_reducible exact Blk.new' (World.size_alloc _ _) _ _ | (with_reducible refine Blk.new' ?_ _ _; focus (simp; done)) | with_reducible apply Blk.fill3 | (with_reducible refine Blk.far3' ?_ ?_; focus omega) | with_reducible refine Blk.alloc ?_ _ | with_reducible refine Blk.drew ?_ | (with_reducible apply Blk.below2; focus (with_reducible assumption))))
         have ll2 : Blk v2 (w.heap.size + 1) 24 #[.int .i64 SW, .int .i64 SH, .slice SA sn sc] := by (repeat (first | with_reducible assumption | with_reducible exact Blk.new _ _ _ | with_reducible exact Blk.new' (World.size_alloc _ _) _ _ | (with_reducible refine Blk.new' ?_ _ _; focus (simp; done)) | with_reducible apply Blk.fill3 | (with_reducible refine Blk.far3' ?_ ?_; focus omega) | with_reducible refine Blk.alloc ?_ _ | with_reducible refine Blk.drew ?_ | (with_reducible apply Blk.below2; focus (with_reducible assumption))))
         obtain ⟨x21, x22, x23⟩ := kk2.cells3
         obtain ⟨x24, x25, x26⟩ := ll2.cells3
         have zz2 := hb2.size; try simp at zz2)
      | (go_at_call 85; with_reducible refine (or2_any _ _ _ _ (Blk.new _ _ _)).mono ?_; rintro e v3 ⟨rfl, rfl⟩))
    all_goals
      go_wp2_with fail
      go_meet
      exact ⟨rfl, by (repeat (first | with_reducible exact Below.refl _ _ | with_reducible assumption | with_reducible refine Below.drew ?_ | (with_reducible refine below_alloc' ?_ ?_; focus (first | omega | (simp; done) | (simp; omega))) | (with_reducible refine below_fill3' ?_ ?_; focus omega) | (with_reducible refine below_setCell' ?_ ?_; focus (first | omega | (simp; done) | (simp; omega))) | (with_reducible apply below_call'; (focus (with_reducible assumption)); (focus (first | omega | (simp; done) | (simp; omega))))))⟩
  case rest =>
  obtain ⟨rfl, hb2⟩ := hcut
  have b2 := below_call b1 b1.size hb2
  replace k1 := k1.below' hb2
  replace k2 := k2.below' hb2
  replace k3 := k3.below' hb2
  replace k4 := k4.below' hb2
  clear p1 p2 p3 q1 q2 q3 hb2 b1 C1 C2 HA HS
  obtain ⟨z, hzz⟩ : ∃ z, orE z1 z2 = z := ⟨_, rfl⟩
  rw [hzz]
  have HZ := Lib.hid hzz
  clear hzz
  by_cases h0 : z = 0
  · subst h0
    obtain ⟨e1, e2⟩ := orE_zero.1 HZ.out
    subst e1
    subst e2
    obtain ⟨hW1, hW2, hH1, hH2, -, -⟩ := chk_ok HZ1.out
    have FT := Lib.hid fun w' hL' => fits_st W H A AL n c K cL m ln w' hW2 hH2 hL' hm
    have RE : Hid (E = if stFits W H K m ln = false then 10 else if up < 0 ∨ SH ≤ up then 1 else if SW ≠ W then 2 else 0) := by
      show _ = _
      rw [← HE.out]; unfold resE; rw [HZ1.out, HZ2.out, HZ.out, if_neg (by simp)]
    cases hs : stFits W H K m ln with
    | false =>
      rw [hs] at RE FT
      have hE : E = 10 := by rw [RE.out, if_pos rfl]
      subst hE
      clear hs RE HE
      obtain ⟨p1, p2, p3⟩ := k1.cells3
      have p4 := k3.cells0
      go_wp2_with fail
      refine (FT.out _ (hL.below b2)).mono ?_
      rintro e w3 ⟨rfl, hb3⟩
      have b3 := below_call b2 b2.size hb3
      replace k1 := k1.below' hb3
      replace k2 := k2.below' hb3
      replace k3 := k3.below' hb3
      replace k4 := k4.below' hb3
      clear p1 p2 p3 p4 hb3 b2
      obtain ⟨r1, r2, r3⟩ := k4.cells3
      obtain ⟨f1, f2, f3⟩ := k4.frozen3
      have k9 := ((k4.set_ 0 (.int .i64 0)).set_ 1 (.int .i64 0)).set_ 2 (.slice none 0 0)
      obtain ⟨s1, s2, s3⟩ := Blk.cells3 (a := .int .i64 0) (b := .int .i64 0) (c := .slice none 0 0) k9
      go_wp2_with fail
      refine bodyPost_ret (v := .tuple #[noImg, .int .i64 10]) (by simp [results, Try.results45, go_sem, noImg, s1, s2, s3]) rfl ?_
      exact ⟨rfl, by (repeat (first | with_reducible exact Below.refl _ _ | with_reducible assumption | with_reducible refine Below.drew ?_ | (with_reducible refine below_alloc' ?_ ?_; focus (first | omega | (simp; done) | (simp; omega))) | (with_reducible refine below_fill3' ?_ ?_; focus omega) | (with_reducible refine below_setCell' ?_ ?_; focus (first | omega | (simp; done) | (simp; omega))) | (with_reducible apply below_call'; (focus (with_reducible assumption)); (focus (first | omega | (simp; done) | (simp; omega))))))⟩
    | true =>
      rw [hs] at RE FT
      by_cases hup : up < 0 ∨ SH ≤ up
      · have hE : E = 1 := by rw [RE.out, if_neg (by simp), if_pos hup]
        subst hE
        clear hs RE HE
        by_cases hu : up < 0
        · have d1 : decide (up < 0) = true := decide_eq_true hu
          clear hup
          obtain ⟨p1, p2, p3⟩ := k1.cells3
          have p4 := k3.cells0
          go_wp2_with fail
          refine (FT.out _ (hL.below b2)).mono ?_
          rintro e w3 ⟨rfl, hb3⟩
          have b3 := below_call b2 b2.size hb3
          replace k1 := k1.below' hb3
          replace k2 := k2.below' hb3
          replace k3 := k3.below' hb3
          replace k4 := k4.below' hb3
          clear p1 p2 p3 p4 hb3 b2
          obtain ⟨q1, q2, q3⟩ := k2.cells3
          obtain ⟨r1, r2, r3⟩ := k4.cells3
          obtain ⟨f1, f2, f3⟩ := k4.frozen3
          have k9 := ((k4.set_ 0 (.int .i64 0)).set_ 1 (.int .i64 0)).set_ 2 (.slice none 0 0)
          obtain ⟨s1, s2, s3⟩ := Blk.cells3 (a := .int .i64 0) (b := .int .i64 0) (c := .slice none 0 0) k9
          go_wp2_with fail
          refine bodyPost_ret (v := .tuple #[noImg, .int .i64 1]) (by simp [results, Try.results45, go_sem, noImg, s1, s2, s3]) rfl ?_
          exact ⟨rfl, by (repeat (first | with_reducible exact Below.refl _ _ | with_reducible assumption | with_reducible refine Below.drew ?_ | (with_reducible refine below_alloc' ?_ ?_; focus (first | omega | (simp; done) | (simp; omega))) | (with_reducible refine below_fill3' ?_ ?_; focus omega) | (with_reducible refine below_setCell' ?_ ?_; focus (first | omega | (simp; done) | (simp; omega))) | (with_reducible apply below_call'; (focus (with_reducible assumption)); (focus (first | omega | (simp; done) | (simp; omega))))))⟩
        · have d1 : decide (up < 0) = false := decide_eq_false hu
          have hu2 : SH ≤ up := by omega
          have d2 : decide (SH ≤ up) = true := decide_eq_true hu2
          have hu3 : 0 ≤ up := by omega
          clear hup hu
          obtain ⟨p1, p2, p3⟩ := k1.cells3
          have p4 := k3.cells0
          go_wp2_with fail
          refine (FT.out _ (hL.below b2)).mono ?_
          rintro e w3 ⟨rfl, hb3⟩
          have b3 := below_call b2 b2.size hb3
          replace k1 := k1.below' hb3
          replace k2 := k2.below' hb3
          replace k3 := k3.below' hb3
          replace k4 := k4.below' hb3
          clear p1 p2 p3 p4 hb3 b2
          obtain ⟨q1, q2, q3⟩ := k2.cells3
          obtain ⟨r1, r2, r3⟩ := k4.cells3
          obtain ⟨f1, f2, f3⟩ := k4.frozen3
          have k9 := ((k4.set_ 0 (.int .i64 0)).set_ 1 (.int .i64 0)).set_ 2 (.slice none 0 0)
          obtain ⟨s1, s2, s3⟩ := Blk.cells3 (a := .int .i64 0) (b := .int .i64 0) (c := .slice none 0 0) k9
          go_wp2_with fail
          refine bodyPost_ret (v := .tuple #[noImg, .int .i64 1]) (by simp [results, Try.results45, go_sem, noImg, s1, s2, s3]) rfl ?_
          exact ⟨rfl, by (repeat (first | with_reducible exact Below.refl _ _ | with_reducible assumption | with_reducible refine Below.drew ?_ | (with_reducible refine below_alloc' ?_ ?_; focus (first | omega | (simp; done) | (simp; omega))) | (with_reducible refine below_fill3' ?_ ?_; focus omega) | (with_reducible refine below_setCell' ?_ ?_; focus (first | omega | (simp; done) | (simp; omega))) | (with_reducible apply below_call'; (focus (with_reducible assumption)); (focus (first | omega | (simp; done) | (simp; omega))))))⟩
      · have hw : SW ≠ W := fun h => HE0.out (by rw [RE.out, if_neg (by simp), if_neg hup, if_neg (by simp [h])])
        have hE : E = 2 := by rw [RE.out, if_neg (by simp), if_neg hup, if_pos hw]
        subst hE
        have hw2 : (SW != W) = true := by simp [hw]
        have HW := Lib.hid hw
        have d1 : decide (up < 0) = false := decide_eq_false (by omega)
        have d2 : decide (SH ≤ up) = false := decide_eq_false (by omega)
        have hu1 : 0 ≤ up := by omega
        have hu2 : up < SH := by omega
        clear hs RE HE hup hw
        obtain ⟨p1, p2, p3⟩ := k1.cells3
        have p4 := k3.cells0
        go_wp2_with fail
        refine (FT.out _ (hL.below b2)).mono ?_
        rintro e w3 ⟨rfl, hb3⟩
        have b3 := below_call b2 b2.size hb3
        replace k1 := k1.below' hb3
        replace k2 := k2.below' hb3
        replace k3 := k3.below' hb3
        replace k4 := k4.below' hb3
        clear p1 p2 p3 p4 hb3 b2
        obtain ⟨q1, q2, q3⟩ := k2.cells3
        obtain ⟨p1, p2, p3⟩ := k1.cells3
        obtain ⟨r1, r2, r3⟩ := k4.cells3
        obtain ⟨f1, f2, f3⟩ := k4.frozen3
        have k9 := ((k4.set_ 0 (.int .i64 0)).set_ 1 (.int .i64 0)).set_ 2 (.slice none 0 0)
        obtain ⟨s1, s2, s3⟩ := Blk.cells3 (a := .int .i64 0) (b := .int .i64 0) (c := .slice none 0 0) k9
        go_wp2_with fail
        refine bodyPost_ret (v := .tuple #[noImg, .int .i64 2]) (by simp [results, Try.results45, go_sem, noImg, s1, s2, s3]) rfl ?_
        exact ⟨rfl, by (repeat (first | with_reducible exact Below.refl _ _ | with_reducible assumption | with_reducible refine Below.drew ?_ | (with_reducible refine below_alloc' ?_ ?_; focus (first | omega | (simp; done) | (simp; omega))) | (with_reducible refine below_fill3' ?_ ?_; focus omega) | (with_reducible refine below_setCell' ?_ ?_; focus (first | omega | (simp; done) | (simp; omega))) | (with_reducible apply below_call'; (focus (with_reducible assumption)); (focus (first | omega | (simp; done) | (simp; omega))))))⟩
  · have hE : E = z := by
      rw [← HE.out]; unfold resE; rw [HZ1.out, HZ2.out, HZ.out, if_pos h0]
    subst hE
    have hz2 : (E != 0) = true := by simp [h0]
    have HH := Lib.hid h0
    clear h0 HE
    obtain ⟨r1, r2, r3⟩ := k4.cells3
    obtain ⟨f1, f2, f3⟩ := k4.frozen3
    have k9 := ((k4.set_ 0 (.int .i64 0)).set_ 1 (.int .i64 0)).set_ 2 (.slice none 0 0)
    obtain ⟨s1, s2, s3⟩ := Blk.cells3 (a := .int .i64 0) (b := .int .i64 0) (c := .slice none 0 0) k9
    go_wp2_with fail
    refine bodyPost_ret (v := .tuple #[noImg, .int .i64 E]) (by simp [results, Try.results45, go_sem, noImg, s1, s2, s3]) rfl ?_
    exact ⟨rfl, by (repeat (first | with_reducible exact Below.refl _ _ | with_reducible assumption | with_reducible refine Below.drew ?_ | (with_reducible refine below_alloc' ?_ ?_; focus (first | omega | (simp; done) | (simp; omega))) | (with_reducible refine below_fill3' ?_ ?_; focus omega) | (with_reducible refine below_setCell' ?_ ?_; focus (first | omega | (simp; done) | (simp; omega))) | (with_reducible apply below_call'; (focus (with_reducible assumption)); (focus (first | omega | (simp; done) | (simp; omega))))))⟩
end Go.Proofs.Ytdimlpcbbkokiaa

/- Plain: a strip put back column by column. No program in sight. -/
namespace Go.Proofs.Ytdimlpcbbkokiaa
open Go.RowKit
set_option linter.unusedVariables false
/-- put back: the columns before x, and of column x the strip's rows above y -/
def rsP (W h : Int) (p q : Int → Int) (l : Nat → Int) (up x y : Int) : Int → Int := fun i =>
  if i % W < x ∨ (i % W = x ∧ i / W - l x.toNat + up < y) then resQ W 0 h p q l up i else p i
section
variable {W H h : Int} {p q : Int → Int} {l : Nat → Int} {up x y i : Int}
theorem resQ_out (hi : ¬ (0 ≤ i / W - l (i % W).toNat + up ∧ i / W - l (i % W).toNat + up < h)) : resQ W H h p q l up i = p i := by unfold resQ; rw [if_neg hi]
theorem resQ_H : resQ W H h p q l up i = resQ W 0 h p q l up i := rfl
theorem rsP_zero (hW : 0 < W) : rsP W h p q l up 0 0 i = p i := by
  have h1 : 0 ≤ i % W := Int.emod_nonneg _ (by omega)
  unfold rsP
  by_cases c : i % W < 0 ∨ (i % W = 0 ∧ i / W - l (0 : Int).toNat + up < 0)
  · rw [if_pos c]
    have c2 : i % W = 0 := by omega
    apply resQ_out
    rw [c2]; omega
  · rw [if_neg c]
theorem rsP_set (x0 : 0 ≤ x) (x1 : x < W) (y0 : 0 ≤ y) (y1 : y < h) : upd (rsP W h p q l up x y) ((l x.toNat - up + y) * W + x) (q (y * W + x)) i = rsP W h p q l up x (y + 1) i := by
  have a := idx_mod (y := l x.toNat - up + y) x0 x1
  have b := idx_div (y := l x.toNat - up + y) x0 x1
  unfold upd rsP
  by_cases e : i = (l x.toNat - up + y) * W + x
  · subst e
    rw [if_pos rfl, a, b, if_pos (.inr ⟨rfl, by omega⟩)]
    unfold resQ
    rw [a, b, if_pos (by omega), show l x.toNat - up + y - l x.toNat + up = y by omega]
  · rw [if_neg e]
    have hne : i % W = x → i / W ≠ l x.toNat - up + y := fun h3 h4 => e (by
      have := Int.emod_add_mul_ediv i W
      rw [h3, h4, Int.mul_comm] at this; omega)
    by_cases c : i % W < x ∨ (i % W = x ∧ i / W - l x.toNat + up < y)
    · rw [if_pos c, if_pos (by omega)]
    · rw [if_neg c, if_neg (by omega)]
theorem rsP_skip (hW : 0 < W) (h0 : 0 ≤ i) (hi : i < W * H) (hat : ¬ (0 ≤ l x.toNat - up + y ∧ l x.toNat - up + y < H)) : rsP W h p q l up x y i = rsP W h p q l up x (y + 1) i := by
  have h1 : i / W < H := Int.ediv_lt_of_lt_mul hW (by rw [Int.mul_comm]; exact hi)
  have h2 : 0 ≤ i / W := Int.ediv_nonneg h0 (by omega)
  unfold rsP
  by_cases c : i % W < x ∨ (i % W = x ∧ i / W - l x.toNat + up < y)
  · rw [if_pos c, if_pos (by omega)]
  · rw [if_neg c, if_neg (by omega)]
theorem rsP_col : rsP W h p q l up x h i = rsP W h p q l up (x + 1) 0 i := by
  unfold rsP
  by_cases c : i % W = x
  · rw [if_pos (.inl (by omega) : i % W < x + 1 ∨ _)]
    by_cases d : i / W - l x.toNat + up < h
    · rw [if_pos (.inr ⟨c, d⟩)]
    · rw [if_neg (by omega)]
      exact (resQ_out (by rw [c]; omega)).symm
  · by_cases d : i % W < x
    · rw [if_pos (.inl d), if_pos (.inl (by omega))]
    · rw [if_neg (by omega)]
      by_cases g : i % W < x + 1 ∨ (i % W = x + 1 ∧ i / W - l (x + 1).toNat + up < 0)
      · rw [if_pos g]
        exact (resQ_out (by
          have : i % W = x + 1 := by omega
          rw [this]; omega)).symm
      · rw [if_neg g]
theorem rsP_end (hW : 0 < W) : rsP W h p q l up W 0 i = resQ W 0 h p q l up i := by
  unfold rsP
  have h1 : i % W < W := Int.emod_lt_of_pos _ hW
  rw [if_pos (by omega)]
end
end Go.Proofs.Ytdimlpcbbkokiaa

/- Walk: a strip put back (stave.Restore), where it is made. Written by gen/t38.py. -/
namespace Go.Proofs.Ytdimlpcbbkokiaa
open Go.RowKit Go.Shelf
set_option linter.unusedVariables false
attribute [local go_sem] Oper.semAt_some

set_option maxRecDepth 100000 in
set_option maxHeartbeats 4000000 in
theorem restore_ok (W H SW SH : Int) (A SA AL : Option Addr) (n c sn sc K cL : Nat) (p sp : Int → Int) (m : Nat → Nat) (ln : Nat → Nat → Int) (up : Int) (w : World) (hA : ArrB w w.heap.size A n p) (hn : n ≤ maxLen) (hS : ArrB w w.heap.size SA sn sp) (hsn : sn ≤ maxLen) (hL : Lines w w.heap.size AL K m ln) (hm : ∀ i, i < K → m i ≤ maxLen) (hns : n ≤ 1000000) (hE : resE W H n p SW SH sn sp K m ln up = 0) :
    Calls Try.prog 45 #[.agg #[.int .i64 W, .int .i64 H, .slice A n c], .agg #[.int .i64 SW, .int .i64 SH, .slice SA sn sc], .agg #[.slice AL K cL], .int .i64 up] w (New w fun v w' => OutT w w' 0 W H n (resQ W H SH p sp (ln 4) up) v) := by
  have HE := Lib.hid hE
  clear hE
  have C1 := Lib.hid fun w' hA' => check_any W H A n c p w' hA' hn
  have C2 := Lib.hid fun w' hA' => check_any SW SH SA sn sc sp w' hA' hsn
  have b1 : Below w.heap.size w ((((w.alloc (.cells #[.int .i64 W, .int .i64 H, .slice A n c] 24)).alloc (.cells #[.int .i64 SW, .int .i64 SH, .slice SA sn sc] 24)).alloc (.cells #[.slice AL K cL] 54)).alloc (.cells #[.int .i64 0, .int .i64 0, .slice none 0 0] 24)) := by (repeat (first | exact Below.refl _ _ | assumption | refine Below.drew ?_ | refine below_drewN ?_ _ | refine Below.alloc ?_ (by first | omega | (simp; done) | (simp; omega)) _ | refine Below.setCell ?_ (by first | omega | (simp; done) | (simp; omega)) _ | refine below_setRow ?_ (by first | omega | (simp; done) | (simp; omega)) _ ))
  have k4 : Blk ((((w.alloc (.cells #[.int .i64 W, .int .i64 H, .slice A n c] 24)).alloc (.cells #[.int .i64 SW, .int .i64 SH, .slice SA sn sc] 24)).alloc (.cells #[.slice AL K cL] 54)).alloc (.cells #[.int .i64 0, .int .i64 0, .slice none 0 0] 24)) (w.heap.size + 1 + 1 + 1) 24 #[.int .i64 0, .int .i64 0, .slice none 0 0] := Blk.new' (by simp) _ _
  have k1 : Blk ((((w.alloc (.cells #[.int .i64 W, .int .i64 H, .slice A n c] 24)).alloc (.cells #[.int .i64 SW, .int .i64 SH, .slice SA sn sc] 24)).alloc (.cells #[.slice AL K cL] 54)).alloc (.cells #[.int .i64 0, .int .i64 0, .slice none 0 0] 24)) w.heap.size 24 #[.int .i64 W, .int .i64 H, .slice A n c] := (((Blk.new _ _ _).alloc _).alloc _).alloc _
  have k2 : Blk ((((w.alloc (.cells #[.int .i64 W, .int .i64 H, .slice A n c] 24)).alloc (.cells #[.int .i64 SW, .int .i64 SH, .slice SA sn sc] 24)).alloc (.cells #[.slice AL K cL] 54)).alloc (.cells #[.int .i64 0, .int .i64 0, .slice none 0 0] 24)) (w.heap.size + 1) 24 #[.int .i64 SW, .int .i64 SH, .slice SA sn sc] := ((Blk.new' (by simp) _ _).alloc _).alloc _
  have k3 : Blk ((((w.alloc (.cells #[.int .i64 W, .int .i64 H, .slice A n c] 24)).alloc (.cells #[.int .i64 SW, .int .i64 SH, .slice SA sn sc] 24)).alloc (.cells #[.slice AL K cL] 54)).alloc (.cells #[.int .i64 0, .int .i64 0, .slice none 0 0] 24)) (w.heap.size + 1 + 1) 54 #[.slice AL K cL] := (Blk.new' (by simp) _ _).alloc _
  generalize hz1 : chk W H n p = z1 at *
  generalize hz2 : chk SW SH sn sp = z2 at *
  have HZ1 := Lib.hid hz1; have HZ2 := Lib.hid hz2
  clear hz1 hz2
  go_enter Try.func45, Try.ntmps45
  go_wp2_with fail
  generalize ((((w.alloc (.cells #[.int .i64 W, .int .i64 H, .slice A n c] 24)).alloc (.cells #[.int .i64 SW, .int .i64 SH, .slice SA sn sc] 24)).alloc (.cells #[.slice AL K cL] 54)).alloc (.cells #[.int .i64 0, .int .i64 0, .slice none 0 0] 24)) = w1 at *
  obtain ⟨p1, p2, p3⟩ := k1.cells3
  obtain ⟨q1, q2, q3⟩ := k2.cells3
  have HA := hA.to b1
  have HS := hS.to b1
  go_upto_region 1 with fail
  go_cut [10] (fun f wx => f = .int .i64 (orE z1 z2) ∧ Below w1.heap.size w1 wx)
  case first =>
    go_region_held3 (fun w' => (w'.cell? ⟨w.heap.size, 0, none⟩ = some (.int .i64 W) ∧ w'.cell? ⟨w.heap.size, 1, none⟩ = some (.int .i64 H) ∧ w'.cell? ⟨w.heap.size, 2, none⟩ = some (.slice A n c)) ∧ w'.cell? ⟨w.heap.size + 1, 0, none⟩ = some (.int .i64 SW) ∧ w'.cell? ⟨w.heap.size + 1, 1, none⟩ = some (.int .i64 SH) ∧ w'.cell? ⟨w.heap.size + 1, 2, none⟩ = some (.slice SA sn sc))
      (first | (simp [go_sem, *]; done) | (go_keep; done))
      (first
      | (go_at_call 58
         with_reducible refine Calls.mono (C1.out _ ?_) ?_
         focus (repeat (first | with_reducible assumption | with_reducible refine ArrB.alloc1 ?_ _ | with_reducible refine ArrB.drew1 ?_ | (with_reducible apply ArrB.fillN; (focus (with_reducible assumption)); (focus omega)) | (with_reducible apply ArrB.fillL; (focus (with_reducible assumption)); (focus (first | omega | (simp; done) | (simp; omega)))) | (with_reducible apply ArrB.to'; focus (with_reducible assumption))))
         rintro e v1 ⟨rfl, hb1⟩
         have kk1 : Blk v1 w.heap.size 24 #[.int .i64 W, .int .i64 H, .slice A n c] := by (repeat (first | with_reducible assumption | with_reducible exact Blk.new _ _ _ | with_reducible exact Blk.new' (World.size_alloc _ _) _ _ | (with_reducible refine Blk.new' ?_ _ _; focus (simp; done)) | with_reducible apply Blk.fill3 | (with_reducible refine Blk.far3' ?_ ?_; focus omega) | with_reducible refine Blk.alloc ?_ _ | with_reducible refine Blk.drew ?_ | (with_reducible apply Blk.below2; focus (with_reducible assumption))))
         have ll1 : Blk v1 (w.heap.size + 1) 24 #[.int .i64 SW, .int .i64 SH, .slice SA sn sc] := by (repeat (first | with_reducible assumption | with_reducible exact Blk.new _ _ _ | with_reducible exact Blk.new' (World.size_alloc _ _) _ _ | (with_reducible refine Blk.new' ?_ _ _; focus (simp; done)) | with_reducible apply Blk.fill3 | (with_reducible refine Blk.far3' ?_ ?_; focus omega) | with_reducible refine Blk.alloc ?_ _ | with_reducible refine Blk.drew ?_ | (with_reducible apply Blk.below2; focus (with_reducible assumption))))
         obtain ⟨x11, x12, x13⟩ := kk1.cells3
         obtain ⟨x14, x15, x16⟩ := ll1.cells3
         have zz1 := hb1.size; try simp at zz1)
      | (go_at_call 58
         with_reducible refine Calls.mono (C2.out _ ?_) ?_
         focus (repeat (first | with_reducible assumption | with_reducible refine ArrB.alloc1 ?_ _ | with_reducible refine ArrB.drew1 ?_ | (with_reducible apply ArrB.fillN; (focus (with_reducible assumption)); (focus omega)) | (with_reducible apply ArrB.fillL; (focus (with_reducible assumption)); (focus (first | omega | (simp; done) | (simp; omega)))) | (with_reducible apply ArrB.to'; focus (with_reducible assumption))))
         rintro e v2 ⟨rfl, hb2⟩
         have kk2 : Blk v2 w.heap.size 24 #[.int .i64 W, .int .i64 H, .slice A n c] := by (repeat (first | with_reducible assumption | with_reducible exact Blk.new _ _ _ | with_reducible exact Blk.new' (World.size_alloc _ _) _ _ | (with_reducible refine Blk.new' ?_ _ _; focus (simp; done)) | with_reducible apply Blk.fill3 | (with_reducible refine Blk.far3' ?_ ?_; focus omega) | with_reducible refine Blk.alloc ?_ _ | with_reducible refine Blk.drew ?_ | (with_reducible apply Blk.below2; focus (with_reducible assumption))))
         have ll2 : Blk v2 (w.heap.size + 1) 24 #[.int .i64 SW, .int .i64 SH, .slice SA sn sc] := by (repeat (first | with_reducible assumption | with_reducible exact Blk.new _ _ _ | with_reducible exact Blk.new' (World.size_alloc _ _) _ _ | (with_reducible refine Blk.new' ?_ _ _; focus (simp; done)) | with_reducible apply Blk.fill3 | (with_reducible refine Blk.far3' ?_ ?_; focus omega) | with_reducible refine Blk.alloc ?_ _ | with_reducible refine Blk.drew ?_ | (with_reducible apply Blk.below2; focus (with_reducible assumption))))
         obtain ⟨x21, x22, x23⟩ := kk2.cells3
         obtain ⟨x24, x25, x26⟩ := ll2.cells3
         have zz2 := hb2.size; try simp at zz2)
      | (go_at_call 85; with_reducible refine (or2_any _ _ _ _ (Blk.new _ _ _)).mono ?_; rintro e v3 ⟨rfl, rfl⟩))
    all_goals
      go_wp2_with fail
      go_meet
      exact ⟨rfl, by (repeat (first | with_reducible exact Below.refl _ _ | with_reducible assumption | with_reducible refine Below.drew ?_ | (with_reducible refine below_alloc' ?_ ?_; focus (first | omega | (simp; done) | (simp; omega))) | (with_reducible refine below_fill3' ?_ ?_; focus omega) | (with_reducible refine below_setCell' ?_ ?_; focus (first | omega | (simp; done) | (simp; omega))) | (with_reducible apply below_call'; (focus (with_reducible assumption)); (focus (first | omega | (simp; done) | (simp; omega))))))⟩
  case rest =>
  obtain ⟨rfl, hb2⟩ := hcut
  have b2 := below_call b1 b1.size hb2
  replace k1 := k1.below' hb2
  replace k2 := k2.below' hb2
  replace k3 := k3.below' hb2
  replace k4 := k4.below' hb2
  clear p1 p2 p3 q1 q2 q3 hb2 b1 C1 C2 HA HS
  obtain ⟨z, hzz⟩ : ∃ z, orE z1 z2 = z := ⟨_, rfl⟩
  rw [hzz]
  have HZ := Lib.hid hzz
  clear hzz
  have z0 : z = 0 := by
    by_cases h0 : z = 0
    · exact h0
    · have := HE.out
      unfold resE at this
      rw [HZ1.out, HZ2.out, HZ.out, if_pos h0] at this
      exact this
  subst z0
  obtain ⟨e1, e2⟩ := orE_zero.1 HZ.out
  subst e1
  subst e2
  obtain ⟨hW1, hW2, hH1, hH2, hnn, -⟩ := chk_ok HZ1.out
  obtain ⟨hSW1, hSW2, hSH1, hSH2, hsnn, -⟩ := chk_ok HZ2.out
  have RE : Hid ((if stFits W H K m ln = false then (10 : Int) else if up < 0 ∨ SH ≤ up then 1 else if SW ≠ W then 2 else 0) = 0) := by
    show _ = _
    have := HE.out
    unfold resE at this
    rwa [HZ1.out, HZ2.out, HZ.out, if_neg (by simp)] at this
  have hst : stFits W H K m ln = true := by
    cases h : stFits W H K m ln with
    | true => rfl
    | false => have := RE.out; rw [h, if_pos rfl] at this; omega
  have FT := Lib.hid fun w' hL' => fits_st W H A AL n c K cL m ln w' hW2 hH2 hL' hm
  rw [hst] at RE FT
  have hup : ¬ (up < 0 ∨ SH ≤ up) := fun h => by have := RE.out; rw [if_neg (by simp), if_pos h] at this; omega
  have hw : SW = W := by
    rcases Int.decEq SW W with h | h
    · have := RE.out; rw [if_neg (by simp), if_neg hup, if_pos h] at this; omega
    · exact h
  subst hw
  have d1 : decide (up < 0) = false := decide_eq_false (by omega)
  have d2 : decide (SH ≤ up) = false := decide_eq_false (by omega)
  have hu1 : 0 ≤ up := by omega
  have hu2 : up < SH := by omega
  have hP := stFits_iff.1 hst
  obtain ⟨rfl, hpath, -⟩ := hP
  obtain ⟨⟨W1, H1, m4⟩, hst2⟩ := isPathB_iff.1 (hpath 4 (by omega))
  have PB := Lib.hid fun (x : Nat) (hx : (x : Int) < m 4) => stepB_iff.1 (hst2 x (by omega) hx)
  have npos : 0 < n := by
    have := Int.mul_pos (show 0 < SW by omega) (show 0 < H by omega)
    omega
  have BC := Lib.hid fun w' hA' => bclone_pos A n c p w' hA' (by omega) npos
  have HM4 := Lib.hid m4; have HNN := Lib.hid hnn; have HSN := Lib.hid hsnn
  clear hst hpath hst2 m4 hup RE HE hnn hsnn
  obtain ⟨p1, p2, p3⟩ := k1.cells3
  have p4 := k3.cells0
  go_wp2_with fail
  refine (FT.out _ (hL.below b2)).mono ?_
  rintro e w3 ⟨rfl, hb3⟩
  have b3 := below_call b2 b2.size hb3
  replace k1 := k1.below' hb3
  replace k2 := k2.below' hb3
  replace k3 := k3.below' hb3
  replace k4 := k4.below' hb3
  clear p1 p2 p3 p4 hb3 b2
  obtain ⟨p1, p2, p3⟩ := k1.cells3
  obtain ⟨q1, q2, q3⟩ := k2.cells3
  have z3 := k4.lt
  have HA := hA.to b3
  go_upto_region 10 with fail
  go_cut [11] (fun f wx => ∃ B g c', f = .pointer (some ⟨B, 0, none⟩) ∧ Below w3.heap.size w3 wx ∧ w3.heap.size ≤ g ∧ g ≠ B ∧ w3.heap.size ≤ B ∧ Blk wx B 24 #[.int .i64 SW, .int .i64 H, .slice (some ⟨g, 0, none⟩) n c'] ∧ ArrO wx g n p)
  case first =>
    go_region_held3 (fun w' => w'.cell? ⟨w.heap.size, 0, none⟩ = some (.int .i64 SW) ∧ w'.cell? ⟨w.heap.size, 1, none⟩ = some (.int .i64 H) ∧ w'.cell? ⟨w.heap.size, 2, none⟩ = some (.slice A n c))
      (first | (simp [go_sem, *]; done) | (go_keep; done))
      (first
      | (go_at_call 86
         with_reducible refine Calls.mono (BC.out _ ?_) ?_
         focus (repeat (first | with_reducible assumption | with_reducible refine ArrB.alloc1 ?_ _ | with_reducible refine ArrB.drew1 ?_ | (with_reducible apply ArrB.fillN; (focus (with_reducible assumption)); (focus omega)) | (with_reducible apply ArrB.fillL; (focus (with_reducible assumption)); (focus (first | omega | (simp; done) | (simp; omega)))) | (with_reducible apply ArrB.to'; focus (with_reducible assumption))))
         rintro e v1 ⟨_, rfl, ⟨g, c', rfl, hcc, hg, hk⟩, hb1⟩
         have kk1 : Blk v1 w.heap.size 24 #[.int .i64 SW, .int .i64 H, .slice A n c] := by (repeat (first | with_reducible assumption | with_reducible exact Blk.new _ _ _ | with_reducible exact Blk.new' (World.size_alloc _ _) _ _ | (with_reducible refine Blk.new' ?_ _ _; focus (simp; done)) | with_reducible apply Blk.fill3 | (with_reducible refine Blk.far3' ?_ ?_; focus omega) | with_reducible refine Blk.alloc ?_ _ | with_reducible refine Blk.drew ?_ | (with_reducible apply Blk.below2; focus (with_reducible assumption))))
         obtain ⟨x11, x12, x13⟩ := kk1.cells3
         have zz1 := hb1.size
         try simp at zz1
         have yy1 := kk1.lt
         have yy2 := hk.lt
         try simp at hg
         first | (have g1 : Blk v1 w3.heap.size 24 #[.int .i64 0, .int .i64 0, .slice none 0 0] := by ((repeat (first | with_reducible assumption | with_reducible exact Blk.new _ _ _ | with_reducible exact Blk.new' (World.size_alloc _ _) _ _ | (with_reducible refine Blk.new' ?_ _ _; focus (simp; done)) | with_reducible apply Blk.fill3 | (with_reducible refine Blk.far3' ?_ ?_; focus omega) | with_reducible refine Blk.alloc ?_ _ | with_reducible refine Blk.drew ?_ | (with_reducible apply Blk.below2; focus (with_reducible assumption)))); done)
                  obtain ⟨h1, h2, h3⟩ := g1.cells3; obtain ⟨f1, f2, f3⟩ := g1.frozen3; have lt1 := g1.lt) | skip))
    all_goals
      go_wp2_with fail
      go_meet
      refine ⟨_, g, c', rfl, ?_, ?_, ?_, ?_, ?_, ?_⟩
      focus (repeat (first | with_reducible exact Below.refl _ _ | with_reducible assumption | with_reducible refine Below.drew ?_ | (with_reducible refine below_alloc' ?_ ?_; focus (first | omega | (simp; done) | (simp; omega))) | (with_reducible refine below_fill3' ?_ ?_; focus omega) | (with_reducible refine below_setCell' ?_ ?_; focus (first | omega | (simp; done) | (simp; omega))) | (with_reducible apply below_call'; (focus (with_reducible assumption)); (focus (first | omega | (simp; done) | (simp; omega))))))
      focus (first | omega | (simp; omega))
      focus (first | omega | (simp; omega))
      focus (first | omega | (simp; omega))
      focus (repeat (first | with_reducible assumption | with_reducible exact Blk.new _ _ _ | with_reducible exact Blk.new' (World.size_alloc _ _) _ _ | (with_reducible refine Blk.new' ?_ _ _; focus (simp; done)) | with_reducible apply Blk.fill3 | (with_reducible refine Blk.far3' ?_ ?_; focus omega) | with_reducible refine Blk.alloc ?_ _ | with_reducible refine Blk.drew ?_ | (with_reducible apply Blk.below2; focus (with_reducible assumption))))
      focus (repeat (first | assumption | refine ArrO.drew ?_ | refine ArrO.alloc ?_ _ | refine ArrO.far ?_ (by first | (show g ≠ _; omega) | (simp; omega)) _))
  case rest =>
  obtain ⟨gx, gp, cp, rfl, hb4, hgp, hgx, hgx2, tx, tp⟩ := hcut
  clear p1 p2 p3 q1 q2 q3
  replace k1 := k1.below' hb4
  replace k2 := k2.below' hb4
  replace k3 := k3.below' hb4
  replace k4 := k4.below' hb4
  have b4 := below_call b3 b3.size hb4
  clear b3 hb4 HA FT BC
  have zb := b4.size
  obtain ⟨bA, oA, A4, c4, rfl, hbA, hcA, haA⟩ := hL.at_ (i := 4) (by omega)
  obtain ⟨b5, o5, rfl, hb5, hc5⟩ := ArrI.fn haA (by have := HM4.out; omega)
  have HC5 := Lib.hid hc5
  have r4 := k3.cells0
  have r5 := (b4.cell (p := ⟨bA, oA + 4, none⟩) hbA).trans hcA
  clear hc5 hcA
  go_wp2_with fail
  generalize hm4 : m 4 = M at *
  have sp0 : ArrO wc gp n (rsP SW SH p sp (ln 4) up (0 : Nat) (0 : Nat)) := tp.conv fun i _ _ => (rsP_zero (by omega)).symm
  go_loopw [62] (fun s wr => ∃ x : Nat, x ≤ M ∧ s = .int .i64 x ∧ Below w.heap.size w wr ∧ Blk wr w.heap.size 24 #[.int .i64 SW, .int .i64 H, .slice A n c] ∧ Blk wr (w.heap.size + 1) 24 #[.int .i64 SW, .int .i64 SH, .slice SA sn sc] ∧ Blk wr (w.heap.size + 1 + 1 + 1) 24 #[.int .i64 0, .int .i64 0, .slice none 0 0] ∧ Blk wr gx 24 #[.int .i64 SW, .int .i64 H, .slice (some ⟨gp, 0, none⟩) n cp] ∧ ArrO wr gp n (rsP SW SH p sp (ln 4) up x (0 : Nat))) (fun s _ => M - (intOf s).toNat)
  case atStart => exact ⟨0, by omega, rfl, b4, k1, k2, k4, tx, sp0⟩
  case round =>
    obtain ⟨x, hx, rfl, b6, t1, t2, t4, tx, tp⟩ := hrel
    clear r4 r5 b4 k1 k2 k3 k4 sp0
    obtain ⟨r1, r2, r3⟩ := t1.cells3
    obtain ⟨y1, y2, y3⟩ := t2.cells3
    by_cases xl : (x : Int) < M
    · have xW : (x : Int) < SW := by have := HM4.out; omega
      have lx := HC5.out x (by omega) xl
      rw [Int.toNat_natCast] at lx
      have cx := (b6.cell (p := ⟨b5, o5 + x, none⟩) hb5).trans lx
      obtain ⟨pb1, pb2, -⟩ := PB.out x xl
      rw [Int.toNat_natCast] at pb1 pb2
      generalize hlx : ln 4 x = l at *
      have HLX := Lib.hid hlx
      clear lx hlx
      go_wp2_with fail
      go_loopw [69] (fun s wr => ∃ y : Nat, (y : Int) ≤ SH ∧ s = .int .i64 y ∧ Below w.heap.size w wr ∧ Blk wr w.heap.size 24 #[.int .i64 SW, .int .i64 H, .slice A n c] ∧ Blk wr (w.heap.size + 1) 24 #[.int .i64 SW, .int .i64 SH, .slice SA sn sc] ∧ Blk wr (w.heap.size + 1 + 1 + 1) 24 #[.int .i64 0, .int .i64 0, .slice none 0 0] ∧ Blk wr gx 24 #[.int .i64 SW, .int .i64 H, .slice (some ⟨gp, 0, none⟩) n cp] ∧ ArrO wr gp n (rsP SW SH p sp (ln 4) up x y)) (fun s _ => (SH - intOf s).toNat)
      case atStart => exact ⟨0, by omega, rfl, b6, t1, t2, t4, tx, tp⟩
      case round =>
        obtain ⟨y, hy, rfl, b7, a1, a2, a4, ax, ap⟩ := hrel
        clear r1 r2 r3 y1 y2 y3 b6 t1 t2 t4 tx tp cx
        obtain ⟨r1, r2, r3⟩ := a1.cells3
        obtain ⟨y1, y2, y3⟩ := a2.cells3
        obtain ⟨x1, x2, x3⟩ := ax.cells3
        by_cases yl : (y : Int) < SH
        · have v3 : IntKind.i64.wrap (l - up) = l - up := IntWalk.i64_in _ (by omega)
          have v4 : IntKind.i64.wrap (l - up + y) = l - up + y := IntWalk.i64_in _ (by omega)
          by_cases hin : 0 ≤ l - up + (y : Int) ∧ l - up + (y : Int) < H
          · obtain ⟨hi1, hi2⟩ := hin
            have d1 : decide (0 ≤ l - up + (y : Int)) = true := decide_eq_true hi1
            have d2 : decide (l - up + (y : Int) < H) = true := decide_eq_true hi2
            obtain ⟨i1, i2, i3⟩ := idx_lt (x := (x : Int)) (y := l - up + (y : Int)) (W := SW) (H := H) (by omega) xW hi1 hi2
            rw [Int.mul_comm H SW] at i2
            obtain ⟨j1, j2, j3⟩ := idx_lt (x := (x : Int)) (y := (y : Int)) (W := SW) (H := SH) (by omega) xW (by omega) yl
            rw [Int.mul_comm SH SW] at j2
            have i4 : (l - up + (y : Int)) * SW + x < (n : Int) := by have := HNN.out; omega
            have j4 : (y : Int) * SW + x < (sn : Int) := by have := HSN.out; omega
            have nb := (area_bd hW1 hW2 hH1 hH2).2
            have nb2 := (area_bd hSW1 hSW2 hSH1 hSH2).2
            have v5 : IntKind.i64.wrap ((l - up + (y : Int)) * SW) = (l - up + (y : Int)) * SW := IntWalk.i64_in _ (by omega)
            have v6 : IntKind.i64.wrap ((l - up + (y : Int)) * SW + x) = (l - up + (y : Int)) * SW + x := IntWalk.i64_in _ (by omega)
            have v7 : IntKind.i64.wrap ((y : Int) * SW) = (y : Int) * SW := IntWalk.i64_in _ (by omega)
            have v8 : IntKind.i64.wrap ((y : Int) * SW + x) = (y : Int) * SW + x := IntWalk.i64_in _ (by omega)
            obtain ⟨bi, oi, rfl, hbi, hci⟩ := ArrB.at_ (ArrB.below hS b7) j1 j4
            have cg := ap.cell i1 i4
            have fg := ap.frozen ((l - up + (y : Int)) * SW + x).toNat
            have KS := Lib.hid (ap.set ((l - up + (y : Int)) * SW + x) i1 i4 (sp ((y : Int) * SW + x)))
            have BS := Lib.hid (fun i => rsP_set (p := p) (q := sp) (l := ln 4) (up := up) (x := (x : Int)) (y := (y : Int)) (h := SH) (i := i) (by omega) xW (by omega) yl)
            generalize hpv : sp ((y : Int) * SW + x) = pv at *
            have HPV := Lib.hid hpv
            clear hpv
            go_wp2_with fail
            go_still_tail 19, (by kernel_rfl)
            change wpList _ _ _ _ _ wr.drew
            clear v5 v6 v7 v8
            go_wp2
            go_roundw
            case rel => exact ⟨y + 1, by omega, by go_num, by (repeat (first | exact Below.refl _ _ | assumption | refine Below.drew ?_ | refine below_drewN ?_ _ | refine Below.alloc ?_ (by first | omega | (simp; done) | (simp; omega)) _ | refine Below.setCell ?_ (by first | omega | (simp; done) | (simp; omega)) _ | refine below_setRow ?_ (by first | omega | (simp; done) | (simp; omega)) _ )), a1.drew.far (p := ⟨gp, ((l - up + (y : Int)) * SW + x).toNat, none⟩) (by show w.heap.size ≠ gp; omega) _, a2.drew.far (p := ⟨gp, ((l - up + (y : Int)) * SW + x).toNat, none⟩) (by show w.heap.size + 1 ≠ gp; omega) _, a4.drew.far (p := ⟨gp, ((l - up + (y : Int)) * SW + x).toNat, none⟩) (by show w.heap.size + 1 + 1 + 1 ≠ gp; omega) _, ax.drew.far (p := ⟨gp, ((l - up + (y : Int)) * SW + x).toNat, none⟩) (fun e => hgx e.symm) _, ArrO.conv (by simpa using KS.out.drew) fun i _ _ => by have h := BS.out i; rw [Int.toNat_natCast, HLX.out] at h; rw [Int.natCast_add]; exact h⟩
            case measure => simp [intOf]; omega
          · have SK := Lib.hid (fun i (h0 : 0 ≤ i) (h1 : i < SW * H) => rsP_skip (p := p) (q := sp) (l := ln 4) (up := up) (x := (x : Int)) (y := (y : Int)) (h := SH) (H := H) (W := SW) (i := i) (by omega) h0 h1 (by rw [Int.toNat_natCast, HLX.out]; exact hin))
            by_cases h0 : 0 ≤ l - up + (y : Int)
            · have hh2 : ¬ l - up + (y : Int) < H := fun h3 => hin ⟨h0, h3⟩
              have d1 : decide (0 ≤ l - up + (y : Int)) = true := decide_eq_true h0
              have d2 : decide (l - up + (y : Int) < H) = false := decide_eq_false hh2
              clear hin
              go_wp2_with fail
              go_roundw
              case rel => exact ⟨y + 1, by omega, by go_num, b7, a1, a2, a4, ax, ap.conv fun i i0 i1 => SK.out i i0 (by have := HNN.out; omega)⟩
              case measure => simp [intOf]; omega
            · have d1 : decide (0 ≤ l - up + (y : Int)) = false := decide_eq_false h0
              clear hin
              go_wp2_with fail
              go_roundw
              case rel => exact ⟨y + 1, by omega, by go_num, b7, a1, a2, a4, ax, ap.conv fun i i0 i1 => SK.out i i0 (by have := HNN.out; omega)⟩
              case measure => simp [intOf]; omega
        · have ey : (y : Int) = SH := by omega
          have ap2 := ap.conv (r := rsP SW SH p sp (ln 4) up ((x : Int) + 1) (0 : Nat)) fun i _ _ => by rw [ey]; exact rsP_col
          clear ap ey
          go_wp2_with fail
          go_roundw
          case rel => exact ⟨x + 1, by omega, by go_num, b7, a1, a2, a4, ax, ap2⟩
          case measure => simp [intOf]; omega
    · obtain rfl : x = M := by omega
      obtain ⟨s1, s2, s3⟩ := tx.cells3
      obtain ⟨f1, f2, f3⟩ := t4.frozen3
      obtain ⟨u1, u2, u3⟩ := t4.cells3
      have k5 := ((t4.set_ 0 (.int .i64 SW)).set_ 1 (.int .i64 H)).set_ 2 (.slice (some ⟨gp, 0, none⟩) n cp)
      obtain ⟨s4, s5, s6⟩ := Blk.cells3 (a := .int .i64 SW) (b := .int .i64 H) (c := .slice (some ⟨gp, 0, none⟩) n cp) k5
      go_wp2_with fail
      refine bodyPost_ret (v := .tuple #[.agg #[.int .i64 SW, .int .i64 H, .slice (some ⟨gp, 0, none⟩) n cp], .int .i64 0]) (by simp [results, Try.results45, go_sem, s4, s5, s6]) rfl ?_
      refine ⟨_, rfl, ⟨_, _, rfl, (fun a e => by cases e; show w.heap.size ≤ gp; omega), ?_⟩, by (repeat (first | exact Below.refl _ _ | assumption | refine Below.drew ?_ | refine below_drewN ?_ _ | refine Below.alloc ?_ (by first | omega | (simp; done) | (simp; omega)) _ | refine Below.setCell ?_ (by first | omega | (simp; done) | (simp; omega)) _ | refine below_setRow ?_ (by first | omega | (simp; done) | (simp; omega)) _ ))⟩
      have g1 : gp ≠ w.heap.size + 1 + 1 + 1 := by omega
      refine ArrO.arr (ArrO.far (ArrO.far (ArrO.far (tp.conv fun i _ _ => ?_) g1 _) g1 _) g1 _)
      rw [HM4.out]
      exact rsP_end (by omega)
end Go.Proofs.Ytdimlpcbbkokiaa

/- Plain: an image filled row by row by a condition; the strips as such images. No program in sight. -/
namespace Go.Proofs.Ytdimlpcbbkokiaa
open Go.RowKit
set_option linter.unusedVariables false
/-- ink where the condition holds -/
def fillB (C : Int → Int → Bool) (W : Int) : Int → Int := fun i => if C (i % W) (i / W) = true then 1 else 0
section
variable {C : Int → Int → Bool} {W H h x y i : Int}
theorem fillB_at (x0 : 0 ≤ x) (x1 : x < W) : fillB C W (y * W + x) = if C x y = true then 1 else 0 := by
  unfold fillB; rw [idx_mod x0 x1, idx_div x0 x1]
theorem fill_yes (x0 : 0 ≤ x) (x1 : x < W) (hc : C x y = true) : upd (byRow W (fillB C W) (fun _ => 0) y x) (y * W + x) 1 i = byRow W (fillB C W) (fun _ => 0) y (x + 1) i := by
  have h := byRow_set (q := fillB C W) (z := fun _ => 0) (y := y) (i := i) x0 x1
  rwa [fillB_at x0 x1, if_pos hc] at h
theorem fill_no (x0 : 0 ≤ x) (x1 : x < W) (hc : C x y = false) : byRow W (fillB C W) (fun _ => 0) y x i = byRow W (fillB C W) (fun _ => 0) y (x + 1) i :=
  byRow_skip x0 x1 (by rw [fillB_at x0 x1, if_neg (by simp [hc])])
theorem fillB_is01 : Is01 (fillB C W) := fun i => by unfold fillB; split <;> simp
end
/-- the reference's condition for a strip -/
def recC (W H : Int) (p : Int → Int) (l : Nat → Int) (up : Int) : Int → Int → Bool := fun x y => inkB W H p x (l x.toNat - up + y)
def resC (W H h : Int) (p q : Int → Int) (l : Nat → Int) (up : Int) : Int → Int → Bool := fun x y =>
  if 0 ≤ y - l x.toNat + up ∧ y - l x.toNat + up < h then inkB W h q x (y - l x.toNat + up) else inkB W H p x y
theorem recC_eq {W H up : Int} {n : Nat} {p : Int → Int} {l : Nat → Int} {i : Int} (hE : chk W H n p = 0) (hB : IsB p) (hW : 1 ≤ W) (h0 : 0 ≤ i) : recQ W H p l up i = fillB (recC W H p l up) W i := by
  obtain ⟨-, -, -, -, hn, hp⟩ := chk_ok hE
  have m0 : 0 ≤ i % W := Int.emod_nonneg _ (by omega)
  have m1 : i % W < W := Int.emod_lt_of_pos _ (by omega)
  unfold recQ fillB recC
  by_cases c : 0 ≤ l (i % W).toNat - up + i / W ∧ l (i % W).toNat - up + i / W < H
  · rw [if_pos c, inkB_in m0 m1 c.1 c.2]
    obtain ⟨i1, i2, -⟩ := idx_lt m0 m1 c.1 c.2
    have a := hp _ i1 (by rw [hn, Int.mul_comm W H]; exact i2)
    have b := (hB ((l (i % W).toNat - up + i / W) * W + i % W)).1
    by_cases e : p ((l (i % W).toNat - up + i / W) * W + i % W) = 1
    · rw [if_pos (decide_eq_true e), e]
    · rw [if_neg (by simp [e])]; omega
  · rw [if_neg c, if_neg (fun h => c ⟨(inkB_iff.1 h).2.2.1, (inkB_iff.1 h).2.2.2.1⟩)]
theorem resC_eq {W H h up : Int} {n ns : Nat} {p q : Int → Int} {l : Nat → Int} {i : Int} (hE : chk W H n p = 0) (hS : chk W h ns q = 0) (hB : IsB p) (hBq : IsB q) (hW : 1 ≤ W) (h0 : 0 ≤ i) (hi : i < W * H) : resQ W H h p q l up i = fillB (resC W H h p q l up) W i := by
  obtain ⟨-, -, -, -, hn, hp⟩ := chk_ok hE
  obtain ⟨-, -, -, -, hns, hq⟩ := chk_ok hS
  have m0 : 0 ≤ i % W := Int.emod_nonneg _ (by omega)
  have m1 : i % W < W := Int.emod_lt_of_pos _ (by omega)
  have h2 : 0 ≤ i / W := Int.ediv_nonneg h0 (by omega)
  have h3 : i / W < H := Int.ediv_lt_of_lt_mul (by omega) (by rw [Int.mul_comm]; exact hi)
  have e1 : i / W * W + i % W = i := by have := Int.emod_add_mul_ediv i W; rw [Int.mul_comm] at this; omega
  unfold resQ fillB resC
  by_cases c : 0 ≤ i / W - l (i % W).toNat + up ∧ i / W - l (i % W).toNat + up < h
  · rw [if_pos c, if_pos c, inkB_in m0 m1 c.1 c.2]
    obtain ⟨i1, i2, -⟩ := idx_lt m0 m1 c.1 c.2
    have a := hq _ i1 (by rw [hns, Int.mul_comm W h]; exact i2)
    have b := (hBq ((i / W - l (i % W).toNat + up) * W + i % W)).1
    by_cases e : q ((i / W - l (i % W).toNat + up) * W + i % W) = 1
    · rw [if_pos (decide_eq_true e), e]
    · rw [if_neg (by simp [e])]; omega
  · rw [if_neg c, if_neg c, inkB_in m0 m1 h2 h3, e1]
    have a := hp i h0 (by omega)
    have b := (hB i).1
    by_cases e : p i = 1
    · rw [if_pos (decide_eq_true e), e]
    · rw [if_neg (by simp [e])]; omega
end Go.Proofs.Ytdimlpcbbkokiaa

/- The program's Rectify and Restore, each in one piece. Written by gen/t40.py. -/
namespace Go.Proofs.Ytdimlpcbbkokiaa
open Go.RowKit Go.Shelf
set_option linter.unusedVariables false
/-- which error Rectify returns -/
def recE (W H : Int) (n : Nat) (p : Int → Int) (K : Nat) (m : Nat → Nat) (ln : Nat → Nat → Int) (up down : Int) : Int :=
  if stChk W H n p K m ln ≠ 0 then stChk W H n p K m ln else if up < 0 ∨ down < 0 then 1 else if 639 < up ∨ 639 - up < down then 2 else 0
theorem stChk_ok {W H : Int} {n : Nat} {p : Int → Int} {K : Nat} {m : Nat → Nat} {ln : Nat → Nat → Int} (h : stChk W H n p K m ln = 0) : chk W H n p = 0 ∧ StP W H K m ln := by
  unfold stChk at h
  by_cases hc : chk W H n p ≠ 0
  · rw [if_pos hc] at h; exact absurd h hc
  · rw [if_neg hc] at h
    refine ⟨Classical.not_not.1 hc, ?_⟩
    by_cases hs : stFits W H K m ln = true
    · exact stFits_iff.1 hs
    · rw [if_neg hs] at h; omega
theorem StP.pos {W H : Int} {K : Nat} {m : Nat → Nat} {ln : Nat → Nat → Int} (h : StP W H K m ln) : 1 ≤ W ∧ 1 ≤ H := by
  obtain ⟨-, h, -⟩ := h
  exact ⟨(isPathB_iff.1 (h 0 (by omega))).1.1, (isPathB_iff.1 (h 0 (by omega))).1.2.1⟩
theorem recE_ok {W H : Int} {n : Nat} {p : Int → Int} {K : Nat} {m : Nat → Nat} {ln : Nat → Nat → Int} {up down : Int} (h : recE W H n p K m ln up down = 0) : stChk W H n p K m ln = 0 ∧ 0 ≤ up ∧ 0 ≤ down ∧ up + down + 1 ≤ 640 := by
  unfold recE at h
  by_cases h1 : stChk W H n p K m ln ≠ 0
  · rw [if_pos h1] at h; exact absurd h h1
  · rw [if_neg h1] at h
    by_cases h2 : up < 0 ∨ down < 0
    · rw [if_pos h2] at h; omega
    · rw [if_neg h2] at h
      by_cases h3 : 639 < up ∨ 639 - up < down
      · rw [if_pos h3] at h; omega
      · exact ⟨Classical.not_not.1 h1, by omega, by omega, by omega⟩
theorem rectify_all (W H : Int) (A AL : Option Addr) (n c K cL : Nat) (p : Int → Int) (m : Nat → Nat) (ln : Nat → Nat → Int) (up down : Int) (E W2 H2 : Int) (N : Nat) (w : World) (hA : ArrB w w.heap.size A n p) (hn : n ≤ maxLen) (hB : IsB p) (hL : Lines w w.heap.size AL K m ln) (hm : ∀ i, i < K → m i ≤ maxLen) (hE : recE W H n p K m ln up down = E) (hs : RSize E W (up + down + 1) W2 H2 N) :
    Calls Try.prog 44 #[.agg #[.int .i64 W, .int .i64 H, .slice A n c], .agg #[.slice AL K cL], .int .i64 up, .int .i64 down] w (New w fun v w' => OutT w w' E W2 H2 N (recQ W H p (ln 4) up) v) := by
  by_cases h0 : E = 0
  · subst h0
    obtain ⟨h1, h2, h3, h4⟩ := recE_ok hE
    obtain ⟨hc, hP⟩ := stChk_ok h1
    obtain ⟨rfl, rfl, hN⟩ := hs.1 rfl
    exact (rectify_ok W2 H A AL n c K cL N p m ln up down _ w hA hn hB hL hm h1 hc hP h2 h3 rfl h4 hN).mono fun e w' ⟨v, he, ⟨g, hv, ho⟩, hb⟩ => ⟨v, he, by rw [hv]; exact ho.outT, hb⟩
  · have key : Calls Try.prog 44 #[.agg #[.int .i64 W, .int .i64 H, .slice A n c], .agg #[.slice AL K cL], .int .i64 up, .int .i64 down] w fun e w' => e = .returned (.tuple #[noImg, .int .i64 E]) ∧ Below w.heap.size w w' := by
      unfold recE at hE
      by_cases h1 : stChk W H n p K m ln ≠ 0
      · rw [if_pos h1] at hE
        exact rectify_chk W H A AL n c K cL p m ln up down E w hA hn hL hm hE h0
      · rw [if_neg h1] at hE
        have hz := Classical.not_not.1 h1
        by_cases h2 : up < 0 ∨ down < 0
        · rw [if_pos h2] at hE
          subst hE
          exact rectify_arg W H A AL n c K cL p m ln up down w hA hn hL hm hz h2
        · rw [if_neg h2] at hE
          by_cases h3 : 639 < up ∨ 639 - up < down
          · rw [if_pos h3] at hE
            subst hE
            by_cases h4 : 640 ≤ up ∨ 640 ≤ down
            · exact rectify_size1 W H A AL n c K cL p m ln up down w hA hn hL hm hz (by omega) (by omega) h4
            · exact rectify_size2 W H A AL n c K cL p m ln up down w hA hn hL hm hz (by omega) (by omega) (by omega) (by omega) (by omega)
          · rw [if_neg h3] at hE; omega
    exact key.mono fun e w' ⟨he, hb⟩ => ⟨_, he, outT_bad hs h0, hb⟩
theorem resE_ok {W H SW SH : Int} {n sn : Nat} {p sp : Int → Int} {K : Nat} {m : Nat → Nat} {ln : Nat → Nat → Int} {up : Int} (h : resE W H n p SW SH sn sp K m ln up = 0) :
    chk W H n p = 0 ∧ chk SW SH sn sp = 0 ∧ StP W H K m ln ∧ 0 ≤ up ∧ up < SH ∧ SW = W := by
  unfold resE at h
  by_cases h1 : orE (chk W H n p) (chk SW SH sn sp) ≠ 0
  · rw [if_pos h1] at h; exact absurd h h1
  · rw [if_neg h1] at h
    obtain ⟨e1, e2⟩ := orE_zero.1 (Classical.not_not.1 h1)
    by_cases h2 : stFits W H K m ln = false
    · rw [if_pos h2] at h; omega
    · rw [if_neg h2] at h
      by_cases h3 : up < 0 ∨ SH ≤ up
      · rw [if_pos h3] at h; omega
      · rw [if_neg h3] at h
        by_cases h4 : SW ≠ W
        · rw [if_pos h4] at h; omega
        · exact ⟨e1, e2, stFits_iff.1 (by simpa using h2), by omega, by omega, Classical.not_not.1 h4⟩
theorem restore_all (W H SW SH : Int) (A SA AL : Option Addr) (n c sn sc K cL : Nat) (p sp : Int → Int) (m : Nat → Nat) (ln : Nat → Nat → Int) (up : Int) (E W2 H2 : Int) (N : Nat) (w : World) (hA : ArrB w w.heap.size A n p) (hn : n ≤ 1000000) (hS : ArrB w w.heap.size SA sn sp) (hsn : sn ≤ maxLen) (hL : Lines w w.heap.size AL K m ln) (hm : ∀ i, i < K → m i ≤ maxLen) (hE : resE W H n p SW SH sn sp K m ln up = E) (hs : RSize E W H W2 H2 N) :
    Calls Try.prog 45 #[.agg #[.int .i64 W, .int .i64 H, .slice A n c], .agg #[.int .i64 SW, .int .i64 SH, .slice SA sn sc], .agg #[.slice AL K cL], .int .i64 up] w (New w fun v w' => OutT w w' E W2 H2 N (resQ W H SH p sp (ln 4) up) v) := by
  have hn2 : n ≤ maxLen := by unfold maxLen; omega
  by_cases h0 : E = 0
  · subst h0
    obtain ⟨rfl, rfl, hN⟩ := hs.1 rfl
    have hnn := (chk_ok (resE_ok hE).1).2.2.2.2.1
    obtain rfl : N = n := by omega
    exact restore_ok W2 H2 SW SH A SA AL N c sn sc K cL p sp m ln up w hA hn2 hS hsn hL hm hn hE
  · exact (restore_bad W H SW SH A SA AL n c sn sc K cL p sp m ln up w hA hn2 hS hsn hL hm E hE h0).mono fun e w' ⟨he, hb⟩ => ⟨_, he, outT_bad hs h0, hb⟩
end Go.Proofs.Ytdimlpcbbkokiaa

/- Walk: the reference's Rectify. Written by gen/t40.py. -/
namespace Go.Proofs.Ytdimlpcbbkokiaa
open Go.RowKit Go.Shelf
set_option linter.unusedVariables false
attribute [local go_sem] Oper.semAt_some
set_option maxRecDepth 100000 in
set_option maxHeartbeats 4000000 in
theorem rrectify_bad (W H : Int) (A AL : Option Addr) (n c K cL : Nat) (p : Int → Int) (m : Nat → Nat) (ln : Nat → Nat → Int) (up down : Int) (E : Int) (w : World) (hA : ArrB w w.heap.size A n p) (hn : n ≤ maxLen) (hB : IsB p) (hL : Lines w w.heap.size AL K m ln) (hm : ∀ i, i < K → m i ≤ maxLen) (hE : recE W H n p K m ln up down = E) (hE0 : E ≠ 0) :
    Calls Try.prog 82 #[.agg #[.int .i64 W, .int .i64 H, .slice A n c], .agg #[.slice AL K cL], .int .i64 up, .int .i64 down] w fun e w' => e = .returned (.tuple #[noImg, .int .i64 E]) ∧ Below w.heap.size w w' := by
  have HE := Lib.hid hE; have HE0 := Lib.hid hE0
  clear hE hE0
  have CK := Lib.hid fun w' hA' hL' => rcheck_st W H A AL n c K cL p m ln (stChk W H n p K m ln) w' hA' hn hB hL' hm rfl
  generalize hz : stChk W H n p K m ln = z at *
  have HZ := Lib.hid hz
  clear hz
  have b1 : Below w.heap.size w (((w.alloc (.cells #[.int .i64 W, .int .i64 H, .slice A n c] 24)).alloc (.cells #[.slice AL K cL] 54)).alloc (.cells #[.int .i64 0, .int .i64 0, .slice none 0 0] 24)) := by (repeat (first | exact Below.refl _ _ | assumption | refine Below.drew ?_ | refine below_drewN ?_ _ | refine Below.alloc ?_ (by first | omega | (simp; done) | (simp; omega)) _ | refine Below.setCell ?_ (by first | omega | (simp; done) | (simp; omega)) _ | refine below_setRow ?_ (by first | omega | (simp; done) | (simp; omega)) _ ))
  have k3 : Blk (((w.alloc (.cells #[.int .i64 W, .int .i64 H, .slice A n c] 24)).alloc (.cells #[.slice AL K cL] 54)).alloc (.cells #[.int .i64 0, .int .i64 0, .slice none 0 0] 24)) (w.heap.size + 1 + 1) 24 #[.int .i64 0, .int .i64 0, .slice none 0 0] := Blk.new' (by simp) _ _
  have k1 : Blk (((w.alloc (.cells #[.int .i64 W, .int .i64 H, .slice A n c] 24)).alloc (.cells #[.slice AL K cL] 54)).alloc (.cells #[.int .i64 0, .int .i64 0, .slice none 0 0] 24)) w.heap.size 24 #[.int .i64 W, .int .i64 H, .slice A n c] := ((Blk.new _ _ _).alloc _).alloc _
  have k2 : Blk (((w.alloc (.cells #[.int .i64 W, .int .i64 H, .slice A n c] 24)).alloc (.cells #[.slice AL K cL] 54)).alloc (.cells #[.int .i64 0, .int .i64 0, .slice none 0 0] 24)) (w.heap.size + 1) 54 #[.slice AL K cL] := (Blk.new' (by simp) _ _).alloc _
  go_enter Try.func82, Try.ntmps82
  go_wp2_with fail
  generalize (((w.alloc (.cells #[.int .i64 W, .int .i64 H, .slice A n c] 24)).alloc (.cells #[.slice AL K cL] 54)).alloc (.cells #[.int .i64 0, .int .i64 0, .slice none 0 0] 24)) = w1 at *
  refine (CK.out _ (hA.to b1) (hL.below b1)).mono ?_
  rintro e w2 ⟨rfl, hb2⟩
  have b2 := below_call b1 b1.size hb2
  replace k1 := k1.below' hb2
  replace k2 := k2.below' hb2
  replace k3 := k3.below' hb2
  clear hb2 b1 CK
  obtain ⟨p1, p2, p3⟩ := k1.cells3
  have p4 := k2.cells0
  have RE : Hid (E = if z ≠ 0 then z else if up < 0 ∨ down < 0 then 1 else if 639 < up ∨ 639 - up < down then 2 else 0) := by
    show _ = _
    rw [← HE.out]; unfold recE; rw [HZ.out]
  by_cases h0 : z = 0
  · subst h0
    by_cases h1 : up < 0 ∨ down < 0
    · have hE : E = 1 := by rw [RE.out, if_neg (by simp), if_pos h1]
      subst hE
      clear RE HE
      by_cases hu : up < 0
      · have d1 : decide (up < 0) = true := decide_eq_true hu
        clear h1
        obtain ⟨r1, r2, r3⟩ := k3.cells3
        obtain ⟨f1, f2, f3⟩ := k3.frozen3
        have k9 := ((k3.set_ 0 (.int .i64 0)).set_ 1 (.int .i64 0)).set_ 2 (.slice none 0 0)
        obtain ⟨s1, s2, s3⟩ := Blk.cells3 (a := .int .i64 0) (b := .int .i64 0) (c := .slice none 0 0) k9
        go_wp2_with fail
        refine bodyPost_ret (v := .tuple #[noImg, .int .i64 1]) (by simp [results, Try.results82, go_sem, noImg, s1, s2, s3]) rfl ?_
        exact ⟨rfl, by (repeat (first | with_reducible exact Below.refl _ _ | with_reducible assumption | with_reducible refine Below.drew ?_ | (with_reducible refine below_alloc' ?_ ?_; focus (first | omega | (simp; done) | (simp; omega))) | (with_reducible refine below_fill3' ?_ ?_; focus omega) | (with_reducible refine below_setCell' ?_ ?_; focus (first | omega | (simp; done) | (simp; omega))) | (with_reducible apply below_call'; (focus (with_reducible assumption)); (focus (first | omega | (simp; done) | (simp; omega))))))⟩
      · have d1 : decide (up < 0) = false := decide_eq_false hu
        have hd : down < 0 := by omega
        have d2 : decide (down < 0) = true := decide_eq_true hd
        clear h1
        obtain ⟨r1, r2, r3⟩ := k3.cells3
        obtain ⟨f1, f2, f3⟩ := k3.frozen3
        have k9 := ((k3.set_ 0 (.int .i64 0)).set_ 1 (.int .i64 0)).set_ 2 (.slice none 0 0)
        obtain ⟨s1, s2, s3⟩ := Blk.cells3 (a := .int .i64 0) (b := .int .i64 0) (c := .slice none 0 0) k9
        go_wp2_with fail
        refine bodyPost_ret (v := .tuple #[noImg, .int .i64 1]) (by simp [results, Try.results82, go_sem, noImg, s1, s2, s3]) rfl ?_
        exact ⟨rfl, by (repeat (first | with_reducible exact Below.refl _ _ | with_reducible assumption | with_reducible refine Below.drew ?_ | (with_reducible refine below_alloc' ?_ ?_; focus (first | omega | (simp; done) | (simp; omega))) | (with_reducible refine below_fill3' ?_ ?_; focus omega) | (with_reducible refine below_setCell' ?_ ?_; focus (first | omega | (simp; done) | (simp; omega))) | (with_reducible apply below_call'; (focus (with_reducible assumption)); (focus (first | omega | (simp; done) | (simp; omega))))))⟩
    · have hE : E = 2 := by
        rw [RE.out, if_neg (by simp), if_neg h1]
        by_cases h3 : 639 < up ∨ 639 - up < down
        · rw [if_pos h3]
        · exact absurd (by rw [RE.out, if_neg (by simp), if_neg h1, if_neg h3]) HE0.out
      have h3 : 639 < up ∨ 639 - up < down := by
        by_cases h3 : 639 < up ∨ 639 - up < down
        · exact h3
        · exact absurd (by rw [RE.out, if_neg (by simp), if_neg h1, if_neg h3]) HE0.out
      subst hE
      have d1 : decide (up < 0) = false := decide_eq_false (by omega)
      have d2 : decide (down < 0) = false := decide_eq_false (by omega)
      have u0 : 0 ≤ up := by omega
      have u1 : 0 ≤ down := by omega
      clear RE HE h1
      by_cases hu : 639 < up
      · have d3 : decide (639 < up) = true := decide_eq_true hu
        clear h3
        obtain ⟨r1, r2, r3⟩ := k3.cells3
        obtain ⟨f1, f2, f3⟩ := k3.frozen3
        have k9 := ((k3.set_ 0 (.int .i64 0)).set_ 1 (.int .i64 0)).set_ 2 (.slice none 0 0)
        obtain ⟨s1, s2, s3⟩ := Blk.cells3 (a := .int .i64 0) (b := .int .i64 0) (c := .slice none 0 0) k9
        go_wp2_with fail
        refine bodyPost_ret (v := .tuple #[noImg, .int .i64 2]) (by simp [results, Try.results82, go_sem, noImg, s1, s2, s3]) rfl ?_
        exact ⟨rfl, by (repeat (first | with_reducible exact Below.refl _ _ | with_reducible assumption | with_reducible refine Below.drew ?_ | (with_reducible refine below_alloc' ?_ ?_; focus (first | omega | (simp; done) | (simp; omega))) | (with_reducible refine below_fill3' ?_ ?_; focus omega) | (with_reducible refine below_setCell' ?_ ?_; focus (first | omega | (simp; done) | (simp; omega))) | (with_reducible apply below_call'; (focus (with_reducible assumption)); (focus (first | omega | (simp; done) | (simp; omega))))))⟩
      · have d3 : decide (639 < up) = false := decide_eq_false hu
        have hd : 639 - up < down := by omega
        have d4 : decide (639 - up < down) = true := decide_eq_true hd
        clear h3
        obtain ⟨r1, r2, r3⟩ := k3.cells3
        obtain ⟨f1, f2, f3⟩ := k3.frozen3
        have k9 := ((k3.set_ 0 (.int .i64 0)).set_ 1 (.int .i64 0)).set_ 2 (.slice none 0 0)
        obtain ⟨s1, s2, s3⟩ := Blk.cells3 (a := .int .i64 0) (b := .int .i64 0) (c := .slice none 0 0) k9
        go_wp2_with fail
        refine bodyPost_ret (v := .tuple #[noImg, .int .i64 2]) (by simp [results, Try.results82, go_sem, noImg, s1, s2, s3]) rfl ?_
        exact ⟨rfl, by (repeat (first | with_reducible exact Below.refl _ _ | with_reducible assumption | with_reducible refine Below.drew ?_ | (with_reducible refine below_alloc' ?_ ?_; focus (first | omega | (simp; done) | (simp; omega))) | (with_reducible refine below_fill3' ?_ ?_; focus omega) | (with_reducible refine below_setCell' ?_ ?_; focus (first | omega | (simp; done) | (simp; omega))) | (with_reducible apply below_call'; (focus (with_reducible assumption)); (focus (first | omega | (simp; done) | (simp; omega))))))⟩
  · have hE : E = z := by rw [RE.out, if_pos h0]
    subst hE
    have hz2 : (E != 0) = true := by simp [h0]
    have HH := Lib.hid h0
    clear h0 RE HE
    obtain ⟨r1, r2, r3⟩ := k3.cells3
    obtain ⟨f1, f2, f3⟩ := k3.frozen3
    have k9 := ((k3.set_ 0 (.int .i64 0)).set_ 1 (.int .i64 0)).set_ 2 (.slice none 0 0)
    obtain ⟨s1, s2, s3⟩ := Blk.cells3 (a := .int .i64 0) (b := .int .i64 0) (c := .slice none 0 0) k9
    go_wp2_with fail
    refine bodyPost_ret (v := .tuple #[noImg, .int .i64 E]) (by simp [results, Try.results82, go_sem, noImg, s1, s2, s3]) rfl ?_
    exact ⟨rfl, by (repeat (first | with_reducible exact Below.refl _ _ | with_reducible assumption | with_reducible refine Below.drew ?_ | (with_reducible refine below_alloc' ?_ ?_; focus (first | omega | (simp; done) | (simp; omega))) | (with_reducible refine below_fill3' ?_ ?_; focus omega) | (with_reducible refine below_setCell' ?_ ?_; focus (first | omega | (simp; done) | (simp; omega))) | (with_reducible apply below_call'; (focus (with_reducible assumption)); (focus (first | omega | (simp; done) | (simp; omega))))))⟩

set_option maxRecDepth 100000 in
set_option maxHeartbeats 4000000 in
theorem rrectify_ok (W H : Int) (A AL : Option Addr) (n c K cL : Nat) (p : Int → Int) (m : Nat → Nat) (ln : Nat → Nat → Int) (up down : Int) (h : Int) (N : Nat) (w : World) (hA : ArrB w w.heap.size A n p) (hn : n ≤ maxLen) (hB : IsB p) (hL : Lines w w.heap.size AL K m ln) (hm : ∀ i, i < K → m i ≤ maxLen) (hE : recE W H n p K m ln up down = 0) (hh : h = up + down + 1) (hN : (N : Int) = W * h) :
    Calls Try.prog 82 #[.agg #[.int .i64 W, .int .i64 H, .slice A n c], .agg #[.slice AL K cL], .int .i64 up, .int .i64 down] w (New w fun v w' => OutT w w' 0 W h N (fillB (recC W H p (ln 4) up) W) v) := by
  obtain ⟨e1, e2, e3, e4⟩ := recE_ok hE
  obtain ⟨hc, hP⟩ := stChk_ok e1
  obtain ⟨hW1, hW2, hH1, hH2, hnn, -⟩ := chk_ok hc
  obtain ⟨W1, H1⟩ := hP.pos
  obtain ⟨rfl, hpath, -⟩ := hP
  obtain ⟨⟨-, -, m4⟩, hst2⟩ := isPathB_iff.1 (hpath 4 (by omega))
  have PB := Lib.hid fun (x : Nat) (hx : (x : Int) < m 4) => stepB_iff.1 (hst2 x (by omega) hx)
  have NO := Lib.hid fun w' => rnew_any W h N w' hW1 hW2 (by omega) (by omega) hN
  have HM4 := Lib.hid m4; have HNN := Lib.hid hnn; have HN := Lib.hid hN; have HHH := Lib.hid hh
  have nb := (area_bd (W := W) (H := h) hW1 hW2 (by omega) (by omega)).2
  have d1 : decide (up < 0) = false := decide_eq_false (by omega)
  have d2 : decide (down < 0) = false := decide_eq_false (by omega)
  have d3 : decide (639 < up) = false := decide_eq_false (by omega)
  have d4 : decide (639 - up < down) = false := decide_eq_false (by omega)
  have v1 : IntKind.i64.wrap (up + down) = up + down := IntWalk.i64_in _ (by omega)
  have v2 : IntKind.i64.wrap (up + down + 1) = h := by rw [hh]; exact IntWalk.i64_in _ (by omega)
  have v3 : IntKind.i64.wrap (639 - up) = 639 - up := IntWalk.i64_in _ (by omega)
  have hh2 : 1 ≤ h ∧ h ≤ 640 := by omega
  have HE1 := Lib.hid e1
  have ev : up + down + 1 = h := hh.symm
  clear hE e1 hpath hst2 m4 hnn hN hh hc
  have CK := Lib.hid fun w' hA' hL' => rcheck_st W H A AL n c 5 cL p m ln (stChk W H n p 5 m ln) w' hA' hn hB hL' hm rfl
  generalize hz : stChk W H n p 5 m ln = z at *
  have HZ := Lib.hid hz
  clear hz
  have b1 : Below w.heap.size w (((w.alloc (.cells #[.int .i64 W, .int .i64 H, .slice A n c] 24)).alloc (.cells #[.slice AL 5 cL] 54)).alloc (.cells #[.int .i64 0, .int .i64 0, .slice none 0 0] 24)) := by (repeat (first | exact Below.refl _ _ | assumption | refine Below.drew ?_ | refine below_drewN ?_ _ | refine Below.alloc ?_ (by first | omega | (simp; done) | (simp; omega)) _ | refine Below.setCell ?_ (by first | omega | (simp; done) | (simp; omega)) _ | refine below_setRow ?_ (by first | omega | (simp; done) | (simp; omega)) _ ))
  have k3 : Blk (((w.alloc (.cells #[.int .i64 W, .int .i64 H, .slice A n c] 24)).alloc (.cells #[.slice AL 5 cL] 54)).alloc (.cells #[.int .i64 0, .int .i64 0, .slice none 0 0] 24)) (w.heap.size + 1 + 1) 24 #[.int .i64 0, .int .i64 0, .slice none 0 0] := Blk.new' (by simp) _ _
  have k1 : Blk (((w.alloc (.cells #[.int .i64 W, .int .i64 H, .slice A n c] 24)).alloc (.cells #[.slice AL 5 cL] 54)).alloc (.cells #[.int .i64 0, .int .i64 0, .slice none 0 0] 24)) w.heap.size 24 #[.int .i64 W, .int .i64 H, .slice A n c] := ((Blk.new _ _ _).alloc _).alloc _
  have k2 : Blk (((w.alloc (.cells #[.int .i64 W, .int .i64 H, .slice A n c] 24)).alloc (.cells #[.slice AL 5 cL] 54)).alloc (.cells #[.int .i64 0, .int .i64 0, .slice none 0 0] 24)) (w.heap.size + 1) 54 #[.slice AL 5 cL] := (Blk.new' (by simp) _ _).alloc _
  go_enter Try.func82, Try.ntmps82
  go_wp2_with fail
  generalize (((w.alloc (.cells #[.int .i64 W, .int .i64 H, .slice A n c] 24)).alloc (.cells #[.slice AL 5 cL] 54)).alloc (.cells #[.int .i64 0, .int .i64 0, .slice none 0 0] 24)) = w1 at *
  refine (CK.out _ (hA.to b1) (hL.below b1)).mono ?_
  rintro e w2 ⟨rfl, hb2⟩
  have b2 := below_call b1 b1.size hb2
  replace k1 := k1.below' hb2
  replace k2 := k2.below' hb2
  replace k3 := k3.below' hb2
  clear hb2 b1 CK
  obtain ⟨p1, p2, p3⟩ := k1.cells3
  have p4 := k2.cells0
  obtain rfl : z = 0 := HE1.out
  go_wp2_with fail
  refine (NO.out _).mono ?_
  rintro e w3 ⟨_, rfl, ⟨gp, rfl, hgp, kp⟩, hb3⟩
  have HV := Lib.hid ev
  clear ev d1 d2 d3 d4 v1 v2 v3 p1 p2 p3 p4 NO
  have z2 := k3.lt
  have z3 := hb3.size
  have z4 := kp.lt
  have b3 := below_call b2 b2.size hb3
  have b5 : Below w.heap.size w (w3.alloc (.cells #[.int .i64 W, .int .i64 h, .slice (some ⟨gp, 0, none⟩) N N] 24)) := b3.alloc b3.size _
  replace k1 := (k1.below' hb3).alloc (.cells #[.int .i64 W, .int .i64 h, .slice (some ⟨gp, 0, none⟩) N N] 24)
  replace k2 := (k2.below' hb3).alloc (.cells #[.int .i64 W, .int .i64 h, .slice (some ⟨gp, 0, none⟩) N N] 24)
  replace k3 := (k3.below' hb3).alloc (.cells #[.int .i64 W, .int .i64 h, .slice (some ⟨gp, 0, none⟩) N N] 24)
  have kx := Blk.new w3 24 #[.int .i64 W, .int .i64 h, .slice (some ⟨gp, 0, none⟩) N N]
  obtain ⟨C, hC⟩ : ∃ C, C = recC W H p (ln 4) up := ⟨_, rfl⟩
  have HC := Lib.hid hC
  have kp2 : Blk (w3.alloc (.cells #[.int .i64 W, .int .i64 h, .slice (some ⟨gp, 0, none⟩) N N] 24)) gp 5 (u8s N (byRow W (fillB C W) (fun _ => 0) (0 : Nat) (0 : Nat))) := (kp.alloc _).u8conv fun i i0 _ => (byRow_zero (W := W) (q := fillB C W) (z := fun _ => 0) (by omega) i0).symm
  have hgx : gp ≠ w3.heap.size := by omega
  obtain ⟨bA, oA, A4, c4, rfl, hbA, hcA, haA⟩ := hL.at_ (i := 4) (by omega)
  obtain ⟨b5', o5, rfl, hb5, hc5⟩ := ArrI.fn haA (by have := HM4.out; omega)
  have HC5 := Lib.hid hc5
  have HCA := Lib.hid hcA
  clear hC hc5 hcA kp b2 b3 hb3
  go_wp2_with fail
  generalize w3.alloc (.cells #[.int .i64 W, .int .i64 h, .slice (some ⟨gp, 0, none⟩) N N] 24) = w5 at *
  generalize w3.heap.size = gx at *
  go_loopw [12] (fun s wr => ∃ y : Nat, (y : Int) ≤ h ∧ s = .int .i64 y ∧ Below w.heap.size w wr ∧ Blk wr w.heap.size 24 #[.int .i64 W, .int .i64 H, .slice A n c] ∧ Blk wr (w.heap.size + 1) 54 #[.slice (some ⟨bA, oA, none⟩) 5 cL] ∧ Blk wr (w.heap.size + 1 + 1) 24 #[.int .i64 0, .int .i64 0, .slice none 0 0] ∧ Blk wr gx 24 #[.int .i64 W, .int .i64 h, .slice (some ⟨gp, 0, none⟩) N N] ∧ Blk wr gp 5 (u8s N (byRow W (fillB C W) (fun _ => 0) y (0 : Nat)))) (fun s _ => (h - intOf s).toNat)
  case atStart => exact ⟨0, by omega, rfl, b5, k1, k2, k3, kx, kp2⟩
  case round =>
    obtain ⟨y, hy, rfl, b6, t1, t2, t3, tx, tp⟩ := hrel
    clear b5 k1 k2 k3 kx kp2
    obtain ⟨x1, x2, x3⟩ := tx.cells3
    by_cases yl : (y : Int) < h
    · go_wp2_with fail
      go_loopw [13] (fun s wr => ∃ x : Nat, (x : Int) ≤ W ∧ s = .int .i64 x ∧ Below w.heap.size w wr ∧ Blk wr w.heap.size 24 #[.int .i64 W, .int .i64 H, .slice A n c] ∧ Blk wr (w.heap.size + 1) 54 #[.slice (some ⟨bA, oA, none⟩) 5 cL] ∧ Blk wr (w.heap.size + 1 + 1) 24 #[.int .i64 0, .int .i64 0, .slice none 0 0] ∧ Blk wr gx 24 #[.int .i64 W, .int .i64 h, .slice (some ⟨gp, 0, none⟩) N N] ∧ Blk wr gp 5 (u8s N (byRow W (fillB C W) (fun _ => 0) y x))) (fun s _ => (W - intOf s).toNat)
      case atStart => exact ⟨0, by omega, rfl, b6, t1, t2, t3, tx, tp⟩
      case round =>
        obtain ⟨x, hx, rfl, b7, a1, a2, a3, ax, ap⟩ := hrel
        clear x1 x2 x3 b6 t1 t2 t3 tx tp
        obtain ⟨x1, x2, x3⟩ := ax.cells3
        obtain ⟨p1, p2, p3⟩ := a1.cells3
        have p4 := a2.cells0
        by_cases xl : (x : Int) < W
        · have p5 := (b7.cell (p := ⟨bA, oA + 4, none⟩) hbA).trans HCA.out
          have xm : (x : Int) < m 4 := by have := HM4.out; omega
          have lx := HC5.out x (by omega) xm
          rw [Int.toNat_natCast] at lx
          have p6 := (b7.cell (p := ⟨b5', o5 + x, none⟩) hb5).trans lx
          obtain ⟨pb1, pb2, -⟩ := PB.out x xm
          rw [Int.toNat_natCast] at pb1 pb2
          generalize hlx : ln 4 x = l at *
          have HLX := Lib.hid hlx
          have v4 : IntKind.i64.wrap (l - up) = l - up := IntWalk.i64_in _ (by have := HV.out; omega)
          have v5 : IntKind.i64.wrap (l - up + y) = l - up + y := IntWalk.i64_in _ (by have := HV.out; omega)
          have IK := Lib.hid fun w' hA' => rink_any W H A n c p x (l - up + y) w' hA' hW2 hH2 HNN.out
          have CE : Hid (C x y = inkB W H p x (l - up + y)) := by
            show _ = _
            rw [HC.out]; unfold recC; rw [Int.toNat_natCast, HLX.out]
          have AB := Lib.hid ((ArrB.below hA b7).more b7.size)
          have g3 : (5 : Nat) ≤ 5 := Nat.le_refl _
          clear lx hlx
          cases hi : inkB W H p x (l - up + y) with
          | true =>
            rw [hi] at IK CE
            clear hi
            go_wp2_with fail
            go_still_tail 13, (by kernel_rfl)
            change wpList _ _ _ _ _ wr.drew
            have AB2 := Lib.hid (show ArrB wr.drew wr.drew.heap.size A n p from AB.out)
            have c1 := a1.drew; have c2 := a2.drew; have c3 := a3.drew; have cx := ax.drew; have cp := ap.drew; have cb := b7.drew
            clear v4 v5 a1 a2 a3 ax ap b7 AB
            generalize wr.drew = w6 at *
            go_wp2_with fail
            refine (IK.out _ AB2.out).mono ?_
            rintro e w7 ⟨rfl, hb7⟩
            replace c1 := c1.below' hb7; replace c2 := c2.below' hb7; replace c3 := c3.below' hb7; replace cx := cx.below' hb7; replace cp := cp.below' hb7; replace cb := below_call cb cb.size hb7
            clear hb7 p1 p2 p3 p4 p5 p6 x1 x2 x3
            obtain ⟨q1, q2, q3⟩ := cx.cells3
            go_wp2_with fail
            refine (rset_any W h gp N N 5 _ x y _ cp (by omega) xl (by omega) yl hW2 hh2.2 HN.out).mono ?_
            rintro e w8 ⟨rfl, hk8, hg8⟩
            have zz := cb.size
            replace c1 := c1.grown hg8 (by simp; omega); replace c2 := c2.grown hg8 (by simp; omega); replace c3 := c3.grown hg8 (by simp; omega); replace cx := cx.grown hg8 (by simp; omega)
            have cb2 : Below w.heap.size w w8 := cb.grown hg8 cb.size (fun k hk => by cases hk; omega)
            clear q1 q2 q3 cp cb hg8
            go_wp2_with fail
            go_roundw
            case rel => exact ⟨x + 1, by omega, by go_num, cb2, c1, c2, c3, cx, hk8.u8conv fun i _ _ => by rw [Int.natCast_add]; exact fill_yes (by omega) xl CE.out⟩
            case measure => simp [intOf]; omega
          | false =>
            rw [hi] at IK CE
            clear hi
            go_wp2_with fail
            go_still_tail 13, (by kernel_rfl)
            change wpList _ _ _ _ _ wr.drew
            have AB2 := Lib.hid (show ArrB wr.drew wr.drew.heap.size A n p from AB.out)
            have c1 := a1.drew; have c2 := a2.drew; have c3 := a3.drew; have cx := ax.drew; have cp := ap.drew; have cb := b7.drew
            clear v4 v5 a1 a2 a3 ax ap b7 AB
            generalize wr.drew = w6 at *
            go_wp2_with fail
            refine (IK.out _ AB2.out).mono ?_
            rintro e w7 ⟨rfl, hb7⟩
            replace c1 := c1.below' hb7; replace c2 := c2.below' hb7; replace c3 := c3.below' hb7; replace cx := cx.below' hb7; replace cp := cp.below' hb7; replace cb := below_call cb cb.size hb7
            clear hb7 p1 p2 p3 p4 p5 p6 x1 x2 x3
            go_wp2_with fail
            go_roundw
            case rel => exact ⟨x + 1, by omega, by go_num, cb, c1, c2, c3, cx, cp.u8conv fun i _ _ => by rw [Int.natCast_add]; exact fill_no (by omega) xl CE.out⟩
            case measure => simp [intOf]; omega
        · have ex : (x : Int) = W := by omega
          have ap2 := ap.u8conv (r := byRow W (fillB C W) (fun _ => 0) ((y : Int) + 1) (0 : Nat)) fun i _ _ => by rw [ex]; exact byRow_row (by omega)
          clear ap ex
          go_wp2_with fail
          go_roundw
          case rel => exact ⟨y + 1, by omega, by go_num, b7, a1, a2, a3, ax, ap2⟩
          case measure => simp [intOf]; omega
    · have ey : (y : Int) = h := by omega
      obtain ⟨u1, u2, u3⟩ := t3.cells3
      obtain ⟨f1, f2, f3⟩ := t3.frozen3
      have k5 := ((t3.set_ 0 (.int .i64 W)).set_ 1 (.int .i64 h)).set_ 2 (.slice (some ⟨gp, 0, none⟩) N N)
      obtain ⟨s4, s5, s6⟩ := Blk.cells3 (a := .int .i64 W) (b := .int .i64 h) (c := .slice (some ⟨gp, 0, none⟩) N N) k5
      have zz := b6.size
      have g1 : gp ≠ w.heap.size + 1 + 1 := by omega
      have TP := Lib.hid (tp.u8conv (r := fillB C W) fun i _ i1 => by rw [ey]; exact byRow_end (h := h) (by omega) (by have := HN.out; omega))
      clear tp ey
      go_wp2_with fail
      refine bodyPost_ret (v := .tuple #[.agg #[.int .i64 W, .int .i64 h, .slice (some ⟨gp, 0, none⟩) N N], .int .i64 0]) (by simp [results, Try.results82, go_sem, s4, s5, s6]) rfl ?_
      refine ⟨_, rfl, ⟨_, _, rfl, (fun a e => by cases e; show w.heap.size ≤ gp; omega), ?_⟩, by (repeat (first | exact Below.refl _ _ | assumption | refine Below.drew ?_ | refine below_drewN ?_ _ | refine Below.alloc ?_ (by first | omega | (simp; done) | (simp; omega)) _ | refine Below.setCell ?_ (by first | omega | (simp; done) | (simp; omega)) _ | refine below_setRow ?_ (by first | omega | (simp; done) | (simp; omega)) _ ))⟩
      have KE := Blk.far (Blk.far (Blk.far TP.out (p := ⟨w.heap.size + 1 + 1, 0, none⟩) g1 (.int .i64 W)) (p := ⟨w.heap.size + 1 + 1, 1, none⟩) g1 (.int .i64 h)) (p := ⟨w.heap.size + 1 + 1, 2, none⟩) g1 (.slice (some ⟨gp, 0, none⟩) N N)
      rw [HC.out] at KE
      exact KE.arrB KE.lt
end Go.Proofs.Ytdimlpcbbkokiaa

/- Walks: the reference's Flip and Rows. -/
namespace Go.Proofs.Ytdimlpcbbkokiaa
open Go.RowKit Go.Shelf
set_option linter.unusedVariables false
attribute [local go_sem] Oper.semAt_some

set_option maxRecDepth 100000 in
set_option maxHeartbeats 4000000 in
theorem rflip_any (W H : Nat) (A : Option Addr) (n c : Nat) (p : Int → Int) (w : World) (hA : ArrB w w.heap.size A n p) (hW : W ≤ 640) (hH : H ≤ 640) (hn : (n : Int) = (W : Int) * H) :
    Calls Try.prog 112 #[.agg #[.int .i64 W, .int .i64 H, .slice A n c]] w (New w fun v w' => OutN w w' H W n (fillB (fun x y => inkB W H p y x) H) v) := by
  have IK := Lib.hid fun (x y : Int) w' hA' => rink_any W H A n c p x y w' hA' (by omega) (by omega) hn
  have NW := Lib.hid fun w' => rnew_any H W n w' (by omega) (by omega) (by omega) (by omega) (by rw [hn]; exact Int.mul_comm _ _)
  have HNN := Lib.hid hn
  have HA := Lib.hid hA
  clear hn hA
  go_enter Try.func112, Try.ntmps112
  go_wp2_with fail
  have k1 : Blk ((w.alloc (.cells #[.int .i64 W, .int .i64 H, .slice A n c] 24)).alloc (.cells #[.int .i64 0, .int .i64 0, .slice none 0 0] 24)) w.heap.size 24 #[.int .i64 W, .int .i64 H, .slice A n c] := (Blk.new _ _ _).alloc _
  have k2 : Blk ((w.alloc (.cells #[.int .i64 W, .int .i64 H, .slice A n c] 24)).alloc (.cells #[.int .i64 0, .int .i64 0, .slice none 0 0] 24)) (w.heap.size + 1) 24 #[.int .i64 0, .int .i64 0, .slice none 0 0] := Blk.new' (by simp) _ _
  have b1 : Below w.heap.size w ((w.alloc (.cells #[.int .i64 W, .int .i64 H, .slice A n c] 24)).alloc (.cells #[.int .i64 0, .int .i64 0, .slice none 0 0] 24)) := by (repeat (first | exact Below.refl _ _ | assumption | refine Below.drew ?_ | refine below_drewN ?_ _ | refine Below.alloc ?_ (by first | omega | (simp; done) | (simp; omega)) _ | refine Below.setCell ?_ (by first | omega | (simp; done) | (simp; omega)) _ | refine below_setRow ?_ (by first | omega | (simp; done) | (simp; omega)) _ ))
  generalize (w.alloc (.cells #[.int .i64 W, .int .i64 H, .slice A n c] 24)).alloc (.cells #[.int .i64 0, .int .i64 0, .slice none 0 0] 24) = w1 at *
  refine (NW.out w1).mono ?_
  rintro e w2 ⟨_, rfl, ⟨g, rfl, hg, kg⟩, hb2⟩
  have b2 := below_call b1 b1.size hb2
  have zk2 := k2.lt
  replace k1 := (k1.below' hb2).alloc (.cells #[.int .i64 H, .int .i64 W, .slice (some ⟨g, 0, none⟩) n n] 24)
  replace k2 := (k2.below' hb2).alloc (.cells #[.int .i64 H, .int .i64 W, .slice (some ⟨g, 0, none⟩) n n] 24)
  have zg := kg.lt
  have kx := Blk.new w2 24 #[.int .i64 H, .int .i64 W, .slice (some ⟨g, 0, none⟩) n n]
  have zs := hb2.size
  obtain ⟨Q, hQ⟩ : ∃ Q, Q = fillB (fun x y => inkB W H p y x) H := ⟨_, rfl⟩
  have b3 := b2.alloc b2.size (.cells #[.int .i64 H, .int .i64 W, .slice (some ⟨g, 0, none⟩) n n] 24)
  obtain ⟨gx, hgx⟩ : ∃ gx, w2.heap.size = gx := ⟨_, rfl⟩
  have zz : (w2.alloc (.cells #[.int .i64 H, .int .i64 W, .slice (some ⟨g, 0, none⟩) n n] 24)).heap.size = gx + 1 := by simp [hgx]
  have kp : Blk (w2.alloc (.cells #[.int .i64 H, .int .i64 W, .slice (some ⟨g, 0, none⟩) n n] 24)) g 5 (u8s n (byCol H Q (fun _ => 0) (0 : Nat) (0 : Nat))) := (kg.alloc _).u8conv fun i i0 i1 => by
    by_cases hH0 : H = 0
    · have := HNN.out; rw [hH0] at this; omega
    · exact (byCol_zero (W := H) (q := Q) (z := fun _ => 0) (by omega) i0).symm
  rw [hgx] at kx zg zs
  have HQ := Lib.hid hQ
  clear kg hQ b2 b1
  go_upto_region 2 with fail
  generalize w2.alloc (.cells #[.int .i64 H, .int .i64 W, .slice (some ⟨g, 0, none⟩) n n] 24) = w3 at *
  clear hgx hb2
  go_wp2_with fail
  go_loopw [4] (fun s wr => ∃ y : Nat, y ≤ H ∧ s = .int .i64 y ∧ But (gx + 1) g w3 wr ∧ Blk wr g 5 (u8s n (byCol H Q (fun _ => 0) y (0 : Nat)))) (fun s _ => H - (intOf s).toNat)
  case atStart => exact ⟨0, by omega, rfl, But.refl _ (by omega), kp⟩
  case round =>
    obtain ⟨y, hy, rfl, bu, ap⟩ := hrel
    clear kp
    have m1 := k1.but bu (by omega) (by omega)
    obtain ⟨p1, p2, p3⟩ := m1.cells3
    by_cases yl : (y : Int) < H
    · go_wp2_with fail
      go_loopw [5] (fun s wr => ∃ x : Nat, x ≤ W ∧ s = .int .i64 x ∧ But (gx + 1) g w3 wr ∧ Blk wr g 5 (u8s n (byCol H Q (fun _ => 0) y x))) (fun s _ => W - (intOf s).toNat)
      case atStart => exact ⟨0, by omega, rfl, bu, ap⟩
      case round =>
        obtain ⟨x, hx, rfl, bv, aq⟩ := hrel
        clear ap bu m1 p1 p2 p3
        have m1 := k1.but bv (by omega) (by omega)
        have mx := kx.but bv (by omega) (by omega)
        obtain ⟨p1, p2, p3⟩ := m1.cells3
        obtain ⟨x1, x2, x3⟩ := mx.cells3
        by_cases xl : (x : Int) < W
        · have hb0 : Below w.heap.size w wr := b3.trans (bv.to zz (by omega) (by omega))
          have hA4 := HA.out.to hb0
          have QE : Hid (Q ((x : Int) * H + y) = if inkB W H p x y = true then 1 else 0) := Lib.hid (by rw [HQ.out, fillB_at (by omega) yl])
          have hnc : (n : Int) = (H : Int) * W := by rw [HNN.out]; exact Int.mul_comm _ _
          have HNC := Lib.hid hnc
          clear hnc
          cases hi : inkB W H p x y with
          | true =>
            have IK1 := Lib.hid (IK.out x y wr hA4)
            rw [hi] at IK1 QE
            clear hi
            go_wp2_with fail
            refine IK1.out.mono ?_
            rintro e w5 ⟨rfl, hb5⟩
            have bz := bv.then (hb5.mono bv.size)
            have aq5 := aq.below' hb5
            have mx5 := mx.below' hb5
            clear p1 p2 p3 x1 x2 x3
            obtain ⟨x1, x2, x3⟩ := mx5.cells3
            go_wp2_with fail
            refine (rset_any H W g n n 5 _ y x _ aq5 (by omega) yl (by omega) xl (by omega) (by omega) HNC.out).mono ?_
            rintro e w6 ⟨rfl, hk6, hg6⟩
            have bz6 : But (gx + 1) g w3 w6 := ⟨hg6.os.trans bz.os, hg6.tape.trans bz.tape, hg6.output.trans bz.output, Nat.le_trans bz.size hg6.size, fun j hj hk => (hg6.block j (Nat.lt_of_lt_of_le hj bz.size) (fun e => hk (by cases e; rfl))).trans (bz.block j hj hk)⟩
            have aq6 : Blk w6 g 5 (u8s n (byCol H Q (fun _ => 0) y ((x + 1 : Nat) : Int))) := hk6.u8conv fun i _ _ => by
              have h := byCol_set (q := Q) (z := fun _ => 0) (y := (x : Int)) (i := i) (show (0 : Int) ≤ y by omega) yl
              rw [QE.out, if_pos trivial] at h
              rw [h]; push_cast; rfl
            clear hk6 hg6 bz aq5 mx5 x1 x2 x3
            go_wp2_with fail
            go_round
            case rel => exact ⟨x + 1, by omega, by go_num, bz6, aq6⟩
            case measure => simp [intOf]; omega
          | false =>
            have IK1 := Lib.hid (IK.out x y wr hA4)
            rw [hi] at IK1 QE
            clear hi
            go_wp2_with fail
            refine IK1.out.mono ?_
            rintro e w5 ⟨rfl, hb5⟩
            have bz := bv.then (hb5.mono bv.size)
            have aq6 : Blk w5 g 5 (u8s n (byCol H Q (fun _ => 0) y ((x + 1 : Nat) : Int))) := (aq.below' hb5).u8conv fun i _ _ => by
              have h := byCol_skip (q := Q) (z := fun _ => 0) (y := (x : Int)) (i := i) (show (0 : Int) ≤ y by omega) yl (by rw [QE.out]; rfl)
              rw [h]; push_cast; rfl
            clear p1 p2 p3 x1 x2 x3
            go_wp2_with fail
            go_round
            case rel => exact ⟨x + 1, by omega, by go_num, bz, aq6⟩
            case measure => simp [intOf]; omega
        · have hxW : x = W := by omega
          have aq6 : Blk wr g 5 (u8s n (byCol H Q (fun _ => 0) ((y + 1 : Nat) : Int) (0 : Nat))) := aq.u8conv fun i i0 i1 => by
            have h := byCol_col (q := Q) (z := fun _ => 0) (W := H) (h := W) (x := (y : Int)) (i := i) (by omega) i0 (by have := HNN.out; rw [Int.mul_comm] at this; omega)
            rw [hxW, h]; push_cast; rfl
          clear aq hxW
          go_wp2_with fail
          go_round
          case rel => exact ⟨y + 1, by omega, by go_num, bv, aq6⟩
          case measure => simp [intOf]; omega
    · have hyH : y = H := by omega
      have m2 := k2.but bu (by omega) (by omega)
      have mx := kx.but bu (by omega) (by omega)
      obtain ⟨x1, x2, x3⟩ := mx.cells3
      obtain ⟨f1, f2, f3⟩ := m2.frozen3
      obtain ⟨y1, y2, y3⟩ := m2.cells3
      have k5 := ((m2.set_ 0 (.int .i64 H)).set_ 1 (.int .i64 W)).set_ 2 (.slice (some ⟨g, 0, none⟩) n n)
      obtain ⟨s1, s2, s3⟩ := Blk.cells3 (a := .int .i64 H) (b := .int .i64 W) (c := .slice (some ⟨g, 0, none⟩) n n) k5
      have bE : Below w.heap.size w wr := b3.trans (bu.to zz (by omega) (by omega))
      have aq : Blk wr g 5 (u8s n Q) := ap.u8conv fun i i0 i1 => by
        rw [hyH]
        by_cases hH0 : H = 0
        · have := HNN.out; rw [hH0] at this; omega
        · exact byCol_end (by omega)
      clear ap hyH
      go_wp2_with fail
      refine bodyPost_ret (v := .agg #[.int .i64 H, .int .i64 W, .slice (some ⟨g, 0, none⟩) n n]) (by simp [results, Try.results112, go_sem, s1, s2, s3]) rfl ?_
      refine ⟨_, rfl, ?_, by (repeat (first | exact Below.refl _ _ | assumption | refine Below.drew ?_ | refine below_drewN ?_ _ | refine Below.alloc ?_ (by first | omega | (simp; done) | (simp; omega)) _ | refine Below.setCell ?_ (by first | omega | (simp; done) | (simp; omega)) _ | refine below_setRow ?_ (by first | omega | (simp; done) | (simp; omega)) _ ))⟩
      rw [← HQ.out]
      have g1 : g ≠ w.heap.size + 1 := by omega
      exact OutN.mk (by omega) (Blk.far (Blk.far (Blk.far aq (p := ⟨w.heap.size + 1, 0, none⟩) g1 (.int .i64 H)) (p := ⟨w.heap.size + 1, 1, none⟩) g1 (.int .i64 W)) (p := ⟨w.heap.size + 1, 2, none⟩) g1 (.slice (some ⟨g, 0, none⟩) n n))

theorem inkB_prev {W H : Nat} {p : Int → Int} {x y : Nat} : inkB W H p ((x : Int) - 1) y = (decide (0 < x) && inkB W H p ((x - 1 : Nat) : Int) y) := by
  by_cases h : 0 < x
  · rw [decide_eq_true h, Bool.true_and, show ((x - 1 : Nat) : Int) = (x : Int) - 1 by omega]
  · rw [decide_eq_false h, Bool.false_and]
    unfold inkB
    rw [decide_eq_false (by omega)]
    simp

set_option maxRecDepth 100000 in
set_option maxHeartbeats 4000000 in
theorem rrows_any (W H : Nat) (A : Option Addr) (n c : Nat) (p : Int → Int) (w : World) (hA : ArrB w w.heap.size A n p) (hW : W ≤ 640) (hH : H ≤ 640) (hn : (n : Int) = (W : Int) * H) :
    Calls Try.prog 111 #[.agg #[.int .i64 W, .int .i64 H, .slice A n c]] w (New w fun v w' => RunRow w' w.heap.size v (rLs (fun y x => inkB W H p x y) W H)) := by
  have IK := Lib.hid fun (x y : Int) w' hA' => rink_any W H A n c p x y w' hA' (by omega) (by omega) hn
  have HA := Lib.hid hA
  obtain ⟨r0, hr0, hrz0, hrz1, hrz2⟩ := info_parts infoRun
  clear hn hA
  go_enter Try.func111, Try.ntmps111
  go_wp2_with fail
  have k1 := Blk.new w 24 #[.int .i64 W, .int .i64 H, .slice A n c]
  have b1 : Below w.heap.size w (w.alloc (.cells #[.int .i64 W, .int .i64 H, .slice A n c] 24)) := (Below.refl _ _).alloc (Nat.le_refl _) _
  generalize w.alloc (.cells #[.int .i64 W, .int .i64 H, .slice A n c] 24) = w1 at *
  obtain ⟨B, hB⟩ : ∃ B, w1.heap.size = B := ⟨_, rfl⟩
  have hgB : w.heap.size < B := by rw [← hB]; exact k1.lt
  have HB := Lib.hid hB
  clear hB
  go_loopw [4, 3] (fun s v wr => ∃ (y : Nat) (L : List Rn), y ≤ H ∧ s = .int .i64 y ∧ RunRow wr B v L ∧ Below w1.heap.size w1 wr ∧ Hid (L = rLs (fun y x => inkB W H p x y) W y) ∧ L.length ≤ y * 640) (fun s _ _ => H - (intOf s).toNat)
  case atStart => exact ⟨0, [], by omega, rfl, RunRow.nil _ _, Below.refl _ _, Lib.hid rfl, by simp⟩
  case round =>
    obtain ⟨y, L, hy, rfl, hR, d1, HL, hLl⟩ := hrel
    have m1 := k1.below' d1
    obtain ⟨p1, p2, p3⟩ := m1.cells3
    by_cases yl : (y : Int) < H
    · go_wp2_with fail
      go_loopw [5, 3] (fun s v wr => ∃ (x : Nat) (L2 : List Rn), x ≤ W ∧ s = .int .i64 x ∧ RunRow wr B v L2 ∧ Below w1.heap.size w1 wr ∧ Hid (L2 = L ++ rL (fun x => inkB W H p x y) W y x) ∧ L2.length ≤ y * 640 + x) (fun s _ _ => W - (intOf s).toNat)
      case atStart => exact ⟨0, L, by omega, rfl, hR, d1, Lib.hid (by simp [rL]), by omega⟩
      case round =>
        obtain ⟨x, L2, hx, rfl, hR2, d2, HL2, hL2l⟩ := hrel
        clear hR m1 p1 p2 p3 d1
        have m1 := k1.below' d2
        obtain ⟨p1, p2, p3⟩ := m1.cells3
        by_cases xl : (x : Int) < W
        · have hA4 := HA.out.to (b1.trans (d2.mono b1.size))
          have v0 : IntKind.i64.wrap ((x : Int) - 1) = (x : Int) - 1 := IntWalk.i64_in _ (by omega)
          have IK1 := Lib.hid (IK.out x y wr hA4)
          have SB : Hid (stB (fun x => inkB W H p x y) x = (inkB W H p x y && !(inkB W H p ((x : Int) - 1) y))) := Lib.hid (by unfold stB; rw [inkB_prev])
          obtain ⟨i1, hi1⟩ : ∃ b, inkB W H p x y = b := ⟨_, rfl⟩
          rw [hi1] at IK1 SB
          obtain ⟨i2, hi2⟩ : ∃ b, inkB W H p ((x : Int) - 1) y = b := ⟨_, rfl⟩
          rw [hi2] at SB
          have HI1 := Lib.hid hi1; have HI2 := Lib.hid hi2
          clear hi1 hi2
          cases i1
          · go_wp2_with fail
            refine IK1.out.mono ?_
            rintro e w5 ⟨rfl, hb5⟩
            have d5 := below_call d2 d2.size hb5
            have hR5 := hR2.below hb5
            clear p1 p2 p3
            go_wp2_with fail
            go_round
            case rel => exact ⟨x + 1, L2, by omega, by go_num, hR5, d5, Lib.hid (by
              rw [HL2.out, rL]
              unfold rnA
              rw [SB.out, if_neg (by simp), List.append_nil]), by omega⟩
            case measure => simp [intOf]; omega
          · go_wp2_with fail
            refine IK1.out.mono ?_
            rintro e w5 ⟨rfl, hb5⟩
            have d5 := below_call d2 d2.size hb5
            have hR5 := hR2.below hb5
            have m5 := m1.below' hb5
            have IK2 := Lib.hid (IK.out ((x : Int) - 1) y w5 (hA4.to hb5))
            rw [HI2.out] at IK2
            clear p1 p2 p3 IK1
            obtain ⟨p1, p2, p3⟩ := m5.cells3
            go_wp2_with fail
            refine IK2.out.mono ?_
            rintro e w6 ⟨rfl, hb6⟩
            have d6 := below_call d5 d5.size hb6
            have hR6 := hR5.below hb6
            clear p1 p2 p3 IK2 d5 hR5 m5 hb5 d2 hR2 hA4
            cases i2
            · go_wp2_with fail
              go_loopw [6] (fun s wr => ∃ t : Nat, x ≤ t ∧ t < W ∧ s = .int .i64 t ∧ Hid (enB (fun x => inkB W H p x y) (W - 1 - t) t = enB (fun x => inkB W H p x y) (W - 1 - x) x) ∧ Below w6.heap.size w6 wr) (fun s _ => W - (intOf s).toNat)
              case atStart => exact ⟨x, by omega, by omega, rfl, Lib.hid rfl, Below.refl _ _⟩
              case round =>
                obtain ⟨t, ht, htW, rfl, HT, d7⟩ := hrel
                have d8 := below_call d6 d6.size d7
                have m8 := k1.below' d8
                have hA8 := HA.out.to (b1.trans (d8.mono b1.size))
                obtain ⟨p1, p2, p3⟩ := m8.cells3
                have v1 : IntKind.i64.wrap ((t : Int) + 1) = ((t + 1 : Nat) : Int) := (IntWalk.i64_in _ (by omega)).trans (by omega)
                obtain ⟨t', ht'⟩ : ∃ t', t + 1 = t' := ⟨_, rfl⟩
                rw [ht'] at v1
                have IK3 := Lib.hid (IK.out t' y wr hA8)
                obtain ⟨i3, hi3⟩ : ∃ b, inkB W H p t' y = b := ⟨_, rfl⟩
                rw [hi3] at IK3
                have ET : Hid (enB (fun x => inkB W H p x y) (W - 1 - t) t = if i3 = true then enB (fun x => inkB W H p x y) (W - 1 - t') t' else t) := Lib.hid (by
                  by_cases c : t' < W
                  · obtain ⟨k, hk⟩ : ∃ k, W - 1 - t = k + 1 := ⟨W - 1 - t - 1, by omega⟩
                    rw [hk, show W - 1 - t' = k by omega, ← ht', ← hi3, ← ht']
                    rfl
                  · have e0 : W - 1 - t = 0 := by omega
                    have e1 : i3 = false := by rw [← hi3]; unfold inkB; rw [decide_eq_false (show ¬ (t' : Int) < W by omega)]; simp
                    rw [e0, e1, if_neg (by simp)]
                    rfl)
                have HT' : Hid (i3 = true → t' < W) := Lib.hid (fun h => by
                  apply Classical.byContradiction
                  intro c
                  have e1 : i3 = false := by rw [← hi3]; unfold inkB; rw [decide_eq_false (show ¬ (t' : Int) < W by omega)]; simp
                  rw [h] at e1; cases e1)
                have HTT := Lib.hid ht'
                clear hi3 ht'
                cases i3
                · go_wp2_with fail
                  refine IK3.out.mono ?_
                  rintro e w9 ⟨rfl, hb9⟩
                  have d9 := below_call d8 d8.size hb9
                  have hR9 := (hR6.below d7).below hb9
                  have z9 := d9.size
                  have e9 : enB (fun x => inkB W H p x y) (W - 1 - x) x = t := by rw [← HT.out, ET.out, if_neg (by simp)]
                  have HE9 := Lib.hid e9
                  have hBz := HB.out
                  clear p1 p2 p3 e9 m8 hA8 IK3 v1 hb9 d8 d7
                  go_wp2_with (at_builtin; refine wpList_append_own _ rfl (.tmp 39) (.tmp 44) 75 rfl B 84 r0 (.agg #[.int .i64 0, .int .i64 0, .int .i64 0]) 3 24 Try.underlying75 hr0 hrz0 hrz1 hrz2 rfl (by decide) _ _ _ rfl (hR9.alloc _) ⟨w9.heap.size, 0, none⟩ 1 1 [.int .i64 y, .int .i64 x, .int .i64 t] rfl rfl ?c1 ?c2 ?c3 ?c4 ?c5 ?_)
                  case c1 =>
                    intro j u hj
                    match j, hj with
                    | 0, hj => cases hj; exact (Blk.new w9 84 #[.int .i64 y, .int .i64 x, .int .i64 t]).cell 0
                    | 1, hj => cases hj; exact (Blk.new w9 84 #[.int .i64 y, .int .i64 x, .int .i64 t]).cell 1
                    | 2, hj => cases hj; exact (Blk.new w9 84 #[.int .i64 y, .int .i64 x, .int .i64 t]).cell 2
                    | j + 3, hj => simp at hj
                  case c2 => simp [Value.oneCell']
                  case c3 => unfold maxLen; omega
                  case c4 => omega
                  case c5 => simp; omega
                  intro v' w12 own12 hg12 _
                  have b12 : Below w1.heap.size w1 w12 := (d9.alloc d9.size _).grown hg12 (by simp; omega) (fun j hj => by rw [hBz]; exact (own_ge hR9 hj).1)
                  have R12 : RunRow w12 B v' (L2 ++ [((y : Int), (x : Int), (t : Int))]) := by
                    unfold RunRow
                    rw [flatR_snoc, List.length_append]
                    exact own12
                  clear own12 hg12
                  go_wp2
                  go_round
                  case rel => exact ⟨x + 1, _, by omega, by go_num, R12, b12, Lib.hid (by
                    rw [HL2.out, rL]
                    unfold rnA
                    rw [SB.out, if_pos (by simp), HE9.out, List.append_assoc]), by simp; omega⟩
                  case measure => simp [intOf]; omega
                · have ht2 := HT'.out rfl
                  have ht3 := HTT.out
                  go_wp2_with fail
                  refine IK3.out.mono ?_
                  rintro e w9 ⟨rfl, hb9⟩
                  have d9 := below_call d7 d7.size hb9
                  clear p1 p2 p3
                  go_wp2_with fail
                  go_round
                  case rel => exact ⟨t', by omega, ht2, by first | rfl | go_num, Lib.hid (by rw [← HT.out, ET.out, if_pos trivial]), d9⟩
                  case measure => simp [intOf]; omega
            · go_wp2_with fail
              go_round
              case rel => exact ⟨x + 1, L2, by omega, by go_num, hR6, d6, Lib.hid (by
                rw [HL2.out, rL]
                unfold rnA
                rw [SB.out, if_neg (by simp), List.append_nil]), by omega⟩
              case measure => simp [intOf]; omega
        · have hxW : x = W := by omega
          have HXW := Lib.hid hxW
          clear hxW
          go_wp2_with fail
          go_round
          case rel => exact ⟨y + 1, L2, by omega, by go_num, hR2, d2, Lib.hid (by rw [HL2.out, HL.out, HXW.out]; rfl), by omega⟩
          case measure => simp [intOf]; omega
    · have hyH : y = H := by omega
      rw [hyH] at HL
      have bE : Below w.heap.size w wr := b1.trans (d1.mono b1.size)
      go_wp2
      go_ret
      exact ⟨_, rfl, HL.out ▸ hR.base (by omega), bE⟩
end Go.Proofs.Ytdimlpcbbkokiaa
