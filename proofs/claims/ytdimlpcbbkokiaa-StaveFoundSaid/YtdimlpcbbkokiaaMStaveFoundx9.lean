/- Texts of mine in build order: T39, S12, T40, T41, T42, S15, B2. Conditions: each theorem's own. -/
import Derived.Test.YtdimlpcbbkokiaaMStaveFoundx8
import Derived.StillTailTactics
import Derived.Deep.RegionHeld3
/- Walk: a strip put back (stave.Restore), where it is made. Written by gen/t38.py. -/
namespace Go.Proofs.Ytdimlpcbbkokiaa
open Go.RowKit Go.Shelf
set_option linter.unusedVariables false
attribute [local go_sem] Oper.semAt_some

set_option maxRecDepth 100000 in
set_option maxHeartbeats 4000000 in
theorem restore_ok (W H SW SH : Int) (A SA AL : Option Addr) (n c sn sc K cL : Nat) (p sp : Int → Int) (m : Nat → Nat) (ln : Nat → Nat → Int) (up : Int) (w : World) (hA : ArrB w w.heap.size A n p) (hn : n ≤ maxLen) (hS : ArrB w w.heap.size SA sn sp) (hsn : sn ≤ maxLen) (hL : Lines w w.heap.size AL K m ln) (hm : ∀ i, i < K → m i ≤ maxLen) (hns : n ≤ 1000000) (hE : resE W H n p SW SH sn sp K m ln up = 0) :
    Calls Try.prog 45 #[.agg #[.int .i64 W, .int .i64 H, .slice A n c], .agg #[.int .i64 SW, .int .i64 SH, .slice SA sn sc], .agg #[.slice AL K cL], .int .i64 up] w (New w fun v w' => OutT w w' 0 W H n (resQ W H SH p sp (ln 4) up) v) := by
  have HE := Lib.hid hE
  clear hE
  have C1 := Lib.hid fun w' hA' => check_any W H A n c p w' hA' hn
  have C2 := Lib.hid fun w' hA' => check_any SW SH SA sn sc sp w' hA' hsn
  have b1 : Below w.heap.size w ((((w.alloc (.cells #[.int .i64 W, .int .i64 H, .slice A n c] 24)).alloc (.cells #[.int .i64 SW, .int .i64 SH, .slice SA sn sc] 24)).alloc (.cells #[.slice AL K cL] 54)).alloc (.cells #[.int .i64 0, .int .i64 0, .slice none 0 0] 24)) := by (repeat (first | exact Below.refl _ _ | assumption | refine Below.drew ?_ | refine below_drewN ?_ _ | refine Below.alloc ?_ (by first | omega | (simp; done) | (simp; omega)) _ | refine Below.setCell ?_ (by first | omega | (simp; done) | (simp; omega)) _ | refine below_setRow ?_ (by first | omega | (simp; done) | (simp; omega)) _ ))
  have k4 : Blk ((((w.alloc (.cells #[.int .i64 W, .int .i64 H, .slice A n c] 24)).alloc (.cells #[.int .i64 SW, .int .i64 SH, .slice SA sn sc] 24)).alloc (.cells #[.slice AL K cL] 54)).alloc (.cells #[.int .i64 0, .int .i64 0, .slice none 0 0] 24)) (w.heap.size + 1 + 1 + 1) 24 #[.int .i64 0, .int .i64 0, .slice none 0 0] := Blk.new' (by simp) _ _
  have k1 : Blk ((((w.alloc (.cells #[.int .i64 W, .int .i64 H, .slice A n c] 24)).alloc (.cells #[.int .i64 SW, .int .i64 SH, .slice SA sn sc] 24)).alloc (.cells #[.slice AL K cL] 54)).alloc (.cells #[.int .i64 0, .int .i64 0, .slice none 0 0] 24)) w.heap.size 24 #[.int .i64 W, .int .i64 H, .slice A n c] := (((Blk.new _ _ _).alloc _).alloc _).alloc _
  have k2 : Blk ((((w.alloc (.cells #[.int .i64 W, .int .i64 H, .slice A n c] 24)).alloc (.cells #[.int .i64 SW, .int .i64 SH, .slice SA sn sc] 24)).alloc (.cells #[.slice AL K cL] 54)).alloc (.cells #[.int .i64 0, .int .i64 0, .slice none 0 0] 24)) (w.heap.size + 1) 24 #[.int .i64 SW, .int .i64 SH, .slice SA sn sc] := ((Blk.new' (by simp) _ _).alloc _).alloc _
  have k3 : Blk ((((w.alloc (.cells #[.int .i64 W, .int .i64 H, .slice A n c] 24)).alloc (.cells #[.int .i64 SW, .int .i64 SH, .slice SA sn sc] 24)).alloc (.cells #[.slice AL K cL] 54)).alloc (.cells #[.int .i64 0, .int .i64 0, .slice none 0 0] 24)) (w.heap.size + 1 + 1) 54 #[.slice AL K cL] := (Blk.new' (by simp) _ _).alloc _
  generalize hz1 : chk W H n p = z1 at *
  generalize hz2 : chk SW SH sn sp = z2 at *
  have HZ1 := Lib.hid hz1; have HZ2 := Lib.hid hz2
  clear hz1 hz2
  go_enter Try.func45, Try.ntmps45
  go_wp2_with fail
  generalize ((((w.alloc (.cells #[.int .i64 W, .int .i64 H, .slice A n c] 24)).alloc (.cells #[.int .i64 SW, .int .i64 SH, .slice SA sn sc] 24)).alloc (.cells #[.slice AL K cL] 54)).alloc (.cells #[.int .i64 0, .int .i64 0, .slice none 0 0] 24)) = w1 at *
  obtain ⟨p1, p2, p3⟩ := k1.cells3
  obtain ⟨q1, q2, q3⟩ := k2.cells3
  have HA := hA.to b1
  have HS := hS.to b1
  go_upto_region 1 with fail
  go_cut [10] (fun f wx => f = .int .i64 (orE z1 z2) ∧ Below w1.heap.size w1 wx)
  case first =>
    go_region_held3 (fun w' => (w'.cell? ⟨w.heap.size, 0, none⟩ = some (.int .i64 W) ∧ w'.cell? ⟨w.heap.size, 1, none⟩ = some (.int .i64 H) ∧ w'.cell? ⟨w.heap.size, 2, none⟩ = some (.slice A n c)) ∧ w'.cell? ⟨w.heap.size + 1, 0, none⟩ = some (.int .i64 SW) ∧ w'.cell? ⟨w.heap.size + 1, 1, none⟩ = some (.int .i64 SH) ∧ w'.cell? ⟨w.heap.size + 1, 2, none⟩ = some (.slice SA sn sc))
      (first | (simp [go_sem, *]; done) | (go_keep; done))
      (first
      | (go_at_call 58
         with_reducible refine Calls.mono (C1.out _ ?_) ?_
         focus (repeat (first | with_reducible assumption | with_reducible refine ArrB.alloc1 ?_ _ | with_reducible refine ArrB.drew1 ?_ | (with_reducible apply ArrB.fillN; (focus (with_reducible assumption)); (focus omega)) | (with_reducible apply ArrB.fillL; (focus (with_reducible assumption)); (focus (first | omega | (simp; done) | (simp; omega)))) | (with_reducible apply ArrB.to'; focus (with_reducible assumption))))
         rintro e v1 ⟨rfl, hb1⟩
         have kk1 : Blk v1 w.heap.size 24 #[.int .i64 W, .int .i64 H, .slice A n c] := by (repeat (first | with_reducible assumption | with_reducible exact Blk.new _ _ _ | with_reducible exact Blk.new' (World.size_alloc _ _) _ _ | (with_reducible refine Blk.new' ?_ _ _; focus (simp; done)) | with_reducible apply Blk.fill3 | (with_reducible refine Blk.far3' ?_ ?_; focus omega) | with_reducible refine Blk.alloc ?_ _ | with_reducible refine Blk.drew ?_ | (with_reducible apply Blk.below2; focus (with_reducible assumption))))
         have ll1 : Blk v1 (w.heap.size + 1) 24 #[.int .i64 SW, .int .i64 SH, .slice SA sn sc] := by (repeat (first | with_reducible assumption | with_reducible exact Blk.new _ _ _ | with_reducible exact Blk.new' (World.size_alloc _ _) _ _ | (with_reducible refine Blk.new' ?_ _ _; focus (simp; done)) | with_reducible apply Blk.fill3 | (with_reducible refine Blk.far3' ?_ ?_; focus omega) | with_reducible refine Blk.alloc ?_ _ | with_reducible refine Blk.drew ?_ | (with_reducible apply Blk.below2; focus (with_reducible assumption))))
         obtain ⟨x11, x12, x13⟩ := kk1.cells3
         obtain ⟨x14, x15, x16⟩ := ll1.cells3
         have zz1 := hb1.size; try simp at zz1)
      | (go_at_call 58
         with_reducible refine Calls.mono (C2.out _ ?_) ?_
         focus (repeat (first | with_reducible assumption | with_reducible refine ArrB.alloc1 ?_ _ | with_reducible refine ArrB.drew1 ?_ | (with_reducible apply ArrB.fillN; (focus (with_reducible assumption)); (focus omega)) | (with_reducible apply ArrB.fillL; (focus (with_reducible assumption)); (focus (first | omega | (simp; done) | (simp; omega)))) | (with_reducible apply ArrB.to'; focus (with_reducible assumption))))
         rintro e v2 ⟨rfl, hb2⟩
         have kk2 : Blk v2 w.heap.size 24 #[.int .i64 W, .int .i64 H, .slice A n c] := by (repeat (first | with_reducible assumption | with_reducible exact Blk.new _ _ _ | with_reducible exact Blk.new' (World.size_alloc _ _) _ _ | (with_reducible refine Blk.new' ?_ _ _; focus (simp; done)) | with_reducible apply Blk.fill3 | (with_reducible refine Blk.far3' ?_ ?_; focus omega) | with_reducible refine Blk.alloc ?_ _ | with_reducible refine Blk.drew ?_ | (with_reducible apply Blk.below2; focus (with_reducible assumption))))
         have ll2 : Blk v2 (w.heap.size + 1) 24 #[.int .i64 SW, .int .i64 SH, .slice SA sn sc] := by (repeat (first | with_reducible assumption | with_reducible exact Blk.new _ _ _ | with_reducible exact Blk.new' (World.size_alloc _ _) _ _ | (with_reducible refine Blk.new' ?_ _ _; focus (simp; done)) | with_reducible apply Blk.fill3 | (with_reducible refine Blk.far3' ?_ ?_; focus omega) | with_reducible refine Blk.alloc ?_ _ | with_reducible refine Blk.drew ?_ | (with_reducible apply Blk.below2; focus (with_reducible assumption))))
         obtain ⟨x21, x22, x23⟩ := kk2.cells3
         obtain ⟨x24, x25, x26⟩ := ll2.cells3
         have zz2 := hb2.size; try simp at zz2)
      | (go_at_call 85; with_reducible refine (or2_any _ _ _ _ (Blk.new _ _ _)).mono ?_; rintro e v3 ⟨rfl, rfl⟩))
    all_goals
      go_wp2_with fail
      go_meet
      exact ⟨rfl, by (repeat (first | with_reducible exact Below.refl _ _ | with_reducible assumption | with_reducible refine Below.drew ?_ | (with_reducible refine below_alloc' ?_ ?_; focus (first | omega | (simp; done) | (simp; omega))) | (with_reducible refine below_fill3' ?_ ?_; focus omega) | (with_reducible refine below_setCell' ?_ ?_; focus (first | omega | (simp; done) | (simp; omega))) | (with_reducible apply below_call'; (focus (with_reducible assumption)); (focus (first | omega | (simp; done) | (simp; omega))))))⟩
  case rest =>
  obtain ⟨rfl, hb2⟩ := hcut
  have b2 := below_call b1 b1.size hb2
  replace k1 := k1.below' hb2
  replace k2 := k2.below' hb2
  replace k3 := k3.below' hb2
  replace k4 := k4.below' hb2
  clear p1 p2 p3 q1 q2 q3 hb2 b1 C1 C2 HA HS
  obtain ⟨z, hzz⟩ : ∃ z, orE z1 z2 = z := ⟨_, rfl⟩
  rw [hzz]
  have HZ := Lib.hid hzz
  clear hzz
  have z0 : z = 0 := by
    by_cases h0 : z = 0
    · exact h0
    · have := HE.out
      unfold resE at this
      rw [HZ1.out, HZ2.out, HZ.out, if_pos h0] at this
      exact this
  subst z0
  obtain ⟨e1, e2⟩ := orE_zero.1 HZ.out
  subst e1
  subst e2
  obtain ⟨hW1, hW2, hH1, hH2, hnn, -⟩ := chk_ok HZ1.out
  obtain ⟨hSW1, hSW2, hSH1, hSH2, hsnn, -⟩ := chk_ok HZ2.out
  have RE : Hid ((if stFits W H K m ln = false then (10 : Int) else if up < 0 ∨ SH ≤ up then 1 else if SW ≠ W then 2 else 0) = 0) := by
    show _ = _
    have := HE.out
    unfold resE at this
    rwa [HZ1.out, HZ2.out, HZ.out, if_neg (by simp)] at this
  have hst : stFits W H K m ln = true := by
    cases h : stFits W H K m ln with
    | true => rfl
    | false => have := RE.out; rw [h, if_pos rfl] at this; omega
  have FT := Lib.hid fun w' hL' => fits_st W H A AL n c K cL m ln w' hW2 hH2 hL' hm
  rw [hst] at RE FT
  have hup : ¬ (up < 0 ∨ SH ≤ up) := fun h => by have := RE.out; rw [if_neg (by simp), if_pos h] at this; omega
  have hw : SW = W := by
    rcases Int.decEq SW W with h | h
    · have := RE.out; rw [if_neg (by simp), if_neg hup, if_pos h] at this; omega
    · exact h
  subst hw
  have d1 : decide (up < 0) = false := decide_eq_false (by omega)
  have d2 : decide (SH ≤ up) = false := decide_eq_false (by omega)
  have hu1 : 0 ≤ up := by omega
  have hu2 : up < SH := by omega
  have hP := stFits_iff.1 hst
  obtain ⟨rfl, hpath, -⟩ := hP
  obtain ⟨⟨W1, H1, m4⟩, hst2⟩ := isPathB_iff.1 (hpath 4 (by omega))
  have PB := Lib.hid fun (x : Nat) (hx : (x : Int) < m 4) => stepB_iff.1 (hst2 x (by omega) hx)
  have npos : 0 < n := by
    have := Int.mul_pos (show 0 < SW by omega) (show 0 < H by omega)
    omega
  have BC := Lib.hid fun w' hA' => bclone_pos A n c p w' hA' (by omega) npos
  have HM4 := Lib.hid m4; have HNN := Lib.hid hnn; have HSN := Lib.hid hsnn
  clear hst hpath hst2 m4 hup RE HE hnn hsnn
  obtain ⟨p1, p2, p3⟩ := k1.cells3
  have p4 := k3.cells0
  go_wp2_with fail
  refine (FT.out _ (hL.below b2)).mono ?_
  rintro e w3 ⟨rfl, hb3⟩
  have b3 := below_call b2 b2.size hb3
  replace k1 := k1.below' hb3
  replace k2 := k2.below' hb3
  replace k3 := k3.below' hb3
  replace k4 := k4.below' hb3
  clear p1 p2 p3 p4 hb3 b2
  obtain ⟨p1, p2, p3⟩ := k1.cells3
  obtain ⟨q1, q2, q3⟩ := k2.cells3
  have z3 := k4.lt
  have HA := hA.to b3
  go_upto_region 10 with fail
  go_cut [11] (fun f wx => ∃ B g c', f = .pointer (some ⟨B, 0, none⟩) ∧ Below w3.heap.size w3 wx ∧ w3.heap.size ≤ g ∧ g ≠ B ∧ w3.heap.size ≤ B ∧ Blk wx B 24 #[.int .i64 SW, .int .i64 H, .slice (some ⟨g, 0, none⟩) n c'] ∧ ArrO wx g n p)
  case first =>
    go_region_held3 (fun w' => w'.cell? ⟨w.heap.size, 0, none⟩ = some (.int .i64 SW) ∧ w'.cell? ⟨w.heap.size, 1, none⟩ = some (.int .i64 H) ∧ w'.cell? ⟨w.heap.size, 2, none⟩ = some (.slice A n c))
      (first | (simp [go_sem, *]; done) | (go_keep; done))
      (first
      | (go_at_call 86
         with_reducible refine Calls.mono (BC.out _ ?_) ?_
         focus (repeat (first | with_reducible assumption | with_reducible refine ArrB.alloc1 ?_ _ | with_reducible refine ArrB.drew1 ?_ | (with_reducible apply ArrB.fillN; (focus (with_reducible assumption)); (focus omega)) | (with_reducible apply ArrB.fillL; (focus (with_reducible assumption)); (focus (first | omega | (simp; done) | (simp; omega)))) | (with_reducible apply ArrB.to'; focus (with_reducible assumption))))
         rintro e v1 ⟨_, rfl, ⟨g, c', rfl, hcc, hg, hk⟩, hb1⟩
         have kk1 : Blk v1 w.heap.size 24 #[.int .i64 SW, .int .i64 H, .slice A n c] := by (repeat (first | with_reducible assumption | with_reducible exact Blk.new _ _ _ | with_reducible exact Blk.new' (World.size_alloc _ _) _ _ | (with_reducible refine Blk.new' ?_ _ _; focus (simp; done)) | with_reducible apply Blk.fill3 | (with_reducible refine Blk.far3' ?_ ?_; focus omega) | with_reducible refine Blk.alloc ?_ _ | with_reducible refine Blk.drew ?_ | (with_reducible apply Blk.below2; focus (with_reducible assumption))))
         obtain ⟨x11, x12, x13⟩ := kk1.cells3
         have zz1 := hb1.size
         try simp at zz1
         have yy1 := kk1.lt
         have yy2 := hk.lt
         try simp at hg
         first | (have g1 : Blk v1 w3.heap.size 24 #[.int .i64 0, .int .i64 0, .slice none 0 0] := by ((repeat (first | with_reducible assumption | with_reducible exact Blk.new _ _ _ | with_reducible exact Blk.new' (World.size_alloc _ _) _ _ | (with_reducible refine Blk.new' ?_ _ _; focus (simp; done)) | with_reducible apply Blk.fill3 | (with_reducible refine Blk.far3' ?_ ?_; focus omega) | with_reducible refine Blk.alloc ?_ _ | with_reducible refine Blk.drew ?_ | (with_reducible apply Blk.below2; focus (with_reducible assumption)))); done)
                  obtain ⟨h1, h2, h3⟩ := g1.cells3; obtain ⟨f1, f2, f3⟩ := g1.frozen3; have lt1 := g1.lt) | skip))
    all_goals
      go_wp2_with fail
      go_meet
      refine ⟨_, g, c', rfl, ?_, ?_, ?_, ?_, ?_, ?_⟩
      focus (repeat (first | with_reducible exact Below.refl _ _ | with_reducible assumption | with_reducible refine Below.drew ?_ | (with_reducible refine below_alloc' ?_ ?_; focus (first | omega | (simp; done) | (simp; omega))) | (with_reducible refine below_fill3' ?_ ?_; focus omega) | (with_reducible refine below_setCell' ?_ ?_; focus (first | omega | (simp; done) | (simp; omega))) | (with_reducible apply below_call'; (focus (with_reducible assumption)); (focus (first | omega | (simp; done) | (simp; omega))))))
      focus (first | omega | (simp; omega))
      focus (first | omega | (simp; omega))
      focus (first | omega | (simp; omega))
      focus (repeat (first | with_reducible assumption | with_reducible exact Blk.new _ _ _ | with_reducible exact Blk.new' (World.size_alloc _ _) _ _ | (with_reducible refine Blk.new' ?_ _ _; focus (simp; done)) | with_reducible apply Blk.fill3 | (with_reducible refine Blk.far3' ?_ ?_; focus omega) | with_reducible refine Blk.alloc ?_ _ | with_reducible refine Blk.drew ?_ | (with_reducible apply Blk.below2; focus (with_reducible assumption))))
      focus (repeat (first | assumption | refine ArrO.drew ?_ | refine ArrO.alloc ?_ _ | refine ArrO.far ?_ (by first | (show g ≠ _; omega) | (simp; omega)) _))
  case rest =>
  obtain ⟨gx, gp, cp, rfl, hb4, hgp, hgx, hgx2, tx, tp⟩ := hcut
  clear p1 p2 p3 q1 q2 q3
  replace k1 := k1.below' hb4
  replace k2 := k2.below' hb4
  replace k3 := k3.below' hb4
  replace k4 := k4.below' hb4
  have b4 := below_call b3 b3.size hb4
  clear b3 hb4 HA FT BC
  have zb := b4.size
  obtain ⟨bA, oA, A4, c4, rfl, hbA, hcA, haA⟩ := hL.at_ (i := 4) (by omega)
  obtain ⟨b5, o5, rfl, hb5, hc5⟩ := ArrI.fn haA (by have := HM4.out; omega)
  have HC5 := Lib.hid hc5
  have r4 := k3.cells0
  have r5 := (b4.cell (p := ⟨bA, oA + 4, none⟩) hbA).trans hcA
  clear hc5 hcA
  go_wp2_with fail
  generalize hm4 : m 4 = M at *
  have sp0 : ArrO wc gp n (rsP SW SH p sp (ln 4) up (0 : Nat) (0 : Nat)) := tp.conv fun i _ _ => (rsP_zero (by omega)).symm
  go_loopw [62] (fun s wr => ∃ x : Nat, x ≤ M ∧ s = .int .i64 x ∧ Below w.heap.size w wr ∧ Blk wr w.heap.size 24 #[.int .i64 SW, .int .i64 H, .slice A n c] ∧ Blk wr (w.heap.size + 1) 24 #[.int .i64 SW, .int .i64 SH, .slice SA sn sc] ∧ Blk wr (w.heap.size + 1 + 1 + 1) 24 #[.int .i64 0, .int .i64 0, .slice none 0 0] ∧ Blk wr gx 24 #[.int .i64 SW, .int .i64 H, .slice (some ⟨gp, 0, none⟩) n cp] ∧ ArrO wr gp n (rsP SW SH p sp (ln 4) up x (0 : Nat))) (fun s _ => M - (intOf s).toNat)
  case atStart => exact ⟨0, by omega, rfl, b4, k1, k2, k4, tx, sp0⟩
  case round =>
    obtain ⟨x, hx, rfl, b6, t1, t2, t4, tx, tp⟩ := hrel
    clear r4 r5 b4 k1 k2 k3 k4 sp0
    obtain ⟨r1, r2, r3⟩ := t1.cells3
    obtain ⟨y1, y2, y3⟩ := t2.cells3
    by_cases xl : (x : Int) < M
    · have xW : (x : Int) < SW := by have := HM4.out; omega
      have lx := HC5.out x (by omega) xl
      rw [Int.toNat_natCast] at lx
      have cx := (b6.cell (p := ⟨b5, o5 + x, none⟩) hb5).trans lx
      obtain ⟨pb1, pb2, -⟩ := PB.out x xl
      rw [Int.toNat_natCast] at pb1 pb2
      generalize hlx : ln 4 x = l at *
      have HLX := Lib.hid hlx
      clear lx hlx
      go_wp2_with fail
      go_loopw [69] (fun s wr => ∃ y : Nat, (y : Int) ≤ SH ∧ s = .int .i64 y ∧ Below w.heap.size w wr ∧ Blk wr w.heap.size 24 #[.int .i64 SW, .int .i64 H, .slice A n c] ∧ Blk wr (w.heap.size + 1) 24 #[.int .i64 SW, .int .i64 SH, .slice SA sn sc] ∧ Blk wr (w.heap.size + 1 + 1 + 1) 24 #[.int .i64 0, .int .i64 0, .slice none 0 0] ∧ Blk wr gx 24 #[.int .i64 SW, .int .i64 H, .slice (some ⟨gp, 0, none⟩) n cp] ∧ ArrO wr gp n (rsP SW SH p sp (ln 4) up x y)) (fun s _ => (SH - intOf s).toNat)
      case atStart => exact ⟨0, by omega, rfl, b6, t1, t2, t4, tx, tp⟩
      case round =>
        obtain ⟨y, hy, rfl, b7, a1, a2, a4, ax, ap⟩ := hrel
        clear r1 r2 r3 y1 y2 y3 b6 t1 t2 t4 tx tp cx
        obtain ⟨r1, r2, r3⟩ := a1.cells3
        obtain ⟨y1, y2, y3⟩ := a2.cells3
        obtain ⟨x1, x2, x3⟩ := ax.cells3
        by_cases yl : (y : Int) < SH
        · have v3 : IntKind.i64.wrap (l - up) = l - up := IntWalk.i64_in _ (by omega)
          have v4 : IntKind.i64.wrap (l - up + y) = l - up + y := IntWalk.i64_in _ (by omega)
          by_cases hin : 0 ≤ l - up + (y : Int) ∧ l - up + (y : Int) < H
          · obtain ⟨hi1, hi2⟩ := hin
            have d1 : decide (0 ≤ l - up + (y : Int)) = true := decide_eq_true hi1
            have d2 : decide (l - up + (y : Int) < H) = true := decide_eq_true hi2
            obtain ⟨i1, i2, i3⟩ := idx_lt (x := (x : Int)) (y := l - up + (y : Int)) (W := SW) (H := H) (by omega) xW hi1 hi2
            rw [Int.mul_comm H SW] at i2
            obtain ⟨j1, j2, j3⟩ := idx_lt (x := (x : Int)) (y := (y : Int)) (W := SW) (H := SH) (by omega) xW (by omega) yl
            rw [Int.mul_comm SH SW] at j2
            have i4 : (l - up + (y : Int)) * SW + x < (n : Int) := by have := HNN.out; omega
            have j4 : (y : Int) * SW + x < (sn : Int) := by have := HSN.out; omega
            have nb := (area_bd hW1 hW2 hH1 hH2).2
            have nb2 := (area_bd hSW1 hSW2 hSH1 hSH2).2
            have v5 : IntKind.i64.wrap ((l - up + (y : Int)) * SW) = (l - up + (y : Int)) * SW := IntWalk.i64_in _ (by omega)
            have v6 : IntKind.i64.wrap ((l - up + (y : Int)) * SW + x) = (l - up + (y : Int)) * SW + x := IntWalk.i64_in _ (by omega)
            have v7 : IntKind.i64.wrap ((y : Int) * SW) = (y : Int) * SW := IntWalk.i64_in _ (by omega)
            have v8 : IntKind.i64.wrap ((y : Int) * SW + x) = (y : Int) * SW + x := IntWalk.i64_in _ (by omega)
            obtain ⟨bi, oi, rfl, hbi, hci⟩ := ArrB.at_ (ArrB.below hS b7) j1 j4
            have cg := ap.cell i1 i4
            have fg := ap.frozen ((l - up + (y : Int)) * SW + x).toNat
            have KS := Lib.hid (ap.set ((l - up + (y : Int)) * SW + x) i1 i4 (sp ((y : Int) * SW + x)))
            have BS := Lib.hid (fun i => rsP_set (p := p) (q := sp) (l := ln 4) (up := up) (x := (x : Int)) (y := (y : Int)) (h := SH) (i := i) (by omega) xW (by omega) yl)
            generalize hpv : sp ((y : Int) * SW + x) = pv at *
            have HPV := Lib.hid hpv
            clear hpv
            go_wp2_with fail
            go_still_tail 19, (by kernel_rfl)
            change wpList _ _ _ _ _ wr.drew
            clear v5 v6 v7 v8
            go_wp2
            go_roundw
            case rel => exact ⟨y + 1, by omega, by go_num, by (repeat (first | exact Below.refl _ _ | assumption | refine Below.drew ?_ | refine below_drewN ?_ _ | refine Below.alloc ?_ (by first | omega | (simp; done) | (simp; omega)) _ | refine Below.setCell ?_ (by first | omega | (simp; done) | (simp; omega)) _ | refine below_setRow ?_ (by first | omega | (simp; done) | (simp; omega)) _ )), a1.drew.far (p := ⟨gp, ((l - up + (y : Int)) * SW + x).toNat, none⟩) (by show w.heap.size ≠ gp; omega) _, a2.drew.far (p := ⟨gp, ((l - up + (y : Int)) * SW + x).toNat, none⟩) (by show w.heap.size + 1 ≠ gp; omega) _, a4.drew.far (p := ⟨gp, ((l - up + (y : Int)) * SW + x).toNat, none⟩) (by show w.heap.size + 1 + 1 + 1 ≠ gp; omega) _, ax.drew.far (p := ⟨gp, ((l - up + (y : Int)) * SW + x).toNat, none⟩) (fun e => hgx e.symm) _, ArrO.conv (by simpa using KS.out.drew) fun i _ _ => by have h := BS.out i; rw [Int.toNat_natCast, HLX.out] at h; rw [Int.natCast_add]; exact h⟩
            case measure => simp [intOf]; omega
          · have SK := Lib.hid (fun i (h0 : 0 ≤ i) (h1 : i < SW * H) => rsP_skip (p := p) (q := sp) (l := ln 4) (up := up) (x := (x : Int)) (y := (y : Int)) (h := SH) (H := H) (W := SW) (i := i) (by omega) h0 h1 (by rw [Int.toNat_natCast, HLX.out]; exact hin))
            by_cases h0 : 0 ≤ l - up + (y : Int)
            · have hh2 : ¬ l - up + (y : Int) < H := fun h3 => hin ⟨h0, h3⟩
              have d1 : decide (0 ≤ l - up + (y : Int)) = true := decide_eq_true h0
              have d2 : decide (l - up + (y : Int) < H) = false := decide_eq_false hh2
              clear hin
              go_wp2_with fail
              go_roundw
              case rel => exact ⟨y + 1, by omega, by go_num, b7, a1, a2, a4, ax, ap.conv fun i i0 i1 => SK.out i i0 (by have := HNN.out; omega)⟩
              case measure => simp [intOf]; omega
            · have d1 : decide (0 ≤ l - up + (y : Int)) = false := decide_eq_false h0
              clear hin
              go_wp2_with fail
              go_roundw
              case rel => exact ⟨y + 1, by omega, by go_num, b7, a1, a2, a4, ax, ap.conv fun i i0 i1 => SK.out i i0 (by have := HNN.out; omega)⟩
              case measure => simp [intOf]; omega
        · have ey : (y : Int) = SH := by omega
          have ap2 := ap.conv (r := rsP SW SH p sp (ln 4) up ((x : Int) + 1) (0 : Nat)) fun i _ _ => by rw [ey]; exact rsP_col
          clear ap ey
          go_wp2_with fail
          go_roundw
          case rel => exact ⟨x + 1, by omega, by go_num, b7, a1, a2, a4, ax, ap2⟩
          case measure => simp [intOf]; omega
    · obtain rfl : x = M := by omega
      obtain ⟨s1, s2, s3⟩ := tx.cells3
      obtain ⟨f1, f2, f3⟩ := t4.frozen3
      obtain ⟨u1, u2, u3⟩ := t4.cells3
      have k5 := ((t4.set_ 0 (.int .i64 SW)).set_ 1 (.int .i64 H)).set_ 2 (.slice (some ⟨gp, 0, none⟩) n cp)
      obtain ⟨s4, s5, s6⟩ := Blk.cells3 (a := .int .i64 SW) (b := .int .i64 H) (c := .slice (some ⟨gp, 0, none⟩) n cp) k5
      go_wp2_with fail
      refine bodyPost_ret (v := .tuple #[.agg #[.int .i64 SW, .int .i64 H, .slice (some ⟨gp, 0, none⟩) n cp], .int .i64 0]) (by simp [results, Try.results45, go_sem, s4, s5, s6]) rfl ?_
      refine ⟨_, rfl, ⟨_, _, rfl, (fun a e => by cases e; show w.heap.size ≤ gp; omega), ?_⟩, by (repeat (first | exact Below.refl _ _ | assumption | refine Below.drew ?_ | refine below_drewN ?_ _ | refine Below.alloc ?_ (by first | omega | (simp; done) | (simp; omega)) _ | refine Below.setCell ?_ (by first | omega | (simp; done) | (simp; omega)) _ | refine below_setRow ?_ (by first | omega | (simp; done) | (simp; omega)) _ ))⟩
      have g1 : gp ≠ w.heap.size + 1 + 1 + 1 := by omega
      refine ArrO.arr (ArrO.far (ArrO.far (ArrO.far (tp.conv fun i _ _ => ?_) g1 _) g1 _) g1 _)
      rw [HM4.out]
      exact rsP_end (by omega)
end Go.Proofs.Ytdimlpcbbkokiaa

/- Plain: an image filled row by row by a condition; the strips as such images. No program in sight. -/
namespace Go.Proofs.Ytdimlpcbbkokiaa
open Go.RowKit
set_option linter.unusedVariables false
/-- ink where the condition holds -/
def fillB (C : Int → Int → Bool) (W : Int) : Int → Int := fun i => if C (i % W) (i / W) = true then 1 else 0
section
variable {C : Int → Int → Bool} {W H h x y i : Int}
theorem fillB_at (x0 : 0 ≤ x) (x1 : x < W) : fillB C W (y * W + x) = if C x y = true then 1 else 0 := by
  unfold fillB; rw [idx_mod x0 x1, idx_div x0 x1]
theorem fill_yes (x0 : 0 ≤ x) (x1 : x < W) (hc : C x y = true) : upd (byRow W (fillB C W) (fun _ => 0) y x) (y * W + x) 1 i = byRow W (fillB C W) (fun _ => 0) y (x + 1) i := by
  have h := byRow_set (q := fillB C W) (z := fun _ => 0) (y := y) (i := i) x0 x1
  rwa [fillB_at x0 x1, if_pos hc] at h
theorem fill_no (x0 : 0 ≤ x) (x1 : x < W) (hc : C x y = false) : byRow W (fillB C W) (fun _ => 0) y x i = byRow W (fillB C W) (fun _ => 0) y (x + 1) i :=
  byRow_skip x0 x1 (by rw [fillB_at x0 x1, if_neg (by simp [hc])])
theorem fillB_is01 : Is01 (fillB C W) := fun i => by unfold fillB; split <;> simp
end
/-- the reference's condition for a strip -/
def recC (W H : Int) (p : Int → Int) (l : Nat → Int) (up : Int) : Int → Int → Bool := fun x y => inkB W H p x (l x.toNat - up + y)
def resC (W H h : Int) (p q : Int → Int) (l : Nat → Int) (up : Int) : Int → Int → Bool := fun x y =>
  if 0 ≤ y - l x.toNat + up ∧ y - l x.toNat + up < h then inkB W h q x (y - l x.toNat + up) else inkB W H p x y
theorem recC_eq {W H up : Int} {n : Nat} {p : Int → Int} {l : Nat → Int} {i : Int} (hE : chk W H n p = 0) (hB : IsB p) (hW : 1 ≤ W) (h0 : 0 ≤ i) : recQ W H p l up i = fillB (recC W H p l up) W i := by
  obtain ⟨-, -, -, -, hn, hp⟩ := chk_ok hE
  have m0 : 0 ≤ i % W := Int.emod_nonneg _ (by omega)
  have m1 : i % W < W := Int.emod_lt_of_pos _ (by omega)
  unfold recQ fillB recC
  by_cases c : 0 ≤ l (i % W).toNat - up + i / W ∧ l (i % W).toNat - up + i / W < H
  · rw [if_pos c, inkB_in m0 m1 c.1 c.2]
    obtain ⟨i1, i2, -⟩ := idx_lt m0 m1 c.1 c.2
    have a := hp _ i1 (by rw [hn, Int.mul_comm W H]; exact i2)
    have b := (hB ((l (i % W).toNat - up + i / W) * W + i % W)).1
    by_cases e : p ((l (i % W).toNat - up + i / W) * W + i % W) = 1
    · rw [if_pos (decide_eq_true e), e]
    · rw [if_neg (by simp [e])]; omega
  · rw [if_neg c, if_neg (fun h => c ⟨(inkB_iff.1 h).2.2.1, (inkB_iff.1 h).2.2.2.1⟩)]
theorem resC_eq {W H h up : Int} {n ns : Nat} {p q : Int → Int} {l : Nat → Int} {i : Int} (hE : chk W H n p = 0) (hS : chk W h ns q = 0) (hB : IsB p) (hBq : IsB q) (hW : 1 ≤ W) (h0 : 0 ≤ i) (hi : i < W * H) : resQ W H h p q l up i = fillB (resC W H h p q l up) W i := by
  obtain ⟨-, -, -, -, hn, hp⟩ := chk_ok hE
  obtain ⟨-, -, -, -, hns, hq⟩ := chk_ok hS
  have m0 : 0 ≤ i % W := Int.emod_nonneg _ (by omega)
  have m1 : i % W < W := Int.emod_lt_of_pos _ (by omega)
  have h2 : 0 ≤ i / W := Int.ediv_nonneg h0 (by omega)
  have h3 : i / W < H := Int.ediv_lt_of_lt_mul (by omega) (by rw [Int.mul_comm]; exact hi)
  have e1 : i / W * W + i % W = i := by have := Int.emod_add_mul_ediv i W; rw [Int.mul_comm] at this; omega
  unfold resQ fillB resC
  by_cases c : 0 ≤ i / W - l (i % W).toNat + up ∧ i / W - l (i % W).toNat + up < h
  · rw [if_pos c, if_pos c, inkB_in m0 m1 c.1 c.2]
    obtain ⟨i1, i2, -⟩ := idx_lt m0 m1 c.1 c.2
    have a := hq _ i1 (by rw [hns, Int.mul_comm W h]; exact i2)
    have b := (hBq ((i / W - l (i % W).toNat + up) * W + i % W)).1
    by_cases e : q ((i / W - l (i % W).toNat + up) * W + i % W) = 1
    · rw [if_pos (decide_eq_true e), e]
    · rw [if_neg (by simp [e])]; omega
  · rw [if_neg c, if_neg c, inkB_in m0 m1 h2 h3, e1]
    have a := hp i h0 (by omega)
    have b := (hB i).1
    by_cases e : p i = 1
    · rw [if_pos (decide_eq_true e), e]
    · rw [if_neg (by simp [e])]; omega
end Go.Proofs.Ytdimlpcbbkokiaa

/- The program's Rectify and Restore, each in one piece. Written by gen/t40.py. -/
namespace Go.Proofs.Ytdimlpcbbkokiaa
open Go.RowKit Go.Shelf
set_option linter.unusedVariables false
/-- which error Rectify returns -/
def recE (W H : Int) (n : Nat) (p : Int → Int) (K : Nat) (m : Nat → Nat) (ln : Nat → Nat → Int) (up down : Int) : Int :=
  if stChk W H n p K m ln ≠ 0 then stChk W H n p K m ln else if up < 0 ∨ down < 0 then 1 else if 639 < up ∨ 639 - up < down then 2 else 0
theorem stChk_ok {W H : Int} {n : Nat} {p : Int → Int} {K : Nat} {m : Nat → Nat} {ln : Nat → Nat → Int} (h : stChk W H n p K m ln = 0) : chk W H n p = 0 ∧ StP W H K m ln := by
  unfold stChk at h
  by_cases hc : chk W H n p ≠ 0
  · rw [if_pos hc] at h; exact absurd h hc
  · rw [if_neg hc] at h
    refine ⟨Classical.not_not.1 hc, ?_⟩
    by_cases hs : stFits W H K m ln = true
    · exact stFits_iff.1 hs
    · rw [if_neg hs] at h; omega
theorem StP.pos {W H : Int} {K : Nat} {m : Nat → Nat} {ln : Nat → Nat → Int} (h : StP W H K m ln) : 1 ≤ W ∧ 1 ≤ H := by
  obtain ⟨-, h, -⟩ := h
  exact ⟨(isPathB_iff.1 (h 0 (by omega))).1.1, (isPathB_iff.1 (h 0 (by omega))).1.2.1⟩
theorem recE_ok {W H : Int} {n : Nat} {p : Int → Int} {K : Nat} {m : Nat → Nat} {ln : Nat → Nat → Int} {up down : Int} (h : recE W H n p K m ln up down = 0) : stChk W H n p K m ln = 0 ∧ 0 ≤ up ∧ 0 ≤ down ∧ up + down + 1 ≤ 640 := by
  unfold recE at h
  by_cases h1 : stChk W H n p K m ln ≠ 0
  · rw [if_pos h1] at h; exact absurd h h1
  · rw [if_neg h1] at h
    by_cases h2 : up < 0 ∨ down < 0
    · rw [if_pos h2] at h; omega
    · rw [if_neg h2] at h
      by_cases h3 : 639 < up ∨ 639 - up < down
      · rw [if_pos h3] at h; omega
      · exact ⟨Classical.not_not.1 h1, by omega, by omega, by omega⟩
theorem rectify_all (W H : Int) (A AL : Option Addr) (n c K cL : Nat) (p : Int → Int) (m : Nat → Nat) (ln : Nat → Nat → Int) (up down : Int) (E W2 H2 : Int) (N : Nat) (w : World) (hA : ArrB w w.heap.size A n p) (hn : n ≤ maxLen) (hB : IsB p) (hL : Lines w w.heap.size AL K m ln) (hm : ∀ i, i < K → m i ≤ maxLen) (hE : recE W H n p K m ln up down = E) (hs : RSize E W (up + down + 1) W2 H2 N) :
    Calls Try.prog 44 #[.agg #[.int .i64 W, .int .i64 H, .slice A n c], .agg #[.slice AL K cL], .int .i64 up, .int .i64 down] w (New w fun v w' => OutT w w' E W2 H2 N (recQ W H p (ln 4) up) v) := by
  by_cases h0 : E = 0
  · subst h0
    obtain ⟨h1, h2, h3, h4⟩ := recE_ok hE
    obtain ⟨hc, hP⟩ := stChk_ok h1
    obtain ⟨rfl, rfl, hN⟩ := hs.1 rfl
    exact (rectify_ok W2 H A AL n c K cL N p m ln up down _ w hA hn hB hL hm h1 hc hP h2 h3 rfl h4 hN).mono fun e w' ⟨v, he, ⟨g, hv, ho⟩, hb⟩ => ⟨v, he, by rw [hv]; exact ho.outT, hb⟩
  · have key : Calls Try.prog 44 #[.agg #[.int .i64 W, .int .i64 H, .slice A n c], .agg #[.slice AL K cL], .int .i64 up, .int .i64 down] w fun e w' => e = .returned (.tuple #[noImg, .int .i64 E]) ∧ Below w.heap.size w w' := by
      unfold recE at hE
      by_cases h1 : stChk W H n p K m ln ≠ 0
      · rw [if_pos h1] at hE
        exact rectify_chk W H A AL n c K cL p m ln up down E w hA hn hL hm hE h0
      · rw [if_neg h1] at hE
        have hz := Classical.not_not.1 h1
        by_cases h2 : up < 0 ∨ down < 0
        · rw [if_pos h2] at hE
          subst hE
          exact rectify_arg W H A AL n c K cL p m ln up down w hA hn hL hm hz h2
        · rw [if_neg h2] at hE
          by_cases h3 : 639 < up ∨ 639 - up < down
          · rw [if_pos h3] at hE
            subst hE
            by_cases h4 : 640 ≤ up ∨ 640 ≤ down
            · exact rectify_size1 W H A AL n c K cL p m ln up down w hA hn hL hm hz (by omega) (by omega) h4
            · exact rectify_size2 W H A AL n c K cL p m ln up down w hA hn hL hm hz (by omega) (by omega) (by omega) (by omega) (by omega)
          · rw [if_neg h3] at hE; omega
    exact key.mono fun e w' ⟨he, hb⟩ => ⟨_, he, outT_bad hs h0, hb⟩
theorem resE_ok {W H SW SH : Int} {n sn : Nat} {p sp : Int → Int} {K : Nat} {m : Nat → Nat} {ln : Nat → Nat → Int} {up : Int} (h : resE W H n p SW SH sn sp K m ln up = 0) :
    chk W H n p = 0 ∧ chk SW SH sn sp = 0 ∧ StP W H K m ln ∧ 0 ≤ up ∧ up < SH ∧ SW = W := by
  unfold resE at h
  by_cases h1 : orE (chk W H n p) (chk SW SH sn sp) ≠ 0
  · rw [if_pos h1] at h; exact absurd h h1
  · rw [if_neg h1] at h
    obtain ⟨e1, e2⟩ := orE_zero.1 (Classical.not_not.1 h1)
    by_cases h2 : stFits W H K m ln = false
    · rw [if_pos h2] at h; omega
    · rw [if_neg h2] at h
      by_cases h3 : up < 0 ∨ SH ≤ up
      · rw [if_pos h3] at h; omega
      · rw [if_neg h3] at h
        by_cases h4 : SW ≠ W
        · rw [if_pos h4] at h; omega
        · exact ⟨e1, e2, stFits_iff.1 (by simpa using h2), by omega, by omega, Classical.not_not.1 h4⟩
theorem restore_all (W H SW SH : Int) (A SA AL : Option Addr) (n c sn sc K cL : Nat) (p sp : Int → Int) (m : Nat → Nat) (ln : Nat → Nat → Int) (up : Int) (E W2 H2 : Int) (N : Nat) (w : World) (hA : ArrB w w.heap.size A n p) (hn : n ≤ 1000000) (hS : ArrB w w.heap.size SA sn sp) (hsn : sn ≤ maxLen) (hL : Lines w w.heap.size AL K m ln) (hm : ∀ i, i < K → m i ≤ maxLen) (hE : resE W H n p SW SH sn sp K m ln up = E) (hs : RSize E W H W2 H2 N) :
    Calls Try.prog 45 #[.agg #[.int .i64 W, .int .i64 H, .slice A n c], .agg #[.int .i64 SW, .int .i64 SH, .slice SA sn sc], .agg #[.slice AL K cL], .int .i64 up] w (New w fun v w' => OutT w w' E W2 H2 N (resQ W H SH p sp (ln 4) up) v) := by
  have hn2 : n ≤ maxLen := by unfold maxLen; omega
  by_cases h0 : E = 0
  · subst h0
    obtain ⟨rfl, rfl, hN⟩ := hs.1 rfl
    have hnn := (chk_ok (resE_ok hE).1).2.2.2.2.1
    obtain rfl : N = n := by omega
    exact restore_ok W2 H2 SW SH A SA AL N c sn sc K cL p sp m ln up w hA hn2 hS hsn hL hm hn hE
  · exact (restore_bad W H SW SH A SA AL n c sn sc K cL p sp m ln up w hA hn2 hS hsn hL hm E hE h0).mono fun e w' ⟨he, hb⟩ => ⟨_, he, outT_bad hs h0, hb⟩
end Go.Proofs.Ytdimlpcbbkokiaa

/- Walk: the reference's Rectify. Written by gen/t40.py. -/
namespace Go.Proofs.Ytdimlpcbbkokiaa
open Go.RowKit Go.Shelf
set_option linter.unusedVariables false
attribute [local go_sem] Oper.semAt_some
set_option maxRecDepth 100000 in
set_option maxHeartbeats 4000000 in
theorem rrectify_bad (W H : Int) (A AL : Option Addr) (n c K cL : Nat) (p : Int → Int) (m : Nat → Nat) (ln : Nat → Nat → Int) (up down : Int) (E : Int) (w : World) (hA : ArrB w w.heap.size A n p) (hn : n ≤ maxLen) (hB : IsB p) (hL : Lines w w.heap.size AL K m ln) (hm : ∀ i, i < K → m i ≤ maxLen) (hE : recE W H n p K m ln up down = E) (hE0 : E ≠ 0) :
    Calls Try.prog 82 #[.agg #[.int .i64 W, .int .i64 H, .slice A n c], .agg #[.slice AL K cL], .int .i64 up, .int .i64 down] w fun e w' => e = .returned (.tuple #[noImg, .int .i64 E]) ∧ Below w.heap.size w w' := by
  have HE := Lib.hid hE; have HE0 := Lib.hid hE0
  clear hE hE0
  have CK := Lib.hid fun w' hA' hL' => rcheck_st W H A AL n c K cL p m ln (stChk W H n p K m ln) w' hA' hn hB hL' hm rfl
  generalize hz : stChk W H n p K m ln = z at *
  have HZ := Lib.hid hz
  clear hz
  have b1 : Below w.heap.size w (((w.alloc (.cells #[.int .i64 W, .int .i64 H, .slice A n c] 24)).alloc (.cells #[.slice AL K cL] 54)).alloc (.cells #[.int .i64 0, .int .i64 0, .slice none 0 0] 24)) := by (repeat (first | exact Below.refl _ _ | assumption | refine Below.drew ?_ | refine below_drewN ?_ _ | refine Below.alloc ?_ (by first | omega | (simp; done) | (simp; omega)) _ | refine Below.setCell ?_ (by first | omega | (simp; done) | (simp; omega)) _ | refine below_setRow ?_ (by first | omega | (simp; done) | (simp; omega)) _ ))
  have k3 : Blk (((w.alloc (.cells #[.int .i64 W, .int .i64 H, .slice A n c] 24)).alloc (.cells #[.slice AL K cL] 54)).alloc (.cells #[.int .i64 0, .int .i64 0, .slice none 0 0] 24)) (w.heap.size + 1 + 1) 24 #[.int .i64 0, .int .i64 0, .slice none 0 0] := Blk.new' (by simp) _ _
  have k1 : Blk (((w.alloc (.cells #[.int .i64 W, .int .i64 H, .slice A n c] 24)).alloc (.cells #[.slice AL K cL] 54)).alloc (.cells #[.int .i64 0, .int .i64 0, .slice none 0 0] 24)) w.heap.size 24 #[.int .i64 W, .int .i64 H, .slice A n c] := ((Blk.new _ _ _).alloc _).alloc _
  have k2 : Blk (((w.alloc (.cells #[.int .i64 W, .int .i64 H, .slice A n c] 24)).alloc (.cells #[.slice AL K cL] 54)).alloc (.cells #[.int .i64 0, .int .i64 0, .slice none 0 0] 24)) (w.heap.size + 1) 54 #[.slice AL K cL] := (Blk.new' (by simp) _ _).alloc _
  go_enter Try.func82, Try.ntmps82
  go_wp2_with fail
  generalize (((w.alloc (.cells #[.int .i64 W, .int .i64 H, .slice A n c] 24)).alloc (.cells #[.slice AL K cL] 54)).alloc (.cells #[.int .i64 0, .int .i64 0, .slice none 0 0] 24)) = w1 at *
  refine (CK.out _ (hA.to b1) (hL.below b1)).mono ?_
  rintro e w2 ⟨rfl, hb2⟩
  have b2 := below_call b1 b1.size hb2
  replace k1 := k1.below' hb2
  replace k2 := k2.below' hb2
  replace k3 := k3.below' hb2
  clear hb2 b1 CK
  obtain ⟨p1, p2, p3⟩ := k1.cells3
  have p4 := k2.cells0
  have RE : Hid (E = if z ≠ 0 then z else if up < 0 ∨ down < 0 then 1 else if 639 < up ∨ 639 - up < down then 2 else 0) := by
    show _ = _
    rw [← HE.out]; unfold recE; rw [HZ.out]
  by_cases h0 : z = 0
  · subst h0
    by_cases h1 : up < 0 ∨ down < 0
    · have hE : E = 1 := by rw [RE.out, if_neg (by simp), if_pos h1]
      subst hE
      clear RE HE
      by_cases hu : up < 0
      · have d1 : decide (up < 0) = true := decide_eq_true hu
        clear h1
        obtain ⟨r1, r2, r3⟩ := k3.cells3
        obtain ⟨f1, f2, f3⟩ := k3.frozen3
        have k9 := ((k3.set_ 0 (.int .i64 0)).set_ 1 (.int .i64 0)).set_ 2 (.slice none 0 0)
        obtain ⟨s1, s2, s3⟩ := Blk.cells3 (a := .int .i64 0) (b := .int .i64 0) (c := .slice none 0 0) k9
        go_wp2_with fail
        refine bodyPost_ret (v := .tuple #[noImg, .int .i64 1]) (by simp [results, Try.results82, go_sem, noImg, s1, s2, s3]) rfl ?_
        exact ⟨rfl, by (repeat (first | with_reducible exact Below.refl _ _ | with_reducible assumption | with_reducible refine Below.drew ?_ | (with_reducible refine below_alloc' ?_ ?_; focus (first | omega | (simp; done) | (simp; omega))) | (with_reducible refine below_fill3' ?_ ?_; focus omega) | (with_reducible refine below_setCell' ?_ ?_; focus (first | omega | (simp; done) | (simp; omega))) | (with_reducible apply below_call'; (focus (with_reducible assumption)); (focus (first | omega | (simp; done) | (simp; omega))))))⟩
      · have d1 : decide (up < 0) = false := decide_eq_false hu
        have hd : down < 0 := by omega
        have d2 : decide (down < 0) = true := decide_eq_true hd
        clear h1
        obtain ⟨r1, r2, r3⟩ := k3.cells3
        obtain ⟨f1, f2, f3⟩ := k3.frozen3
        have k9 := ((k3.set_ 0 (.int .i64 0)).set_ 1 (.int .i64 0)).set_ 2 (.slice none 0 0)
        obtain ⟨s1, s2, s3⟩ := Blk.cells3 (a := .int .i64 0) (b := .int .i64 0) (c := .slice none 0 0) k9
        go_wp2_with fail
        refine bodyPost_ret (v := .tuple #[noImg, .int .i64 1]) (by simp [results, Try.results82, go_sem, noImg, s1, s2, s3]) rfl ?_
        exact ⟨rfl, by (repeat (first | with_reducible exact Below.refl _ _ | with_reducible assumption | with_reducible refine Below.drew ?_ | (with_reducible refine below_alloc' ?_ ?_; focus (first | omega | (simp; done) | (simp; omega))) | (with_reducible refine below_fill3' ?_ ?_; focus omega) | (with_reducible refine below_setCell' ?_ ?_; focus (first | omega | (simp; done) | (simp; omega))) | (with_reducible apply below_call'; (focus (with_reducible assumption)); (focus (first | omega | (simp; done) | (simp; omega))))))⟩
    · have hE : E = 2 := by
        rw [RE.out, if_neg (by simp), if_neg h1]
        by_cases h3 : 639 < up ∨ 639 - up < down
        · rw [if_pos h3]
        · exact absurd (by rw [RE.out, if_neg (by simp), if_neg h1, if_neg h3]) HE0.out
      have h3 : 639 < up ∨ 639 - up < down := by
        by_cases h3 : 639 < up ∨ 639 - up < down
        · exact h3
        · exact absurd (by rw [RE.out, if_neg (by simp), if_neg h1, if_neg h3]) HE0.out
      subst hE
      have d1 : decide (up < 0) = false := decide_eq_false (by omega)
      have d2 : decide (down < 0) = false := decide_eq_false (by omega)
      have u0 : 0 ≤ up := by omega
      have u1 : 0 ≤ down := by omega
      clear RE HE h1
      by_cases hu : 639 < up
      · have d3 : decide (639 < up) = true := decide_eq_true hu
        clear h3
        obtain ⟨r1, r2, r3⟩ := k3.cells3
        obtain ⟨f1, f2, f3⟩ := k3.frozen3
        have k9 := ((k3.set_ 0 (.int .i64 0)).set_ 1 (.int .i64 0)).set_ 2 (.slice none 0 0)
        obtain ⟨s1, s2, s3⟩ := Blk.cells3 (a := .int .i64 0) (b := .int .i64 0) (c := .slice none 0 0) k9
        go_wp2_with fail
        refine bodyPost_ret (v := .tuple #[noImg, .int .i64 2]) (by simp [results, Try.results82, go_sem, noImg, s1, s2, s3]) rfl ?_
        exact ⟨rfl, by (repeat (first | with_reducible exact Below.refl _ _ | with_reducible assumption | with_reducible refine Below.drew ?_ | (with_reducible refine below_alloc' ?_ ?_; focus (first | omega | (simp; done) | (simp; omega))) | (with_reducible refine below_fill3' ?_ ?_; focus omega) | (with_reducible refine below_setCell' ?_ ?_; focus (first | omega | (simp; done) | (simp; omega))) | (with_reducible apply below_call'; (focus (with_reducible assumption)); (focus (first | omega | (simp; done) | (simp; omega))))))⟩
      · have d3 : decide (639 < up) = false := decide_eq_false hu
        have hd : 639 - up < down := by omega
        have d4 : decide (639 - up < down) = true := decide_eq_true hd
        clear h3
        obtain ⟨r1, r2, r3⟩ := k3.cells3
        obtain ⟨f1, f2, f3⟩ := k3.frozen3
        have k9 := ((k3.set_ 0 (.int .i64 0)).set_ 1 (.int .i64 0)).set_ 2 (.slice none 0 0)
        obtain ⟨s1, s2, s3⟩ := Blk.cells3 (a := .int .i64 0) (b := .int .i64 0) (c := .slice none 0 0) k9
        go_wp2_with fail
        refine bodyPost_ret (v := .tuple #[noImg, .int .i64 2]) (by simp [results, Try.results82, go_sem, noImg, s1, s2, s3]) rfl ?_
        exact ⟨rfl, by (repeat (first | with_reducible exact Below.refl _ _ | with_reducible assumption | with_reducible refine Below.drew ?_ | (with_reducible refine below_alloc' ?_ ?_; focus (first | omega | (simp; done) | (simp; omega))) | (with_reducible refine below_fill3' ?_ ?_; focus omega) | (with_reducible refine below_setCell' ?_ ?_; focus (first | omega | (simp; done) | (simp; omega))) | (with_reducible apply below_call'; (focus (with_reducible assumption)); (focus (first | omega | (simp; done) | (simp; omega))))))⟩
  · have hE : E = z := by rw [RE.out, if_pos h0]
    subst hE
    have hz2 : (E != 0) = true := by simp [h0]
    have HH := Lib.hid h0
    clear h0 RE HE
    obtain ⟨r1, r2, r3⟩ := k3.cells3
    obtain ⟨f1, f2, f3⟩ := k3.frozen3
    have k9 := ((k3.set_ 0 (.int .i64 0)).set_ 1 (.int .i64 0)).set_ 2 (.slice none 0 0)
    obtain ⟨s1, s2, s3⟩ := Blk.cells3 (a := .int .i64 0) (b := .int .i64 0) (c := .slice none 0 0) k9
    go_wp2_with fail
    refine bodyPost_ret (v := .tuple #[noImg, .int .i64 E]) (by simp [results, Try.results82, go_sem, noImg, s1, s2, s3]) rfl ?_
    exact ⟨rfl, by (repeat (first | with_reducible exact Below.refl _ _ | with_reducible assumption | with_reducible refine Below.drew ?_ | (with_reducible refine below_alloc' ?_ ?_; focus (first | omega | (simp; done) | (simp; omega))) | (with_reducible refine below_fill3' ?_ ?_; focus omega) | (with_reducible refine below_setCell' ?_ ?_; focus (first | omega | (simp; done) | (simp; omega))) | (with_reducible apply below_call'; (focus (with_reducible assumption)); (focus (first | omega | (simp; done) | (simp; omega))))))⟩

set_option maxRecDepth 100000 in
set_option maxHeartbeats 4000000 in
theorem rrectify_ok (W H : Int) (A AL : Option Addr) (n c K cL : Nat) (p : Int → Int) (m : Nat → Nat) (ln : Nat → Nat → Int) (up down : Int) (h : Int) (N : Nat) (w : World) (hA : ArrB w w.heap.size A n p) (hn : n ≤ maxLen) (hB : IsB p) (hL : Lines w w.heap.size AL K m ln) (hm : ∀ i, i < K → m i ≤ maxLen) (hE : recE W H n p K m ln up down = 0) (hh : h = up + down + 1) (hN : (N : Int) = W * h) :
    Calls Try.prog 82 #[.agg #[.int .i64 W, .int .i64 H, .slice A n c], .agg #[.slice AL K cL], .int .i64 up, .int .i64 down] w (New w fun v w' => OutT w w' 0 W h N (fillB (recC W H p (ln 4) up) W) v) := by
  obtain ⟨e1, e2, e3, e4⟩ := recE_ok hE
  obtain ⟨hc, hP⟩ := stChk_ok e1
  obtain ⟨hW1, hW2, hH1, hH2, hnn, -⟩ := chk_ok hc
  obtain ⟨W1, H1⟩ := hP.pos
  obtain ⟨rfl, hpath, -⟩ := hP
  obtain ⟨⟨-, -, m4⟩, hst2⟩ := isPathB_iff.1 (hpath 4 (by omega))
  have PB := Lib.hid fun (x : Nat) (hx : (x : Int) < m 4) => stepB_iff.1 (hst2 x (by omega) hx)
  have NO := Lib.hid fun w' => rnew_any W h N w' hW1 hW2 (by omega) (by omega) hN
  have HM4 := Lib.hid m4; have HNN := Lib.hid hnn; have HN := Lib.hid hN; have HHH := Lib.hid hh
  have nb := (area_bd (W := W) (H := h) hW1 hW2 (by omega) (by omega)).2
  have d1 : decide (up < 0) = false := decide_eq_false (by omega)
  have d2 : decide (down < 0) = false := decide_eq_false (by omega)
  have d3 : decide (639 < up) = false := decide_eq_false (by omega)
  have d4 : decide (639 - up < down) = false := decide_eq_false (by omega)
  have v1 : IntKind.i64.wrap (up + down) = up + down := IntWalk.i64_in _ (by omega)
  have v2 : IntKind.i64.wrap (up + down + 1) = h := by rw [hh]; exact IntWalk.i64_in _ (by omega)
  have v3 : IntKind.i64.wrap (639 - up) = 639 - up := IntWalk.i64_in _ (by omega)
  have hh2 : 1 ≤ h ∧ h ≤ 640 := by omega
  have HE1 := Lib.hid e1
  have ev : up + down + 1 = h := hh.symm
  clear hE e1 hpath hst2 m4 hnn hN hh hc
  have CK := Lib.hid fun w' hA' hL' => rcheck_st W H A AL n c 5 cL p m ln (stChk W H n p 5 m ln) w' hA' hn hB hL' hm rfl
  generalize hz : stChk W H n p 5 m ln = z at *
  have HZ := Lib.hid hz
  clear hz
  have b1 : Below w.heap.size w (((w.alloc (.cells #[.int .i64 W, .int .i64 H, .slice A n c] 24)).alloc (.cells #[.slice AL 5 cL] 54)).alloc (.cells #[.int .i64 0, .int .i64 0, .slice none 0 0] 24)) := by (repeat (first | exact Below.refl _ _ | assumption | refine Below.drew ?_ | refine below_drewN ?_ _ | refine Below.alloc ?_ (by first | omega | (simp; done) | (simp; omega)) _ | refine Below.setCell ?_ (by first | omega | (simp; done) | (simp; omega)) _ | refine below_setRow ?_ (by first | omega | (simp; done) | (simp; omega)) _ ))
  have k3 : Blk (((w.alloc (.cells #[.int .i64 W, .int .i64 H, .slice A n c] 24)).alloc (.cells #[.slice AL 5 cL] 54)).alloc (.cells #[.int .i64 0, .int .i64 0, .slice none 0 0] 24)) (w.heap.size + 1 + 1) 24 #[.int .i64 0, .int .i64 0, .slice none 0 0] := Blk.new' (by simp) _ _
  have k1 : Blk (((w.alloc (.cells #[.int .i64 W, .int .i64 H, .slice A n c] 24)).alloc (.cells #[.slice AL 5 cL] 54)).alloc (.cells #[.int .i64 0, .int .i64 0, .slice none 0 0] 24)) w.heap.size 24 #[.int .i64 W, .int .i64 H, .slice A n c] := ((Blk.new _ _ _).alloc _).alloc _
  have k2 : Blk (((w.alloc (.cells #[.int .i64 W, .int .i64 H, .slice A n c] 24)).alloc (.cells #[.slice AL 5 cL] 54)).alloc (.cells #[.int .i64 0, .int .i64 0, .slice none 0 0] 24)) (w.heap.size + 1) 54 #[.slice AL 5 cL] := (Blk.new' (by simp) _ _).alloc _
  go_enter Try.func82, Try.ntmps82
  go_wp2_with fail
  generalize (((w.alloc (.cells #[.int .i64 W, .int .i64 H, .slice A n c] 24)).alloc (.cells #[.slice AL 5 cL] 54)).alloc (.cells #[.int .i64 0, .int .i64 0, .slice none 0 0] 24)) = w1 at *
  refine (CK.out _ (hA.to b1) (hL.below b1)).mono ?_
  rintro e w2 ⟨rfl, hb2⟩
  have b2 := below_call b1 b1.size hb2
  replace k1 := k1.below' hb2
  replace k2 := k2.below' hb2
  replace k3 := k3.below' hb2
  clear hb2 b1 CK
  obtain ⟨p1, p2, p3⟩ := k1.cells3
  have p4 := k2.cells0
  obtain rfl : z = 0 := HE1.out
  go_wp2_with fail
  refine (NO.out _).mono ?_
  rintro e w3 ⟨_, rfl, ⟨gp, rfl, hgp, kp⟩, hb3⟩
  have HV := Lib.hid ev
  clear ev d1 d2 d3 d4 v1 v2 v3 p1 p2 p3 p4 NO
  have z2 := k3.lt
  have z3 := hb3.size
  have z4 := kp.lt
  have b3 := below_call b2 b2.size hb3
  have b5 : Below w.heap.size w (w3.alloc (.cells #[.int .i64 W, .int .i64 h, .slice (some ⟨gp, 0, none⟩) N N] 24)) := b3.alloc b3.size _
  replace k1 := (k1.below' hb3).alloc (.cells #[.int .i64 W, .int .i64 h, .slice (some ⟨gp, 0, none⟩) N N] 24)
  replace k2 := (k2.below' hb3).alloc (.cells #[.int .i64 W, .int .i64 h, .slice (some ⟨gp, 0, none⟩) N N] 24)
  replace k3 := (k3.below' hb3).alloc (.cells #[.int .i64 W, .int .i64 h, .slice (some ⟨gp, 0, none⟩) N N] 24)
  have kx := Blk.new w3 24 #[.int .i64 W, .int .i64 h, .slice (some ⟨gp, 0, none⟩) N N]
  obtain ⟨C, hC⟩ : ∃ C, C = recC W H p (ln 4) up := ⟨_, rfl⟩
  have HC := Lib.hid hC
  have kp2 : Blk (w3.alloc (.cells #[.int .i64 W, .int .i64 h, .slice (some ⟨gp, 0, none⟩) N N] 24)) gp 5 (u8s N (byRow W (fillB C W) (fun _ => 0) (0 : Nat) (0 : Nat))) := (kp.alloc _).u8conv fun i i0 _ => (byRow_zero (W := W) (q := fillB C W) (z := fun _ => 0) (by omega) i0).symm
  have hgx : gp ≠ w3.heap.size := by omega
  obtain ⟨bA, oA, A4, c4, rfl, hbA, hcA, haA⟩ := hL.at_ (i := 4) (by omega)
  obtain ⟨b5', o5, rfl, hb5, hc5⟩ := ArrI.fn haA (by have := HM4.out; omega)
  have HC5 := Lib.hid hc5
  have HCA := Lib.hid hcA
  clear hC hc5 hcA kp b2 b3 hb3
  go_wp2_with fail
  generalize w3.alloc (.cells #[.int .i64 W, .int .i64 h, .slice (some ⟨gp, 0, none⟩) N N] 24) = w5 at *
  generalize w3.heap.size = gx at *
  go_loopw [12] (fun s wr => ∃ y : Nat, (y : Int) ≤ h ∧ s = .int .i64 y ∧ Below w.heap.size w wr ∧ Blk wr w.heap.size 24 #[.int .i64 W, .int .i64 H, .slice A n c] ∧ Blk wr (w.heap.size + 1) 54 #[.slice (some ⟨bA, oA, none⟩) 5 cL] ∧ Blk wr (w.heap.size + 1 + 1) 24 #[.int .i64 0, .int .i64 0, .slice none 0 0] ∧ Blk wr gx 24 #[.int .i64 W, .int .i64 h, .slice (some ⟨gp, 0, none⟩) N N] ∧ Blk wr gp 5 (u8s N (byRow W (fillB C W) (fun _ => 0) y (0 : Nat)))) (fun s _ => (h - intOf s).toNat)
  case atStart => exact ⟨0, by omega, rfl, b5, k1, k2, k3, kx, kp2⟩
  case round =>
    obtain ⟨y, hy, rfl, b6, t1, t2, t3, tx, tp⟩ := hrel
    clear b5 k1 k2 k3 kx kp2
    obtain ⟨x1, x2, x3⟩ := tx.cells3
    by_cases yl : (y : Int) < h
    · go_wp2_with fail
      go_loopw [13] (fun s wr => ∃ x : Nat, (x : Int) ≤ W ∧ s = .int .i64 x ∧ Below w.heap.size w wr ∧ Blk wr w.heap.size 24 #[.int .i64 W, .int .i64 H, .slice A n c] ∧ Blk wr (w.heap.size + 1) 54 #[.slice (some ⟨bA, oA, none⟩) 5 cL] ∧ Blk wr (w.heap.size + 1 + 1) 24 #[.int .i64 0, .int .i64 0, .slice none 0 0] ∧ Blk wr gx 24 #[.int .i64 W, .int .i64 h, .slice (some ⟨gp, 0, none⟩) N N] ∧ Blk wr gp 5 (u8s N (byRow W (fillB C W) (fun _ => 0) y x))) (fun s _ => (W - intOf s).toNat)
      case atStart => exact ⟨0, by omega, rfl, b6, t1, t2, t3, tx, tp⟩
      case round =>
        obtain ⟨x, hx, rfl, b7, a1, a2, a3, ax, ap⟩ := hrel
        clear x1 x2 x3 b6 t1 t2 t3 tx tp
        obtain ⟨x1, x2, x3⟩ := ax.cells3
        obtain ⟨p1, p2, p3⟩ := a1.cells3
        have p4 := a2.cells0
        by_cases xl : (x : Int) < W
        · have p5 := (b7.cell (p := ⟨bA, oA + 4, none⟩) hbA).trans HCA.out
          have xm : (x : Int) < m 4 := by have := HM4.out; omega
          have lx := HC5.out x (by omega) xm
          rw [Int.toNat_natCast] at lx
          have p6 := (b7.cell (p := ⟨b5', o5 + x, none⟩) hb5).trans lx
          obtain ⟨pb1, pb2, -⟩ := PB.out x xm
          rw [Int.toNat_natCast] at pb1 pb2
          generalize hlx : ln 4 x = l at *
          have HLX := Lib.hid hlx
          have v4 : IntKind.i64.wrap (l - up) = l - up := IntWalk.i64_in _ (by have := HV.out; omega)
          have v5 : IntKind.i64.wrap (l - up + y) = l - up + y := IntWalk.i64_in _ (by have := HV.out; omega)
          have IK := Lib.hid fun w' hA' => rink_any W H A n c p x (l - up + y) w' hA' hW2 hH2 HNN.out
          have CE : Hid (C x y = inkB W H p x (l - up + y)) := by
            show _ = _
            rw [HC.out]; unfold recC; rw [Int.toNat_natCast, HLX.out]
          have AB := Lib.hid ((ArrB.below hA b7).more b7.size)
          have g3 : (5 : Nat) ≤ 5 := Nat.le_refl _
          clear lx hlx
          cases hi : inkB W H p x (l - up + y) with
          | true =>
            rw [hi] at IK CE
            clear hi
            go_wp2_with fail
            go_still_tail 13, (by kernel_rfl)
            change wpList _ _ _ _ _ wr.drew
            have AB2 := Lib.hid (show ArrB wr.drew wr.drew.heap.size A n p from AB.out)
            have c1 := a1.drew; have c2 := a2.drew; have c3 := a3.drew; have cx := ax.drew; have cp := ap.drew; have cb := b7.drew
            clear v4 v5 a1 a2 a3 ax ap b7 AB
            generalize wr.drew = w6 at *
            go_wp2_with fail
            refine (IK.out _ AB2.out).mono ?_
            rintro e w7 ⟨rfl, hb7⟩
            replace c1 := c1.below' hb7; replace c2 := c2.below' hb7; replace c3 := c3.below' hb7; replace cx := cx.below' hb7; replace cp := cp.below' hb7; replace cb := below_call cb cb.size hb7
            clear hb7 p1 p2 p3 p4 p5 p6 x1 x2 x3
            obtain ⟨q1, q2, q3⟩ := cx.cells3
            go_wp2_with fail
            refine (rset_any W h gp N N 5 _ x y _ cp (by omega) xl (by omega) yl hW2 hh2.2 HN.out).mono ?_
            rintro e w8 ⟨rfl, hk8, hg8⟩
            have zz := cb.size
            replace c1 := c1.grown hg8 (by simp; omega); replace c2 := c2.grown hg8 (by simp; omega); replace c3 := c3.grown hg8 (by simp; omega); replace cx := cx.grown hg8 (by simp; omega)
            have cb2 : Below w.heap.size w w8 := cb.grown hg8 cb.size (fun k hk => by cases hk; omega)
            clear q1 q2 q3 cp cb hg8
            go_wp2_with fail
            go_roundw
            case rel => exact ⟨x + 1, by omega, by go_num, cb2, c1, c2, c3, cx, hk8.u8conv fun i _ _ => by rw [Int.natCast_add]; exact fill_yes (by omega) xl CE.out⟩
            case measure => simp [intOf]; omega
          | false =>
            rw [hi] at IK CE
            clear hi
            go_wp2_with fail
            go_still_tail 13, (by kernel_rfl)
            change wpList _ _ _ _ _ wr.drew
            have AB2 := Lib.hid (show ArrB wr.drew wr.drew.heap.size A n p from AB.out)
            have c1 := a1.drew; have c2 := a2.drew; have c3 := a3.drew; have cx := ax.drew; have cp := ap.drew; have cb := b7.drew
            clear v4 v5 a1 a2 a3 ax ap b7 AB
            generalize wr.drew = w6 at *
            go_wp2_with fail
            refine (IK.out _ AB2.out).mono ?_
            rintro e w7 ⟨rfl, hb7⟩
            replace c1 := c1.below' hb7; replace c2 := c2.below' hb7; replace c3 := c3.below' hb7; replace cx := cx.below' hb7; replace cp := cp.below' hb7; replace cb := below_call cb cb.size hb7
            clear hb7 p1 p2 p3 p4 p5 p6 x1 x2 x3
            go_wp2_with fail
            go_roundw
            case rel => exact ⟨x + 1, by omega, by go_num, cb, c1, c2, c3, cx, cp.u8conv fun i _ _ => by rw [Int.natCast_add]; exact fill_no (by omega) xl CE.out⟩
            case measure => simp [intOf]; omega
        · have ex : (x : Int) = W := by omega
          have ap2 := ap.u8conv (r := byRow W (fillB C W) (fun _ => 0) ((y : Int) + 1) (0 : Nat)) fun i _ _ => by rw [ex]; exact byRow_row (by omega)
          clear ap ex
          go_wp2_with fail
          go_roundw
          case rel => exact ⟨y + 1, by omega, by go_num, b7, a1, a2, a3, ax, ap2⟩
          case measure => simp [intOf]; omega
    · have ey : (y : Int) = h := by omega
      obtain ⟨u1, u2, u3⟩ := t3.cells3
      obtain ⟨f1, f2, f3⟩ := t3.frozen3
      have k5 := ((t3.set_ 0 (.int .i64 W)).set_ 1 (.int .i64 h)).set_ 2 (.slice (some ⟨gp, 0, none⟩) N N)
      obtain ⟨s4, s5, s6⟩ := Blk.cells3 (a := .int .i64 W) (b := .int .i64 h) (c := .slice (some ⟨gp, 0, none⟩) N N) k5
      have zz := b6.size
      have g1 : gp ≠ w.heap.size + 1 + 1 := by omega
      have TP := Lib.hid (tp.u8conv (r := fillB C W) fun i _ i1 => by rw [ey]; exact byRow_end (h := h) (by omega) (by have := HN.out; omega))
      clear tp ey
      go_wp2_with fail
      refine bodyPost_ret (v := .tuple #[.agg #[.int .i64 W, .int .i64 h, .slice (some ⟨gp, 0, none⟩) N N], .int .i64 0]) (by simp [results, Try.results82, go_sem, s4, s5, s6]) rfl ?_
      refine ⟨_, rfl, ⟨_, _, rfl, (fun a e => by cases e; show w.heap.size ≤ gp; omega), ?_⟩, by (repeat (first | exact Below.refl _ _ | assumption | refine Below.drew ?_ | refine below_drewN ?_ _ | refine Below.alloc ?_ (by first | omega | (simp; done) | (simp; omega)) _ | refine Below.setCell ?_ (by first | omega | (simp; done) | (simp; omega)) _ | refine below_setRow ?_ (by first | omega | (simp; done) | (simp; omega)) _ ))⟩
      have KE := Blk.far (Blk.far (Blk.far TP.out (p := ⟨w.heap.size + 1 + 1, 0, none⟩) g1 (.int .i64 W)) (p := ⟨w.heap.size + 1 + 1, 1, none⟩) g1 (.int .i64 h)) (p := ⟨w.heap.size + 1 + 1, 2, none⟩) g1 (.slice (some ⟨gp, 0, none⟩) N N)
      rw [HC.out] at KE
      exact KE.arrB KE.lt
end Go.Proofs.Ytdimlpcbbkokiaa

/- Walk: the reference's Restore. Written by gen/t42.py. -/
namespace Go.Proofs.Ytdimlpcbbkokiaa
open Go.RowKit Go.Shelf
set_option linter.unusedVariables false
attribute [local go_sem] Oper.semAt_some
set_option maxRecDepth 100000 in
set_option maxHeartbeats 4000000 in
theorem rrestore_bad (W H SW SH : Int) (A SA AL : Option Addr) (n c sn sc K cL : Nat) (p sp : Int → Int) (m : Nat → Nat) (ln : Nat → Nat → Int) (up : Int) (E : Int) (w : World) (hA : ArrB w w.heap.size A n p) (hn : n ≤ maxLen) (hB : IsB p) (hS : ArrB w w.heap.size SA sn sp) (hsn : sn ≤ maxLen) (hBS : IsB sp) (hL : Lines w w.heap.size AL K m ln) (hm : ∀ i, i < K → m i ≤ maxLen) (hE : resE W H n p SW SH sn sp K m ln up = E) (hE0 : E ≠ 0) :
    Calls Try.prog 83 #[.agg #[.int .i64 W, .int .i64 H, .slice A n c], .agg #[.int .i64 SW, .int .i64 SH, .slice SA sn sc], .agg #[.slice AL K cL], .int .i64 up] w fun e w' => e = .returned (.tuple #[noImg, .int .i64 E]) ∧ Below w.heap.size w w' := by
  have C1 := Lib.hid fun w' hA' => rcheck_any W H A n c p w' hA' hn hB
  have C2 := Lib.hid fun w' hA' => rcheck_any SW SH SA sn sc sp w' hA' hsn hBS
  have b1 : Below w.heap.size w ((((w.alloc (.cells #[.int .i64 W, .int .i64 H, .slice A n c] 24)).alloc (.cells #[.int .i64 SW, .int .i64 SH, .slice SA sn sc] 24)).alloc (.cells #[.slice AL K cL] 54)).alloc (.cells #[.int .i64 0, .int .i64 0, .slice none 0 0] 24)) := by (repeat (first | exact Below.refl _ _ | assumption | refine Below.drew ?_ | refine below_drewN ?_ _ | refine Below.alloc ?_ (by first | omega | (simp; done) | (simp; omega)) _ | refine Below.setCell ?_ (by first | omega | (simp; done) | (simp; omega)) _ | refine below_setRow ?_ (by first | omega | (simp; done) | (simp; omega)) _ ))
  have k4 : Blk ((((w.alloc (.cells #[.int .i64 W, .int .i64 H, .slice A n c] 24)).alloc (.cells #[.int .i64 SW, .int .i64 SH, .slice SA sn sc] 24)).alloc (.cells #[.slice AL K cL] 54)).alloc (.cells #[.int .i64 0, .int .i64 0, .slice none 0 0] 24)) (w.heap.size + 1 + 1 + 1) 24 #[.int .i64 0, .int .i64 0, .slice none 0 0] := Blk.new' (by simp) _ _
  have k1 : Blk ((((w.alloc (.cells #[.int .i64 W, .int .i64 H, .slice A n c] 24)).alloc (.cells #[.int .i64 SW, .int .i64 SH, .slice SA sn sc] 24)).alloc (.cells #[.slice AL K cL] 54)).alloc (.cells #[.int .i64 0, .int .i64 0, .slice none 0 0] 24)) w.heap.size 24 #[.int .i64 W, .int .i64 H, .slice A n c] := (((Blk.new _ _ _).alloc _).alloc _).alloc _
  have k2 : Blk ((((w.alloc (.cells #[.int .i64 W, .int .i64 H, .slice A n c] 24)).alloc (.cells #[.int .i64 SW, .int .i64 SH, .slice SA sn sc] 24)).alloc (.cells #[.slice AL K cL] 54)).alloc (.cells #[.int .i64 0, .int .i64 0, .slice none 0 0] 24)) (w.heap.size + 1) 24 #[.int .i64 SW, .int .i64 SH, .slice SA sn sc] := ((Blk.new' (by simp) _ _).alloc _).alloc _
  have k3 : Blk ((((w.alloc (.cells #[.int .i64 W, .int .i64 H, .slice A n c] 24)).alloc (.cells #[.int .i64 SW, .int .i64 SH, .slice SA sn sc] 24)).alloc (.cells #[.slice AL K cL] 54)).alloc (.cells #[.int .i64 0, .int .i64 0, .slice none 0 0] 24)) (w.heap.size + 1 + 1) 54 #[.slice AL K cL] := (Blk.new' (by simp) _ _).alloc _
  have HE := Lib.hid hE; have HE0 := Lib.hid hE0
  clear hE hE0
  generalize hz1 : chk W H n p = z1 at *
  generalize hz2 : chk SW SH sn sp = z2 at *
  have HZ1 := Lib.hid hz1; have HZ2 := Lib.hid hz2
  clear hz1 hz2
  have RE : Hid (E = if orE z1 z2 ≠ 0 then orE z1 z2 else if stFits W H K m ln = false then 10 else if up < 0 ∨ SH ≤ up then 1 else if SW ≠ W then 2 else 0) := by
    show _ = _
    rw [← HE.out]; unfold resE; rw [HZ1.out, HZ2.out]
  clear HE
  go_enter Try.func83, Try.ntmps83
  go_wp2_with fail
  generalize ((((w.alloc (.cells #[.int .i64 W, .int .i64 H, .slice A n c] 24)).alloc (.cells #[.int .i64 SW, .int .i64 SH, .slice SA sn sc] 24)).alloc (.cells #[.slice AL K cL] 54)).alloc (.cells #[.int .i64 0, .int .i64 0, .slice none 0 0] 24)) = w1 at *
  refine (C1.out _ (hA.to b1)).mono ?_
  rintro e w2 ⟨rfl, hb2⟩
  have b2 := below_call b1 b1.size hb2
  replace k1 := k1.below' hb2
  replace k2 := k2.below' hb2
  replace k3 := k3.below' hb2
  replace k4 := k4.below' hb2
  clear hb2 b1 C1
  by_cases h1 : z1 = 0
  · subst h1
    obtain ⟨q1, q2, q3⟩ := k2.cells3
    go_wp2_with fail
    refine (C2.out _ (hS.to b2)).mono ?_
    rintro e w3 ⟨rfl, hb3⟩
    have b3 := below_call b2 b2.size hb3
    replace k1 := k1.below' hb3
    replace k2 := k2.below' hb3
    replace k3 := k3.below' hb3
    replace k4 := k4.below' hb3
    clear hb3 b2 C2 q1 q2 q3
    by_cases h2 : z2 = 0
    · subst h2
      have RE2 : Hid (E = if stFits W H K m ln = false then 10 else if up < 0 ∨ SH ≤ up then 1 else if SW ≠ W then 2 else 0) := by
        show _ = _
        have := RE.out
        rwa [if_neg (by simp [orE])] at this
      clear RE
      obtain ⟨hW1, hW2, hH1, hH2, -, -⟩ := chk_ok HZ1.out
      have FT := Lib.hid fun w' hL' => rfits_st W H A AL n c K cL m ln w' hW1 hH1 hW2 hH2 hL' hm
      generalize hs : stFits W H K m ln = s at *
      have HS := Lib.hid hs
      clear hs
      obtain ⟨p1, p2, p3⟩ := k1.cells3
      have p4 := k3.cells0
      go_wp2_with fail
      refine (FT.out _ (hL.below b3)).mono ?_
      rintro e w4 ⟨rfl, hb4⟩
      have b4 := below_call b3 b3.size hb4
      replace k1 := k1.below' hb4
      replace k2 := k2.below' hb4
      replace k3 := k3.below' hb4
      replace k4 := k4.below' hb4
      clear hb4 b3 FT p1 p2 p3 p4
      cases s with
      | false =>
        have hE : E = 10 := by rw [RE2.out, if_pos rfl]
        subst hE
        clear RE2
        obtain ⟨r1, r2, r3⟩ := k4.cells3
        obtain ⟨f1, f2, f3⟩ := k4.frozen3
        have k9 := ((k4.set_ 0 (.int .i64 0)).set_ 1 (.int .i64 0)).set_ 2 (.slice none 0 0)
        obtain ⟨s1, s2, s3⟩ := Blk.cells3 (a := .int .i64 0) (b := .int .i64 0) (c := .slice none 0 0) k9
        go_wp2_with fail
        refine bodyPost_ret (v := .tuple #[noImg, .int .i64 10]) (by simp [results, Try.results83, go_sem, noImg, s1, s2, s3]) rfl ?_
        exact ⟨rfl, by (repeat (first | with_reducible exact Below.refl _ _ | with_reducible assumption | with_reducible refine Below.drew ?_ | (with_reducible refine below_alloc' ?_ ?_; focus (first | omega | (simp; done) | (simp; omega))) | (with_reducible refine below_fill3' ?_ ?_; focus omega) | (with_reducible refine below_setCell' ?_ ?_; focus (first | omega | (simp; done) | (simp; omega))) | (with_reducible apply below_call'; (focus (with_reducible assumption)); (focus (first | omega | (simp; done) | (simp; omega))))))⟩
      | true =>
        by_cases hup : up < 0 ∨ SH ≤ up
        · have hE : E = 1 := by rw [RE2.out, if_neg (by simp), if_pos hup]
          subst hE
          clear RE2
          obtain ⟨q1, q2, q3⟩ := k2.cells3
          by_cases hu : up < 0
          · have d1 : decide (up < 0) = true := decide_eq_true hu
            clear hup
            obtain ⟨r1, r2, r3⟩ := k4.cells3
            obtain ⟨f1, f2, f3⟩ := k4.frozen3
            have k9 := ((k4.set_ 0 (.int .i64 0)).set_ 1 (.int .i64 0)).set_ 2 (.slice none 0 0)
            obtain ⟨s1, s2, s3⟩ := Blk.cells3 (a := .int .i64 0) (b := .int .i64 0) (c := .slice none 0 0) k9
            go_wp2_with fail
            refine bodyPost_ret (v := .tuple #[noImg, .int .i64 1]) (by simp [results, Try.results83, go_sem, noImg, s1, s2, s3]) rfl ?_
            exact ⟨rfl, by (repeat (first | with_reducible exact Below.refl _ _ | with_reducible assumption | with_reducible refine Below.drew ?_ | (with_reducible refine below_alloc' ?_ ?_; focus (first | omega | (simp; done) | (simp; omega))) | (with_reducible refine below_fill3' ?_ ?_; focus omega) | (with_reducible refine below_setCell' ?_ ?_; focus (first | omega | (simp; done) | (simp; omega))) | (with_reducible apply below_call'; (focus (with_reducible assumption)); (focus (first | omega | (simp; done) | (simp; omega))))))⟩
          · have d1 : decide (up < 0) = false := decide_eq_false hu
            have hu2 : SH ≤ up := by omega
            have d2 : decide (SH ≤ up) = true := decide_eq_true hu2
            have hu3 : 0 ≤ up := by omega
            clear hup hu
            obtain ⟨r1, r2, r3⟩ := k4.cells3
            obtain ⟨f1, f2, f3⟩ := k4.frozen3
            have k9 := ((k4.set_ 0 (.int .i64 0)).set_ 1 (.int .i64 0)).set_ 2 (.slice none 0 0)
            obtain ⟨s1, s2, s3⟩ := Blk.cells3 (a := .int .i64 0) (b := .int .i64 0) (c := .slice none 0 0) k9
            go_wp2_with fail
            refine bodyPost_ret (v := .tuple #[noImg, .int .i64 1]) (by simp [results, Try.results83, go_sem, noImg, s1, s2, s3]) rfl ?_
            exact ⟨rfl, by (repeat (first | with_reducible exact Below.refl _ _ | with_reducible assumption | with_reducible refine Below.drew ?_ | (with_reducible refine below_alloc' ?_ ?_; focus (first | omega | (simp; done) | (simp; omega))) | (with_reducible refine below_fill3' ?_ ?_; focus omega) | (with_reducible refine below_setCell' ?_ ?_; focus (first | omega | (simp; done) | (simp; omega))) | (with_reducible apply below_call'; (focus (with_reducible assumption)); (focus (first | omega | (simp; done) | (simp; omega))))))⟩
        · have hw : SW ≠ W := fun h => HE0.out (by rw [RE2.out, if_neg (by simp), if_neg hup, if_neg (by simp [h])])
          have hE : E = 2 := by rw [RE2.out, if_neg (by simp), if_neg hup, if_pos hw]
          subst hE
          have hw2 : (SW != W) = true := by simp [hw]
          have HW := Lib.hid hw
          have d1 : decide (up < 0) = false := decide_eq_false (by omega)
          have d2 : decide (SH ≤ up) = false := decide_eq_false (by omega)
          have hu1 : 0 ≤ up := by omega
          have hu2 : up < SH := by omega
          clear RE2 hup hw
          obtain ⟨q1, q2, q3⟩ := k2.cells3
          obtain ⟨p1, p2, p3⟩ := k1.cells3
          obtain ⟨r1, r2, r3⟩ := k4.cells3
          obtain ⟨f1, f2, f3⟩ := k4.frozen3
          have k9 := ((k4.set_ 0 (.int .i64 0)).set_ 1 (.int .i64 0)).set_ 2 (.slice none 0 0)
          obtain ⟨s1, s2, s3⟩ := Blk.cells3 (a := .int .i64 0) (b := .int .i64 0) (c := .slice none 0 0) k9
          go_wp2_with fail
          refine bodyPost_ret (v := .tuple #[noImg, .int .i64 2]) (by simp [results, Try.results83, go_sem, noImg, s1, s2, s3]) rfl ?_
          exact ⟨rfl, by (repeat (first | with_reducible exact Below.refl _ _ | with_reducible assumption | with_reducible refine Below.drew ?_ | (with_reducible refine below_alloc' ?_ ?_; focus (first | omega | (simp; done) | (simp; omega))) | (with_reducible refine below_fill3' ?_ ?_; focus omega) | (with_reducible refine below_setCell' ?_ ?_; focus (first | omega | (simp; done) | (simp; omega))) | (with_reducible apply below_call'; (focus (with_reducible assumption)); (focus (first | omega | (simp; done) | (simp; omega))))))⟩
    · have hE : E = z2 := by
        rw [RE.out, show orE 0 z2 = z2 by simp [orE], if_pos h2]
      subst hE
      have hz2 : (E != 0) = true := by simp [h2]
      have HH := Lib.hid h2
      clear h2 RE
      obtain ⟨r1, r2, r3⟩ := k4.cells3
      obtain ⟨f1, f2, f3⟩ := k4.frozen3
      have k9 := ((k4.set_ 0 (.int .i64 0)).set_ 1 (.int .i64 0)).set_ 2 (.slice none 0 0)
      obtain ⟨s1, s2, s3⟩ := Blk.cells3 (a := .int .i64 0) (b := .int .i64 0) (c := .slice none 0 0) k9
      go_wp2_with fail
      refine bodyPost_ret (v := .tuple #[noImg, .int .i64 E]) (by simp [results, Try.results83, go_sem, noImg, s1, s2, s3]) rfl ?_
      exact ⟨rfl, by (repeat (first | with_reducible exact Below.refl _ _ | with_reducible assumption | with_reducible refine Below.drew ?_ | (with_reducible refine below_alloc' ?_ ?_; focus (first | omega | (simp; done) | (simp; omega))) | (with_reducible refine below_fill3' ?_ ?_; focus omega) | (with_reducible refine below_setCell' ?_ ?_; focus (first | omega | (simp; done) | (simp; omega))) | (with_reducible apply below_call'; (focus (with_reducible assumption)); (focus (first | omega | (simp; done) | (simp; omega))))))⟩
  · have e1 : orE z1 z2 = z1 := by unfold orE; rw [if_neg h1]
    have hE : E = z1 := by rw [RE.out, e1, if_pos h1]
    subst hE
    have hz2 : (E != 0) = true := by simp [h1]
    have HH := Lib.hid h1
    clear h1 RE e1
    obtain ⟨r1, r2, r3⟩ := k4.cells3
    obtain ⟨f1, f2, f3⟩ := k4.frozen3
    have k9 := ((k4.set_ 0 (.int .i64 0)).set_ 1 (.int .i64 0)).set_ 2 (.slice none 0 0)
    obtain ⟨s1, s2, s3⟩ := Blk.cells3 (a := .int .i64 0) (b := .int .i64 0) (c := .slice none 0 0) k9
    go_wp2_with fail
    refine bodyPost_ret (v := .tuple #[noImg, .int .i64 E]) (by simp [results, Try.results83, go_sem, noImg, s1, s2, s3]) rfl ?_
    exact ⟨rfl, by (repeat (first | with_reducible exact Below.refl _ _ | with_reducible assumption | with_reducible refine Below.drew ?_ | (with_reducible refine below_alloc' ?_ ?_; focus (first | omega | (simp; done) | (simp; omega))) | (with_reducible refine below_fill3' ?_ ?_; focus omega) | (with_reducible refine below_setCell' ?_ ?_; focus (first | omega | (simp; done) | (simp; omega))) | (with_reducible apply below_call'; (focus (with_reducible assumption)); (focus (first | omega | (simp; done) | (simp; omega))))))⟩

set_option maxRecDepth 100000 in
set_option maxHeartbeats 8000000 in
theorem rrestore_ok (W H SW SH : Int) (A SA AL : Option Addr) (n c sn sc K cL : Nat) (p sp : Int → Int) (m : Nat → Nat) (ln : Nat → Nat → Int) (up : Int) (w : World) (hA : ArrB w w.heap.size A n p) (hn : n ≤ maxLen) (hB : IsB p) (hS : ArrB w w.heap.size SA sn sp) (hsn : sn ≤ maxLen) (hBS : IsB sp) (hL : Lines w w.heap.size AL K m ln) (hm : ∀ i, i < K → m i ≤ maxLen) (hE : resE W H n p SW SH sn sp K m ln up = 0) :
    Calls Try.prog 83 #[.agg #[.int .i64 W, .int .i64 H, .slice A n c], .agg #[.int .i64 SW, .int .i64 SH, .slice SA sn sc], .agg #[.slice AL K cL], .int .i64 up] w (New w fun v w' => OutT w w' 0 W H n (fillB (resC W H SH p sp (ln 4) up) W) v) := by
  obtain ⟨e1, e2, hP, e3, e4, hw⟩ := resE_ok hE
  obtain rfl : W = SW := hw.symm
  clear hw
  obtain ⟨hW1, hW2, hH1, hH2, hnn, -⟩ := chk_ok e1
  obtain ⟨-, -, hSH1, hSH2, hsnn, -⟩ := chk_ok e2
  obtain ⟨W1, H1⟩ := hP.pos
  have hst := stFits_iff.2 hP
  obtain ⟨rfl, hpath, -⟩ := hP
  obtain ⟨⟨-, -, m4⟩, hst2⟩ := isPathB_iff.1 (hpath 4 (by omega))
  have PB := Lib.hid fun (x : Nat) (hx : (x : Int) < m 4) => stepB_iff.1 (hst2 x (by omega) hx)
  have C1 := Lib.hid fun w' hA' => rcheck_any W H A n c p w' hA' hn hB
  have C2 := Lib.hid fun w' hA' => rcheck_any W SH SA sn sc sp w' hA' hsn hBS
  have b1 : Below w.heap.size w ((((w.alloc (.cells #[.int .i64 W, .int .i64 H, .slice A n c] 24)).alloc (.cells #[.int .i64 W, .int .i64 SH, .slice SA sn sc] 24)).alloc (.cells #[.slice AL 5 cL] 54)).alloc (.cells #[.int .i64 0, .int .i64 0, .slice none 0 0] 24)) := by (repeat (first | exact Below.refl _ _ | assumption | refine Below.drew ?_ | refine below_drewN ?_ _ | refine Below.alloc ?_ (by first | omega | (simp; done) | (simp; omega)) _ | refine Below.setCell ?_ (by first | omega | (simp; done) | (simp; omega)) _ | refine below_setRow ?_ (by first | omega | (simp; done) | (simp; omega)) _ ))
  have k4 : Blk ((((w.alloc (.cells #[.int .i64 W, .int .i64 H, .slice A n c] 24)).alloc (.cells #[.int .i64 W, .int .i64 SH, .slice SA sn sc] 24)).alloc (.cells #[.slice AL 5 cL] 54)).alloc (.cells #[.int .i64 0, .int .i64 0, .slice none 0 0] 24)) (w.heap.size + 1 + 1 + 1) 24 #[.int .i64 0, .int .i64 0, .slice none 0 0] := Blk.new' (by simp) _ _
  have k1 : Blk ((((w.alloc (.cells #[.int .i64 W, .int .i64 H, .slice A n c] 24)).alloc (.cells #[.int .i64 W, .int .i64 SH, .slice SA sn sc] 24)).alloc (.cells #[.slice AL 5 cL] 54)).alloc (.cells #[.int .i64 0, .int .i64 0, .slice none 0 0] 24)) w.heap.size 24 #[.int .i64 W, .int .i64 H, .slice A n c] := (((Blk.new _ _ _).alloc _).alloc _).alloc _
  have k2 : Blk ((((w.alloc (.cells #[.int .i64 W, .int .i64 H, .slice A n c] 24)).alloc (.cells #[.int .i64 W, .int .i64 SH, .slice SA sn sc] 24)).alloc (.cells #[.slice AL 5 cL] 54)).alloc (.cells #[.int .i64 0, .int .i64 0, .slice none 0 0] 24)) (w.heap.size + 1) 24 #[.int .i64 W, .int .i64 SH, .slice SA sn sc] := ((Blk.new' (by simp) _ _).alloc _).alloc _
  have k3 : Blk ((((w.alloc (.cells #[.int .i64 W, .int .i64 H, .slice A n c] 24)).alloc (.cells #[.int .i64 W, .int .i64 SH, .slice SA sn sc] 24)).alloc (.cells #[.slice AL 5 cL] 54)).alloc (.cells #[.int .i64 0, .int .i64 0, .slice none 0 0] 24)) (w.heap.size + 1 + 1) 54 #[.slice AL 5 cL] := (Blk.new' (by simp) _ _).alloc _
  have FT := Lib.hid fun w' hL' => rfits_st W H A AL n c 5 cL m ln w' hW1 hH1 hW2 hH2 hL' hm
  rw [hst] at FT
  have NO := Lib.hid fun w' => rnew_any W H n w' hW1 hW2 hH1 hH2 hnn
  rw [e1] at C1
  rw [e2] at C2
  have HM4 := Lib.hid m4; have HNN := Lib.hid hnn; have HSN := Lib.hid hsnn
  have nb := (area_bd hW1 hW2 hH1 hH2).2
  have d1 : decide (up < 0) = false := decide_eq_false (by omega)
  have d2 : decide (SH ≤ up) = false := decide_eq_false (by omega)
  clear hE e1 e2 hst hpath hst2 m4 hnn hsnn
  go_enter Try.func83, Try.ntmps83
  go_wp2_with fail
  generalize ((((w.alloc (.cells #[.int .i64 W, .int .i64 H, .slice A n c] 24)).alloc (.cells #[.int .i64 W, .int .i64 SH, .slice SA sn sc] 24)).alloc (.cells #[.slice AL 5 cL] 54)).alloc (.cells #[.int .i64 0, .int .i64 0, .slice none 0 0] 24)) = w1 at *
  refine (C1.out _ (hA.to b1)).mono ?_
  rintro e w2 ⟨rfl, hb2⟩
  have b2 := below_call b1 b1.size hb2
  replace k1 := k1.below' hb2
  replace k2 := k2.below' hb2
  replace k3 := k3.below' hb2
  replace k4 := k4.below' hb2
  clear hb2 b1 C1
  obtain ⟨q1, q2, q3⟩ := k2.cells3
  go_wp2_with fail
  refine (C2.out _ (hS.to b2)).mono ?_
  rintro e w3 ⟨rfl, hb3⟩
  have b3 := below_call b2 b2.size hb3
  replace k1 := k1.below' hb3
  replace k2 := k2.below' hb3
  replace k3 := k3.below' hb3
  replace k4 := k4.below' hb3
  clear hb3 b2 C2 q1 q2 q3
  obtain ⟨p1, p2, p3⟩ := k1.cells3
  have p4 := k3.cells0
  go_wp2_with fail
  refine (FT.out _ (hL.below b3)).mono ?_
  rintro e w4 ⟨rfl, hb4⟩
  have b4 := below_call b3 b3.size hb4
  replace k1 := k1.below' hb4
  replace k2 := k2.below' hb4
  replace k3 := k3.below' hb4
  replace k4 := k4.below' hb4
  clear hb4 b3 FT p1 p2 p3 p4
  obtain ⟨p1, p2, p3⟩ := k1.cells3
  obtain ⟨q1, q2, q3⟩ := k2.cells3
  go_wp2_with fail
  refine (NO.out _).mono ?_
  rintro e w5 ⟨_, rfl, ⟨gp, rfl, hgp, kp⟩, hb5⟩
  clear d1 d2 p1 p2 p3 q1 q2 q3 NO
  have z2 := k4.lt
  have z3 := hb5.size
  have z4 := kp.lt
  have b5 := below_call b4 b4.size hb5
  have b6 : Below w.heap.size w (w5.alloc (.cells #[.int .i64 W, .int .i64 H, .slice (some ⟨gp, 0, none⟩) n n] 24)) := b5.alloc b5.size _
  replace k1 := (k1.below' hb5).alloc (.cells #[.int .i64 W, .int .i64 H, .slice (some ⟨gp, 0, none⟩) n n] 24)
  replace k2 := (k2.below' hb5).alloc (.cells #[.int .i64 W, .int .i64 H, .slice (some ⟨gp, 0, none⟩) n n] 24)
  replace k3 := (k3.below' hb5).alloc (.cells #[.int .i64 W, .int .i64 H, .slice (some ⟨gp, 0, none⟩) n n] 24)
  replace k4 := (k4.below' hb5).alloc (.cells #[.int .i64 W, .int .i64 H, .slice (some ⟨gp, 0, none⟩) n n] 24)
  have kx := Blk.new w5 24 #[.int .i64 W, .int .i64 H, .slice (some ⟨gp, 0, none⟩) n n]
  obtain ⟨C, hC⟩ : ∃ C, C = resC W H SH p sp (ln 4) up := ⟨_, rfl⟩
  have HC := Lib.hid hC
  have kp2 : Blk (w5.alloc (.cells #[.int .i64 W, .int .i64 H, .slice (some ⟨gp, 0, none⟩) n n] 24)) gp 5 (u8s n (byRow W (fillB C W) (fun _ => 0) (0 : Nat) (0 : Nat))) := (kp.alloc _).u8conv fun i i0 _ => (byRow_zero (W := W) (q := fillB C W) (z := fun _ => 0) (by omega) i0).symm
  have hgx : gp ≠ w5.heap.size := by omega
  obtain ⟨bA, oA, A4, c4, rfl, hbA, hcA, haA⟩ := hL.at_ (i := 4) (by omega)
  obtain ⟨b5', o5, rfl, hb5', hc5⟩ := ArrI.fn haA (by have := HM4.out; omega)
  have HC5 := Lib.hid hc5
  have HCA := Lib.hid hcA
  clear hC hc5 hcA kp b4 b5 hb5
  go_wp2_with fail
  generalize w5.alloc (.cells #[.int .i64 W, .int .i64 H, .slice (some ⟨gp, 0, none⟩) n n] 24) = w6 at *
  generalize w5.heap.size = gx at *
  go_loopw [13] (fun s wr => ∃ y : Nat, (y : Int) ≤ H ∧ s = .int .i64 y ∧ Below w.heap.size w wr ∧ Blk wr w.heap.size 24 #[.int .i64 W, .int .i64 H, .slice A n c] ∧ Blk wr (w.heap.size + 1) 24 #[.int .i64 W, .int .i64 SH, .slice SA sn sc] ∧ Blk wr (w.heap.size + 1 + 1) 54 #[.slice (some ⟨bA, oA, none⟩) 5 cL] ∧ Blk wr (w.heap.size + 1 + 1 + 1) 24 #[.int .i64 0, .int .i64 0, .slice none 0 0] ∧ Blk wr gx 24 #[.int .i64 W, .int .i64 H, .slice (some ⟨gp, 0, none⟩) n n] ∧ Blk wr gp 5 (u8s n (byRow W (fillB C W) (fun _ => 0) y (0 : Nat)))) (fun s _ => (H - intOf s).toNat)
  case atStart => exact ⟨0, by omega, rfl, b6, k1, k2, k3, k4, kx, kp2⟩
  case round =>
    obtain ⟨y, hy, rfl, b6', t1, t2, t3, t4, tx, tp⟩ := hrel
    clear b6 k1 k2 k3 k4 kx kp2
    obtain ⟨x1, x2, x3⟩ := t1.cells3
    by_cases yl : (y : Int) < H
    · go_wp2_with fail
      go_loopw [14] (fun s wr => ∃ x : Nat, (x : Int) ≤ W ∧ s = .int .i64 x ∧ Below w.heap.size w wr ∧ Blk wr w.heap.size 24 #[.int .i64 W, .int .i64 H, .slice A n c] ∧ Blk wr (w.heap.size + 1) 24 #[.int .i64 W, .int .i64 SH, .slice SA sn sc] ∧ Blk wr (w.heap.size + 1 + 1) 54 #[.slice (some ⟨bA, oA, none⟩) 5 cL] ∧ Blk wr (w.heap.size + 1 + 1 + 1) 24 #[.int .i64 0, .int .i64 0, .slice none 0 0] ∧ Blk wr gx 24 #[.int .i64 W, .int .i64 H, .slice (some ⟨gp, 0, none⟩) n n] ∧ Blk wr gp 5 (u8s n (byRow W (fillB C W) (fun _ => 0) y x))) (fun s _ => (W - intOf s).toNat)
      case atStart => exact ⟨0, by omega, rfl, b6', t1, t2, t3, t4, tx, tp⟩
      case round =>
        obtain ⟨x, hx, rfl, b7, a1, a2, a3, a4, ax, ap⟩ := hrel
        clear x1 x2 x3 b6' t1 t2 t3 t4 tx tp
        obtain ⟨p1, p2, p3⟩ := a1.cells3
        obtain ⟨q1, q2, q3⟩ := a2.cells3
        have p4 := a3.cells0
        by_cases xl : (x : Int) < W
        · have p5 := (b7.cell (p := ⟨bA, oA + 4, none⟩) hbA).trans HCA.out
          have xm : (x : Int) < m 4 := by have := HM4.out; omega
          have lx := HC5.out x (by omega) xm
          rw [Int.toNat_natCast] at lx
          have p6 := (b7.cell (p := ⟨b5', o5 + x, none⟩) hb5').trans lx
          obtain ⟨pb1, pb2, -⟩ := PB.out x xm
          rw [Int.toNat_natCast] at pb1 pb2
          have CE0 : Hid (C x y = if 0 ≤ (y : Int) - ln 4 x + up ∧ (y : Int) - ln 4 x + up < SH then inkB W SH sp x (y - ln 4 x + up) else inkB W H p x y) := by
            show _ = _
            rw [HC.out]; unfold resC; rw [Int.toNat_natCast]
          generalize ln 4 x = l at *
          have v4 : IntKind.i64.wrap (y - l) = y - l := IntWalk.i64_in _ (by omega)
          have v5 : IntKind.i64.wrap (y - l + up) = y - l + up := IntWalk.i64_in _ (by omega)
          have g3 : (5 : Nat) ≤ 5 := Nat.le_refl _
          clear lx
          by_cases hin : 0 ≤ (y : Int) - l + up ∧ (y : Int) - l + up < SH
          · have CE : Hid (C x y = inkB W SH sp x (y - l + up)) := by show _ = _; rw [CE0.out, if_pos hin]
            obtain ⟨h1, h2⟩ := hin
            have d1 : decide (0 ≤ (y : Int) - l + up) = true := decide_eq_true h1
            have d2 : decide ((y : Int) - l + up < SH) = true := decide_eq_true h2
            have IK := Lib.hid fun w' hA' => rink_any W SH SA sn sc sp x (y - l + up) w' hA' hW2 hSH2 HSN.out
            clear CE0
            generalize hi : inkB W SH sp x (y - l + up) = i0 at *
            have HI := Lib.hid hi
            clear hi
            go_wp2_with fail
            refine (IK.out _ ((ArrB.below hS b7).more b7.size)).mono ?_
            rintro e w7 ⟨rfl, hb7⟩
            replace b7 := below_call b7 b7.size hb7
            replace a1 := a1.below' hb7
            replace a2 := a2.below' hb7
            replace a3 := a3.below' hb7
            replace a4 := a4.below' hb7
            replace ax := ax.below' hb7
            replace ap := ap.below' hb7
            clear hb7 p1 p2 p3 q1 q2 q3 p4 p5 p6
            cases i0 with
            | true =>
              obtain ⟨x1, x2, x3⟩ := ax.cells3
              go_wp2_with fail
              refine (rset_any W H gp n n 5 _ x y _ ap (by omega) xl (by omega) yl hW2 hH2 HNN.out).mono ?_
              rintro e w8 ⟨rfl, hk8, hg8⟩
              have zz := b7.size
              replace a1 := a1.grown hg8 (by simp; omega); replace a2 := a2.grown hg8 (by simp; omega); replace a3 := a3.grown hg8 (by simp; omega); replace a4 := a4.grown hg8 (by simp; omega); replace ax := ax.grown hg8 (by simp; omega)
              have cb2 : Below w.heap.size w w8 := b7.grown hg8 b7.size (fun k hk => by cases hk; omega)
              clear x1 x2 x3 ap b7 hg8
              go_wp2_with fail
              go_roundw
              case rel => exact ⟨x + 1, by omega, by go_num, cb2, a1, a2, a3, a4, ax, hk8.u8conv fun i _ _ => by rw [Int.natCast_add]; exact fill_yes (by omega) xl CE.out⟩
              case measure => simp [intOf]; omega
            | false =>
              go_wp2_with fail
              go_roundw
              case rel => exact ⟨x + 1, by omega, by go_num, b7, a1, a2, a3, a4, ax, ap.u8conv fun i _ _ => by rw [Int.natCast_add]; exact fill_no (by omega) xl CE.out⟩
              case measure => simp [intOf]; omega
          · have CE : Hid (C x y = inkB W H p x y) := by show _ = _; rw [CE0.out, if_neg hin]
            have IK := Lib.hid fun w' hA' => rink_any W H A n c p x y w' hA' hW2 hH2 HNN.out
            clear CE0
            by_cases h1 : 0 ≤ (y : Int) - l + up
            · have h2 : ¬ (y : Int) - l + up < SH := fun h => hin ⟨h1, h⟩
              have d1 : decide (0 ≤ (y : Int) - l + up) = true := decide_eq_true h1
              have d2 : decide ((y : Int) - l + up < SH) = false := decide_eq_false h2
              clear hin
              generalize hi : inkB W H p x y = i0 at *
              have HI := Lib.hid hi
              clear hi
              go_wp2_with fail
              refine (IK.out _ ((ArrB.below hA b7).more b7.size)).mono ?_
              rintro e w7 ⟨rfl, hb7⟩
              replace b7 := below_call b7 b7.size hb7
              replace a1 := a1.below' hb7
              replace a2 := a2.below' hb7
              replace a3 := a3.below' hb7
              replace a4 := a4.below' hb7
              replace ax := ax.below' hb7
              replace ap := ap.below' hb7
              clear hb7 p1 p2 p3 q1 q2 q3 p4 p5 p6
              cases i0 with
              | true =>
                obtain ⟨x1, x2, x3⟩ := ax.cells3
                go_wp2_with fail
                refine (rset_any W H gp n n 5 _ x y _ ap (by omega) xl (by omega) yl hW2 hH2 HNN.out).mono ?_
                rintro e w8 ⟨rfl, hk8, hg8⟩
                have zz := b7.size
                replace a1 := a1.grown hg8 (by simp; omega); replace a2 := a2.grown hg8 (by simp; omega); replace a3 := a3.grown hg8 (by simp; omega); replace a4 := a4.grown hg8 (by simp; omega); replace ax := ax.grown hg8 (by simp; omega)
                have cb2 : Below w.heap.size w w8 := b7.grown hg8 b7.size (fun k hk => by cases hk; omega)
                clear x1 x2 x3 ap b7 hg8
                go_wp2_with fail
                go_roundw
                case rel => exact ⟨x + 1, by omega, by go_num, cb2, a1, a2, a3, a4, ax, hk8.u8conv fun i _ _ => by rw [Int.natCast_add]; exact fill_yes (by omega) xl CE.out⟩
                case measure => simp [intOf]; omega
              | false =>
                go_wp2_with fail
                go_roundw
                case rel => exact ⟨x + 1, by omega, by go_num, b7, a1, a2, a3, a4, ax, ap.u8conv fun i _ _ => by rw [Int.natCast_add]; exact fill_no (by omega) xl CE.out⟩
                case measure => simp [intOf]; omega
            · have d1 : decide (0 ≤ (y : Int) - l + up) = false := decide_eq_false h1
              clear hin
              generalize hi : inkB W H p x y = i0 at *
              have HI := Lib.hid hi
              clear hi
              go_wp2_with fail
              refine (IK.out _ ((ArrB.below hA b7).more b7.size)).mono ?_
              rintro e w7 ⟨rfl, hb7⟩
              replace b7 := below_call b7 b7.size hb7
              replace a1 := a1.below' hb7
              replace a2 := a2.below' hb7
              replace a3 := a3.below' hb7
              replace a4 := a4.below' hb7
              replace ax := ax.below' hb7
              replace ap := ap.below' hb7
              clear hb7 p1 p2 p3 q1 q2 q3 p4 p5 p6
              cases i0 with
              | true =>
                obtain ⟨x1, x2, x3⟩ := ax.cells3
                go_wp2_with fail
                refine (rset_any W H gp n n 5 _ x y _ ap (by omega) xl (by omega) yl hW2 hH2 HNN.out).mono ?_
                rintro e w8 ⟨rfl, hk8, hg8⟩
                have zz := b7.size
                replace a1 := a1.grown hg8 (by simp; omega); replace a2 := a2.grown hg8 (by simp; omega); replace a3 := a3.grown hg8 (by simp; omega); replace a4 := a4.grown hg8 (by simp; omega); replace ax := ax.grown hg8 (by simp; omega)
                have cb2 : Below w.heap.size w w8 := b7.grown hg8 b7.size (fun k hk => by cases hk; omega)
                clear x1 x2 x3 ap b7 hg8
                go_wp2_with fail
                go_roundw
                case rel => exact ⟨x + 1, by omega, by go_num, cb2, a1, a2, a3, a4, ax, hk8.u8conv fun i _ _ => by rw [Int.natCast_add]; exact fill_yes (by omega) xl CE.out⟩
                case measure => simp [intOf]; omega
              | false =>
                go_wp2_with fail
                go_roundw
                case rel => exact ⟨x + 1, by omega, by go_num, b7, a1, a2, a3, a4, ax, ap.u8conv fun i _ _ => by rw [Int.natCast_add]; exact fill_no (by omega) xl CE.out⟩
                case measure => simp [intOf]; omega
        · have ex : (x : Int) = W := by omega
          have ap2 := ap.u8conv (r := byRow W (fillB C W) (fun _ => 0) ((y : Int) + 1) (0 : Nat)) fun i _ _ => by rw [ex]; exact byRow_row (by omega)
          clear ap ex
          go_wp2_with fail
          go_roundw
          case rel => exact ⟨y + 1, by omega, by go_num, b7, a1, a2, a3, a4, ax, ap2⟩
          case measure => simp [intOf]; omega
    · have ey : (y : Int) = H := by omega
      obtain ⟨y1, y2, y3⟩ := tx.cells3
      obtain ⟨u1, u2, u3⟩ := t4.cells3
      obtain ⟨f1, f2, f3⟩ := t4.frozen3
      have k5 := ((t4.set_ 0 (.int .i64 W)).set_ 1 (.int .i64 H)).set_ 2 (.slice (some ⟨gp, 0, none⟩) n n)
      obtain ⟨s4, s5, s6⟩ := Blk.cells3 (a := .int .i64 W) (b := .int .i64 H) (c := .slice (some ⟨gp, 0, none⟩) n n) k5
      have zz := b6'.size
      have g1 : gp ≠ w.heap.size + 1 + 1 + 1 := by omega
      have TP := Lib.hid (tp.u8conv (r := fillB C W) fun i _ i1 => by rw [ey]; exact byRow_end (h := H) (by omega) (by have := HNN.out; omega))
      clear tp ey
      go_wp2_with fail
      refine bodyPost_ret (v := .tuple #[.agg #[.int .i64 W, .int .i64 H, .slice (some ⟨gp, 0, none⟩) n n], .int .i64 0]) (by simp [results, Try.results83, go_sem, s4, s5, s6]) rfl ?_
      refine ⟨_, rfl, ⟨_, _, rfl, (fun a e => by cases e; show w.heap.size ≤ gp; omega), ?_⟩, by (repeat (first | exact Below.refl _ _ | assumption | refine Below.drew ?_ | refine below_drewN ?_ _ | refine Below.alloc ?_ (by first | omega | (simp; done) | (simp; omega)) _ | refine Below.setCell ?_ (by first | omega | (simp; done) | (simp; omega)) _ | refine below_setRow ?_ (by first | omega | (simp; done) | (simp; omega)) _ ))⟩
      have KE := Blk.far (Blk.far (Blk.far TP.out (p := ⟨w.heap.size + 1 + 1 + 1, 0, none⟩) g1 (.int .i64 W)) (p := ⟨w.heap.size + 1 + 1 + 1, 1, none⟩) g1 (.int .i64 H)) (p := ⟨w.heap.size + 1 + 1 + 1, 2, none⟩) g1 (.slice (some ⟨gp, 0, none⟩) n n)
      rw [HC.out] at KE
      exact KE.arrB KE.lt
theorem rrectify_all (W H : Int) (A AL : Option Addr) (n c K cL : Nat) (p : Int → Int) (m : Nat → Nat) (ln : Nat → Nat → Int) (up down : Int) (E W2 H2 : Int) (N : Nat) (w : World) (hA : ArrB w w.heap.size A n p) (hn : n ≤ maxLen) (hB : IsB p) (hL : Lines w w.heap.size AL K m ln) (hm : ∀ i, i < K → m i ≤ maxLen) (hE : recE W H n p K m ln up down = E) (hs : RSize E W (up + down + 1) W2 H2 N) :
    Calls Try.prog 82 #[.agg #[.int .i64 W, .int .i64 H, .slice A n c], .agg #[.slice AL K cL], .int .i64 up, .int .i64 down] w (New w fun v w' => OutT w w' E W2 H2 N (recQ W H p (ln 4) up) v) := by
  by_cases h0 : E = 0
  · subst h0
    obtain ⟨h1, h2, h3, h4⟩ := recE_ok hE
    obtain ⟨hc, hP⟩ := stChk_ok h1
    obtain ⟨rfl, rfl, hN⟩ := hs.1 rfl
    exact (rrectify_ok W2 H A AL n c K cL p m ln up down _ N w hA hn hB hL hm hE rfl hN).mono fun e w' ⟨v, he, ho, hb⟩ => ⟨v, he, ho.conv (fun i i0 _ => (recC_eq hc hB hP.pos.1 i0).symm), hb⟩
  · exact (rrectify_bad W H A AL n c K cL p m ln up down E w hA hn hB hL hm hE h0).mono fun e w' ⟨he, hb⟩ => ⟨_, he, outT_bad hs h0, hb⟩
theorem rrestore_all (W H SW SH : Int) (A SA AL : Option Addr) (n c sn sc K cL : Nat) (p sp : Int → Int) (m : Nat → Nat) (ln : Nat → Nat → Int) (up : Int) (E W2 H2 : Int) (N : Nat) (w : World) (hA : ArrB w w.heap.size A n p) (hn : n ≤ maxLen) (hB : IsB p) (hS : ArrB w w.heap.size SA sn sp) (hsn : sn ≤ maxLen) (hBS : IsB sp) (hL : Lines w w.heap.size AL K m ln) (hm : ∀ i, i < K → m i ≤ maxLen) (hE : resE W H n p SW SH sn sp K m ln up = E) (hs : RSize E W H W2 H2 N) :
    Calls Try.prog 83 #[.agg #[.int .i64 W, .int .i64 H, .slice A n c], .agg #[.int .i64 SW, .int .i64 SH, .slice SA sn sc], .agg #[.slice AL K cL], .int .i64 up] w (New w fun v w' => OutT w w' E W2 H2 N (resQ W H SH p sp (ln 4) up) v) := by
  by_cases h0 : E = 0
  · subst h0
    obtain ⟨hc, hc2, hP, -, -, hw⟩ := resE_ok hE
    obtain ⟨rfl, rfl, hN⟩ := hs.1 rfl
    have hnn := (chk_ok hc).2.2.2.2.1
    obtain rfl : N = n := by omega
    rw [hw] at hc2
    exact (rrestore_ok W2 H2 SW SH A SA AL N c sn sc K cL p sp m ln up w hA hn hB hS hsn hBS hL hm hE).mono fun e w' ⟨v, he, ho, hb⟩ => ⟨v, he, ho.conv (fun i i0 i1 => (resC_eq hc hc2 hB hBS hP.pos.1 i0 (by omega)).symm), hb⟩
  · exact (rrestore_bad W H SW SH A SA AL n c sn sc K cL p sp m ln up E w hA hn hB hS hsn hBS hL hm hE h0).mono fun e w' ⟨he, hb⟩ => ⟨_, he, outT_bad hs h0, hb⟩
end Go.Proofs.Ytdimlpcbbkokiaa

/- Plain: a strip cut out and put back; a strip put in and cut out again. No program in sight. -/
namespace Go.Proofs.Ytdimlpcbbkokiaa
open Go.RowKit
set_option linter.unusedVariables false
theorem chk_01 {W H : Int} {n : Nat} {p : Int → Int} (h1 : 0 ≤ W) (h2 : W ≤ 640) (h3 : 0 ≤ H) (h4 : H ≤ 640) (hn : (n : Int) = W * H) (hp : ∀ i : Int, 0 ≤ i → i < n → p i ≤ 1) : chk W H n p = 0 := by
  unfold chk
  rw [if_pos (sidesB_iff.2 ⟨h1, h2, h3, h4, hn⟩)]
  have : pixB n p = true := by
    unfold pixB
    exact allN_iff.2 fun i a b => decide_eq_true (hp i a b)
  rw [this]; rfl
section
variable {W H h : Int} {p q : Int → Int} {l : Nat → Int} {up : Int}
theorem recQ_at {x y : Int} (x0 : 0 ≤ x) (x1 : x < W) : recQ W H p l up (y * W + x) = if 0 ≤ l x.toNat - up + y ∧ l x.toNat - up + y < H then p ((l x.toNat - up + y) * W + x) else 0 := by
  unfold recQ; rw [idx_mod x0 x1, idx_div x0 x1]
theorem resQ_at {x y : Int} (x0 : 0 ≤ x) (x1 : x < W) : resQ W H h p q l up (y * W + x) = if 0 ≤ y - l x.toNat + up ∧ y - l x.toNat + up < h then q ((y - l x.toNat + up) * W + x) else p (y * W + x) := by
  unfold resQ; rw [idx_mod x0 x1, idx_div x0 x1]
theorem back_home (hW : 0 < W) {i : Int} (i0 : 0 ≤ i) (i1 : i < W * H) : resQ W H h p (recQ W H p l up) l up i = p i := by
  obtain ⟨x, y, x0, x1, y0, y1, rfl, -, -⟩ := idx_of (k := i) (W := W) (H := H) i0 hW (by rw [Int.mul_comm]; exact i1)
  rw [resQ_at x0 x1]
  split
  · rw [recQ_at x0 x1, if_pos (by omega), show l x.toNat - up + (y - l x.toNat + up) = y by omega]
  · rfl
theorem back_strip {x y : Int} (x0 : 0 ≤ x) (x1 : x < W) (y0 : 0 ≤ y) (y1 : y < h) :
    recQ W H (resQ W H h p (fun j => 1 - recQ W H p l up j) l up) l up (y * W + x) = if 0 ≤ l x.toNat - up + y ∧ l x.toNat - up + y < H then 1 - p ((l x.toNat - up + y) * W + x) else 0 := by
  rw [recQ_at x0 x1]
  split
  · rename_i c
    rw [resQ_at x0 x1, if_pos (by omega), recQ_at x0 x1, if_pos (by omega), show l x.toNat - up + (l x.toNat - up + y - l x.toNat + up) = l x.toNat - up + y by omega]
  · rfl
theorem recQ_01 (hp : Is01 p) : Is01 (recQ W H p l up) := fun i => by unfold recQ; split; exact hp _; exact .inl rfl
theorem resQ_01 (hp : Is01 p) (hq : Is01 q) : Is01 (resQ W H h p q l up) := fun i => by unfold resQ; split; exact hq _; exact hp _
theorem not_01 (hp : Is01 p) : Is01 (fun i => 1 - p i) := fun i => by rcases hp i with h | h <;> simp [h]
theorem is01_B (hp : Is01 p) : IsB p := fun i => by rcases hp i with h | h <;> omega
theorem is01_le (hp : Is01 p) (i : Int) : p i ≤ 1 := by rcases hp i with h | h <;> omega
end
end Go.Proofs.Ytdimlpcbbkokiaa

/- Walk: an image made pixel by pixel by a function value (image.made). -/
namespace Go.Proofs.Ytdimlpcbbkokiaa
open Go.RowKit
set_option linter.unusedVariables false
attribute [local go_sem] Oper.semAt_some

/-- pixel by pixel -/
def byPix (W : Int) (f : Int → Int → Int) : Int → Int := fun i => f (i % W) (i / W)
theorem byPix_at {W x y : Int} {f : Int → Int → Int} (x0 : 0 ≤ x) (x1 : x < W) : byPix W f (y * W + x) = f x y := by
  unfold byPix; rw [idx_mod x0 x1, idx_div x0 x1]
theorem OutImg.outN {w w' : World} {W H : Int} {N : Nat} {q : Int → Int} {v : Value} (h : OutImg w w' W H q v) (hN : (N : Int) = W * H) : OutN w w' W H N q v := by
  obtain ⟨g, rfl, hg, hk⟩ := h
  obtain rfl : (W * H).toNat = N := by omega
  exact ⟨g, rfl, hg, hk⟩
set_option maxRecDepth 100000 in
set_option maxHeartbeats 4000000 in
theorem pixmade_any (W H : Int) (N : Nat) (fid : Nat) (cap : Array Value) (f : Int → Int → Int) (w : World) (hent : ∀ args w, (callFunc fid args).run Try.prog w = .ok (.enter fid args) w) (h1 : 0 ≤ W) (h2 : W ≤ 640) (h3 : 0 ≤ H) (h4 : H ≤ 640) (hN : (N : Int) = W * H)
    (hf : ∀ x y w', 0 ≤ x → x < W → 0 ≤ y → y < H → Below w.heap.size w w' → Calls Try.prog fid (#[.int .i64 x, .int .i64 y] ++ cap) w' fun e w'' => e = .returned (.int .u8 (f x y)) ∧ Below w'.heap.size w' w'') :
    Calls Try.prog 87 #[.int .i64 W, .int .i64 H, .func (.func fid) #[] cap] w (New w fun v w' => OutN w w' W H N (byPix W f) v) := by
  have HF := Lib.hid hf
  have BL := Lib.hid fun w' => (blank_any W H w' h1 h2 h3 h4).mono fun e w'' (⟨v, he, ho, hb⟩ : New w' (fun v w'' => OutImg w' w'' W H (fun _ => 0) v) e w'') => (show New w' (fun v w'' => OutN w' w'' W H N (fun _ => 0) v) e w'' from ⟨v, he, ho.outN hN, hb⟩)
  have HN := Lib.hid hN
  have nb := (area_bd h1 h2 h3 h4).2
  clear hf hN
  go_enter Try.func87, Try.ntmps87
  go_wp2_with fail
  refine (BL.out _).mono ?_
  rintro e w1 ⟨_, rfl, ⟨gp, rfl, hgp, kp⟩, hb1⟩
  have z0 : w.heap.size < w1.heap.size := by have := hb1.size; simp at this; omega
  have z1 : w.heap.size < gp := by simp at hgp; omega
  have z2 := kp.lt
  have k6 : Blk w1 w.heap.size 24 #[.int .i64 0, .int .i64 0, .slice none 0 0] := (Blk.new _ _ _).below' hb1
  have b1 : Below w.heap.size w w1 := below_call (by (repeat (first | exact Below.refl _ _ | assumption | refine Below.drew ?_ | refine below_drewN ?_ _ | refine Below.alloc ?_ (by first | omega | (simp; done) | (simp; omega)) _ | refine Below.setCell ?_ (by first | omega | (simp; done) | (simp; omega)) _ | refine below_setRow ?_ (by first | omega | (simp; done) | (simp; omega)) _ ))) (by simp) hb1
  clear hb1 hgp BL
  have b2 : Below w.heap.size w (w1.alloc (.cells #[.int .i64 W, .int .i64 H, .slice (some ⟨gp, 0, none⟩) N N] 24)) := by (repeat (first | exact Below.refl _ _ | assumption | refine Below.drew ?_ | refine below_drewN ?_ _ | refine Below.alloc ?_ (by first | omega | (simp; done) | (simp; omega)) _ | refine Below.setCell ?_ (by first | omega | (simp; done) | (simp; omega)) _ | refine below_setRow ?_ (by first | omega | (simp; done) | (simp; omega)) _ ))
  have t6 := k6.alloc (.cells #[.int .i64 W, .int .i64 H, .slice (some ⟨gp, 0, none⟩) N N] 24)
  have tx := Blk.new w1 24 #[.int .i64 W, .int .i64 H, .slice (some ⟨gp, 0, none⟩) N N]
  have tp : H = 0 ∨ W = 0 ∨ Blk (w1.alloc (.cells #[.int .i64 W, .int .i64 H, .slice (some ⟨gp, 0, none⟩) N N] 24)) gp 5 (u8s N (byRow W (byPix W f) (fun _ => 0) (0 : Nat) (0 : Nat))) := by
    by_cases hw : W = 0
    · exact .inr (.inl hw)
    · exact .inr (.inr ((kp.alloc _).u8conv fun i i0 _ => (byRow_zero (W := W) (q := byPix W f) (z := fun _ => 0) (by omega) i0).symm))
  have tp0 := kp.alloc (.cells #[.int .i64 W, .int .i64 H, .slice (some ⟨gp, 0, none⟩) N N] 24)
  clear kp b1 k6 tp
  have tp : Blk (w1.alloc (.cells #[.int .i64 W, .int .i64 H, .slice (some ⟨gp, 0, none⟩) N N] 24)) gp 5 (u8s N (byRow W (byPix W f) (fun _ => 0) (0 : Nat) (0 : Nat))) := tp0.u8conv fun i i0 i1 => by
    have hw : 0 < W := by
      rcases Int.lt_or_le 0 W with h | h
      · exact h
      · have : W = 0 := by omega
        subst this
        have := HN.out
        simp at this
        omega
    exact (byRow_zero (W := W) (q := byPix W f) (z := fun _ => 0) hw i0).symm
  have hgx : gp ≠ w1.heap.size := by omega
  clear tp0
  go_wp2_with fail
  generalize w1.alloc (.cells #[.int .i64 W, .int .i64 H, .slice (some ⟨gp, 0, none⟩) N N] 24) = w2 at *
  generalize w1.heap.size = gx at *
  go_loopw [14] (fun s wr => ∃ y : Nat, (y : Int) ≤ H ∧ s = .int .i64 y ∧ Below w.heap.size w wr ∧ Blk wr w.heap.size 24 #[.int .i64 0, .int .i64 0, .slice none 0 0] ∧ Blk wr gx 24 #[.int .i64 W, .int .i64 H, .slice (some ⟨gp, 0, none⟩) N N] ∧ Blk wr gp 5 (u8s N (byRow W (byPix W f) (fun _ => 0) y (0 : Nat)))) (fun s _ => (H - intOf s).toNat)
  case atStart => exact ⟨0, by omega, rfl, b2, t6, tx, tp⟩
  case round =>
    obtain ⟨y, hy, rfl, b3, a6, ax, ap⟩ := hrel
    clear b2 t6 tx tp
    obtain ⟨x1, x2, x3⟩ := ax.cells3
    by_cases yl : (y : Int) < H
    · go_wp2_with fail
      go_loopw [18] (fun s wr => ∃ x : Nat, (x : Int) ≤ W ∧ s = .int .i64 x ∧ Below w.heap.size w wr ∧ Blk wr w.heap.size 24 #[.int .i64 0, .int .i64 0, .slice none 0 0] ∧ Blk wr gx 24 #[.int .i64 W, .int .i64 H, .slice (some ⟨gp, 0, none⟩) N N] ∧ Blk wr gp 5 (u8s N (byRow W (byPix W f) (fun _ => 0) y x))) (fun s _ => (W - intOf s).toNat)
      case atStart => exact ⟨0, by omega, rfl, b3, a6, ax, ap⟩
      case round =>
        obtain ⟨x, hx, rfl, b4, c6, cx, cp⟩ := hrel
        clear x1 x2 x3 b3 a6 ax ap
        obtain ⟨x1, x2, x3⟩ := cx.cells3
        by_cases xl : (x : Int) < W
        · obtain ⟨j1, j2, j3⟩ := idx_lt (x := (x : Int)) (y := (y : Int)) (W := W) (H := H) (by omega) xl (by omega) yl
          rw [Int.mul_comm H W] at j2
          have j4 : (y : Int) * W + x < (N : Int) := by have := HN.out; omega
          have v7 : IntKind.i64.wrap ((y : Int) * W) = (y : Int) * W := IntWalk.i64_in _ (by omega)
          have v8 : IntKind.i64.wrap ((y : Int) * W + x) = (y : Int) * W + x := IntWalk.i64_in _ (by omega)
          have HC := Lib.hid (HF.out x y wr.drew (by omega) xl (by omega) yl b4.drew)
          have HV := Lib.hid (byPix_at (W := W) (x := (x : Int)) (y := (y : Int)) (f := f) (by omega) xl)
          have BS := Lib.hid (fun i => byRow_set (q := byPix W f) (z := fun _ => 0) (W := W) (y := (y : Int)) (i := i) (by omega : (0 : Int) ≤ x) xl)
          go_wp2_with fail
          go_region_held3 (fun w' => w'.cell? ⟨gx, 2, none⟩ = some (.slice (some ⟨gp, 0, none⟩) N N))
            (simp [go_sem, *])
            (first
              | (with_reducible refine Calls.mono HC.out ?_; rintro e w5 ⟨rfl, hb5⟩
                 have d6 := c6.drew.below' hb5; have dx := cx.drew.below' hb5; have dp := cp.drew.below' hb5
                 obtain ⟨y1, y2, y3⟩ := dx.cells3
                 have cg := dp.u8at j1 j4
                 have fg := dp.frozen ((y : Int) * W + x).toNat))
          have b5 := below_call b4.drew b4.drew.size hb5
          have zz := b5.size
          go_wp2
          go_roundw
          case rel =>
            refine ⟨x + 1, by omega, by go_num, b5.setCell (by show w.heap.size ≤ gp; omega) _, d6.far (p := ⟨gp, ((y : Int) * W + x).toNat, none⟩) (by show w.heap.size ≠ gp; omega) _, dx.far (p := ⟨gp, ((y : Int) * W + x).toNat, none⟩) (fun e => hgx e.symm) _, (dp.u8set ((y : Int) * W + x) j1 (f x y)).u8conv fun i _ _ => ?_⟩
            have h := BS.out i
            rw [HV.out] at h
            rw [Int.natCast_add]
            exact h
          case measure => simp [intOf]; omega
        · have ex : (x : Int) = W := by omega
          have cp2 := cp.u8conv (r := byRow W (byPix W f) (fun _ => 0) ((y : Int) + 1) (0 : Nat)) fun i i0 i1 => by
            rw [ex]
            refine byRow_row ?_
            rcases Int.lt_or_le 0 W with h | h
            · exact h
            · have : W = 0 := by omega
              subst this
              have := HN.out
              simp at this
              omega
          clear cp ex
          go_wp2_with fail
          go_roundw
          case rel => exact ⟨y + 1, by omega, by go_num, b4, c6, cx, cp2⟩
          case measure => simp [intOf]; omega
    · have ey : (y : Int) = H := by omega
      obtain ⟨u1, u2, u3⟩ := a6.cells3
      obtain ⟨f1, f2, f3⟩ := a6.frozen3
      have k5 := ((a6.set_ 0 (.int .i64 W)).set_ 1 (.int .i64 H)).set_ 2 (.slice (some ⟨gp, 0, none⟩) N N)
      obtain ⟨s4, s5, s6⟩ := Blk.cells3 (a := .int .i64 W) (b := .int .i64 H) (c := .slice (some ⟨gp, 0, none⟩) N N) k5
      have zz := b3.size
      have g1 : gp ≠ w.heap.size := by omega
      have TP := Lib.hid (ap.u8conv (r := byPix W f) fun i i0 i1 => by
        rw [ey]
        refine byRow_end (h := H) ?_ (by have := HN.out; omega)
        rcases Int.lt_or_le 0 W with h | h
        · exact h
        · have : W = 0 := by omega
          subst this
          have := HN.out
          simp at this
          omega)
      clear ap ey
      go_wp2_with fail
      refine bodyPost_ret (v := .agg #[.int .i64 W, .int .i64 H, .slice (some ⟨gp, 0, none⟩) N N]) (by simp [results, Try.results87, go_sem, s4, s5, s6]) rfl ?_
      exact ⟨_, rfl, OutN.mk (by omega) (Blk.far (Blk.far (Blk.far TP.out (p := ⟨w.heap.size, 0, none⟩) g1 (.int .i64 W)) (p := ⟨w.heap.size, 1, none⟩) g1 (.int .i64 H)) (p := ⟨w.heap.size, 2, none⟩) g1 (.slice (some ⟨gp, 0, none⟩) N N)), by (repeat (first | exact Below.refl _ _ | assumption | refine Below.drew ?_ | refine below_drewN ?_ _ | refine Below.alloc ?_ (by first | omega | (simp; done) | (simp; omega)) _ | refine Below.setCell ?_ (by first | omega | (simp; done) | (simp; omega)) _ | refine below_setRow ?_ (by first | omega | (simp; done) | (simp; omega)) _ ))⟩
end Go.Proofs.Ytdimlpcbbkokiaa
