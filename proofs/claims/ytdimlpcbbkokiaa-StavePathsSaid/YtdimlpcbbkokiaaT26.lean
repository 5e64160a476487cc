/- Walks: the lines of any valid image, the program's and the reference's; an image that is not valid. -/
import Derived.Test.YtdimlpcbbkokiaaT18
import Derived.Test.YtdimlpcbbkokiaaT24
import Derived.Test.YtdimlpcbbkokiaaT25
namespace Go.Proofs.Ytdimlpcbbkokiaa
open Go.RowKit Go.Shelf
set_option linter.unusedVariables false
attribute [local go_sem] Oper.semAt_some

theorem few_any (W H : Int) (A : Option Addr) (n c : Nat) (w : World) :
    Calls Try.prog 12 #[.agg #[.int .i64 W, .int .i64 H, .slice A n c]] w fun e w' => e = .returned (.bool (decide ((n : Int) ≤ 6000))) ∧ Below w.heap.size w w' := by
  go_enter Try.func12, Try.ntmps12
  go_wp2
  go_ret
  exact ⟨rfl, by (repeat (first | exact Below.refl _ _ | assumption | refine Below.drew ?_ | refine below_drewN ?_ _ | refine Below.alloc ?_ (by first | omega | (simp; done) | (simp; omega)) _ | refine Below.setCell ?_ (by first | omega | (simp; done) | (simp; omega)) _ | refine below_setRow ?_ (by first | omega | (simp; done) | (simp; omega)) _ ))⟩
set_option maxHeartbeats 1000000 in
theorem trace_bad (W H : Int) (A : Option Addr) (n c : Nat) (p : Int → Int) (z : Int) (w : World) (hA : ArrB w w.heap.size A n p) (hn : n ≤ maxLen) (hE : chk W H n p = z) (hz : z ≠ 0) :
    Calls Try.prog 19 #[.agg #[.int .i64 W, .int .i64 H, .slice A n c]] w fun e w' => e = .returned (.tuple #[.slice none 0 0, .int .i64 z]) ∧ Below w.heap.size w w' := by
  have CK := Lib.hid fun w' hA' => check_any W H A n c p w' hA' hn
  rw [hE] at CK
  have hb : (z != 0) = true := by simp [hz]
  have HZ := Lib.hid hz; clear hz hE
  go_enter Try.func19, Try.ntmps19
  go_wp2_with fail
  refine (CK.out _ (hA.to (by (repeat (first | exact Below.refl _ _ | assumption | refine Below.drew ?_ | refine below_drewN ?_ _ | refine Below.alloc ?_ (by first | omega | (simp; done) | (simp; omega)) _ | refine Below.setCell ?_ (by first | omega | (simp; done) | (simp; omega)) _ | refine below_setRow ?_ (by first | omega | (simp; done) | (simp; omega)) _ ))))).mono ?_
  rintro e w1 ⟨rfl, hb1⟩
  have b1 : Below w.heap.size w w1 := below_call (by (repeat (first | exact Below.refl _ _ | assumption | refine Below.drew ?_ | refine below_drewN ?_ _ | refine Below.alloc ?_ (by first | omega | (simp; done) | (simp; omega)) _ | refine Below.setCell ?_ (by first | omega | (simp; done) | (simp; omega)) _ | refine below_setRow ?_ (by first | omega | (simp; done) | (simp; omega)) _ ))) (by simp; try omega) hb1
  go_wp2
  refine bodyPost_ret (results_tmp2 rfl _ _ _) rfl ?_
  exact ⟨rfl, b1⟩
set_option maxHeartbeats 1000000 in
theorem rtrace_empty (W H : Int) (A : Option Addr) (n c : Nat) (w : World) (h : W = 0 ∨ H = 0) :
    Calls Try.prog 23 #[.agg #[.int .i64 W, .int .i64 H, .slice A n c]] w fun e w' => e = .returned (.slice none 0 0) ∧ Below w.heap.size w w' := by
  by_cases hw : W = 0
  · have bW : (W == 0) = true := by simp [hw]
    have HW := Lib.hid hw
    clear hw h
    go_enter Try.func23, Try.ntmps23
    go_wp2
    go_ret
    exact ⟨rfl, by (repeat (first | exact Below.refl _ _ | assumption | refine Below.drew ?_ | refine below_drewN ?_ _ | refine Below.alloc ?_ (by first | omega | (simp; done) | (simp; omega)) _ | refine Below.setCell ?_ (by first | omega | (simp; done) | (simp; omega)) _ | refine below_setRow ?_ (by first | omega | (simp; done) | (simp; omega)) _ ))⟩
  · have bW : (W == 0) = false := by simp [hw]
    have bH : (H == 0) = true := by have : H = 0 := by omega
                                    simp [this]
    clear hw h
    go_enter Try.func23, Try.ntmps23
    go_wp2
    go_ret
    exact ⟨rfl, by (repeat (first | exact Below.refl _ _ | assumption | refine Below.drew ?_ | refine below_drewN ?_ _ | refine Below.alloc ?_ (by first | omega | (simp; done) | (simp; omega)) _ | refine Below.setCell ?_ (by first | omega | (simp; done) | (simp; omega)) _ | refine below_setRow ?_ (by first | omega | (simp; done) | (simp; omega)) _ ))⟩
/-- so many lines a valid image has, and these, in the order of their first rows -/
def TL (W H : Int) (p : Int → Int) (k : Nat) (ln : Nat → Nat → Int) : Prop :=
  if W = 0 ∨ H = 0 then k = 0 ∧ ln = (fun _ _ => 0) else ∃ l : List Nat, Many 1073741824 W H (cst p W) k ∧ l.Perm (List.range k) ∧ l.Pairwise (fun i j => LN 1073741824 W H (cst p W) i 0 ≤ LN 1073741824 W H (cst p W) j 0) ∧ ln = fun t j => LN 1073741824 W H (cst p W) (l.getD t 0) j
theorem TL.uniq {W H : Int} {p : Int → Int} {k k' : Nat} {ln ln' : Nat → Nat → Int} (hW : 0 ≤ W) (hW2 : W ≤ 640) (hH : 0 ≤ H) (h : TL W H p k ln) (h' : TL W H p k' ln') : k = k' ∧ ln = ln' := by
  unfold TL at h h'
  split at h
  · rw [if_pos ‹_›] at h'
    exact ⟨by rw [h.1, h'.1], by rw [h.2, h'.2]⟩
  · rw [if_neg ‹_›] at h'
    obtain ⟨l, m1, m2, m3, m4⟩ := h
    obtain ⟨l', n1, n2, n3, n4⟩ := h'
    obtain rfl := m1.uniq n1
    refine ⟨rfl, ?_⟩
    have : l = l' := sorted_uniq (key := fun i => LN 1073741824 W H (cst p W) i 0) (m2.trans n2.symm) m3 n3 fun i j hi hj e => by
      have hi := List.mem_range.1 (m2.mem_iff.1 hi)
      have hj := List.mem_range.1 (m2.mem_iff.1 hj)
      rcases Nat.lt_trichotomy i j with g | g | g
      · have := ln_off (cst_bd p W) (by omega) (by omega) (by omega) g (m1.2.1 j hj).1 0 (by omega)
        omega
      · exact g
      · have := ln_off (cst_bd p W) (by omega) (by omega) (by omega) g (m1.2.1 i hi).1 0 (by omega)
        omega
    rw [m4, n4, this]
theorem TraceOut.lines {w w' : World} {W H : Int} {p : Int → Int} {v : Value} (h : TraceOut w W H p v w') (hW : 1 ≤ W) (hH : 1 ≤ H) : ∃ A k c ln, v = .slice A k c ∧ k ≤ 60 ∧ TL W H p k ln ∧ Lines w' w'.heap.size A k (fun _ => W.toNat) ln := by
  obtain ⟨k, l, vs, m1, m2, m3, hr, hl⟩ := h
  obtain ⟨A, c, rfl, -, ha⟩ := own_arr hr
  have hlen : l.length = k := by rw [m2.length_eq, List.length_range]
  refine ⟨A, k, c, fun t j => LN 1073741824 W H (cst p W) (l.getD t 0) j, rfl, m1.1, ?_, fun t => vs (l.getD t 0), Arr.congr ha fun i i0 i1 => ?_, fun i hi => ?_⟩
  · unfold TL
    rw [if_neg (by omega)]
    exact ⟨l, m1, m2, m3, rfl⟩
  · show _ = vs (l.getD i.toNat 0)
    rw [List.getD_eq_getElem?_getD, List.getElem?_map, List.getD_eq_getElem?_getD, List.getElem?_eq_getElem (by omega)]; rfl
  · have hm : l.getD i 0 < k := by
      rw [List.getD_eq_getElem?_getD, List.getElem?_eq_getElem (by omega)]
      exact List.mem_range.1 (m2.mem_iff.1 (List.getElem_mem _))
    obtain ⟨A', c', e', ha'⟩ := own_arrI (hl _ hm)
    exact ⟨A', c', e', ha'⟩
theorem trace_tl (W H : Int) (A : Option Addr) (n c : Nat) (p : Int → Int) (w : World) (hA : ArrB w w.heap.size A n p) (hn : n ≤ maxLen) (hB : IsB p) (hE : chk W H n p = 0) :
    Calls Try.prog 19 #[.agg #[.int .i64 W, .int .i64 H, .slice A n c]] w (New w fun v w' => ∃ A' k c' ln, v = .tuple #[.slice A' k c', .int .i64 0] ∧ k ≤ 60 ∧ TL W H p k ln ∧ Lines w' w'.heap.size A' k (fun _ => W.toNat) ln) := by
  obtain ⟨hW1, hW2, hH1, hH2, -, -⟩ := chk_ok hE
  by_cases h : W = 0 ∨ H = 0
  · refine (trace_empty W H A n c p w hA hn hE h).mono ?_
    rintro e w' ⟨rfl, hb⟩
    exact ⟨_, rfl, ⟨none, 0, 0, _, rfl, by omega, by unfold TL; rw [if_pos h]; exact ⟨rfl, rfl⟩, fun _ => default, Arr.nil, fun i hi => by omega⟩, hb⟩
  · refine (trace_ok W H A n c p w hA hn hB hE (by omega) (by omega)).mono ?_
    rintro e w' ⟨_, rfl, ⟨vo, rfl, hT⟩, hb⟩
    obtain ⟨A', k, c', ln, rfl, h1, h2, h3⟩ := hT.lines (by omega) (by omega)
    exact ⟨_, rfl, ⟨A', k, c', ln, rfl, h1, h2, h3⟩, hb⟩
theorem rtrace_tl (W H : Int) (A : Option Addr) (n c : Nat) (p : Int → Int) (w : World) (hA : ArrB w w.heap.size A n p) (hE : chk W H n p = 0) :
    Calls Try.prog 23 #[.agg #[.int .i64 W, .int .i64 H, .slice A n c]] w (New w fun v w' => ∃ A' k c' ln, v = .slice A' k c' ∧ k ≤ 60 ∧ TL W H p k ln ∧ Lines w' w'.heap.size A' k (fun _ => W.toNat) ln) := by
  obtain ⟨hW1, hW2, hH1, hH2, -, -⟩ := chk_ok hE
  by_cases h : W = 0 ∨ H = 0
  · refine (rtrace_empty W H A n c w h).mono ?_
    rintro e w' ⟨rfl, hb⟩
    exact ⟨_, rfl, ⟨none, 0, 0, _, rfl, by omega, by unfold TL; rw [if_pos h]; exact ⟨rfl, rfl⟩, fun _ => default, Arr.nil, fun i hi => by omega⟩, hb⟩
  · refine (rtrace_ok W H A n c p w hA hE (by omega) (by omega)).mono ?_
    rintro e w' ⟨v, rfl, hT, hb⟩
    obtain ⟨A', k, c', ln, rfl, h1, h2, h3⟩ := hT.lines (by omega) (by omega)
    exact ⟨_, rfl, ⟨A', k, c', ln, rfl, h1, h2, h3⟩, hb⟩

set_option maxRecDepth 100000 in
set_option maxHeartbeats 4000000 in
theorem stavePaths_any (W H : Int) (A P : Option Addr) (n c m d : Nat) (p q : Int → Int) (w : World) (hA : ArrB w w.heap.size A n p) (hn : n ≤ maxLen) (hc : A = none → c = 0) (hB : IsB p) (hP : ArrI w w.heap.size P m q) (hm : m ≤ maxLen) :
    Calls Try.prog 3 #[.agg #[.int .i64 W, .int .i64 H, .slice A n c], .slice P m d] w fun e w' => e = .returned (.bool true) ∧ Below w.heap.size w w' := by
  have AW := Lib.hid fun w' => awake3_any w'
  have FW := Lib.hid fun w' => few_any W H A n c w'
  by_cases hf : (n : Int) ≤ 6000
  · rw [decide_eq_true hf] at FW
    by_cases hl : (m : Int) ≤ 700
    · have dl : decide ((700 : Int) < (m : Int)) = false := decide_eq_false (by omega)
      obtain ⟨E, hE⟩ : ∃ E, costE W H n p m q = E := ⟨_, rfl⟩
      obtain ⟨V, hV⟩ : ∃ V, costV W H n p m q = V := ⟨_, rfl⟩
      obtain ⟨z, hz⟩ : ∃ z, chk W H n p = z := ⟨_, rfl⟩
      have hn9 : n ≤ 140737488355328 := by omega
      have CI := Lib.hid fun w' hA' => copyInk_any W H A n c p w' hA' hc hn9
      have CL := Lib.hid fun w' hP' => clone_all P m d q w' hP' (by omega)
      have CA := Lib.hid fun A' c' P' d' w' hA' hP' => cost_all W H A' P' n c' m d' p q E V w' hA' hn hB hP' hm hE hV
      have RA := Lib.hid fun w' hA' hP' => rcost_all W H A P n c m d p q E V w' hA' hn hB hP' hm hE hV
      have SE := Lib.hid fun P' d' w' hP1 hP2 => equalI_any P' P m m d' d q q w' hP1 hP2 hm hm
      have SI := Lib.hid fun A' c' w' h1 h2 => sameInk_true W H A' A n c' c p p w' h1 h2 hn (fun _ _ _ => rfl)
      have CK := Lib.hid fun w' hA' => rcheck_any W H A n c p w' hA' hn hB
      have HMM := Lib.hid hm; have HNN := Lib.hid hn
      have sII : sameI m m q q = true := sameI_iff.2 ⟨rfl, fun _ _ _ => rfl⟩
      rw [sII] at SE
      rw [hz] at CK
      have HZ := Lib.hid hz
      clear hE hV hc sII hz
      go_enter Try.func3, Try.ntmps3
      go_wp2_with fail
      refine (FW.out _).mono ?_
      rintro e w1 ⟨rfl, hb1⟩
      have b1 : Below w.heap.size w w1 := below_call (by (repeat (first | exact Below.refl _ _ | assumption | refine Below.drew ?_ | refine below_drewN ?_ _ | refine Below.alloc ?_ (by first | omega | (simp; done) | (simp; omega)) _ | refine Below.setCell ?_ (by first | omega | (simp; done) | (simp; omega)) _ | refine below_setRow ?_ (by first | omega | (simp; done) | (simp; omega)) _ ))) (by simp; try omega) hb1
      have k1 : Blk w1 w.heap.size 24 #[.int .i64 W, .int .i64 H, .slice A n c] := (Blk.new _ _ _).below' hb1
      clear hb1
      obtain ⟨p1, p2, p3⟩ := k1.cells3
      go_wp2_with fail
      refine (CI.out _ (hA.to b1)).mono ?_
      rintro e w2 ⟨_, rfl, ⟨_, rfl, A', c', rfl, -, -, -, ha2⟩, hb2⟩
      have b2 := below_call b1 b1.size hb2
      have k2 := k1.below' hb2
      clear b1 k1 hb2 p1 p2 p3
      go_wp2_with fail
      refine (CL.out _ (hP.to b2)).mono ?_
      rintro e w3 ⟨_, rfl, ⟨P', d', rfl, hq3⟩, hb3⟩
      have b3 := below_call b2 b2.size hb3
      have k3 := k2.below' hb3
      have ha3 := ha2.to hb3
      have bb : Below w3.heap.size w3 (w3.alloc (.cells #[.int .i64 W, .int .i64 H, .slice A' n c'] 24)) := (Below.refl _ _).alloc (Nat.le_refl _) _
      have b4 := below_call b3 b3.size bb
      have k4 := k3.below' bb
      have ha4 := ha3.to bb
      have hq4 := hq3.to bb
      have kx4 := Blk.new w3 24 #[.int .i64 W, .int .i64 H, .slice A' n c']
      clear b2 k2 ha2 hb3 b3 k3 ha3 hq3 bb
      obtain ⟨p1, p2, p3⟩ := k4.cells3
      obtain ⟨r1, r2, r3⟩ := kx4.cells3
      go_wp2_with fail
      generalize w3.alloc (.cells #[.int .i64 W, .int .i64 H, .slice A' n c'] 24) = w4 at *
      generalize w3.heap.size = gx at *
      refine (CA.out _ _ _ _ _ ha4 hq4).mono ?_
      rintro e w5 ⟨rfl, hb5⟩
      have b5 := below_call b4 b4.size hb5
      have k5 := k4.below' hb5
      have kx5 := kx4.below' hb5
      have ha5 := ha4.to hb5
      have hq5 := hq4.to hb5
      clear b4 k4 kx4 ha4 hq4 hb5 p1 p2 p3 r1 r2 r3
      obtain ⟨p1, p2, p3⟩ := k5.cells3
      obtain ⟨r1, r2, r3⟩ := kx5.cells3
      go_wp2_with fail
      refine (RA.out _ (hA.to b5) (hP.to b5)).mono ?_
      rintro e w6 ⟨rfl, hb6⟩
      have b6 := below_call b5 b5.size hb6
      have k6 := k5.below' hb6
      have kx6 := kx5.below' hb6
      have ha6 := ha5.to hb6
      have hq6 := hq5.to hb6
      clear b5 k5 kx5 ha5 hq5 hb6 p1 p2 p3 r1 r2 r3
      obtain ⟨p1, p2, p3⟩ := k6.cells3
      obtain ⟨r1, r2, r3⟩ := kx6.cells3
      go_wp2_with fail
      refine (SE.out _ _ _ hq6 (hP.to b6)).mono ?_
      rintro e w7 ⟨rfl, nq, rfl⟩
      have b7 := below_drewN b6 nq
      have k7 := k6.drewN nq
      have kx7 := kx6.drewN nq
      have ha7 : ArrB (w6.drewN nq) (w6.drewN nq).heap.size A' n p := ha6
      clear b6 k6 kx6 ha6 hq6 p1 p2 p3 r1 r2 r3
      generalize w6.drewN nq = w7 at *
      obtain ⟨p1, p2, p3⟩ := k7.cells3
      obtain ⟨r1, r2, r3⟩ := kx7.cells3
      by_cases z0 : z = 0
      · subst z0
        have TR := Lib.hid fun A1 c1 w' hA' => trace_tl W H A1 n c1 p w' hA' hn hB HZ.out
        have RT := Lib.hid fun w' hA' => rtrace_tl W H A n c p w' hA' HZ.out
        obtain ⟨hW1, hW2, hH1, hH2, -, -⟩ := chk_ok HZ.out
        go_wp2_with fail
        refine (TR.out _ _ _ ha7).mono ?_
        rintro e w8 ⟨_, rfl, ⟨A1, K, c1, ln, rfl, hK, hTL, hL⟩, hb8⟩
        have b8 := below_call b7 b7.size hb8
        have k8 := k7.below' hb8
        have kx8 := kx7.below' hb8
        have ha8 := ha7.to hb8
        clear b7 k7 kx7 ha7 hb8 p1 p2 p3 r1 r2 r3
        obtain ⟨p1, p2, p3⟩ := k8.cells3
        obtain ⟨r1, r2, r3⟩ := kx8.cells3
        go_wp2_with fail
        refine (CK.out _ (hA.to b8)).mono ?_
        rintro e w9 ⟨rfl, hb9⟩
        have b9 := below_call b8 b8.size hb9
        have k9 := k8.below' hb9
        have kx9 := kx8.below' hb9
        have ha9 := ha8.to hb9
        have hL9 := hL.below hb9
        clear b8 k8 kx8 ha8 hb9 hL p1 p2 p3 r1 r2 r3
        obtain ⟨p1, p2, p3⟩ := k9.cells3
        obtain ⟨r1, r2, r3⟩ := kx9.cells3
        go_wp2_with fail
        refine (RT.out _ (hA.to b9)).mono ?_
        rintro e w10 ⟨_, rfl, ⟨A2, K2, c2, ln2, rfl, hK2, hTL2, hL2⟩, hb10⟩
        obtain ⟨rfl, rfl⟩ := hTL.uniq hW1 hW2 hH1 hTL2
        have b10 := below_call b9 b9.size hb10
        have k10 := k9.below' hb10
        have kx10 := kx9.below' hb10
        have ha10 := ha9.to hb10
        have hL10 := hL9.below hb10
        clear b9 k9 kx9 ha9 hb10 hL9 hTL hTL2 p1 p2 p3 r1 r2 r3
        have SL := Lib.hid (sameLists_any A1 A2 K K c1 c2 (fun _ => W.toNat) (fun _ => W.toNat) ln ln w10 hL10 hL2 (by unfold maxLen; omega) (by unfold maxLen; omega) (fun _ _ => by unfold maxLen; omega) (fun _ _ => by unfold maxLen; omega))
        have sLL : sameL K K (fun _ => W.toNat) (fun _ => W.toNat) ln ln = true := sameL_iff.2 ⟨rfl, fun _ _ => ⟨rfl, fun _ _ => rfl⟩⟩
        rw [sLL] at SL
        clear sLL
        go_wp2_with fail
        refine SL.out.mono ?_
        rintro e w11 ⟨rfl, nq2, rfl⟩
        have b11 := below_drewN b10 nq2
        have k11 := k10.drewN nq2
        have kx11 := kx10.drewN nq2
        have ha11 : ArrB (w10.drewN nq2) (w10.drewN nq2).heap.size A' n p := ha10
        clear b10 k10 kx10 ha10 hL10 hL2 SL
        generalize w10.drewN nq2 = w11 at *
        obtain ⟨p1, p2, p3⟩ := k11.cells3
        obtain ⟨r1, r2, r3⟩ := kx11.cells3
        go_wp2_with fail
        refine (SI.out _ _ _ ha11 (hA.to b11)).mono ?_
        rintro e w12 ⟨rfl, hb12⟩
        have b12 := below_call b11 b11.size hb12
        clear p1 p2 p3 r1 r2 r3
        go_wp2_with fail
        refine (AW.out _).mono ?_
        rintro e w13 ⟨rfl, hb13⟩
        have b13 := below_call b12 b12.size hb13
        go_wp2
        go_ret
        exact ⟨rfl, b13⟩
      · have TR := Lib.hid fun A1 c1 w' hA' => trace_bad W H A1 n c1 p z w' hA' hn HZ.out z0
        have zb : (z != 0) = true := by simp [z0]
        have HZ0 := Lib.hid z0
        clear z0
        go_wp2_with fail
        refine (TR.out _ _ _ ha7).mono ?_
        rintro e w8 ⟨rfl, hb8⟩
        have b8 := below_call b7 b7.size hb8
        have k8 := k7.below' hb8
        have kx8 := kx7.below' hb8
        have ha8 := ha7.to hb8
        clear b7 k7 kx7 ha7 hb8 p1 p2 p3 r1 r2 r3
        obtain ⟨p1, p2, p3⟩ := k8.cells3
        obtain ⟨r1, r2, r3⟩ := kx8.cells3
        go_wp2_with fail
        refine (CK.out _ (hA.to b8)).mono ?_
        rintro e w9 ⟨rfl, hb9⟩
        have b9 := below_call b8 b8.size hb9
        have k9 := k8.below' hb9
        have kx9 := kx8.below' hb9
        have ha9 := ha8.to hb9
        clear b8 k8 kx8 ha8 hb9 p1 p2 p3 r1 r2 r3
        obtain ⟨p1, p2, p3⟩ := k9.cells3
        obtain ⟨r1, r2, r3⟩ := kx9.cells3
        go_wp2_with fail
        refine (SI.out _ _ _ ha9 (hA.to b9)).mono ?_
        rintro e w12 ⟨rfl, hb12⟩
        have b12 := below_call b9 b9.size hb12
        clear p1 p2 p3 r1 r2 r3
        go_wp2_with fail
        refine (AW.out _).mono ?_
        rintro e w13 ⟨rfl, hb13⟩
        have b13 := below_call b12 b12.size hb13
        go_wp2
        go_ret
        exact ⟨rfl, b13⟩
    · have dl : decide ((700 : Int) < (m : Int)) = true := decide_eq_true (by omega)
      have hm2 := hm
      unfold maxLen at hm2
      go_enter Try.func3, Try.ntmps3
      go_wp2_with fail
      refine (FW.out _).mono ?_
      rintro e w1 ⟨rfl, hb1⟩
      have b1 : Below w.heap.size w w1 := below_call (by (repeat (first | exact Below.refl _ _ | assumption | refine Below.drew ?_ | refine below_drewN ?_ _ | refine Below.alloc ?_ (by first | omega | (simp; done) | (simp; omega)) _ | refine Below.setCell ?_ (by first | omega | (simp; done) | (simp; omega)) _ | refine below_setRow ?_ (by first | omega | (simp; done) | (simp; omega)) _ ))) (by simp; try omega) hb1
      clear hb1
      go_wp2_with fail
      refine (AW.out _).mono ?_
      rintro e w4 ⟨rfl, hb4⟩
      have b4 := below_call b1 b1.size hb4
      go_wp2
      go_ret
      exact ⟨rfl, b4⟩
  · rw [decide_eq_false hf] at FW
    go_enter Try.func3, Try.ntmps3
    go_wp2_with fail
    refine (FW.out _).mono ?_
    rintro e w1 ⟨rfl, hb1⟩
    have b1 : Below w.heap.size w w1 := below_call (by (repeat (first | exact Below.refl _ _ | assumption | refine Below.drew ?_ | refine below_drewN ?_ _ | refine Below.alloc ?_ (by first | omega | (simp; done) | (simp; omega)) _ | refine Below.setCell ?_ (by first | omega | (simp; done) | (simp; omega)) _ | refine below_setRow ?_ (by first | omega | (simp; done) | (simp; omega)) _ ))) (by simp; try omega) hb1
    clear hb1
    go_wp2_with fail
    refine (AW.out _).mono ?_
    rintro e w4 ⟨rfl, hb4⟩
    have b4 := below_call b1 b1.size hb4
    go_wp2
    go_ret
    exact ⟨rfl, b4⟩
end Go.Proofs.Ytdimlpcbbkokiaa
