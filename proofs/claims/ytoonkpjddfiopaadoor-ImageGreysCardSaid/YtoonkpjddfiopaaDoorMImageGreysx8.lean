/- Texts of mine in build order: G5, J7, Open. Conditions: each theorem's own. -/
import Derived.Test.YtoonkpjddfiopaaDoorMImageGreysx7
import Derived.Deep.DeepCutAuto
import Derived.Deep.Cut
import Derived.Deep.CutBlock
import Derived.Test.YtoonkpjddfiopaaDoorRows
import Derived.ProofKit
import Derived.OpenShut
import Derived.ShutString
import Derived.ChangeOld
import Derived.Lib.SmallJoins
/- Walk: the reference's Threshold. -/
namespace Go.Proofs.YtoonkpjddfiopaaDoor
open Go.RowKit
set_option linter.unusedVariables false
attribute [local go_sem] Oper.semAt_some

/-- row by row -/
abbrev rwQ (W : Int) (Q : Int → Int) (y x : Int) : Int → Int := stQ (fun i => i % W) (fun i => i / W) Q y x
section
variable {W H x y v i : Int} {Q : Int → Int}
theorem rwQ_zero (hW : 0 < W) (h0 : 0 ≤ i) : rwQ W Q 0 0 i = 0 := stQ_start (Int.emod_nonneg _ (by omega)) (Int.ediv_nonneg h0 (by omega))
theorem rwQ_set (h0 : 0 ≤ x) (h1 : x < W) (hv : Q (y * W + x) = v) : upd (rwQ W Q y x) (y * W + x) v i = rwQ W Q y (x + 1) i := stQ_set (row_at h0 h1) hv
theorem rwQ_skip (h0 : 0 ≤ x) (h1 : x < W) (hv : Q (y * W + x) = 0) : rwQ W Q y x i = rwQ W Q y (x + 1) i := stQ_skip (row_at h0 h1) hv
theorem rwQ_line (hW : 0 < W) : rwQ W Q y W i = rwQ W Q (y + 1) 0 i := stQ_line (Int.emod_nonneg _ (by omega)) (Int.emod_lt_of_pos _ hW)
theorem rwQ_end (hW : 0 < W) (hi : i < H * W) : rwQ W Q H 0 i = Q i := stQ_end (Int.ediv_lt_of_lt_mul hW hi)
end
set_option maxRecDepth 100000 in
set_option maxHeartbeats 4000000 in
theorem rthr_all (W H lv : Int) (A : Option Addr) (n c : Nat) (p : Int → Int) (E W2 H2 : Int) (N : Nat) (w : World) (hA : ArrB w w.heap.size A n p) (hn : n ≤ maxLen) (hB : IsB p) (hE : thrE W H n lv = E) (hs : RSize E W H W2 H2 N) :
    Calls Tryd.prog 34 #[.agg #[.int .i64 W, .int .i64 H, .slice A n c], .int .i64 lv] w (New w fun v w' => OutT w w' E W2 H2 N (thrQ p lv) v) := by
  have CK := Lib.hid fun w' => rcheckGrey_any W H A n c w' hn
  have b1 : Below w.heap.size w ((w.alloc (.cells #[.int .i64 W, .int .i64 H, .slice A n c] 55)).alloc (.cells #[.int .i64 0, .int .i64 0, .slice none 0 0] 24)) := by (repeat (first | exact Below.refl _ _ | assumption | refine Below.drew ?_ | refine below_drewN ?_ _ | refine Below.alloc ?_ (by first | omega | (simp; done) | (simp; omega)) _ | refine Below.setCell ?_ (by first | omega | (simp; done) | (simp; omega)) _ | refine below_setRow ?_ (by first | omega | (simp; done) | (simp; omega)) _ ))
  have k1 : Blk ((w.alloc (.cells #[.int .i64 W, .int .i64 H, .slice A n c] 55)).alloc (.cells #[.int .i64 0, .int .i64 0, .slice none 0 0] 24)) w.heap.size 55 #[.int .i64 W, .int .i64 H, .slice A n c] := (Blk.new _ _ _).alloc _
  have k3 : Blk ((w.alloc (.cells #[.int .i64 W, .int .i64 H, .slice A n c] 55)).alloc (.cells #[.int .i64 0, .int .i64 0, .slice none 0 0] 24)) (w.heap.size + 1) 24 #[.int .i64 0, .int .i64 0, .slice none 0 0] := Blk.new' (by simp) _ _
  have HS := Lib.hid hs
  cases hsd : sidesB W H n with
  | false =>
    have hE2 : E = 2 := by rw [← hE]; unfold thrE; rw [hsd]; rfl
    subst hE2
    rw [hsd] at CK
    clear hs hE hsd
    go_enter Tryd.func34, Tryd.ntmps34
    go_wp2_with fail
    generalize (w.alloc (.cells #[.int .i64 W, .int .i64 H, .slice A n c] 55)).alloc (.cells #[.int .i64 0, .int .i64 0, .slice none 0 0] 24) = w1 at *
    refine (CK.out _).mono ?_
    rintro e w2 ⟨rfl, hb2⟩
    have b2 := below_call b1 b1.size hb2
    have k4 := k3.below' hb2
    obtain ⟨r1, r2, r3⟩ := k4.cells3
    obtain ⟨f1, f2, f3⟩ := k4.frozen3
    have k9 := ((k4.set_ 0 (.int .i64 0)).set_ 1 (.int .i64 0)).set_ 2 (.slice none 0 0)
    obtain ⟨s1, s2, s3⟩ := Blk.cells3 (a := .int .i64 0) (b := .int .i64 0) (c := .slice none 0 0) k9
    go_wp2_with fail
    refine bodyPost_ret (v := .tuple #[noImg, .int .i64 2]) (by simp [results, Tryd.results34, go_sem, noImg, s1, s2, s3]) rfl ?_
    exact ⟨_, rfl, outT_bad HS.out (by decide), by (repeat (first | with_reducible exact Below.refl _ _ | with_reducible assumption | with_reducible refine Below.drew ?_ | (with_reducible refine below_alloc' ?_ ?_; focus (first | omega | (simp; done) | (simp; omega))) | (with_reducible refine below_fill3' ?_ ?_; focus omega) | (with_reducible refine below_setCell' ?_ ?_; focus (first | omega | (simp; done) | (simp; omega))) | (with_reducible apply below_call'; (focus (with_reducible assumption)); (focus (first | omega | (simp; done) | (simp; omega))))))⟩
  | true =>
    rw [hsd] at CK
    obtain ⟨hW1, hW2, hH1, hH2, hnn⟩ := sidesB_iff.1 hsd
    by_cases hl : lv < 0 ∨ 256 < lv
    · have hE2 : E = 1 := by rw [← hE]; unfold thrE; rw [hsd, if_pos rfl, if_pos hl]
      subst hE2
      clear hs hE hsd hnn
      rcases (show lv < 0 ∨ (0 ≤ lv ∧ 256 < lv) by omega) with hl | ⟨hl0, hl⟩
      all_goals
        go_enter Tryd.func34, Tryd.ntmps34
        go_wp2_with fail
        generalize (w.alloc (.cells #[.int .i64 W, .int .i64 H, .slice A n c] 55)).alloc (.cells #[.int .i64 0, .int .i64 0, .slice none 0 0] 24) = w1 at *
        refine (CK.out _).mono ?_
        rintro e w2 ⟨rfl, hb2⟩
        have b2 := below_call b1 b1.size hb2
        have k4 := k3.below' hb2
        obtain ⟨r1, r2, r3⟩ := k4.cells3
        obtain ⟨f1, f2, f3⟩ := k4.frozen3
        have k9 := ((k4.set_ 0 (.int .i64 0)).set_ 1 (.int .i64 0)).set_ 2 (.slice none 0 0)
        obtain ⟨s1, s2, s3⟩ := Blk.cells3 (a := .int .i64 0) (b := .int .i64 0) (c := .slice none 0 0) k9
        go_wp2_with fail
        refine bodyPost_ret (v := .tuple #[noImg, .int .i64 1]) (by simp [results, Tryd.results34, go_sem, noImg, s1, s2, s3]) rfl ?_
        exact ⟨_, rfl, outT_bad HS.out (by decide), by (repeat (first | with_reducible exact Below.refl _ _ | with_reducible assumption | with_reducible refine Below.drew ?_ | (with_reducible refine below_alloc' ?_ ?_; focus (first | omega | (simp; done) | (simp; omega))) | (with_reducible refine below_fill3' ?_ ?_; focus omega) | (with_reducible refine below_setCell' ?_ ?_; focus (first | omega | (simp; done) | (simp; omega))) | (with_reducible apply below_call'; (focus (with_reducible assumption)); (focus (first | omega | (simp; done) | (simp; omega))))))⟩
    · have hE2 : E = 0 := by rw [← hE]; unfold thrE; rw [hsd, if_pos rfl, if_neg hl]
      subst hE2
      obtain ⟨rfl, rfl, hN⟩ := hs.1 rfl
      obtain rfl : N = n := by omega
      have l0 : 0 ≤ lv := by omega
      have l1 : lv ≤ 256 := by omega
      obtain ⟨W, rfl⟩ : ∃ Wn : Nat, W2 = Wn := ⟨W2.toNat, by omega⟩
      obtain ⟨H, rfl⟩ : ∃ Hn : Nat, H2 = Hn := ⟨H2.toNat, by omega⟩
      have NW := Lib.hid fun w' => rnew_any W H N w' hW1 hW2 hH1 hH2 hN
      have HNN := Lib.hid hN
      have HA := Lib.hid hA
      have HBB := Lib.hid hB
      have hW640 : W ≤ 640 := by omega
      have hH640 : H ≤ 640 := by omega
      clear hs hE hnn hB hN hsd hl hA
      go_enter Tryd.func34, Tryd.ntmps34
      go_wp2_with fail
      generalize (w.alloc (.cells #[.int .i64 W, .int .i64 H, .slice A N c] 55)).alloc (.cells #[.int .i64 0, .int .i64 0, .slice none 0 0] 24) = w1 at *
      refine (CK.out _).mono ?_
      rintro e w1' ⟨rfl, hb1⟩
      have c1 := below_call b1 b1.size hb1
      replace k1 := k1.below' hb1
      replace k2 := k3.below' hb1
      clear b1 k3 hb1 CK
      obtain ⟨p1, p2, p3⟩ := k1.cells3
      go_wp2_with fail
      refine (NW.out _).mono ?_
      rintro e w2 ⟨_, rfl, ⟨g, rfl, hg, kg⟩, hb2⟩
      have b2 := below_call c1 c1.size hb2
      have zk2 := k2.lt
      have zc1 := c1.size
      replace k1 := (k1.below' hb2).alloc (.cells #[.int .i64 W, .int .i64 H, .slice (some ⟨g, 0, none⟩) N N] 24)
      replace k2 := (k2.below' hb2).alloc (.cells #[.int .i64 W, .int .i64 H, .slice (some ⟨g, 0, none⟩) N N] 24)
      have zg := kg.lt
      have kx := Blk.new w2 24 #[.int .i64 W, .int .i64 H, .slice (some ⟨g, 0, none⟩) N N]
      have zs := hb2.size
      obtain ⟨Q, hQ⟩ : ∃ Q, Q = thrQ p lv := ⟨_, rfl⟩
      have b3 := b2.alloc b2.size (.cells #[.int .i64 W, .int .i64 H, .slice (some ⟨g, 0, none⟩) N N] 24)
      obtain ⟨gx, hgx⟩ : ∃ gx, w2.heap.size = gx := ⟨_, rfl⟩
      have zz : (w2.alloc (.cells #[.int .i64 W, .int .i64 H, .slice (some ⟨g, 0, none⟩) N N] 24)).heap.size = gx + 1 := by simp [hgx]
      have kp : Blk (w2.alloc (.cells #[.int .i64 W, .int .i64 H, .slice (some ⟨g, 0, none⟩) N N] 24)) g 5 (u8s N (rwQ W Q (0 : Nat) (0 : Nat))) := (kg.alloc _).u8conv fun i i0 i1 => by
        by_cases hW0 : W = 0
        · have := HNN.out; rw [hW0] at this; simp at this; omega
        · exact (rwQ_zero (by omega) i0).symm
      rw [hgx] at kx zg zs
      have HQ := Lib.hid hQ
      clear kg hQ b2 c1 p1 p2 p3
      go_upto_region 7 with fail
      generalize w2.alloc (.cells #[.int .i64 W, .int .i64 H, .slice (some ⟨g, 0, none⟩) N N] 24) = w3 at *
      clear hgx hb2
      go_wp2_with fail
      go_loopw [8] (fun s wr => ∃ y : Nat, y ≤ H ∧ s = .int .i64 y ∧ But (gx + 1) g w3 wr ∧ Blk wr g 5 (u8s N (rwQ W Q y (0 : Nat)))) (fun s _ => H - (intOf s).toNat)
      case atStart => exact ⟨0, by omega, rfl, But.refl _ (by omega), kp⟩
      case round =>
        obtain ⟨y, hy, rfl, bu, ap⟩ := hrel
        clear kp
        have m1 := k1.but bu (by omega) (by omega)
        obtain ⟨p1, p2, p3⟩ := m1.cells3
        by_cases yl : (y : Int) < H
        · go_wp2_with fail
          go_loopw [9] (fun s wr => ∃ x : Nat, x ≤ W ∧ s = .int .i64 x ∧ But (gx + 1) g w3 wr ∧ Blk wr g 5 (u8s N (rwQ W Q y x))) (fun s _ => W - (intOf s).toNat)
          case atStart => exact ⟨0, by omega, rfl, bu, ap⟩
          case round =>
            obtain ⟨x, hx, rfl, bv, aq⟩ := hrel
            clear ap bu m1 p1 p2 p3
            have m1 := k1.but bv (by omega) (by omega)
            have mx := kx.but bv (by omega) (by omega)
            obtain ⟨p1, p2, p3⟩ := m1.cells3
            obtain ⟨x1, x2, x3⟩ := mx.cells3
            by_cases xl : (x : Int) < W
            · have hb0 : Below w.heap.size w wr := b3.trans (bv.to zz (by omega) (by omega))
              have hA4 := HA.out.to hb0
              obtain ⟨j1, j2, j3⟩ := idx_lt (x := (x : Int)) (y := (y : Int)) (W := W) (H := H) (by omega) xl (by omega) yl
              rw [Int.mul_comm (H : Int) W, ← HNN.out] at j2
              have nb := (area_bd (W := W) (H := H) (by omega) (by omega) (by omega) (by omega)).2
              rw [← HNN.out] at nb
              obtain ⟨z, hz⟩ : ∃ z : Nat, (y : Int) * W + x = (z : Int) := ⟨((y : Int) * W + x).toNat, by omega⟩
              have v1 : IntKind.i64.wrap ((y : Int) * W) = (y : Int) * W := IntWalk.i64_in _ (by omega)
              have v2 : IntKind.i64.wrap ((y : Int) * W + x) = (z : Int) := (IntWalk.i64_in _ (by omega)).trans hz
              have zN : (z : Int) < (N : Int) := by omega
              obtain ⟨bA, off, rfl, hbA, hcell⟩ := ArrB.at_ hA4 (i := (z : Int)) (by omega) zN
              rw [Int.toNat_natCast] at hcell
              have QE : Hid (Q ((y : Int) * W + x) = if p z < lv then 1 else 0) := Lib.hid (by rw [HQ.out, hz]; rfl)
              obtain ⟨q2, q3⟩ := HBB.out (z : Int)
              generalize p z = v at *
              have v3 : IntKind.i64.wrap v = v := IntWalk.i64_in _ (by omega)
              have HZ := Lib.hid hz
              clear hA4 hb0 hz j1 j2 j3
              by_cases hv : v < lv
              · rw [if_pos hv] at QE
                go_wp2_with fail
                refine (rset_any W H g N N 5 _ x y _ aq (by omega) xl (by omega) yl (by omega) (by omega) HNN.out).mono ?_
                rintro e w6 ⟨rfl, hk6, hg6⟩
                have bz6 : But (gx + 1) g w3 w6 := ⟨hg6.os.trans bv.os, hg6.tape.trans bv.tape, hg6.output.trans bv.output, Nat.le_trans bv.size hg6.size, fun j hj hk => (hg6.block j (Nat.lt_of_lt_of_le hj bv.size) (fun e => hk (by cases e; rfl))).trans (bv.block j hj hk)⟩
                have aq6 : Blk w6 g 5 (u8s N (rwQ W Q y ((x + 1 : Nat) : Int))) := hk6.u8conv fun i _ _ => by
                  have h := rwQ_set (Q := Q) (y := (y : Int)) (i := i) (show (0 : Int) ≤ x by omega) xl QE.out
                  rw [h]; push_cast; rfl
                clear hk6 hg6 mx x1 x2 x3
                go_wp2_with fail
                go_round
                case rel => exact ⟨x + 1, by omega, by go_num, bz6, aq6⟩
                case measure => simp [intOf]; omega
              · rw [if_neg hv] at QE
                have aq6 : Blk wr g 5 (u8s N (rwQ W Q y ((x + 1 : Nat) : Int))) := aq.u8conv fun i _ _ => by
                  have h := rwQ_skip (Q := Q) (y := (y : Int)) (i := i) (show (0 : Int) ≤ x by omega) xl QE.out
                  rw [h]; push_cast; rfl
                clear aq
                go_wp2_with fail
                go_round
                case rel => exact ⟨x + 1, by omega, by go_num, bv, aq6⟩
                case measure => simp [intOf]; omega
            · have hxW : x = W := by omega
              have aq6 : Blk wr g 5 (u8s N (rwQ W Q ((y + 1 : Nat) : Int) (0 : Nat))) := aq.u8conv fun i i0 i1 => by
                by_cases hW0 : W = 0
                · have := HNN.out; rw [hW0] at this; simp at this; omega
                · have h := rwQ_line (Q := Q) (W := W) (y := (y : Int)) (i := i) (by omega)
                  rw [hxW, h]; push_cast; rfl
              clear aq hxW
              go_wp2_with fail
              go_round
              case rel => exact ⟨y + 1, by omega, by go_num, bv, aq6⟩
              case measure => simp [intOf]; omega
        · have hyH : y = H := by omega
          have m2 := k2.but bu (by omega) (by omega)
          have mx := kx.but bu (by omega) (by omega)
          obtain ⟨x1, x2, x3⟩ := mx.cells3
          obtain ⟨f1, f2, f3⟩ := m2.frozen3
          obtain ⟨y1, y2, y3⟩ := m2.cells3
          have k5 := ((m2.set_ 0 (.int .i64 W)).set_ 1 (.int .i64 H)).set_ 2 (.slice (some ⟨g, 0, none⟩) N N)
          obtain ⟨s1, s2, s3⟩ := Blk.cells3 (a := .int .i64 W) (b := .int .i64 H) (c := .slice (some ⟨g, 0, none⟩) N N) k5
          have bE : Below w.heap.size w wr := b3.trans (bu.to zz (by omega) (by omega))
          have aq : Blk wr g 5 (u8s N Q) := ap.u8conv fun i i0 i1 => by
            rw [hyH]
            by_cases hW0 : W = 0
            · have := HNN.out; rw [hW0] at this; simp at this; omega
            · exact rwQ_end (by omega) (by rw [Int.mul_comm, ← HNN.out]; exact i1)
          clear ap hyH
          go_wp2_with fail
          refine bodyPost_ret (v := .tuple #[.agg #[.int .i64 W, .int .i64 H, .slice (some ⟨g, 0, none⟩) N N], .int .i64 0]) (by simp [results, Tryd.results34, go_sem, s1, s2, s3]) rfl ?_
          have g1 : g ≠ w.heap.size + 1 := by omega
          refine ⟨_, rfl, ⟨_, _, rfl, (fun a e => by cases e; show w.heap.size ≤ g; omega), ?_⟩, by (repeat (first | exact Below.refl _ _ | assumption | refine Below.drew ?_ | refine below_drewN ?_ _ | refine Below.alloc ?_ (by first | omega | (simp; done) | (simp; omega)) _ | refine Below.setCell ?_ (by first | omega | (simp; done) | (simp; omega)) _ | refine below_setRow ?_ (by first | omega | (simp; done) | (simp; omega)) _ ))⟩
          have KE := Blk.far (Blk.far (Blk.far aq (p := ⟨w.heap.size + 1, 0, none⟩) g1 (.int .i64 W)) (p := ⟨w.heap.size + 1, 1, none⟩) g1 (.int .i64 H)) (p := ⟨w.heap.size + 1, 2, none⟩) g1 (.slice (some ⟨g, 0, none⟩) N N)
          rw [← HQ.out]
          exact KE.arrB KE.lt
end Go.Proofs.YtoonkpjddfiopaaDoor

/- Walk of the law ImageGreys. -/
namespace Go.Proofs.YtoonkpjddfiopaaDoor
open Go.RowKit
set_option linter.unusedVariables false

theorem equalI_true (A B : Option Addr) (n c d : Nat) (p : Int → Int) (w : World) (hA : ArrI w w.heap.size A n p) (hB : ArrI w w.heap.size B n p) (hn : n ≤ maxLen) :
    Calls Tryd.prog 37 #[.slice A n c, .slice B n d] w fun e w' => e = .returned (.bool true) ∧ Below w.heap.size w w' := by
  refine (equalI_any A B n n c d p p w hA hB hn hn).mono ?_
  rintro e w' ⟨rfl, k, rfl⟩
  exact ⟨by rw [sameI_iff.2 ⟨rfl, fun _ _ _ => rfl⟩], below_drewN (Below.refl _ _) k⟩
set_option maxHeartbeats 400000 in
theorem same_true (W H E : Int) (A B : Option Addr) (n c d : Nat) (p q : Int → Int) (w : World) (hA : ArrB w w.heap.size A n p) (hB : ArrB w w.heap.size B n q) (hn : n ≤ maxLen) (he : ∀ i : Int, 0 ≤ i → i < n → p i = q i) :
    Calls Tryd.prog 24 #[.agg #[.int .i64 W, .int .i64 H, .slice A n c], .int .i64 E, .agg #[.int .i64 W, .int .i64 H, .slice B n d], .int .i64 E] w fun e w' => e = .returned (.bool true) ∧ Below w.heap.size w w' := by
  have b1 : Below w.heap.size w ((w.alloc (.cells #[.int .i64 W, .int .i64 H, .slice A n c] 24)).alloc (.cells #[.int .i64 W, .int .i64 H, .slice B n d] 24)) := by (repeat (first | exact Below.refl _ _ | assumption | refine Below.drew ?_ | refine below_drewN ?_ _ | refine Below.alloc ?_ (by first | omega | (simp; done) | (simp; omega)) _ | refine Below.setCell ?_ (by first | omega | (simp; done) | (simp; omega)) _ | refine below_setRow ?_ (by first | omega | (simp; done) | (simp; omega)) _ ))
  have SI := Lib.hid fun w' h1 h2 => sameInk_true W H A B n c d p q w' h1 h2 hn he
  clear he
  go_enter Tryd.func24, Tryd.ntmps24
  go_wp2_with fail
  refine (SI.out _ (hA.to b1) (hB.to b1)).mono ?_
  rintro e w2 ⟨rfl, hb2⟩
  have b2 := below_call b1 b1.size hb2
  go_wp2
  go_ret
  exact ⟨rfl, b2⟩

set_option maxRecDepth 100000 in
set_option maxHeartbeats 4000000 in
theorem imageGreys_any (W H lv : Int) (A : Option Addr) (n c : Nat) (p : Int → Int) (w : World) (hA : ArrB w w.heap.size A n p) (hn : n ≤ maxLen) (hB : IsB p) (hc : A = none → c = 0) :
    Calls Tryd.prog 5 #[.agg #[.int .i64 W, .int .i64 H, .slice A n c], .int .i64 lv] w fun e w' => e = .returned (.bool true) ∧ Below w.heap.size w w' := by
  unfold maxLen at hn
  by_cases h6 : (n : Int) > 4000
  · go_enter Tryd.func5, Tryd.ntmps5
    go_wp2_with fail
    refine (awake1_any _).mono ?_
    rintro e w1 ⟨rfl, hb1⟩
    go_wp2
    go_ret
    exact ⟨rfl, below_call (by (repeat (first | exact Below.refl _ _ | assumption | refine Below.drew ?_ | refine below_drewN ?_ _ | refine Below.alloc ?_ (by first | omega | (simp; done) | (simp; omega)) _ | refine Below.setCell ?_ (by first | omega | (simp; done) | (simp; omega)) _ | refine below_setRow ?_ (by first | omega | (simp; done) | (simp; omega)) _ ))) (by simp; try omega) hb1⟩
  have hnm : n ≤ maxLen := by unfold maxLen; omega
  have CG := Lib.hid fun w' hA' => copyGrey_any W H A n c p w' hA' hc (by omega)
  have hpos : thrE W H n lv = 0 → 0 ≤ W ∧ W ≤ 640 ∧ 0 ≤ H ∧ H ≤ 640 := by
    intro h
    unfold thrE at h
    split at h
    · rename_i hs; obtain ⟨a, b, c, d, _⟩ := sidesB_iff.1 hs; exact ⟨a, b, c, d⟩
    · cases h
  obtain ⟨Wx, Hx, Nx, ms⟩ := rsize_ex (thrE W H n lv) W H (fun h => by obtain ⟨a, b, c, d⟩ := hpos h; exact Int.mul_nonneg a c)
  have lx := rsize_le ms hpos
  have C1 := Lib.hid fun A' c' w' h' => thr_all W H lv A' n c' p _ Wx Hx Nx w' h' hB rfl ms
  have C2 := Lib.hid fun w' h' => rthr_all W H lv A n c p _ Wx Hx Nx w' h' hnm hB rfl ms
  have C4 := Lib.hid fun w' => rcheckGrey_any W H A n c w' hnm
  generalize thrQ p lv = qx at *
  generalize thrE W H n lv = Ex at *
  have b0 : Below w.heap.size w (w.alloc (.cells #[.int .i64 W, .int .i64 H, .slice A n c] 55)) := by (repeat (first | exact Below.refl _ _ | assumption | refine Below.drew ?_ | refine below_drewN ?_ _ | refine Below.alloc ?_ (by first | omega | (simp; done) | (simp; omega)) _ | refine Below.setCell ?_ (by first | omega | (simp; done) | (simp; omega)) _ | refine below_setRow ?_ (by first | omega | (simp; done) | (simp; omega)) _ ))
  have K0 := ((Kp.nil (w.alloc (.cells #[.int .i64 W, .int .i64 H, .slice A n c] 55))).addB (Blk.new w 55 #[.int .i64 W, .int .i64 H, .slice A n c])).addA (hA.to b0)
  cases hsd : sidesB W H n with
  | true =>
    rw [hsd] at C4
    have C3 := Lib.hid fun A' c' w' h' => levels_ok W H A' n c' p w' h' hnm hB hsd
    have C5 := Lib.hid fun w' h' => rlevels_any W H A n c p w' h' hnm hB
    clear ms hn hc hB hA hsd hpos
    go_enter Tryd.func5, Tryd.ntmps5
    go_wp2_with fail
    generalize w.alloc (.cells #[.int .i64 W, .int .i64 H, .slice A n c] 55) = w1 at *
    refine (CG.out _ (K0.a 0 rfl)).mono ?_
    rintro e v1 ⟨_, rfl, ⟨_, rfl, Aa, ca, rfl, hca, hna, hga, aa⟩, hb1⟩
    have K1a := (K0.below hb1).addA aa
    have b1a := below_call b0 b0.size hb1
    have z1 := b1a.size
    have b1 : Below w.heap.size w (v1.alloc (.cells #[.int .i64 W, .int .i64 H, .slice Aa n ca] 55)) := by (repeat (first | exact Below.refl _ _ | assumption | refine Below.drew ?_ | refine below_drewN ?_ _ | refine Below.alloc ?_ (by first | omega | (simp; done) | (simp; omega)) _ | refine Below.setCell ?_ (by first | omega | (simp; done) | (simp; omega)) _ | refine below_setRow ?_ (by first | omega | (simp; done) | (simp; omega)) _ ))
    have K1 := K1a.new 55 #[.int .i64 W, .int .i64 H, .slice Aa n ca]
    clear K0 b0 K1a b1a hb1 aa hga  z1 CG hca hna
    obtain ⟨p1, p2, p3⟩ := (K1.b 0 rfl).cells3
    go_wp2_with fail
    generalize v1.alloc (.cells #[.int .i64 W, .int .i64 H, .slice Aa n ca] 55) = w1 at *
    refine (C1.out _ _ _ (K1.a 0 rfl)).mono ?_
    rintro e v2 ⟨_, rfl, ⟨Ax, cx, rfl, hgx, ax⟩, hb2⟩
    have K2a := (K1.below hb2).addA ax
    have b2a := below_call b1 b1.size hb2
    have z2 := b2a.size
    have b2 : Below w.heap.size w (v2.alloc (.cells #[.int .i64 Wx, .int .i64 Hx, .slice Ax Nx cx] 24)) := by (repeat (first | exact Below.refl _ _ | assumption | refine Below.drew ?_ | refine below_drewN ?_ _ | refine Below.alloc ?_ (by first | omega | (simp; done) | (simp; omega)) _ | refine Below.setCell ?_ (by first | omega | (simp; done) | (simp; omega)) _ | refine below_setRow ?_ (by first | omega | (simp; done) | (simp; omega)) _ ))
    have K2 := K2a.new 24 #[.int .i64 Wx, .int .i64 Hx, .slice Ax Nx cx]
    clear K1 b1 K2a b2a hb2 ax hgx p1 p2 p3 z2 C1
    obtain ⟨p1, p2, p3⟩ := (K2.b 2 rfl).cells3
    go_wp2_with fail
    generalize v2.alloc (.cells #[.int .i64 Wx, .int .i64 Hx, .slice Ax Nx cx] 24) = w2 at *
    refine (C2.out _ (K2.a 2 rfl)).mono ?_
    rintro e v3 ⟨_, rfl, ⟨Ay, cy, rfl, hgy, ay⟩, hb3⟩
    have K3a := (K2.below hb3).addA ay
    have b3a := below_call b2 b2.size hb3
    have z3 := b3a.size
    have b3 : Below w.heap.size w (v3.alloc (.cells #[.int .i64 Wx, .int .i64 Hx, .slice Ay Nx cy] 24)) := by (repeat (first | exact Below.refl _ _ | assumption | refine Below.drew ?_ | refine below_drewN ?_ _ | refine Below.alloc ?_ (by first | omega | (simp; done) | (simp; omega)) _ | refine Below.setCell ?_ (by first | omega | (simp; done) | (simp; omega)) _ | refine below_setRow ?_ (by first | omega | (simp; done) | (simp; omega)) _ ))
    have K3 := K3a.new 24 #[.int .i64 Wx, .int .i64 Hx, .slice Ay Nx cy]
    clear K2 b2 K3a b3a hb3 ay hgy p1 p2 p3 z3 C2
    obtain ⟨p1, p2, p3⟩ := (K3.b 2 rfl).cells3
    go_wp2_with fail
    generalize v3.alloc (.cells #[.int .i64 Wx, .int .i64 Hx, .slice Ay Nx cy] 24) = w3 at *
    refine (C3.out _ _ _ (K3.a 2 rfl)).mono ?_
    rintro e v4 ⟨_, rfl, ⟨gl1, rfl, hgl1, kl1⟩, hb4⟩
    have K4 := (K3.below hb4).addB kl1
    have b4 := below_call b3 b3.size hb4
    clear K3 b3 hb4 p1 p2 p3 hgl1 kl1 C3
    obtain ⟨p1, p2, p3⟩ := (K4.b 4 rfl).cells3
    go_wp2_with fail
    refine (C4.out _).mono ?_
    rintro e v5 ⟨rfl, hb5⟩
    have K5 := K4.below hb5
    have b5 := below_call b4 b4.size hb5
    clear K4 b4 hb5 p1 p2 p3 C4
    obtain ⟨p1, p2, p3⟩ := (K5.b 4 rfl).cells3
    go_wp2_with fail
    refine (C5.out _ (K5.a 3 rfl)).mono ?_
    rintro e v6 ⟨_, rfl, ⟨gl2, rfl, hgl2, kl2⟩, hb6⟩
    have K6 := (K5.below hb6).addB kl2
    have b6 := below_call b5 b5.size hb6
    clear K5 b5 hb6 p1 p2 p3 hgl2 kl2 C5
    have e1 := (K6.b 1 rfl).arrI (K6.b 1 rfl).lt
    have e2 := (K6.b 0 rfl).arrI (K6.b 0 rfl).lt
    have EQ := Lib.hid (equalI_true (some ⟨gl1, 0, none⟩) (some ⟨gl2, 0, none⟩) 256 256 256 (cntS n p) _ e1 e2 (by unfold maxLen; omega))
    clear e1 e2
    go_wp2_with fail
    refine (EQ.out).mono ?_
    rintro e v7 ⟨rfl, hb7⟩
    have K7 := K6.below hb7
    have b7 := below_call b6 b6.size hb7
    clear K6 b6 hb7  EQ
    obtain ⟨p1, p2, p3⟩ := (K7.b 3 rfl).cells3
    obtain ⟨r1, r2, r3⟩ := (K7.b 2 rfl).cells3
    go_wp2_with fail
    refine (same_true Wx Hx Ex Ax Ay Nx cx cy qx qx _ (K7.a 1 rfl) (K7.a 0 rfl) (by unfold maxLen; omega) (fun _ _ _ => rfl)).mono ?_
    rintro e v8 ⟨rfl, hb8⟩
    have K8 := K7.below hb8
    have b8 := below_call b7 b7.size hb8
    clear K7 b7 hb8 p1 p2 p3 r1 r2 r3 
    obtain ⟨p1, p2, p3⟩ := (K8.b 4 rfl).cells3
    obtain ⟨r1, r2, r3⟩ := (K8.b 5 rfl).cells3
    go_wp2_with fail
    refine (sameGrey_true W H Aa A n ca c p p _ (K8.a 2 rfl) (K8.a 3 rfl) (by unfold maxLen; omega) (fun _ _ _ => rfl)).mono ?_
    rintro e v9 ⟨rfl, hb9⟩
    have K9 := K8.below hb9
    have b9 := below_call b8 b8.size hb9
    clear K8 b8 hb9 p1 p2 p3 r1 r2 r3 
    go_wp2_with fail
    refine (awake1_any _).mono ?_
    rintro e v10 ⟨rfl, hb10⟩
    have b10 := below_call b9 b9.size hb10
    go_wp2
    go_ret
    exact ⟨rfl, b10⟩
  | false =>
    rw [hsd] at C4
    have C3 := Lib.hid fun A' c' w' => levels_bad W H A' n c' w' hsd
    clear ms hn hc hB hA hsd hpos
    go_enter Tryd.func5, Tryd.ntmps5
    go_wp2_with fail
    generalize w.alloc (.cells #[.int .i64 W, .int .i64 H, .slice A n c] 55) = w1 at *
    refine (CG.out _ (K0.a 0 rfl)).mono ?_
    rintro e v1 ⟨_, rfl, ⟨_, rfl, Aa, ca, rfl, hca, hna, hga, aa⟩, hb1⟩
    have K1a := (K0.below hb1).addA aa
    have b1a := below_call b0 b0.size hb1
    have z1 := b1a.size
    have b1 : Below w.heap.size w (v1.alloc (.cells #[.int .i64 W, .int .i64 H, .slice Aa n ca] 55)) := by (repeat (first | exact Below.refl _ _ | assumption | refine Below.drew ?_ | refine below_drewN ?_ _ | refine Below.alloc ?_ (by first | omega | (simp; done) | (simp; omega)) _ | refine Below.setCell ?_ (by first | omega | (simp; done) | (simp; omega)) _ | refine below_setRow ?_ (by first | omega | (simp; done) | (simp; omega)) _ ))
    have K1 := K1a.new 55 #[.int .i64 W, .int .i64 H, .slice Aa n ca]
    clear K0 b0 K1a b1a hb1 aa hga  z1 CG hca hna
    obtain ⟨p1, p2, p3⟩ := (K1.b 0 rfl).cells3
    go_wp2_with fail
    generalize v1.alloc (.cells #[.int .i64 W, .int .i64 H, .slice Aa n ca] 55) = w1 at *
    refine (C1.out _ _ _ (K1.a 0 rfl)).mono ?_
    rintro e v2 ⟨_, rfl, ⟨Ax, cx, rfl, hgx, ax⟩, hb2⟩
    have K2a := (K1.below hb2).addA ax
    have b2a := below_call b1 b1.size hb2
    have z2 := b2a.size
    have b2 : Below w.heap.size w (v2.alloc (.cells #[.int .i64 Wx, .int .i64 Hx, .slice Ax Nx cx] 24)) := by (repeat (first | exact Below.refl _ _ | assumption | refine Below.drew ?_ | refine below_drewN ?_ _ | refine Below.alloc ?_ (by first | omega | (simp; done) | (simp; omega)) _ | refine Below.setCell ?_ (by first | omega | (simp; done) | (simp; omega)) _ | refine below_setRow ?_ (by first | omega | (simp; done) | (simp; omega)) _ ))
    have K2 := K2a.new 24 #[.int .i64 Wx, .int .i64 Hx, .slice Ax Nx cx]
    clear K1 b1 K2a b2a hb2 ax hgx p1 p2 p3 z2 C1
    obtain ⟨p1, p2, p3⟩ := (K2.b 2 rfl).cells3
    go_wp2_with fail
    generalize v2.alloc (.cells #[.int .i64 Wx, .int .i64 Hx, .slice Ax Nx cx] 24) = w2 at *
    refine (C2.out _ (K2.a 2 rfl)).mono ?_
    rintro e v3 ⟨_, rfl, ⟨Ay, cy, rfl, hgy, ay⟩, hb3⟩
    have K3a := (K2.below hb3).addA ay
    have b3a := below_call b2 b2.size hb3
    have z3 := b3a.size
    have b3 : Below w.heap.size w (v3.alloc (.cells #[.int .i64 Wx, .int .i64 Hx, .slice Ay Nx cy] 24)) := by (repeat (first | exact Below.refl _ _ | assumption | refine Below.drew ?_ | refine below_drewN ?_ _ | refine Below.alloc ?_ (by first | omega | (simp; done) | (simp; omega)) _ | refine Below.setCell ?_ (by first | omega | (simp; done) | (simp; omega)) _ | refine below_setRow ?_ (by first | omega | (simp; done) | (simp; omega)) _ ))
    have K3 := K3a.new 24 #[.int .i64 Wx, .int .i64 Hx, .slice Ay Nx cy]
    clear K2 b2 K3a b3a hb3 ay hgy p1 p2 p3 z3 C2
    obtain ⟨p1, p2, p3⟩ := (K3.b 2 rfl).cells3
    go_wp2_with fail
    generalize v3.alloc (.cells #[.int .i64 Wx, .int .i64 Hx, .slice Ay Nx cy] 24) = w3 at *
    refine (C3.out _ _ _).mono ?_
    rintro e v4 ⟨rfl, hb4⟩
    have K4 := K3.below hb4
    have b4 := below_call b3 b3.size hb4
    clear K3 b3 hb4 p1 p2 p3 C3
    obtain ⟨p1, p2, p3⟩ := (K4.b 3 rfl).cells3
    go_wp2_with fail
    refine (C4.out _).mono ?_
    rintro e v5 ⟨rfl, hb5⟩
    have K5 := K4.below hb5
    have b5 := below_call b4 b4.size hb5
    clear K4 b4 hb5 p1 p2 p3 C4
    obtain ⟨p1, p2, p3⟩ := (K5.b 1 rfl).cells3
    obtain ⟨r1, r2, r3⟩ := (K5.b 0 rfl).cells3
    go_wp2_with fail
    refine (same_true Wx Hx Ex Ax Ay Nx cx cy qx qx _ (K5.a 1 rfl) (K5.a 0 rfl) (by unfold maxLen; omega) (fun _ _ _ => rfl)).mono ?_
    rintro e v6 ⟨rfl, hb6⟩
    have K6 := K5.below hb6
    have b6 := below_call b5 b5.size hb6
    clear K5 b5 hb6 p1 p2 p3 r1 r2 r3 
    obtain ⟨p1, p2, p3⟩ := (K6.b 2 rfl).cells3
    obtain ⟨r1, r2, r3⟩ := (K6.b 3 rfl).cells3
    go_wp2_with fail
    refine (sameGrey_true W H Aa A n ca c p p _ (K6.a 2 rfl) (K6.a 3 rfl) (by unfold maxLen; omega) (fun _ _ _ => rfl)).mono ?_
    rintro e v7 ⟨rfl, hb7⟩
    have K7 := K6.below hb7
    have b7 := below_call b6 b6.size hb7
    clear K6 b6 hb7 p1 p2 p3 r1 r2 r3 
    go_wp2_with fail
    refine (awake1_any _).mono ?_
    rintro e v8 ⟨rfl, hb8⟩
    have b8 := below_call b7 b7.size hb8
    go_wp2
    go_ret
    exact ⟨rfl, b8⟩
end Go.Proofs.YtoonkpjddfiopaaDoor

/- How an argument of a statement is opened: slices of integers and images, as functions of the index. -/
namespace Go.Proofs.YtoonkpjddfiopaaDoor
open Go.ChangeShapes Go.WideShapes Go.ChangeAt Go.RowKit Go.Deep
set_option linter.unusedVariables false

theorem Tryd.own : ownKnob Tryd.prog.godebug = none := by kernel_rfl
theorem Tryd.laidOut : laidOutB Tryd.prog = true := by kernel_rfl

theorem addr_plain {w : World} {a : Addr} {v : Value} (h : w.cell? a = some v) : ∃ b off, a = ⟨b, off, none⟩ := by
  obtain ⟨b, off, spot⟩ := a
  have hs : spot = none := by simpa using World.cell?_spot h
  subst hs
  exact ⟨b, off, rfl⟩

section
variable {H : Type} {enc : TypeId × Value → H} {P : Program} {w : World}
theorem ints_of {t e : TypeId} {k : IntKind} {fuel : Nat} {v : Value} {x : DataW H × List MemPlace} (ht : P.underlying t = some (.slice e)) (he : P.underlying e = some (.int k)) (hc : P.cellsOf e = 1) (h0 : (Lit.int k 0).wf = true)
    (h : DataW.trod enc P w 0 (fun _ => true) true fuel t [v] = some x) :
    ∃ A n c zs, v = .slice A n c ∧ (A = none → c = 0) ∧ n ≤ c ∧ c ≤ maxLen ∧ Arr w w.heap.size A n (fun i => .int k (lit zs i)) ∧ ∀ i, (Lit.int k (lit zs i)).wf = true := by
  rcases open_ints ht he hc h with ⟨hcs, _⟩ | ⟨a, l, c, zs, hcs, _, hl, hm, hz, _, hcell, hwz⟩
  · simp at hcs
    exact ⟨none, 0, 0, [], hcs, fun _ => rfl, Nat.le_refl _, Nat.zero_le _, Arr.nil, fun i => by simpa [lit] using h0⟩
  · simp at hcs
    refine ⟨some a, l, c, zs, hcs, (fun e => by cases e), hl, hm, fun hn => ?_, fun i => ?_⟩
    · have hz' : zs.length = c := by simpa using hz
      have c0 := hcell 0 (by omega)
      obtain ⟨b, off, e⟩ := addr_plain c0
      have ha : a = ⟨b, off, none⟩ := by simpa [Addr.add] using e
      subst ha
      refine ⟨b, off, rfl, block_lt_of_cell c0, fun i h0 hi => ?_⟩
      have := hcell i.toNat (by omega)
      have hadd : (⟨b, off, none⟩ : Addr).add i.toNat = ⟨b, off + i.toNat, none⟩ := by
        unfold Addr.add; split
        · rename_i e; rw [e]; rfl
        · rfl
      rw [hadd] at this
      exact this
    · unfold lit
      rw [List.getD_eq_getElem?_getD]
      by_cases hi : i.toNat < zs.length
      · rw [List.getElem?_eq_getElem hi]; exact hwz _ (List.getElem_mem hi)
      · rw [List.getElem?_eq_none (by omega)]; exact h0
theorem open_sl {t e : TypeId} {k : IntKind} {v : Value} {d : DataW H} {p : List MemPlace} {base : Nat} (ht : P.underlying t = some (.slice e)) (he : P.underlying e = some (.int k)) (hc : P.cellsOf e = 1) (h0 : (Lit.int k 0).wf = true)
    (hv : Value.okWide P w .any base t v) (h : DataW.Trod enc P w 0 (fun _ => true) true t v d p) :
    ∃ A n c zs, v = .slice A n c ∧ (A = none → c = 0) ∧ n ≤ c ∧ c ≤ maxLen ∧ Arr w w.heap.size A n (fun i => .int k (lit zs i)) ∧ ∀ i, (Lit.int k (lit zs i)).wf = true := by
  obtain ⟨a0, l0, c0, rfl⟩ := okWide_slice ht hv
  obtain ⟨fuel, hf⟩ := h
  exact ints_of ht he hc h0 (by simpa [Value.cells] using hf)
/-- a struct of two ints and a slice of bytes: Ink, Grey -/
theorem open_img {t tI tB eB : TypeId} {f0 f1 f2 : Field} {v : Value} {d : DataW H} {p : List MemPlace} {base : Nat} (hs : P.underlying t = some (.struct #[f0, f1, f2])) (e0 : f0.type = tI) (e1 : f1.type = tI) (e2 : f2.type = tB)
    (hone : oneCellFields P #[f0, f1, f2] = true) (hC : P.cellsOf t = 3) (hI : P.underlying tI = some (.int .i64)) (hB : P.underlying tB = some (.slice eB)) (hE : P.underlying eB = some (.int .u8)) (hcE : P.cellsOf eB = 1)
    (hv : Value.okWide P w .any base t v) (h : DataW.Trod enc P w 0 (fun _ => true) true t v d p) :
    ∃ W Hh A n c zs, v = .agg #[.int .i64 W, .int .i64 Hh, .slice A n c] ∧ (Lit.int .i64 W).wf = true ∧ (Lit.int .i64 Hh).wf = true ∧ (A = none → c = 0) ∧ n ≤ c ∧ c ≤ maxLen ∧ ArrB w w.heap.size A n (lit zs) ∧ IsB (lit zs) := by
  obtain ⟨v0, v1, v2, y0, y1, y2, n, rfl, -, -, h0, h1, h2⟩ := Go.Joins.open_agg3 hs hone hC hv h
  rw [e0] at h0; rw [e1] at h1; rw [e2] at h2
  obtain ⟨W, hw, -, wW⟩ := DataW.trod_int hI h0
  obtain ⟨Hh, hh, -, wH⟩ := DataW.trod_int hI h1
  simp at hw hh
  subst hw; subst hh
  obtain ⟨A, m, c, zs, rfl, z, a, b, d, e⟩ := ints_of hB hE hcE (by decide) h2
  exact ⟨W, Hh, A, m, c, zs, rfl, wW, wH, z, a, b, d, fun i => bounds_u8 (e i)⟩
end
end Go.Proofs.YtoonkpjddfiopaaDoor
