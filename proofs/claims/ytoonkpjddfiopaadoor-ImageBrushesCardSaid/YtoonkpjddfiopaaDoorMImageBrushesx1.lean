/- Texts of mine in build order: G4, C12, G5, J24, J25, B4, J26, Q3, W19. Conditions: each theorem's own. -/
import Derived.Test.YtoonkpjddfiopaaDoorMImageSetsx8
import Derived.Test.YtoonkpjddfiopaaDoorMImageSpecksx1
import Derived.Test.YtoonkpjddfiopaaDoorMImageThinsx1
import Derived.Test.YtoonkpjddfiopaaDoorMImageTurnsx1
import Derived.Test.YtoonkpjddfiopaaDoorMImageGrowsx1
import Derived.BigQuiet
import Derived.Deep.QuietTactic
import Derived.Deep.DeepCutAuto
import Derived.Deep.Cut
import Derived.Deep.CutBlock
import Derived.Deep.RegionHeld3
/- Walk: image.Threshold. -/
namespace Go.Proofs.YtoonkpjddfiopaaDoor
open Go.RowKit
set_option linter.unusedVariables false
attribute [local go_sem] Oper.semAt_some
/-- the error of a threshold -/
def thrE (W H : Int) (n : Nat) (lv : Int) : Int := if sidesB W H n then (if lv < 0 ∨ 256 < lv then 1 else 0) else 2
def thrQ (p : Int → Int) (lv : Int) : Int → Int := fun i => if p i < lv then 1 else 0
theorem enterThr1 (args : Array Value) (w : World) : (callFunc 99 args).run Tryd.prog w = .ok (.enter 99 args) w := by kernel_rfl
set_option maxHeartbeats 1000000 in
theorem thr1_any (W H lv x y : Int) (A : Option Addr) (n c bx bl : Nat) (p : Int → Int) (w : World) (hk : Blk w bx 55 #[.int .i64 W, .int .i64 H, .slice A n c]) (hl : Blk w bl 3 #[.int .i64 lv]) (hA : ArrB w w.heap.size A n p) (hB : IsB p) (h1 : 0 ≤ W) (h2 : W ≤ 640) (h3 : 0 ≤ H) (h4 : H ≤ 640) (hnn : (n : Int) = W * H) (x0 : 0 ≤ x) (x1 : x < W) (y0 : 0 ≤ y) (y1 : y < H) :
    Calls Tryd.prog 99 #[.int .i64 x, .int .i64 y, .pointer (some ⟨bx, 0, none⟩), .pointer (some ⟨bl, 0, none⟩)] w fun e w' => e = .returned (.int .u8 (if p (y * W + x) < lv then 1 else 0)) ∧ Below w.heap.size w w' := by
  obtain ⟨p1, p2, p3⟩ := hk.cells3
  have p4 := hl.cells1
  obtain ⟨j1, j2, j3⟩ := idx_lt x0 x1 y0 y1
  rw [Int.mul_comm H W] at j2
  have j4 : y * W + x < (n : Int) := by omega
  have nb := (area_bd h1 h2 h3 h4).2
  obtain ⟨b, off, rfl, hb, hc⟩ := ArrB.at_ hA j1 j4
  have q1 := hB (y * W + x)
  generalize p (y * W + x) = v at *
  obtain ⟨q2, q3⟩ := q1
  have v1 : IntKind.i64.wrap (y * W) = y * W := IntWalk.i64_in _ (by omega)
  have v2 : IntKind.i64.wrap (y * W + x) = y * W + x := IntWalk.i64_in _ (by omega)
  have v3 : IntKind.i64.wrap v = v := IntWalk.i64_in _ (by omega)
  clear hnn hA
  by_cases hv : v < lv
  · have e1 : (if v < lv then (1 : Int) else 0) = 1 := if_pos hv
    rw [e1]
    go_enter Tryd.func99, Tryd.ntmps99
    go_wp2_with fail
    go_quiet (fail)
    go_wp2_with fail
    go_ret
    exact ⟨rfl, by (repeat (first | exact Below.refl _ _ | assumption | refine Below.drew ?_ | refine below_drewN ?_ _ | refine Below.alloc ?_ (by first | omega | (simp; done) | (simp; omega)) _ | refine Below.setCell ?_ (by first | omega | (simp; done) | (simp; omega)) _ | refine below_setRow ?_ (by first | omega | (simp; done) | (simp; omega)) _ ))⟩
  · have e1 : (if v < lv then (1 : Int) else 0) = 0 := if_neg hv
    rw [e1]
    go_enter Tryd.func99, Tryd.ntmps99
    go_wp2_with fail
    go_quiet (fail)
    go_wp2_with fail
    go_ret
    exact ⟨rfl, by (repeat (first | exact Below.refl _ _ | assumption | refine Below.drew ?_ | refine below_drewN ?_ _ | refine Below.alloc ?_ (by first | omega | (simp; done) | (simp; omega)) _ | refine Below.setCell ?_ (by first | omega | (simp; done) | (simp; omega)) _ | refine below_setRow ?_ (by first | omega | (simp; done) | (simp; omega)) _ ))⟩
set_option maxRecDepth 100000 in
set_option maxHeartbeats 2000000 in
theorem thr_all (W H lv : Int) (A : Option Addr) (n c : Nat) (p : Int → Int) (E W2 H2 : Int) (N : Nat) (w : World) (hA : ArrB w w.heap.size A n p) (hB : IsB p) (hE : thrE W H n lv = E) (hs : RSize E W H W2 H2 N) :
    Calls Tryd.prog 33 #[.agg #[.int .i64 W, .int .i64 H, .slice A n c], .int .i64 lv] w (New w fun v w' => OutT w w' E W2 H2 N (thrQ p lv) v) := by
  have CK := Lib.hid fun w' => checkGrey_any W H A n c w'
  have b1 : Below w.heap.size w (((w.alloc (.cells #[.int .i64 W, .int .i64 H, .slice A n c] 55)).alloc (.cells #[.int .i64 lv] 3)).alloc (.cells #[.int .i64 0, .int .i64 0, .slice none 0 0] 24)) := by (repeat (first | exact Below.refl _ _ | assumption | refine Below.drew ?_ | refine below_drewN ?_ _ | refine Below.alloc ?_ (by first | omega | (simp; done) | (simp; omega)) _ | refine Below.setCell ?_ (by first | omega | (simp; done) | (simp; omega)) _ | refine below_setRow ?_ (by first | omega | (simp; done) | (simp; omega)) _ ))
  have k1 : Blk (((w.alloc (.cells #[.int .i64 W, .int .i64 H, .slice A n c] 55)).alloc (.cells #[.int .i64 lv] 3)).alloc (.cells #[.int .i64 0, .int .i64 0, .slice none 0 0] 24)) w.heap.size 55 #[.int .i64 W, .int .i64 H, .slice A n c] := ((Blk.new _ _ _).alloc _).alloc _
  have k2 : Blk (((w.alloc (.cells #[.int .i64 W, .int .i64 H, .slice A n c] 55)).alloc (.cells #[.int .i64 lv] 3)).alloc (.cells #[.int .i64 0, .int .i64 0, .slice none 0 0] 24)) (w.heap.size + 1) 3 #[.int .i64 lv] := (Blk.new' (by simp) _ _).alloc _
  have k3 : Blk (((w.alloc (.cells #[.int .i64 W, .int .i64 H, .slice A n c] 55)).alloc (.cells #[.int .i64 lv] 3)).alloc (.cells #[.int .i64 0, .int .i64 0, .slice none 0 0] 24)) (w.heap.size + 1 + 1) 24 #[.int .i64 0, .int .i64 0, .slice none 0 0] := Blk.new' (by simp) _ _
  have HS := Lib.hid hs
  cases hsd : sidesB W H n with
  | false =>
    have hE2 : E = 2 := by rw [← hE]; unfold thrE; rw [hsd]; rfl
    subst hE2
    rw [hsd] at CK
    clear hs hE hsd
    go_enter Tryd.func33, Tryd.ntmps33
    go_wp2_with fail
    generalize ((w.alloc (.cells #[.int .i64 W, .int .i64 H, .slice A n c] 55)).alloc (.cells #[.int .i64 lv] 3)).alloc (.cells #[.int .i64 0, .int .i64 0, .slice none 0 0] 24) = w1 at *
    refine (CK.out _).mono ?_
    rintro e w2 ⟨rfl, hb2⟩
    have b2 := below_call b1 b1.size hb2
    have k4 := k3.below' hb2
    obtain ⟨r1, r2, r3⟩ := k4.cells3
    obtain ⟨f1, f2, f3⟩ := k4.frozen3
    have k9 := ((k4.set_ 0 (.int .i64 0)).set_ 1 (.int .i64 0)).set_ 2 (.slice none 0 0)
    obtain ⟨s1, s2, s3⟩ := Blk.cells3 (a := .int .i64 0) (b := .int .i64 0) (c := .slice none 0 0) k9
    go_wp2_with fail
    refine bodyPost_ret (v := .tuple #[noImg, .int .i64 2]) (by simp [results, Tryd.results33, go_sem, noImg, s1, s2, s3]) rfl ?_
    exact ⟨_, rfl, outT_bad HS.out (by decide), by (repeat (first | with_reducible exact Below.refl _ _ | with_reducible assumption | with_reducible refine Below.drew ?_ | (with_reducible refine below_alloc' ?_ ?_; focus (first | omega | (simp; done) | (simp; omega))) | (with_reducible refine below_fill3' ?_ ?_; focus omega) | (with_reducible refine below_setCell' ?_ ?_; focus (first | omega | (simp; done) | (simp; omega))) | (with_reducible apply below_call'; (focus (with_reducible assumption)); (focus (first | omega | (simp; done) | (simp; omega))))))⟩
  | true =>
    rw [hsd] at CK
    obtain ⟨hW1, hW2, hH1, hH2, hnn⟩ := sidesB_iff.1 hsd
    by_cases hl : lv < 0 ∨ 256 < lv
    · have hE2 : E = 1 := by rw [← hE]; unfold thrE; rw [hsd, if_pos rfl, if_pos hl]
      subst hE2
      clear hs hE hsd hnn
      rcases (show lv < 0 ∨ (0 ≤ lv ∧ 256 < lv) by omega) with hl | ⟨hl0, hl⟩
      all_goals
        go_enter Tryd.func33, Tryd.ntmps33
        go_wp2_with fail
        generalize ((w.alloc (.cells #[.int .i64 W, .int .i64 H, .slice A n c] 55)).alloc (.cells #[.int .i64 lv] 3)).alloc (.cells #[.int .i64 0, .int .i64 0, .slice none 0 0] 24) = w1 at *
        refine (CK.out _).mono ?_
        rintro e w2 ⟨rfl, hb2⟩
        have b2 := below_call b1 b1.size hb2
        have k4 := k3.below' hb2
        have k5 := (k2.below' hb2).cells1
        obtain ⟨r1, r2, r3⟩ := k4.cells3
        obtain ⟨f1, f2, f3⟩ := k4.frozen3
        have k9 := ((k4.set_ 0 (.int .i64 0)).set_ 1 (.int .i64 0)).set_ 2 (.slice none 0 0)
        obtain ⟨s1, s2, s3⟩ := Blk.cells3 (a := .int .i64 0) (b := .int .i64 0) (c := .slice none 0 0) k9
        go_wp2_with fail
        refine bodyPost_ret (v := .tuple #[noImg, .int .i64 1]) (by simp [results, Tryd.results33, go_sem, noImg, s1, s2, s3]) rfl ?_
        exact ⟨_, rfl, outT_bad HS.out (by decide), by (repeat (first | with_reducible exact Below.refl _ _ | with_reducible assumption | with_reducible refine Below.drew ?_ | (with_reducible refine below_alloc' ?_ ?_; focus (first | omega | (simp; done) | (simp; omega))) | (with_reducible refine below_fill3' ?_ ?_; focus omega) | (with_reducible refine below_setCell' ?_ ?_; focus (first | omega | (simp; done) | (simp; omega))) | (with_reducible apply below_call'; (focus (with_reducible assumption)); (focus (first | omega | (simp; done) | (simp; omega))))))⟩
    · have hE2 : E = 0 := by rw [← hE]; unfold thrE; rw [hsd, if_pos rfl, if_neg hl]
      subst hE2
      obtain ⟨rfl, rfl, hN⟩ := hs.1 rfl
      obtain rfl : N = n := by omega
      have l0 : 0 ≤ lv := by omega
      have l1 : lv ≤ 256 := by omega
      have N1 := Lib.hid fun x y bx bl w' hk hl hA' => thr1_any W2 H2 lv x y A N c bx bl p w' hk hl hA' hB hW1 hW2 hH1 hH2 hnn
      have MD := Lib.hid fun (w' : World) (hk : Blk w' w.heap.size 55 #[.int .i64 W2, .int .i64 H2, .slice A N c]) (hl : Blk w' (w.heap.size + 1) 3 #[.int .i64 lv]) (hA' : ArrB w' w'.heap.size A N p) => pixmade_any W2 H2 N 99 #[.pointer (some ⟨w.heap.size, 0, none⟩), .pointer (some ⟨w.heap.size + 1, 0, none⟩)] (fun x y => if p (y * W2 + x) < lv then 1 else 0) w' enterThr1 hW1 hW2 hH1 hH2 hN
        (fun x y v x0 x1 y0 y1 hb => by
          show Calls _ _ #[_, _, _, _] _ _
          exact N1.out x y w.heap.size (w.heap.size + 1) v (hk.below' hb) (hl.below' hb) (hA'.to hb) x0 x1 y0 y1)
      clear hs hE hnn hB hN hsd hl
      go_enter Tryd.func33, Tryd.ntmps33
      go_wp2_with fail
      generalize ((w.alloc (.cells #[.int .i64 W2, .int .i64 H2, .slice A N c] 55)).alloc (.cells #[.int .i64 lv] 3)).alloc (.cells #[.int .i64 0, .int .i64 0, .slice none 0 0] 24) = w1 at *
      refine (CK.out _).mono ?_
      rintro e w2 ⟨rfl, hb2⟩
      have b2 := below_call b1 b1.size hb2
      have m1 := k1.below' hb2
      have m2 := k2.below' hb2
      have k4 := k3.below' hb2
      have hA2 := Lib.hid (hA.to b2)
      have M1 := Lib.hid m1
      have M2 := Lib.hid m2
      obtain ⟨p1, p2, p3⟩ := m1.cells3
      have p4 := m2.cells1
      have hmf : ∀ (fn : Fn) (first cap : Array Value) (w : World), (Instr.makeFunc fn first cap).run Tryd.prog w = .ok (.func fn first cap) w := fun _ _ _ _ => rfl
      clear b1 k1 k2 hb2 CK m1 m2
      go_wp2_with fail
      refine (MD.out _ M1.out M2.out hA2.out).mono ?_
      rintro e w3 ⟨_, rfl, ⟨gp, rfl, hgp, kp⟩, hb3⟩
      have b3 := below_call b2 b2.size hb3
      have k5 := k4.below' hb3
      have zz := k4.lt
      obtain ⟨r1, r2, r3⟩ := k5.cells3
      obtain ⟨f1, f2, f3⟩ := k5.frozen3
      have k6 := ((k5.set_ 0 (.int .i64 W2)).set_ 1 (.int .i64 H2)).set_ 2 (.slice (some ⟨gp, 0, none⟩) N N)
      obtain ⟨s1, s2, s3⟩ := Blk.cells3 (a := .int .i64 W2) (b := .int .i64 H2) (c := .slice (some ⟨gp, 0, none⟩) N N) k6
      have zb := b2.size
      clear p1 p2 p3 p4
      go_wp2_with fail
      refine bodyPost_ret (v := .tuple #[.agg #[.int .i64 W2, .int .i64 H2, .slice (some ⟨gp, 0, none⟩) N N], .int .i64 0]) (by simp [results, Tryd.results33, go_sem, s1, s2, s3]) rfl ?_
      have g1 : gp ≠ w.heap.size + 1 + 1 := by omega
      refine ⟨_, rfl, ⟨_, _, rfl, (fun a e => by cases e; show w.heap.size ≤ gp; omega), ?_⟩, by (repeat (first | exact Below.refl _ _ | assumption | refine Below.drew ?_ | refine below_drewN ?_ _ | refine Below.alloc ?_ (by first | omega | (simp; done) | (simp; omega)) _ | refine Below.setCell ?_ (by first | omega | (simp; done) | (simp; omega)) _ | refine below_setRow ?_ (by first | omega | (simp; done) | (simp; omega)) _ ))⟩
      have KE := Blk.far (Blk.far (Blk.far kp (p := ⟨w.heap.size + 1 + 1, 0, none⟩) g1 (.int .i64 W2)) (p := ⟨w.heap.size + 1 + 1, 1, none⟩) g1 (.int .i64 H2)) (p := ⟨w.heap.size + 1 + 1, 2, none⟩) g1 (.slice (some ⟨gp, 0, none⟩) N N)
      refine (KE.arrB KE.lt).congr fun i i0 i1 => ?_
      unfold byPix thrQ
      have := Int.emod_add_mul_ediv i W2
      rw [Int.mul_comm] at this
      show (if p (i / W2 * W2 + i % W2) < lv then (1 : Int) else 0) = _
      rw [show i / W2 * W2 + i % W2 = i by omega]
end Go.Proofs.YtoonkpjddfiopaaDoor

/- Plain: an image filled place by place, in any order of a grid. No program in sight. -/
namespace Go.Proofs.YtoonkpjddfiopaaDoor
set_option linter.unusedVariables false
/-- what is filled when the place (x, y) of the source comes up: sx, sy say where a place of the image comes from -/
def stQ (sx sy : Int → Int) (Q : Int → Int) (y x : Int) : Int → Int := fun i => if sy i < y ∨ (sy i = y ∧ sx i < x) then Q i else 0
section
variable {sx sy Q : Int → Int} {x y t v i : Int} {W H : Int}
theorem stQ_start (h1 : 0 ≤ sx i) (h2 : 0 ≤ sy i) : stQ sx sy Q 0 0 i = 0 := by
  unfold stQ; rw [if_neg (by omega)]
theorem stQ_set (hi : (sx i = x ∧ sy i = y) ↔ i = t) (hv : Q t = v) : upd (stQ sx sy Q y x) t v i = stQ sx sy Q y (x + 1) i := by
  unfold upd stQ
  by_cases e : i = t
  · have h := hi.2 e
    rw [if_pos e, if_pos (by omega), e, hv]
  · have h : ¬ (sx i = x ∧ sy i = y) := fun h => e (hi.1 h)
    rw [if_neg e]
    by_cases c : sy i < y ∨ (sy i = y ∧ sx i < x)
    · rw [if_pos c, if_pos (by omega)]
    · rw [if_neg c, if_neg (by omega)]
theorem stQ_skip (hi : (sx i = x ∧ sy i = y) ↔ i = t) (hv : Q t = 0) : stQ sx sy Q y x i = stQ sx sy Q y (x + 1) i := by
  unfold stQ
  by_cases e : i = t
  · have h := hi.2 e
    rw [if_neg (by omega), if_pos (by omega), e, hv]
  · have h : ¬ (sx i = x ∧ sy i = y) := fun h => e (hi.1 h)
    by_cases c : sy i < y ∨ (sy i = y ∧ sx i < x)
    · rw [if_pos c, if_pos (by omega)]
    · rw [if_neg c, if_neg (by omega)]
theorem stQ_line (h : 0 ≤ sx i) (hW : sx i < W) : stQ sx sy Q y W i = stQ sx sy Q (y + 1) 0 i := by
  unfold stQ
  by_cases c : sy i < y ∨ (sy i = y ∧ sx i < W)
  · rw [if_pos c, if_pos (by omega)]
  · rw [if_neg c, if_neg (by omega)]
theorem stQ_end (hH : sy i < H) : stQ sx sy Q H 0 i = Q i := by
  unfold stQ; rw [if_pos (.inl hH)]
/-- row by row -/
theorem row_at (h0 : 0 ≤ x) (h1 : x < W) : (i % W = x ∧ i / W = y) ↔ i = y * W + x := by
  have hd := Int.emod_add_mul_ediv i W
  constructor
  · rintro ⟨rfl, rfl⟩
    rw [Int.mul_comm]; omega
  · rintro rfl
    exact ⟨idx_mod h0 h1, idx_div h0 h1⟩
/-- clockwise turned: the source is W wide and H high, the image H wide -/
theorem rot_at (h0 : 0 ≤ y) (h1 : y < H) : (i / H = x ∧ H - 1 - i % H = y) ↔ i = x * H + (H - 1 - y) := by
  rw [← row_at (W := H) (x := H - 1 - y) (y := x) (i := i) (by omega) (by omega)]
  omega
end
end Go.Proofs.YtoonkpjddfiopaaDoor

/- Walk: the reference's Threshold. -/
namespace Go.Proofs.YtoonkpjddfiopaaDoor
open Go.RowKit
set_option linter.unusedVariables false
attribute [local go_sem] Oper.semAt_some

/-- row by row -/
abbrev rwQ (W : Int) (Q : Int → Int) (y x : Int) : Int → Int := stQ (fun i => i % W) (fun i => i / W) Q y x
section
variable {W H x y v i : Int} {Q : Int → Int}
theorem rwQ_zero (hW : 0 < W) (h0 : 0 ≤ i) : rwQ W Q 0 0 i = 0 := stQ_start (Int.emod_nonneg _ (by omega)) (Int.ediv_nonneg h0 (by omega))
theorem rwQ_set (h0 : 0 ≤ x) (h1 : x < W) (hv : Q (y * W + x) = v) : upd (rwQ W Q y x) (y * W + x) v i = rwQ W Q y (x + 1) i := stQ_set (row_at h0 h1) hv
theorem rwQ_skip (h0 : 0 ≤ x) (h1 : x < W) (hv : Q (y * W + x) = 0) : rwQ W Q y x i = rwQ W Q y (x + 1) i := stQ_skip (row_at h0 h1) hv
theorem rwQ_line (hW : 0 < W) : rwQ W Q y W i = rwQ W Q (y + 1) 0 i := stQ_line (Int.emod_nonneg _ (by omega)) (Int.emod_lt_of_pos _ hW)
theorem rwQ_end (hW : 0 < W) (hi : i < H * W) : rwQ W Q H 0 i = Q i := stQ_end (Int.ediv_lt_of_lt_mul hW hi)
end
set_option maxRecDepth 100000 in
set_option maxHeartbeats 4000000 in
theorem rthr_all (W H lv : Int) (A : Option Addr) (n c : Nat) (p : Int → Int) (E W2 H2 : Int) (N : Nat) (w : World) (hA : ArrB w w.heap.size A n p) (hn : n ≤ maxLen) (hB : IsB p) (hE : thrE W H n lv = E) (hs : RSize E W H W2 H2 N) :
    Calls Tryd.prog 34 #[.agg #[.int .i64 W, .int .i64 H, .slice A n c], .int .i64 lv] w (New w fun v w' => OutT w w' E W2 H2 N (thrQ p lv) v) := by
  have CK := Lib.hid fun w' => rcheckGrey_any W H A n c w' hn
  have b1 : Below w.heap.size w ((w.alloc (.cells #[.int .i64 W, .int .i64 H, .slice A n c] 55)).alloc (.cells #[.int .i64 0, .int .i64 0, .slice none 0 0] 24)) := by (repeat (first | exact Below.refl _ _ | assumption | refine Below.drew ?_ | refine below_drewN ?_ _ | refine Below.alloc ?_ (by first | omega | (simp; done) | (simp; omega)) _ | refine Below.setCell ?_ (by first | omega | (simp; done) | (simp; omega)) _ | refine below_setRow ?_ (by first | omega | (simp; done) | (simp; omega)) _ ))
  have k1 : Blk ((w.alloc (.cells #[.int .i64 W, .int .i64 H, .slice A n c] 55)).alloc (.cells #[.int .i64 0, .int .i64 0, .slice none 0 0] 24)) w.heap.size 55 #[.int .i64 W, .int .i64 H, .slice A n c] := (Blk.new _ _ _).alloc _
  have k3 : Blk ((w.alloc (.cells #[.int .i64 W, .int .i64 H, .slice A n c] 55)).alloc (.cells #[.int .i64 0, .int .i64 0, .slice none 0 0] 24)) (w.heap.size + 1) 24 #[.int .i64 0, .int .i64 0, .slice none 0 0] := Blk.new' (by simp) _ _
  have HS := Lib.hid hs
  cases hsd : sidesB W H n with
  | false =>
    have hE2 : E = 2 := by rw [← hE]; unfold thrE; rw [hsd]; rfl
    subst hE2
    rw [hsd] at CK
    clear hs hE hsd
    go_enter Tryd.func34, Tryd.ntmps34
    go_wp2_with fail
    generalize (w.alloc (.cells #[.int .i64 W, .int .i64 H, .slice A n c] 55)).alloc (.cells #[.int .i64 0, .int .i64 0, .slice none 0 0] 24) = w1 at *
    refine (CK.out _).mono ?_
    rintro e w2 ⟨rfl, hb2⟩
    have b2 := below_call b1 b1.size hb2
    have k4 := k3.below' hb2
    obtain ⟨r1, r2, r3⟩ := k4.cells3
    obtain ⟨f1, f2, f3⟩ := k4.frozen3
    have k9 := ((k4.set_ 0 (.int .i64 0)).set_ 1 (.int .i64 0)).set_ 2 (.slice none 0 0)
    obtain ⟨s1, s2, s3⟩ := Blk.cells3 (a := .int .i64 0) (b := .int .i64 0) (c := .slice none 0 0) k9
    go_wp2_with fail
    refine bodyPost_ret (v := .tuple #[noImg, .int .i64 2]) (by simp [results, Tryd.results34, go_sem, noImg, s1, s2, s3]) rfl ?_
    exact ⟨_, rfl, outT_bad HS.out (by decide), by (repeat (first | with_reducible exact Below.refl _ _ | with_reducible assumption | with_reducible refine Below.drew ?_ | (with_reducible refine below_alloc' ?_ ?_; focus (first | omega | (simp; done) | (simp; omega))) | (with_reducible refine below_fill3' ?_ ?_; focus omega) | (with_reducible refine below_setCell' ?_ ?_; focus (first | omega | (simp; done) | (simp; omega))) | (with_reducible apply below_call'; (focus (with_reducible assumption)); (focus (first | omega | (simp; done) | (simp; omega))))))⟩
  | true =>
    rw [hsd] at CK
    obtain ⟨hW1, hW2, hH1, hH2, hnn⟩ := sidesB_iff.1 hsd
    by_cases hl : lv < 0 ∨ 256 < lv
    · have hE2 : E = 1 := by rw [← hE]; unfold thrE; rw [hsd, if_pos rfl, if_pos hl]
      subst hE2
      clear hs hE hsd hnn
      rcases (show lv < 0 ∨ (0 ≤ lv ∧ 256 < lv) by omega) with hl | ⟨hl0, hl⟩
      all_goals
        go_enter Tryd.func34, Tryd.ntmps34
        go_wp2_with fail
        generalize (w.alloc (.cells #[.int .i64 W, .int .i64 H, .slice A n c] 55)).alloc (.cells #[.int .i64 0, .int .i64 0, .slice none 0 0] 24) = w1 at *
        refine (CK.out _).mono ?_
        rintro e w2 ⟨rfl, hb2⟩
        have b2 := below_call b1 b1.size hb2
        have k4 := k3.below' hb2
        obtain ⟨r1, r2, r3⟩ := k4.cells3
        obtain ⟨f1, f2, f3⟩ := k4.frozen3
        have k9 := ((k4.set_ 0 (.int .i64 0)).set_ 1 (.int .i64 0)).set_ 2 (.slice none 0 0)
        obtain ⟨s1, s2, s3⟩ := Blk.cells3 (a := .int .i64 0) (b := .int .i64 0) (c := .slice none 0 0) k9
        go_wp2_with fail
        refine bodyPost_ret (v := .tuple #[noImg, .int .i64 1]) (by simp [results, Tryd.results34, go_sem, noImg, s1, s2, s3]) rfl ?_
        exact ⟨_, rfl, outT_bad HS.out (by decide), by (repeat (first | with_reducible exact Below.refl _ _ | with_reducible assumption | with_reducible refine Below.drew ?_ | (with_reducible refine below_alloc' ?_ ?_; focus (first | omega | (simp; done) | (simp; omega))) | (with_reducible refine below_fill3' ?_ ?_; focus omega) | (with_reducible refine below_setCell' ?_ ?_; focus (first | omega | (simp; done) | (simp; omega))) | (with_reducible apply below_call'; (focus (with_reducible assumption)); (focus (first | omega | (simp; done) | (simp; omega))))))⟩
    · have hE2 : E = 0 := by rw [← hE]; unfold thrE; rw [hsd, if_pos rfl, if_neg hl]
      subst hE2
      obtain ⟨rfl, rfl, hN⟩ := hs.1 rfl
      obtain rfl : N = n := by omega
      have l0 : 0 ≤ lv := by omega
      have l1 : lv ≤ 256 := by omega
      obtain ⟨W, rfl⟩ : ∃ Wn : Nat, W2 = Wn := ⟨W2.toNat, by omega⟩
      obtain ⟨H, rfl⟩ : ∃ Hn : Nat, H2 = Hn := ⟨H2.toNat, by omega⟩
      have NW := Lib.hid fun w' => rnew_any W H N w' hW1 hW2 hH1 hH2 hN
      have HNN := Lib.hid hN
      have HA := Lib.hid hA
      have HBB := Lib.hid hB
      have hW640 : W ≤ 640 := by omega
      have hH640 : H ≤ 640 := by omega
      clear hs hE hnn hB hN hsd hl hA
      go_enter Tryd.func34, Tryd.ntmps34
      go_wp2_with fail
      generalize (w.alloc (.cells #[.int .i64 W, .int .i64 H, .slice A N c] 55)).alloc (.cells #[.int .i64 0, .int .i64 0, .slice none 0 0] 24) = w1 at *
      refine (CK.out _).mono ?_
      rintro e w1' ⟨rfl, hb1⟩
      have c1 := below_call b1 b1.size hb1
      replace k1 := k1.below' hb1
      replace k2 := k3.below' hb1
      clear b1 k3 hb1 CK
      obtain ⟨p1, p2, p3⟩ := k1.cells3
      go_wp2_with fail
      refine (NW.out _).mono ?_
      rintro e w2 ⟨_, rfl, ⟨g, rfl, hg, kg⟩, hb2⟩
      have b2 := below_call c1 c1.size hb2
      have zk2 := k2.lt
      have zc1 := c1.size
      replace k1 := (k1.below' hb2).alloc (.cells #[.int .i64 W, .int .i64 H, .slice (some ⟨g, 0, none⟩) N N] 24)
      replace k2 := (k2.below' hb2).alloc (.cells #[.int .i64 W, .int .i64 H, .slice (some ⟨g, 0, none⟩) N N] 24)
      have zg := kg.lt
      have kx := Blk.new w2 24 #[.int .i64 W, .int .i64 H, .slice (some ⟨g, 0, none⟩) N N]
      have zs := hb2.size
      obtain ⟨Q, hQ⟩ : ∃ Q, Q = thrQ p lv := ⟨_, rfl⟩
      have b3 := b2.alloc b2.size (.cells #[.int .i64 W, .int .i64 H, .slice (some ⟨g, 0, none⟩) N N] 24)
      obtain ⟨gx, hgx⟩ : ∃ gx, w2.heap.size = gx := ⟨_, rfl⟩
      have zz : (w2.alloc (.cells #[.int .i64 W, .int .i64 H, .slice (some ⟨g, 0, none⟩) N N] 24)).heap.size = gx + 1 := by simp [hgx]
      have kp : Blk (w2.alloc (.cells #[.int .i64 W, .int .i64 H, .slice (some ⟨g, 0, none⟩) N N] 24)) g 5 (u8s N (rwQ W Q (0 : Nat) (0 : Nat))) := (kg.alloc _).u8conv fun i i0 i1 => by
        by_cases hW0 : W = 0
        · have := HNN.out; rw [hW0] at this; simp at this; omega
        · exact (rwQ_zero (by omega) i0).symm
      rw [hgx] at kx zg zs
      have HQ := Lib.hid hQ
      clear kg hQ b2 c1 p1 p2 p3
      go_upto_region 7 with fail
      generalize w2.alloc (.cells #[.int .i64 W, .int .i64 H, .slice (some ⟨g, 0, none⟩) N N] 24) = w3 at *
      clear hgx hb2
      go_wp2_with fail
      go_loopw [8] (fun s wr => ∃ y : Nat, y ≤ H ∧ s = .int .i64 y ∧ But (gx + 1) g w3 wr ∧ Blk wr g 5 (u8s N (rwQ W Q y (0 : Nat)))) (fun s _ => H - (intOf s).toNat)
      case atStart => exact ⟨0, by omega, rfl, But.refl _ (by omega), kp⟩
      case round =>
        obtain ⟨y, hy, rfl, bu, ap⟩ := hrel
        clear kp
        have m1 := k1.but bu (by omega) (by omega)
        obtain ⟨p1, p2, p3⟩ := m1.cells3
        by_cases yl : (y : Int) < H
        · go_wp2_with fail
          go_loopw [9] (fun s wr => ∃ x : Nat, x ≤ W ∧ s = .int .i64 x ∧ But (gx + 1) g w3 wr ∧ Blk wr g 5 (u8s N (rwQ W Q y x))) (fun s _ => W - (intOf s).toNat)
          case atStart => exact ⟨0, by omega, rfl, bu, ap⟩
          case round =>
            obtain ⟨x, hx, rfl, bv, aq⟩ := hrel
            clear ap bu m1 p1 p2 p3
            have m1 := k1.but bv (by omega) (by omega)
            have mx := kx.but bv (by omega) (by omega)
            obtain ⟨p1, p2, p3⟩ := m1.cells3
            obtain ⟨x1, x2, x3⟩ := mx.cells3
            by_cases xl : (x : Int) < W
            · have hb0 : Below w.heap.size w wr := b3.trans (bv.to zz (by omega) (by omega))
              have hA4 := HA.out.to hb0
              obtain ⟨j1, j2, j3⟩ := idx_lt (x := (x : Int)) (y := (y : Int)) (W := W) (H := H) (by omega) xl (by omega) yl
              rw [Int.mul_comm (H : Int) W, ← HNN.out] at j2
              have nb := (area_bd (W := W) (H := H) (by omega) (by omega) (by omega) (by omega)).2
              rw [← HNN.out] at nb
              obtain ⟨z, hz⟩ : ∃ z : Nat, (y : Int) * W + x = (z : Int) := ⟨((y : Int) * W + x).toNat, by omega⟩
              have v1 : IntKind.i64.wrap ((y : Int) * W) = (y : Int) * W := IntWalk.i64_in _ (by omega)
              have v2 : IntKind.i64.wrap ((y : Int) * W + x) = (z : Int) := (IntWalk.i64_in _ (by omega)).trans hz
              have zN : (z : Int) < (N : Int) := by omega
              obtain ⟨bA, off, rfl, hbA, hcell⟩ := ArrB.at_ hA4 (i := (z : Int)) (by omega) zN
              rw [Int.toNat_natCast] at hcell
              have QE : Hid (Q ((y : Int) * W + x) = if p z < lv then 1 else 0) := Lib.hid (by rw [HQ.out, hz]; rfl)
              obtain ⟨q2, q3⟩ := HBB.out (z : Int)
              generalize p z = v at *
              have v3 : IntKind.i64.wrap v = v := IntWalk.i64_in _ (by omega)
              have HZ := Lib.hid hz
              clear hA4 hb0 hz j1 j2 j3
              by_cases hv : v < lv
              · rw [if_pos hv] at QE
                go_wp2_with fail
                refine (rset_any W H g N N 5 _ x y _ aq (by omega) xl (by omega) yl (by omega) (by omega) HNN.out).mono ?_
                rintro e w6 ⟨rfl, hk6, hg6⟩
                have bz6 : But (gx + 1) g w3 w6 := ⟨hg6.os.trans bv.os, hg6.tape.trans bv.tape, hg6.output.trans bv.output, Nat.le_trans bv.size hg6.size, fun j hj hk => (hg6.block j (Nat.lt_of_lt_of_le hj bv.size) (fun e => hk (by cases e; rfl))).trans (bv.block j hj hk)⟩
                have aq6 : Blk w6 g 5 (u8s N (rwQ W Q y ((x + 1 : Nat) : Int))) := hk6.u8conv fun i _ _ => by
                  have h := rwQ_set (Q := Q) (y := (y : Int)) (i := i) (show (0 : Int) ≤ x by omega) xl QE.out
                  rw [h]; push_cast; rfl
                clear hk6 hg6 mx x1 x2 x3
                go_wp2_with fail
                go_round
                case rel => exact ⟨x + 1, by omega, by go_num, bz6, aq6⟩
                case measure => simp [intOf]; omega
              · rw [if_neg hv] at QE
                have aq6 : Blk wr g 5 (u8s N (rwQ W Q y ((x + 1 : Nat) : Int))) := aq.u8conv fun i _ _ => by
                  have h := rwQ_skip (Q := Q) (y := (y : Int)) (i := i) (show (0 : Int) ≤ x by omega) xl QE.out
                  rw [h]; push_cast; rfl
                clear aq
                go_wp2_with fail
                go_round
                case rel => exact ⟨x + 1, by omega, by go_num, bv, aq6⟩
                case measure => simp [intOf]; omega
            · have hxW : x = W := by omega
              have aq6 : Blk wr g 5 (u8s N (rwQ W Q ((y + 1 : Nat) : Int) (0 : Nat))) := aq.u8conv fun i i0 i1 => by
                by_cases hW0 : W = 0
                · have := HNN.out; rw [hW0] at this; simp at this; omega
                · have h := rwQ_line (Q := Q) (W := W) (y := (y : Int)) (i := i) (by omega)
                  rw [hxW, h]; push_cast; rfl
              clear aq hxW
              go_wp2_with fail
              go_round
              case rel => exact ⟨y + 1, by omega, by go_num, bv, aq6⟩
              case measure => simp [intOf]; omega
        · have hyH : y = H := by omega
          have m2 := k2.but bu (by omega) (by omega)
          have mx := kx.but bu (by omega) (by omega)
          obtain ⟨x1, x2, x3⟩ := mx.cells3
          obtain ⟨f1, f2, f3⟩ := m2.frozen3
          obtain ⟨y1, y2, y3⟩ := m2.cells3
          have k5 := ((m2.set_ 0 (.int .i64 W)).set_ 1 (.int .i64 H)).set_ 2 (.slice (some ⟨g, 0, none⟩) N N)
          obtain ⟨s1, s2, s3⟩ := Blk.cells3 (a := .int .i64 W) (b := .int .i64 H) (c := .slice (some ⟨g, 0, none⟩) N N) k5
          have bE : Below w.heap.size w wr := b3.trans (bu.to zz (by omega) (by omega))
          have aq : Blk wr g 5 (u8s N Q) := ap.u8conv fun i i0 i1 => by
            rw [hyH]
            by_cases hW0 : W = 0
            · have := HNN.out; rw [hW0] at this; simp at this; omega
            · exact rwQ_end (by omega) (by rw [Int.mul_comm, ← HNN.out]; exact i1)
          clear ap hyH
          go_wp2_with fail
          refine bodyPost_ret (v := .tuple #[.agg #[.int .i64 W, .int .i64 H, .slice (some ⟨g, 0, none⟩) N N], .int .i64 0]) (by simp [results, Tryd.results34, go_sem, s1, s2, s3]) rfl ?_
          have g1 : g ≠ w.heap.size + 1 := by omega
          refine ⟨_, rfl, ⟨_, _, rfl, (fun a e => by cases e; show w.heap.size ≤ g; omega), ?_⟩, by (repeat (first | exact Below.refl _ _ | assumption | refine Below.drew ?_ | refine below_drewN ?_ _ | refine Below.alloc ?_ (by first | omega | (simp; done) | (simp; omega)) _ | refine Below.setCell ?_ (by first | omega | (simp; done) | (simp; omega)) _ | refine below_setRow ?_ (by first | omega | (simp; done) | (simp; omega)) _ ))⟩
          have KE := Blk.far (Blk.far (Blk.far aq (p := ⟨w.heap.size + 1, 0, none⟩) g1 (.int .i64 W)) (p := ⟨w.heap.size + 1, 1, none⟩) g1 (.int .i64 H)) (p := ⟨w.heap.size + 1, 2, none⟩) g1 (.slice (some ⟨g, 0, none⟩) N N)
          rw [← HQ.out]
          exact KE.arrB KE.lt
end Go.Proofs.YtoonkpjddfiopaaDoor

/- Walk: the reference's Brush. Written by gen/j24.py. -/
namespace Go.Proofs.YtoonkpjddfiopaaDoor
open Go.RowKit
set_option linter.unusedVariables false
attribute [local go_sem] Oper.semAt_some

/-- some ink of the brush's rows ahead of j; and of its places ahead of i in the row j -/
def dF (W H : Int) (p : Int → Int) (w : Nat) (x y : Int) : Nat → Bool := fun j => exB (fun i => inkB W H p (x + i) (y + j)) w
def dG (W H : Int) (p : Int → Int) (x y : Int) (j : Nat) : Nat → Bool := fun i => inkB W H p (x + i) (y + j)
def eF (W H : Int) (p : Int → Int) (w : Nat) (x y : Int) : Nat → Bool := fun j => exB (fun i => !(decide (x - i < 0) || (decide (y - j < 0) || inkB W H p (x - i) (y - j)))) w
def eG (W H : Int) (p : Int → Int) (x y : Int) (j : Nat) : Nat → Bool := fun i => !(decide (x - i < 0) || (decide (y - j < 0) || inkB W H p (x - i) (y - j)))
def brQ (er : Bool) (W H : Int) (p : Int → Int) (w h : Nat) : Int → Int := if er then eroQ W H p w h else dilQ W H p w h
theorem brQ_at {W H x y : Int} {p : Int → Int} {w h : Nat} (er : Bool) (x0 : 0 ≤ x) (x1 : x < W) : brQ er W H p w h (y * W + x) = if (if er then !exB (eF W H p w x y) h else exB (dF W H p w x y) h) = true then 1 else 0 := by
  cases er
  · exact fillB_at x0 x1
  · exact fillB_at x0 x1

set_option maxRecDepth 100000 in
set_option maxHeartbeats 4000000 in
theorem rbrush_all (er : Bool) (W H bw bh : Int) (A : Option Addr) (n c : Nat) (p : Int → Int) (E W2 H2 : Int) (N : Nat) (w : World) (hA : ArrB w w.heap.size A n p) (hn : n ≤ maxLen) (hB : IsB p) (hE : brE W H n p bw bh = E) (hs : RSize E W H W2 H2 N) :
    Calls Tryd.prog 18 #[.agg #[.int .i64 W, .int .i64 H, .slice A n c], .int .i64 bw, .int .i64 bh, .bool er] w (New w fun v w' => OutT w w' E W2 H2 N (brQ er W H p bw.toNat bh.toNat) v) := by
  have CK := Lib.hid fun w' hA' => rcheck_any W H A n c p w' hA' hn hB
  have b1 : Below w.heap.size w ((w.alloc (.cells #[.int .i64 W, .int .i64 H, .slice A n c] 24)).alloc (.cells #[.int .i64 0, .int .i64 0, .slice none 0 0] 24)) := by (repeat (first | exact Below.refl _ _ | assumption | refine Below.drew ?_ | refine below_drewN ?_ _ | refine Below.alloc ?_ (by first | omega | (simp; done) | (simp; omega)) _ | refine Below.setCell ?_ (by first | omega | (simp; done) | (simp; omega)) _ | refine below_setRow ?_ (by first | omega | (simp; done) | (simp; omega)) _ ))
  have k1 : Blk ((w.alloc (.cells #[.int .i64 W, .int .i64 H, .slice A n c] 24)).alloc (.cells #[.int .i64 0, .int .i64 0, .slice none 0 0] 24)) w.heap.size 24 #[.int .i64 W, .int .i64 H, .slice A n c] := (Blk.new _ _ _).alloc _
  have k3 : Blk ((w.alloc (.cells #[.int .i64 W, .int .i64 H, .slice A n c] 24)).alloc (.cells #[.int .i64 0, .int .i64 0, .slice none 0 0] 24)) (w.heap.size + 1) 24 #[.int .i64 0, .int .i64 0, .slice none 0 0] := Blk.new' (by simp) _ _
  have HS := Lib.hid hs
  by_cases h0 : chk W H n p = 0
  · rw [h0] at CK
    by_cases hl : bw < 1 ∨ bh < 1 ∨ 64 < bw ∨ 64 < bh
    · have hE2 : E = 1 := by rw [← hE]; unfold brE; rw [if_pos h0, if_pos hl]
      subst hE2
      clear hs hE h0
      rcases (show bw < 1 ∨ (¬ bw < 1 ∧ 64 < bw) ∨ (¬ bw < 1 ∧ ¬ 64 < bw ∧ bh < 1) ∨ (¬ bw < 1 ∧ ¬ 64 < bw ∧ ¬ bh < 1 ∧ 64 < bh) by omega) with l1 | ⟨l1, l2⟩ | ⟨l1, l2, l3⟩ | ⟨l1, l2, l3, l4⟩
      all_goals
        clear hl
        go_enter Tryd.func18, Tryd.ntmps18
        go_wp2_with fail
        generalize (w.alloc (.cells #[.int .i64 W, .int .i64 H, .slice A n c] 24)).alloc (.cells #[.int .i64 0, .int .i64 0, .slice none 0 0] 24) = w1 at *
        refine (CK.out _ (hA.to b1)).mono ?_
        rintro e w2 ⟨rfl, hb2⟩
        have b2 := below_call b1 b1.size hb2
        have kr2 := k3.below' hb2
        obtain ⟨r1, r2, r3⟩ := kr2.cells3
        obtain ⟨f1, f2, f3⟩ := kr2.frozen3
        have k9 := ((kr2.set_ 0 (.int .i64 0)).set_ 1 (.int .i64 0)).set_ 2 (.slice none 0 0)
        obtain ⟨s1, s2, s3⟩ := Blk.cells3 (a := .int .i64 0) (b := .int .i64 0) (c := .slice none 0 0) k9
        go_wp2_with fail
        refine bodyPost_ret (v := .tuple #[noImg, .int .i64 1]) (by simp [results, Tryd.results18, go_sem, noImg, s1, s2, s3]) rfl ?_
        exact ⟨_, rfl, outT_bad HS.out (by decide), by (repeat (first | with_reducible exact Below.refl _ _ | with_reducible assumption | with_reducible refine Below.drew ?_ | (with_reducible refine below_alloc' ?_ ?_; focus (first | omega | (simp; done) | (simp; omega))) | (with_reducible refine below_fill3' ?_ ?_; focus omega) | (with_reducible refine below_setCell' ?_ ?_; focus (first | omega | (simp; done) | (simp; omega))) | (with_reducible apply below_call'; (focus (with_reducible assumption)); (focus (first | omega | (simp; done) | (simp; omega))))))⟩
    · have hE2 : E = 0 := by rw [← hE]; unfold brE; rw [if_pos h0, if_neg hl]
      subst hE2
      obtain ⟨hW1, hW2, hH1, hH2, hnn, hp⟩ := chk_ok h0
      obtain ⟨rfl, rfl, hN⟩ := hs.1 rfl
      obtain rfl : N = n := by omega
      obtain ⟨a, ea⟩ : ∃ a : Nat, a = bw.toNat := ⟨_, rfl⟩
      obtain ⟨b, eb⟩ : ∃ b : Nat, b = bh.toNat := ⟨_, rfl⟩
      have ha : (a : Int) = bw := by omega
      have hb : (b : Int) = bh := by omega
      rw [← ea, ← eb]
      obtain ⟨W, rfl⟩ : ∃ Wn : Nat, W2 = Wn := ⟨W2.toNat, by omega⟩
      obtain ⟨H, rfl⟩ : ∃ Hn : Nat, H2 = Hn := ⟨H2.toNat, by omega⟩
      have l1 : ¬ bw < 1 := by omega
      have l2 : ¬ 64 < bw := by omega
      have l3 : ¬ bh < 1 := by omega
      have l4 : ¬ 64 < bh := by omega
      have NW := Lib.hid fun w' => rnew_any W H N w' hW1 hW2 hH1 hH2 hN
      have IK := Lib.hid fun (x y : Int) w' hA' => rink_any W H A N c p x y w' hA' (by omega) (by omega) hN
      have HNN := Lib.hid hN
      have HA := Lib.hid hA
      have hW640 : W ≤ 640 := by omega
      have hH640 : H ≤ 640 := by omega
      have ha64 : a ≤ 64 := by omega
      have hb64 : b ≤ 64 := by omega
      obtain ⟨Q, hQ⟩ : ∃ Q, Q = brQ er W H p a b := ⟨_, rfl⟩
      have HQ := Lib.hid hQ
      have QA := Lib.hid fun (x y : Int) (x0 : 0 ≤ x) (x1 : x < W) => (by rw [hQ]; exact brQ_at er x0 x1 : Q (y * W + x) = if (if er then !exB (eF W H p a x y) b else exB (dF W H p a x y) b) = true then 1 else 0)
      clear hs hE hnn hB hN h0 hl hA hp hQ ea eb
      go_enter Tryd.func18, Tryd.ntmps18
      go_wp2_with fail
      generalize (w.alloc (.cells #[.int .i64 W, .int .i64 H, .slice A N c] 24)).alloc (.cells #[.int .i64 0, .int .i64 0, .slice none 0 0] 24) = w1 at *
      refine (CK.out _ (HA.out.to b1)).mono ?_
      rintro e w1' ⟨rfl, hb1⟩
      have c1 := below_call b1 b1.size hb1
      replace k1 := k1.below' hb1
      replace k3 := k3.below' hb1
      clear b1 hb1 CK
      obtain ⟨p1, p2, p3⟩ := k1.cells3
      go_wp2_with fail
      refine (NW.out _).mono ?_
      rintro e w2' ⟨_, rfl, ⟨g, rfl, hg, kg⟩, hb2'⟩
      have b2' := below_call c1 c1.size hb2'
      have zc1 := c1.size
      have zk1 := k1.lt
      replace k1 := (k1.below' hb2').alloc (.cells #[.int .i64 W, .int .i64 H, .slice (some ⟨g, 0, none⟩) N N] 24)
      have zk3 := k3.lt
      replace k3 := (k3.below' hb2').alloc (.cells #[.int .i64 W, .int .i64 H, .slice (some ⟨g, 0, none⟩) N N] 24)
      have zg := kg.lt
      have kx := Blk.new w2' 24 #[.int .i64 W, .int .i64 H, .slice (some ⟨g, 0, none⟩) N N]
      have zs := hb2'.size
      have b3 := b2'.alloc b2'.size (.cells #[.int .i64 W, .int .i64 H, .slice (some ⟨g, 0, none⟩) N N] 24)
      obtain ⟨gx, hgx⟩ : ∃ gx, w2'.heap.size = gx := ⟨_, rfl⟩
      have zz : (w2'.alloc (.cells #[.int .i64 W, .int .i64 H, .slice (some ⟨g, 0, none⟩) N N] 24)).heap.size = gx + 1 := by simp [hgx]
      have kp : Blk (w2'.alloc (.cells #[.int .i64 W, .int .i64 H, .slice (some ⟨g, 0, none⟩) N N] 24)) g 5 (u8s N (rwQ W Q (0 : Nat) (0 : Nat))) := (kg.alloc _).u8conv fun i i0 i1 => by
        by_cases hW0 : W = 0
        · have := HNN.out; rw [hW0] at this; simp at this; omega
        · exact (rwQ_zero (by omega) i0).symm
      rw [hgx] at kx zg zs
      clear kg b2' c1 p1 p2 p3
      go_upto_region 7 with fail
      generalize w2'.alloc (.cells #[.int .i64 W, .int .i64 H, .slice (some ⟨g, 0, none⟩) N N] 24) = w3 at *
      clear hgx hb2'
      go_wp2_with fail
      go_loopw [12] (fun s wr => ∃ y : Nat, y ≤ H ∧ s = .int .i64 y ∧ But (gx + 1) g w3 wr ∧ Blk wr g 5 (u8s N (rwQ W Q y (0 : Nat)))) (fun s _ => H - (intOf s).toNat)
      case atStart => exact ⟨0, by omega, rfl, But.refl _ (by omega), kp⟩
      case round =>
        obtain ⟨y, hy, rfl, bu, ap⟩ := hrel
        clear kp
        have mk1 := k1.but bu (by omega) (by omega)
        obtain ⟨p1, p2, p3⟩ := mk1.cells3
        by_cases yl : (y : Int) < H
        · go_wp2_with fail
          go_loopw [13] (fun s wr => ∃ x : Nat, x ≤ W ∧ s = .int .i64 x ∧ But (gx + 1) g w3 wr ∧ Blk wr g 5 (u8s N (rwQ W Q y x))) (fun s _ => W - (intOf s).toNat)
          case atStart => exact ⟨0, by omega, rfl, bu, ap⟩
          case round =>
            obtain ⟨x, hx, rfl, bv, aq⟩ := hrel
            clear ap bu mk1 p1 p2 p3
            have mk1 := k1.but bv (by omega) (by omega)
            obtain ⟨p1, p2, p3⟩ := mk1.cells3
            by_cases xl : (x : Int) < W
            · have hb0 : Below w.heap.size w wr := b3.trans (bv.to zz (by omega) (by omega))
              have mkx := kx.but bv (by omega) (by omega)
              have K1 := Lib.hid mk1
              have KXX := Lib.hid mkx
              have QE := Lib.hid (QA.out x y (by omega) xl)
              go_upto_region 14 with fail
              generalize wr = w5 at *
              go_wp2_with fail
              go_loopw [14, 15, 16] (fun t o s wx => ∃ (j : Nat) (bo bl : Bool), j ≤ b ∧ t = .bool bo ∧ o = .bool bl ∧ s = .int .i64 j ∧ Below w5.heap.size w5 wx ∧ Hid (bo = exB (dF W H p a x y) j) ∧ Hid (bl = !exB (eF W H p a x y) j)) (fun _ _ s _ => b - (intOf s).toNat)
              case atStart => exact ⟨0, false, true, by omega, rfl, rfl, rfl, Below.refl _ _, Lib.hid rfl, Lib.hid rfl⟩
              case round =>
                obtain ⟨j, bo, ba, hj, rfl, rfl, rfl, hb4, HOo, HAa⟩ := hrel
                by_cases jl : (j : Int) < bh
                · go_wp2_with fail
                  go_loopw [14, 15, 17] (fun t o s wx => ∃ (i : Nat) (bo bl : Bool), i ≤ a ∧ t = .bool bo ∧ o = .bool bl ∧ s = .int .i64 i ∧ Below w5.heap.size w5 wx ∧ Hid (bo = (exB (dF W H p a x y) j || exB (dG W H p x y j) i)) ∧ Hid (bl = !(exB (eF W H p a x y) j || exB (eG W H p x y j) i))) (fun _ _ s _ => a - (intOf s).toNat)
                  case atStart => exact ⟨0, bo, ba, by omega, rfl, rfl, rfl, hb4, Lib.hid (by rw [HOo.out]; simp [exB]), Lib.hid (by rw [HAa.out]; simp [exB])⟩
                  case round =>
                    obtain ⟨i, o, l, hi, rfl, rfl, rfl, hb5, HO2, HL2⟩ := hrel
                    have m1 := K1.out.below' hb5
                    obtain ⟨p1, p2, p3⟩ := m1.cells3
                    have hA5 := Lib.hid ((HA.out.to hb0).to hb5)
                    by_cases il : (i : Int) < bw
                    · obtain ⟨U, hU⟩ : ∃ U : Int, (x : Int) + i = U := ⟨_, rfl⟩
                      obtain ⟨V, hV⟩ : ∃ V : Int, (y : Int) + j = V := ⟨_, rfl⟩
                      obtain ⟨U2, hU2⟩ : ∃ U : Int, (x : Int) - i = U := ⟨_, rfl⟩
                      obtain ⟨V2, hV2⟩ : ∃ V : Int, (y : Int) - j = V := ⟨_, rfl⟩
                      have u1 : IntKind.i64.wrap ((x : Int) + i) = U := (IntWalk.i64_in _ (by omega)).trans hU
                      have u2 : IntKind.i64.wrap ((y : Int) + j) = V := (IntWalk.i64_in _ (by omega)).trans hV
                      have u3 : IntKind.i64.wrap ((x : Int) - i) = U2 := (IntWalk.i64_in _ (by omega)).trans hU2
                      have u4 : IntKind.i64.wrap ((y : Int) - j) = V2 := (IntWalk.i64_in _ (by omega)).trans hV2
                      have NO : Hid (∀ r, r = (o || inkB W H p U V) → r = (exB (dF W H p a x y) j || exB (dG W H p x y j) (i + 1))) := Lib.hid fun r hr => by
                        rw [hr, HO2.out, ← hU, ← hV, Bool.or_assoc]; rfl
                      have NL : Hid (∀ r, r = (l && (decide (U2 < 0) || (decide (V2 < 0) || inkB W H p U2 V2))) → r = !(exB (eF W H p a x y) j || exB (eG W H p x y j) (i + 1))) := Lib.hid fun r hr => by
                        rw [hr, HL2.out, ← hU2, ← hV2]
                        show _ = !(_ || (exB (eG W H p x y j) i || !(decide ((x : Int) - i < 0) || (decide ((y : Int) - j < 0) || inkB W H p (x - i) (y - j)))))
                        generalize exB (eF W H p a x y) j = e1
                        generalize exB (eG W H p x y j) i = e2
                        generalize decide ((x : Int) - i < 0) = d1
                        generalize decide ((y : Int) - j < 0) = d2
                        generalize inkB W H p ((x : Int) - i) (y - j) = k
                        cases e1 <;> cases e2 <;> cases d1 <;> cases d2 <;> cases k <;> rfl
                      clear HO2 HL2 hU hV hU2 hV2
                      go_upto_region 20 with fail
                      go_cut [14] (fun t wx => ∃ r, t = .bool r ∧ Below w5.heap.size w5 wx ∧ Hid (r = (o || inkB W H p U V)))
                      case first =>
                        cases o with
                        | true =>
                          go_wp2_with fail
                          go_meet
                          exact ⟨_, rfl, hb5, Lib.hid rfl⟩
                        | false =>
                          go_wp2_with fail
                          refine (IK.out U V _ hA5.out).mono ?_
                          rintro e w7 ⟨rfl, hb7⟩
                          have hb8 := below_call hb5 hb5.size hb7
                          generalize inkB W H p U V = z at *
                          go_wp2_with fail
                          go_meet
                          exact ⟨_, rfl, hb8, Lib.hid (by cases z <;> rfl)⟩
                      case rest =>
                      obtain ⟨o', rfl, hb6, HO3⟩ := hcut
                      have HO4 := Lib.hid (NO.out o' HO3.out)
                      clear NO HO3 hb5 m1 p1 p2 p3 hA5
                      have m1 := K1.out.below' hb6
                      obtain ⟨p1, p2, p3⟩ := m1.cells3
                      have hA6 := Lib.hid ((HA.out.to hb0).to hb6)
                      cases l with
                      | false =>
                        have HL4 := Lib.hid (NL.out false rfl)
                        clear NL
                        go_wp2_with fail
                        go_round
                        case rel => exact ⟨i + 1, o', false, by omega, rfl, rfl, by go_num, hb6, HO4, HL4⟩
                        case measure => simp [intOf]; omega
                      | true =>
                        rcases (show U2 < 0 ∨ (¬ U2 < 0 ∧ V2 < 0) ∨ (¬ U2 < 0 ∧ ¬ V2 < 0) by omega) with q1 | ⟨q1, q2⟩ | ⟨q1, q2⟩
                        · have HL4 := Lib.hid (NL.out true (by rw [decide_eq_true q1]; rfl))
                          clear NL
                          go_wp2_with fail
                          go_round
                          case rel => exact ⟨i + 1, o', true, by omega, rfl, rfl, by go_num, hb6, HO4, HL4⟩
                          case measure => simp [intOf]; omega
                        · have HL4 := Lib.hid (NL.out true (by rw [decide_eq_true q2, Bool.true_or, Bool.or_true]; rfl))
                          clear NL
                          go_wp2_with fail
                          go_round
                          case rel => exact ⟨i + 1, o', true, by omega, rfl, rfl, by go_num, hb6, HO4, HL4⟩
                          case measure => simp [intOf]; omega
                        · have HL4 := Lib.hid (NL.out (inkB W H p U2 V2) (by rw [decide_eq_false q1, decide_eq_false q2]; rfl))
                          clear NL
                          go_wp2_with fail
                          refine (IK.out U2 V2 _ hA6.out).mono ?_
                          rintro e w7 ⟨rfl, hb7⟩
                          have hb8 := below_call hb6 hb6.size hb7
                          generalize inkB W H p U2 V2 = z at *
                          go_wp2_with fail
                          go_round
                          case rel => exact ⟨i + 1, o', z, by omega, rfl, by cases z <;> rfl, by go_num, hb8, HO4, HL4⟩
                          case measure => simp [intOf]; omega
                    · obtain rfl : i = a := by omega
                      go_wp2_with fail
                      go_round
                      case rel => exact ⟨j + 1, o, l, by omega, rfl, rfl, by go_num, hb5, HO2, HL2⟩
                      case measure => simp [intOf]; omega
                · obtain rfl : j = b := by omega
                  have bz : But (gx + 1) g w3 wr := bv.then (hb4.mono bv.size)
                  have aqz := aq.below' hb4
                  obtain ⟨x1, x2, x3⟩ := (KXX.out.below' hb4).cells3
                  cases er with
                  | true =>
                    cases ba with
                    | true =>
                      have QV : Hid (Q ((y : Int) * W + x) = 1) := Lib.hid (by rw [QE.out, ← HAa.out]; rfl)
                      go_wp2_with fail
                      refine (rset_any W H g N N 5 _ x y _ aqz (by omega) xl (by omega) yl (by omega) (by omega) HNN.out).mono ?_
                      rintro e w66 ⟨rfl, hk6, hg6⟩
                      have bz6 : But (gx + 1) g w3 w66 := ⟨hg6.os.trans bz.os, hg6.tape.trans bz.tape, hg6.output.trans bz.output, Nat.le_trans bz.size hg6.size, fun j hj hk => (hg6.block j (Nat.lt_of_lt_of_le hj bz.size) (fun e => hk (by cases e; rfl))).trans (bz.block j hj hk)⟩
                      have aq6 : Blk w66 g 5 (u8s N (rwQ W Q y ((x + 1 : Nat) : Int))) := hk6.u8conv fun i _ _ => by
                        have h := rwQ_set (Q := Q) (y := (y : Int)) (i := i) (show (0 : Int) ≤ x by omega) xl QV.out
                        rw [h]; push_cast; rfl
                      clear hk6 hg6
                      go_wp2_with fail
                      go_round
                      case rel => exact ⟨x + 1, by omega, by go_num, bz6, aq6⟩
                      case measure => simp [intOf]; omega
                    | false =>
                      have QV : Hid (Q ((y : Int) * W + x) = 0) := Lib.hid (by rw [QE.out, ← HAa.out]; rfl)
                      have aq6 : Blk wr g 5 (u8s N (rwQ W Q y ((x + 1 : Nat) : Int))) := aqz.u8conv fun i _ _ => by
                        have h := rwQ_skip (Q := Q) (y := (y : Int)) (i := i) (show (0 : Int) ≤ x by omega) xl QV.out
                        rw [h]; push_cast; rfl
                      go_wp2_with fail
                      go_round
                      case rel => exact ⟨x + 1, by omega, by go_num, bz, aq6⟩
                      case measure => simp [intOf]; omega
                  | false =>
                    cases bo with
                    | true =>
                      have QV : Hid (Q ((y : Int) * W + x) = 1) := Lib.hid (by rw [QE.out, ← HOo.out]; rfl)
                      go_wp2_with fail
                      refine (rset_any W H g N N 5 _ x y _ aqz (by omega) xl (by omega) yl (by omega) (by omega) HNN.out).mono ?_
                      rintro e w66 ⟨rfl, hk6, hg6⟩
                      have bz6 : But (gx + 1) g w3 w66 := ⟨hg6.os.trans bz.os, hg6.tape.trans bz.tape, hg6.output.trans bz.output, Nat.le_trans bz.size hg6.size, fun j hj hk => (hg6.block j (Nat.lt_of_lt_of_le hj bz.size) (fun e => hk (by cases e; rfl))).trans (bz.block j hj hk)⟩
                      have aq6 : Blk w66 g 5 (u8s N (rwQ W Q y ((x + 1 : Nat) : Int))) := hk6.u8conv fun i _ _ => by
                        have h := rwQ_set (Q := Q) (y := (y : Int)) (i := i) (show (0 : Int) ≤ x by omega) xl QV.out
                        rw [h]; push_cast; rfl
                      clear hk6 hg6
                      go_wp2_with fail
                      go_round
                      case rel => exact ⟨x + 1, by omega, by go_num, bz6, aq6⟩
                      case measure => simp [intOf]; omega
                    | false =>
                      have QV : Hid (Q ((y : Int) * W + x) = 0) := Lib.hid (by rw [QE.out, ← HOo.out]; rfl)
                      have aq6 : Blk wr g 5 (u8s N (rwQ W Q y ((x + 1 : Nat) : Int))) := aqz.u8conv fun i _ _ => by
                        have h := rwQ_skip (Q := Q) (y := (y : Int)) (i := i) (show (0 : Int) ≤ x by omega) xl QV.out
                        rw [h]; push_cast; rfl
                      go_wp2_with fail
                      go_round
                      case rel => exact ⟨x + 1, by omega, by go_num, bz, aq6⟩
                      case measure => simp [intOf]; omega
            · have hxW : x = W := by omega
              have aq6 : Blk wr g 5 (u8s N (rwQ W Q ((y + 1 : Nat) : Int) (0 : Nat))) := aq.u8conv fun i i0 i1 => by
                by_cases hW0 : W = 0
                · have := HNN.out; rw [hW0] at this; simp at this; omega
                · have h := rwQ_line (Q := Q) (W := W) (y := (y : Int)) (i := i) (by omega)
                  rw [hxW, h]; push_cast; rfl
              clear aq hxW
              go_wp2_with fail
              go_round
              case rel => exact ⟨y + 1, by omega, by go_num, bv, aq6⟩
              case measure => simp [intOf]; omega
        · have hyH : y = H := by omega
          have bE : Below w.heap.size w wr := b3.trans (bu.to zz (by omega) (by omega))
          have aq : Blk wr g 5 (u8s N Q) := ap.u8conv fun i i0 i1 => by
            rw [hyH]
            by_cases hW0 : W = 0
            · have := HNN.out; rw [hW0] at this; simp at this; omega
            · exact rwQ_end (by omega) (by rw [Int.mul_comm, ← HNN.out]; exact i1)
          clear ap hyH
          have mr := k3.but bu (by omega) (by omega)
          have mx := kx.but bu (by omega) (by omega)
          obtain ⟨x1, x2, x3⟩ := mx.cells3
          obtain ⟨f1, f2, f3⟩ := mr.frozen3
          obtain ⟨y1, y2, y3⟩ := mr.cells3
          have k5 := ((mr.set_ 0 (.int .i64 W)).set_ 1 (.int .i64 H)).set_ 2 (.slice (some ⟨g, 0, none⟩) N N)
          obtain ⟨s1, s2, s3⟩ := Blk.cells3 (a := .int .i64 W) (b := .int .i64 H) (c := .slice (some ⟨g, 0, none⟩) N N) k5
          go_wp2_with fail
          refine bodyPost_ret (v := .tuple #[.agg #[.int .i64 W, .int .i64 H, .slice (some ⟨g, 0, none⟩) N N], .int .i64 0]) (by simp [results, Tryd.results18, go_sem, s1, s2, s3]) rfl ?_
          have g1 : g ≠ w.heap.size + 1 := by omega
          refine ⟨_, rfl, ⟨_, _, rfl, (fun a e => by cases e; show w.heap.size ≤ g; omega), ?_⟩, by (repeat (first | exact Below.refl _ _ | assumption | refine Below.drew ?_ | refine below_drewN ?_ _ | refine Below.alloc ?_ (by first | omega | (simp; done) | (simp; omega)) _ | refine Below.setCell ?_ (by first | omega | (simp; done) | (simp; omega)) _ | refine below_setRow ?_ (by first | omega | (simp; done) | (simp; omega)) _ ))⟩
          have KE := Blk.far (Blk.far (Blk.far aq (p := ⟨w.heap.size + 1, 0, none⟩) g1 (.int .i64 W)) (p := ⟨w.heap.size + 1, 1, none⟩) g1 (.int .i64 H)) (p := ⟨w.heap.size + 1, 2, none⟩) g1 (.slice (some ⟨g, 0, none⟩) N N)
          rw [← HQ.out]
          exact KE.arrB KE.lt
  · have hE2 : chk W H n p = E := by rw [← hE]; unfold brE; rw [if_neg h0]
    rw [hE2] at CK h0
    have hz : (E != 0) = true := by simp [h0]
    have HH := Lib.hid h0
    clear hs hE h0 hE2
    go_enter Tryd.func18, Tryd.ntmps18
    go_wp2_with fail
    generalize (w.alloc (.cells #[.int .i64 W, .int .i64 H, .slice A n c] 24)).alloc (.cells #[.int .i64 0, .int .i64 0, .slice none 0 0] 24) = w1 at *
    refine (CK.out _ (hA.to b1)).mono ?_
    rintro e w2 ⟨rfl, hb2⟩
    have b2 := below_call b1 b1.size hb2
    have kr2 := k3.below' hb2
    obtain ⟨r1, r2, r3⟩ := kr2.cells3
    obtain ⟨f1, f2, f3⟩ := kr2.frozen3
    have k9 := ((kr2.set_ 0 (.int .i64 0)).set_ 1 (.int .i64 0)).set_ 2 (.slice none 0 0)
    obtain ⟨s1, s2, s3⟩ := Blk.cells3 (a := .int .i64 0) (b := .int .i64 0) (c := .slice none 0 0) k9
    go_wp2_with fail
    refine bodyPost_ret (v := .tuple #[noImg, .int .i64 E]) (by simp [results, Tryd.results18, go_sem, noImg, s1, s2, s3]) rfl ?_
    exact ⟨_, rfl, outT_bad HS.out HH.out, by (repeat (first | with_reducible exact Below.refl _ _ | with_reducible assumption | with_reducible refine Below.drew ?_ | (with_reducible refine below_alloc' ?_ ?_; focus (first | omega | (simp; done) | (simp; omega))) | (with_reducible refine below_fill3' ?_ ?_; focus omega) | (with_reducible refine below_setCell' ?_ ?_; focus (first | omega | (simp; done) | (simp; omega))) | (with_reducible apply below_call'; (focus (with_reducible assumption)); (focus (first | omega | (simp; done) | (simp; omega))))))⟩
end Go.Proofs.YtoonkpjddfiopaaDoor

/- Walk: the reference's Goes. -/
namespace Go.Proofs.YtoonkpjddfiopaaDoor
open Go.RowKit Go.Shelf
set_option linter.unusedVariables false
attribute [local go_sem] Oper.semAt_some

/-- how many directions lie ahead of the place t of the nine -/
def mmD (t : Nat) : Nat := if t ≤ 4 then t else t - 1
theorem place_dir {r c : Nat} (hr : r < 3) (hc : c < 3) (h : ¬ (r = 1 ∧ c = 1)) : ∃ d, dirsR[mmD (3 * r + c)]? = some d ∧ d < 8 ∧ dX d = (c : Int) - 1 ∧ dY d = (r : Int) - 1 ∧ (d % 2 = 0 ↔ (c = 1 ∨ r = 1)) ∧ mmD (3 * r + (c + 1)) = mmD (3 * r + c) + 1 := by
  have cr : r = 0 ∨ r = 1 ∨ r = 2 := by omega
  have cc : c = 0 ∨ c = 1 ∨ c = 2 := by omega
  rcases cr with rfl | rfl | rfl <;> rcases cc with rfl | rfl | rfl
  · exact ⟨7, rfl, by omega, rfl, rfl, by omega, rfl⟩
  · exact ⟨0, rfl, by omega, rfl, rfl, by omega, rfl⟩
  · exact ⟨1, rfl, by omega, rfl, rfl, by omega, rfl⟩
  · exact ⟨6, rfl, by omega, rfl, rfl, by omega, rfl⟩
  · exact absurd ⟨rfl, rfl⟩ h
  · exact ⟨2, rfl, by omega, rfl, rfl, by omega, rfl⟩
  · exact ⟨5, rfl, by omega, rfl, rfl, by omega, rfl⟩
  · exact ⟨4, rfl, by omega, rfl, rfl, by omega, rfl⟩
  · exact ⟨3, rfl, by omega, rfl, rfl, by omega, rfl⟩
/-- the edge, as far as it is known -/
def edL (b : Nat → Bool) (l : List Nat) : Bool := l.any fun d => decide (d % 2 = 0) && !b d
theorem edL_all (b : Nat → Bool) : edL b dirsR = edgD b 8 := by
  unfold edL dirsR
  simp [edgD]
  cases b 0 <;> cases b 2 <;> cases b 4 <;> cases b 6 <;> rfl
theorem take_snoc {d m : Nat} (h : dirsR[m]? = some d) : dirsR.take (m + 1) = dirsR.take m ++ [d] := by rw [List.take_add_one, h]; rfl
theorem edL_snoc (b : Nat → Bool) (l : List Nat) (d : Nat) : edL b (l ++ [d]) = (edL b l || (decide (d % 2 = 0) && !b d)) := by unfold edL; rw [List.any_append]; simp
theorem filt_snoc (b : Nat → Bool) (l : List Nat) (d : Nat) : (l ++ [d]).filter b = l.filter b ++ (if b d then [d] else []) := by
  rw [List.filter_append]; congr 1
  cases h : b d <;> simp [List.filter, h]
/-- a neighbour, as a point's cells -/
def encD (x y : Int) (d : Nat) : List Value := [.int .i64 (x + dX d), .int .i64 (y + dY d)]
theorem encD_len (x y : Int) (d : Nat) : (encD x y d).length = 2 := rfl
theorem near_D (x y : Int) (c d : Nat) : nearB (x + dX c - (x + dX d)) (y + dY c - (y + dY d)) true = nearD c d := by
  rw [show x + dX c - (x + dX d) = dX c - dX d by omega, show y + dY c - (y + dY d) = dY c - dY d by omega]
  unfold nearB nearD
  apply Bool.eq_iff_iff.2
  simp only [Bool.true_or, Bool.and_true, Bool.not_eq_true', Bool.or_eq_false_iff, decide_eq_false_iff_not, decide_eq_true_iff]
  constructor
  · rintro ⟨⟨⟨h1, h2⟩, h3⟩, h4⟩; omega
  · intro h; exact ⟨⟨⟨by omega, by omega⟩, by omega⟩, by omega⟩
def bols (m : List Bool) : Array Value := (m.map Value.bool).toArray
theorem bols_at {m : List Bool} {i : Nat} (h : i < m.length) : (bols m)[i]? = some (.bool (m.getD i false)) := by
  unfold bols
  rw [List.getElem?_toArray, List.getElem?_map, List.getElem?_eq_getElem h, List.getD_eq_getElem?_getD, List.getElem?_eq_getElem h]; rfl
theorem bols_set {m : List Bool} {i : Nat} (v : Bool) : (bols m).setIfInBounds i (.bool v) = bols (m.set i v) := by
  unfold bols
  rw [List.map_set, List.setIfInBounds_toArray]
theorem infoBo : (Tryd.prog.info? 4).map (fun i => (i.zero, i.size, i.bytes)) = some (some (.bool false), 1, 1) := by kernel_rfl
theorem makeBo (n : Nat) (h : n ≤ 1000000) (w : World) : (Instr.makeSlice 160 (.int .i64 n) (.int .i64 n)).run Tryd.prog w =
    .ok (.slice (some ⟨w.heap.size, 0, none⟩) n n) (w.alloc (.cells (bols (List.replicate n false)) 4)) := by
  obtain ⟨i, hi, hz, hs, hb⟩ := info_parts infoBo
  have := run_make (P := Tryd.prog) w 160 4 i _ Tryd.underlying160 hi hz .i64 .i64 n n (by omega) (Int.le_refl _) (by rw [hb]; omega) (by omega)
  rw [this, hs, Int.toNat_natCast]
  have e : madeCells (Value.bool false).cells (n * 1) = bols (List.replicate n false) := by
    unfold bols
    rw [List.map_replicate]
    apply Array.ext_getElem?
    intro j
    simp only [madeCells, Value.cells, Nat.mul_one]
    by_cases hj : j < n <;> simp [hj, Nat.mod_one]
  rw [e]
set_option maxRecDepth 100000 in
set_option maxHeartbeats 4000000 in
theorem rgoes_any (W H x y : Int) (A : Option Addr) (n c : Nat) (p : Int → Int) (w : World) (hA : ArrB w w.heap.size A n p) (hW : W ≤ 640) (hH : H ≤ 640) (hn : (n : Int) = W * H) (x0 : 0 ≤ x) (x1 : x < 640) (y0 : 0 ≤ y) (y1 : y < 640) :
    Calls Tryd.prog 87 #[.agg #[.int .i64 W, .int .i64 H, .slice A n c], .int .i64 x, .int .i64 y] w fun e w' => e = .returned (.bool (goesR (bD W H p x y))) ∧ Below w.heap.size w w' := by
  have IK := Lib.hid fun (u v : Int) w' hA' => rink_any W H A n c p u v w' hA' hW hH hn
  obtain ⟨b, hb⟩ : ∃ b, bD W H p x y = b := ⟨_, rfl⟩
  have BD : Hid (∀ d, inkB W H p (x + dX d) (y + dY d) = b d) := Lib.hid fun d => by rw [← hb]; rfl
  rw [hb]
  obtain ⟨r0, hr0, hrz0, hrz1, hrz2⟩ := info_parts info_Pt
  have HA := Lib.hid hA
  have b1 : Below w.heap.size w (w.alloc (.cells #[.int .i64 W, .int .i64 H, .slice A n c] 24)) := by (repeat (first | exact Below.refl _ _ | assumption | refine Below.drew ?_ | refine below_drewN ?_ _ | refine Below.alloc ?_ (by first | omega | (simp; done) | (simp; omega)) _ | refine Below.setCell ?_ (by first | omega | (simp; done) | (simp; omega)) _ | refine below_setRow ?_ (by first | omega | (simp; done) | (simp; omega)) _ ))
  have k1 := Blk.new w 24 #[.int .i64 W, .int .i64 H, .slice A n c]
  obtain ⟨Y0, hY0⟩ : ∃ a : Int, y - 1 = a := ⟨_, rfl⟩
  obtain ⟨Y1, hY1⟩ : ∃ a : Int, y + 1 = a := ⟨_, rfl⟩
  obtain ⟨X0, hX0⟩ : ∃ a : Int, x - 1 = a := ⟨_, rfl⟩
  obtain ⟨X1, hX1⟩ : ∃ a : Int, x + 1 = a := ⟨_, rfl⟩
  have u1 : IntKind.i64.wrap (y - 1) = Y0 := (IntWalk.i64_in _ (by omega)).trans hY0
  have u2 : IntKind.i64.wrap (y + 1) = Y1 := (IntWalk.i64_in _ (by omega)).trans hY1
  have u3 : IntKind.i64.wrap (x - 1) = X0 := (IntWalk.i64_in _ (by omega)).trans hX0
  have u4 : IntKind.i64.wrap (x + 1) = X1 := (IntWalk.i64_in _ (by omega)).trans hX1
  have HY0 := Lib.hid hY0; have HY1 := Lib.hid hY1; have HX0 := Lib.hid hX0; have HX1 := Lib.hid hX1
  clear hA hb hn hY0 hY1 hX0 hX1
  go_enter Tryd.func87, Tryd.ntmps87
  go_wp2_with fail
  generalize w.alloc (.cells #[.int .i64 W, .int .i64 H, .slice A n c] 24) = w1 at *
  have K1 := Lib.hid k1
  have B1 := Lib.hid b1
  obtain ⟨gl, hgl⟩ : ∃ g, w1.heap.size = g := ⟨_, rfl⟩
  have zk := k1.lt
  clear k1 b1
  go_loopw [7, 8, 9] (fun v e s wr => ∃ (V : Int) (r : Nat), s = .int .i64 V ∧ r ≤ 3 ∧ V = y - 1 + r ∧ Below gl w1 wr ∧ e = .bool (edL b (dirsR.take (mmD (3 * r)))) ∧ ERow wr gl 51 2 (encD x y) v ((dirsR.take (mmD (3 * r))).filter b)) (fun _ _ s _ => (y + 2 - intOf s).toNat)
  case atStart => exact ⟨Y0, 0, rfl, by omega, by rw [HY0.out]; simp, hgl ▸ Below.refl _ _, rfl, ERow.nil _ _ _ _ _⟩
  case round =>
    obtain ⟨V, r, rfl, hr3, hV, hb1, rfl, hR⟩ := hrel
    have HV := Lib.hid hV
    have v1 : V ≤ y + 2 := by omega
    have v0 : y - 1 ≤ V := by omega
    by_cases vl : V ≤ Y1
    · have r3 : r < 3 := by have := HY1.out; omega
      have v2 : IntKind.i64.wrap (V + 1) = V + 1 := IntWalk.i64_in _ (by omega)
      clear hV
      obtain ⟨ed0, hed0⟩ : ∃ e, edL b (dirsR.take (mmD (3 * r))) = e := ⟨_, rfl⟩
      rw [hed0]
      have HE0 := Lib.hid hed0
      clear hed0
      go_wp2_with fail
      go_loopw [7, 8, 10] (fun v e s wr => ∃ (U : Int) (c : Nat), s = .int .i64 U ∧ c ≤ 3 ∧ U = x - 1 + c ∧ Below gl w1 wr ∧ e = .bool (edL b (dirsR.take (mmD (3 * r + c)))) ∧ ERow wr gl 51 2 (encD x y) v ((dirsR.take (mmD (3 * r + c))).filter b)) (fun _ _ s _ => (x + 2 - intOf s).toNat)
      case atStart => exact ⟨X0, 0, rfl, by omega, by rw [HX0.out]; simp, hb1, by rw [Nat.add_zero, HE0.out], hR⟩
      case round =>
        obtain ⟨U, q, rfl, hq3, hU, hb2, rfl, hR2⟩ := hrel
        have HU := Lib.hid hU
        clear hb1 hR
        have u5 : U ≤ x + 2 := by omega
        have u6 : x - 1 ≤ U := by omega
        by_cases ul : U ≤ X1
        · have q3 : q < 3 := by have := HX1.out; omega
          have u7 : IntKind.i64.wrap (U + 1) = U + 1 := IntWalk.i64_in _ (by omega)
          have HB2 := Lib.hid hb2
          have HR2 := Lib.hid hR2
          obtain ⟨ed, hed⟩ : ∃ e, edL b (dirsR.take (mmD (3 * r + q))) = e := ⟨_, rfl⟩
          rw [hed]
          have HED := Lib.hid hed
          clear hU hb2 hR2 hed
          by_cases hc : r = 1 ∧ q = 1
          · obtain rfl : U = x := by have := HU.out; omega
            obtain rfl : V = y := by have := HV.out; omega
            obtain ⟨rfl, rfl⟩ := hc
            go_wp2_with fail
            go_round
            case rel => exact ⟨U + 1, 2, by go_num, by omega, by omega, HB2.out, by rw [← HED.out]; rfl, HR2.out⟩
            case measure => have := HX1.out; have := HY1.out; simp [intOf]; omega
          · obtain ⟨d, d1, d2, d3, d4, d5, d6⟩ := place_dir r3 q3 hc
            have EU : Hid (x + dX d = U) := Lib.hid (by rw [d3, HU.out]; omega)
            have EV : Hid (y + dY d = V) := Lib.hid (by rw [d4, HV.out]; omega)
            have TK := Lib.hid (take_snoc d1)
            have D6 := Lib.hid d6
            have EB : Hid (decide (d % 2 = 0) = (decide (q = 1) || decide (r = 1))) := Lib.hid (by
              apply Bool.eq_iff_iff.2
              rw [Bool.or_eq_true, decide_eq_true_iff, decide_eq_true_iff, decide_eq_true_iff, d5])
            obtain ⟨bx, hbx⟩ : ∃ b : Bool, decide (q = 1) = b := ⟨_, rfl⟩
            obtain ⟨b_y, hby⟩ : ∃ b : Bool, decide (r = 1) = b := ⟨_, rfl⟩
            have t1 : (U == x) = bx := by
              rw [← hbx]; apply Bool.eq_iff_iff.2; rw [beq_iff_eq, decide_eq_true_iff]; have := HU.out; omega
            have t2 : (V == y) = b_y := by
              rw [← hby]; apply Bool.eq_iff_iff.2; rw [beq_iff_eq, decide_eq_true_iff]; have := HV.out; omega
            have t3 : ¬ (bx = true ∧ b_y = true) := by rw [← hbx, ← hby, decide_eq_true_iff, decide_eq_true_iff]; exact fun h => hc ⟨h.2, h.1⟩
            rw [hbx, hby] at EB
            have m1 := K1.out.below' (hgl ▸ HB2.out : Below w1.heap.size w1 wr)
            obtain ⟨p1, p2, p3⟩ := m1.cells3
            have hA2 := Lib.hid ((HA.out.to B1.out).to (hgl ▸ HB2.out : Below w1.heap.size w1 wr))
            have zr : gl ≤ wr.heap.size := by have := HB2.out.size; omega
            clear d1 d2 d3 d4 d5 d6 hbx hby hc
            rcases (show (bx = false ∧ b_y = false) ∨ (bx = false ∧ b_y = true) ∨ (bx = true ∧ b_y = false) by cases bx <;> cases b_y <;> simp at t3 ⊢) with ⟨rfl, rfl⟩ | ⟨rfl, rfl⟩ | ⟨rfl, rfl⟩
            all_goals
              clear t3
              go_wp2_with fail
              refine (IK.out U V _ hA2.out).mono ?_
              rintro e w4 ⟨rfl, hb4⟩
              have BV : Hid (inkB W H p U V = b d) := Lib.hid (by rw [← EU.out, ← EV.out]; exact BD.out d)
              have hb5 : Below gl w1 w4 := HB2.out.trans (hb4.mono zr)
              have hR5 := HR2.out.below hb4
              clear hb4 HR2 HB2 hA2 m1 p1 p2 p3
              obtain ⟨k, hk⟩ : ∃ k, inkB W H p U V = k := ⟨_, rfl⟩
              rw [hk] at BV ⊢
              clear hk
              have LL : ((dirsR.take (mmD (3 * r + q))).filter b).length ≤ 8 := Nat.le_trans (List.length_filter_le _ _) (by rw [List.length_take]; exact Nat.min_le_right _ _)
              obtain ⟨l0, hl0⟩ : ∃ l, (dirsR.take (mmD (3 * r + q))).filter b = l := ⟨_, rfl⟩
              rw [hl0] at hR5 LL
              have HL0 := Lib.hid hl0
              clear hl0
              cases k with
              | true =>
                have EE : Hid (edL b (dirsR.take (mmD (3 * r + (q + 1)))) = ed) := Lib.hid (by rw [D6.out, TK.out, edL_snoc, HED.out, ← BV.out]; simp)
                have LE : Hid ((dirsR.take (mmD (3 * r + (q + 1)))).filter b = l0 ++ [d]) := Lib.hid (by rw [D6.out, TK.out, filt_snoc, HL0.out, ← BV.out]; rfl)
                clear D6 TK HED HL0 BV
                go_wp2_with (at_builtin; refine wpList_append_own _ rfl (.tmp 44) (.tmp 48) 45 rfl gl 51 r0 (.agg #[.int .i64 0, .int .i64 0]) 2 16 Tryd.underlying45 hr0 hrz0 hrz1 hrz2 rfl (by decide) _ _ _ rfl (ERow.below hR5 ((Below.refl _ _).alloc (Nat.le_refl _) _)) ⟨w4.heap.size, 0, none⟩ 1 1 [.int .i64 U, .int .i64 V] rfl rfl ?c1 ?c2 ?c3 ?c4 ?c5 ?_)
                case c1 =>
                  intro t u ht
                  match t, ht with
                  | 0, ht => cases ht; exact (Blk.new w4 51 #[.int .i64 U, .int .i64 V]).cell 0
                  | 1, ht => cases ht; exact (Blk.new w4 51 #[.int .i64 U, .int .i64 V]).cell 1
                  | t + 2, ht => simp at ht
                case c2 => simp [Value.oneCell']
                case c3 => unfold maxLen; omega
                case c4 => omega
                case c5 => have := hb5.size; simp; omega
                intro v' w14 own14 hg14 _
                have bn : Below w4.heap.size w4 (w4.alloc (.cells #[.int .i64 U, .int .i64 V] 51)) := (Below.refl _ _).alloc (Nat.le_refl _) _
                have b14 : Below gl w1 w14 := (hb5.trans (bn.mono (by have := hb5.size; omega))).grown hg14 (by have := hb5.size; simp; omega) (fun j hj => (own_ge hR5 hj).1)
                have R14 : ERow w14 gl 51 2 (encD x y) v' (l0 ++ [d]) := by
                  unfold ERow
                  rw [flatE_snoc, List.length_append]
                  unfold encD
                  rw [EU.out, EV.out]
                  exact own14
                clear own14 hg14 bn hR5 hb5
                go_wp2_with fail
                go_round
                case rel => exact ⟨U + 1, q + 1, by go_num, by omega, by have := HU.out; omega, b14, by rw [EE.out], by rw [LE.out]; exact R14⟩
                case measure => have := HX1.out; have := HY1.out; simp [intOf]; omega
              | false =>
                have LE : Hid ((dirsR.take (mmD (3 * r + (q + 1)))).filter b = l0) := Lib.hid (by rw [D6.out, TK.out, filt_snoc, HL0.out, ← BV.out]; simp)
                have EE : Hid (edL b (dirsR.take (mmD (3 * r + (q + 1)))) = (ed || decide (d % 2 = 0))) := Lib.hid (by rw [D6.out, TK.out, edL_snoc, HED.out, ← BV.out]; simp)
                rw [EB.out] at EE
                clear D6 TK HED HL0 BV
                go_wp2_with fail
                go_round
                case rel => exact ⟨U + 1, q + 1, by go_num, by omega, by have := HU.out; omega, hb5, by rw [EE.out]; simp, by rw [LE.out]; exact hR5⟩
                case measure => have := HX1.out; have := HY1.out; simp [intOf]; omega
        · obtain rfl : q = 3 := by have := HU.out; have := HX1.out; omega
          have HB2 := Lib.hid hb2
          have HR2 := Lib.hid hR2
          clear hb2 hR2 hU
          obtain ⟨ed, hed⟩ : ∃ e, edL b (dirsR.take (mmD (3 * r + 3))) = e := ⟨_, rfl⟩
          rw [hed]
          have HED := Lib.hid hed
          clear hed
          go_wp2_with fail
          go_round
          case rel => exact ⟨V + 1, r + 1, by go_num, by omega, by have := HV.out; omega, HB2.out, by rw [← HED.out]; rfl, HR2.out⟩
          case measure => have := HX1.out; have := HY1.out; simp [intOf]; omega
    · obtain rfl : r = 3 := by have := HY1.out; omega
      have e1 : edL b (dirsR.take (mmD (3 * 3))) = edgD b 8 := edL_all b
      have e2 : (dirsR.take (mmD (3 * 3))).filter b = dirsR.filter b := rfl
      rw [e1]
      rw [e2] at hR
      have LL : (dirsR.filter b).length ≤ 8 := Nat.le_trans (List.length_filter_le _ _) (by decide)
      have lt8 : ∀ d ∈ dirsR.filter b, d < 8 := fun d hd => mem_dirsR.1 (List.mem_filter.1 hd).1
      have GR : Hid (goesR b = (edgD b 8 && decide (2 ≤ (dirsR.filter b).length) && (metN (dirsR.filter b) (dirsR.filter b).length (met0 (dirsR.filter b).length)).all id)) := Lib.hid rfl
      obtain ⟨l, hl⟩ : ∃ l, dirsR.filter b = l := ⟨_, rfl⟩
      rw [hl] at hR LL GR lt8
      have bE : Below w.heap.size w wr := B1.out.trans ((hgl ▸ hb1 : Below w1.heap.size w1 wr).mono B1.out.size)
      obtain ⟨AL, cL, rfl, -, EA⟩ := hR.arr (encD_len x y)
      obtain ⟨L, hL⟩ : ∃ L, l.length = L := ⟨_, rfl⟩
      rw [hL] at LL GR ⊢
      have HL := Lib.hid hL
      have HEA := Lib.hid EA
      have LT8 := Lib.hid lt8
      have BE := Lib.hid bE
      cases hed : edgD b 8 with
      | false =>
        rw [hed] at GR
        have GF : goesR b = false := by rw [GR.out]; simp
        clear hR hb1 hV hl hL EA lt8 bE GR e1 e2 hed
        go_wp2_with fail
        go_ret
        exact ⟨by first | rfl | (rw [GF]; rfl), BE.out⟩
      | true =>
        rw [hed] at GR
        by_cases l2 : (L : Int) < 2
        · have GF : goesR b = false := by rw [GR.out, decide_eq_false (by omega)]; simp
          clear hR hb1 hV hl hL EA lt8 bE GR e1 e2 hed
          go_wp2_with fail
          go_ret
          exact ⟨by first | rfl | (rw [GF]; rfl), BE.out⟩
        · have GT : Hid (goesR b = (metN l L (met0 L)).all id) := Lib.hid (by rw [GR.out, decide_eq_true (by omega)]; simp)
          have MK := makeBo L (by omega)
          obtain ⟨gL, rfl, hgL, hcL⟩ := EA (by intro e; rw [e] at hL; simp at hL; omega)
          have HCL := Lib.hid hcL
          obtain ⟨gm, hgm⟩ : ∃ g, wr.heap.size = g := ⟨_, rfl⟩
          have km : Blk (wr.alloc (.cells (bols (List.replicate L false)) 4)) gm 4 (bols (List.replicate L false)) := Blk.new' hgm _ _
          have cm := km.cell 0
          rw [bols_at (by rw [List.length_replicate]; omega)] at cm
          have fm := km.frozen 0
          clear hR hb1 hV hl hL EA lt8 bE GR e1 e2 hed hcL
          go_upto_region 18 with fail
          have km2 : Blk (wr.alloc (.cells ((bols (List.replicate L false)).setIfInBounds 0 (.bool true)) 4)) gm 4 (bols (met0 L)) := by
            have h := Blk.new' hgm 4 ((bols (List.replicate L false)).setIfInBounds 0 (.bool true))
            rw [bols_set] at h ⊢; exact h
          have bq : Below wr.heap.size wr (wr.alloc (.cells ((bols (List.replicate L false)).setIfInBounds 0 (.bool true)) 4)) := (Below.refl _ _).alloc (Nat.le_refl _) _
          have PC : Hid (∀ (i d : Nat), l[i]? = some d → ∀ t, t < 2 → (wr.alloc (.cells ((bols (List.replicate L false)).setIfInBounds 0 (.bool true)) 4)).cell? ⟨gL, i * 2 + t, none⟩ = (encD x y d)[t]?) := Lib.hid fun i d hi t ht => (bq.cell (p := ⟨gL, i * 2 + t, none⟩) hgL).trans (HCL.out i d hi t ht)
          have B5 := Lib.hid (below_call BE.out BE.out.size bq)
          have ng : gL ≠ gm := by omega
          clear km bq HCL MK cm fm
          generalize wr.alloc (.cells ((bols (List.replicate L false)).setIfInBounds 0 (.bool true)) 4) = w5 at *
          obtain ⟨gq, hgq⟩ : ∃ g, w5.heap.size = g := ⟨_, rfl⟩
          have zm : gm < gq := by have := km2.lt; omega
          have zl : gL < gq := by omega
          have zw : w.heap.size ≤ gm := by have := BE.out.size; omega
          have LN : Hid ((met0 L).length = L) := Lib.hid (by unfold met0; rw [List.length_set, List.length_replicate])
          go_wp2_with fail
          go_loopw [12] (fun s wx => ∃ k : Nat, k ≤ L ∧ s = .int .i64 k ∧ But gq gm w5 wx ∧ Blk wx gm 4 (bols (metN l k (met0 L)))) (fun s _ => L - (intOf s).toNat)
          case atStart => exact ⟨0, by omega, rfl, But.refl _ (by omega), km2⟩
          case round =>
            obtain ⟨nn, hnn, rfl, bu, kn⟩ := hrel
            clear km2
            by_cases nl : (nn : Int) < L
            · have MS : Hid (metN l (nn + 1) (met0 L) = metI l L (metN l nn (met0 L))) := Lib.hid (by rw [metN, HL.out])
              have ML : Hid ((metN l nn (met0 L)).length = L) := Lib.hid (by rw [metN_len, LN.out])
              generalize metN l nn (met0 L) = M at *
              go_wp2_with fail
              go_loopw [13] (fun s wx => ∃ i : Nat, i ≤ L ∧ s = .int .i64 i ∧ But gq gm w5 wx ∧ Blk wx gm 4 (bols (metI l i M))) (fun s _ => L - (intOf s).toNat)
              case atStart => exact ⟨0, by omega, rfl, bu, kn⟩
              case round =>
                obtain ⟨i, hi, rfl, bu2, ki⟩ := hrel
                clear bu kn
                by_cases il : (i : Int) < L
                · have MS2 : Hid (metI l (i + 1) M = metK l i L (metI l i M)) := Lib.hid (by rw [metI, HL.out])
                  have ML2 : Hid ((metI l i M).length = L) := Lib.hid (by rw [metI_len, ML.out])
                  generalize metI l i M = M2 at *
                  go_wp2_with fail
                  go_loopw [14] (fun s wx => ∃ k : Nat, k ≤ L ∧ s = .int .i64 k ∧ But gq gm w5 wx ∧ Blk wx gm 4 (bols (metK l i k M2))) (fun s _ => L - (intOf s).toNat)
                  case atStart => exact ⟨0, by omega, rfl, bu2, ki⟩
                  case round =>
                    obtain ⟨k, hk, rfl, bu3, kk⟩ := hrel
                    clear bu2 ki
                    by_cases kl : (k : Int) < L
                    · have MS3 : Hid (metK l i (k + 1) M2 = if (metK l i k M2).getD i false && nearD (l.getD i 0) (l.getD k 0) then (metK l i k M2).set k true else metK l i k M2) := Lib.hid rfl
                      have ML3 : Hid ((metK l i k M2).length = L) := Lib.hid (by rw [metK_len, ML2.out])
                      generalize metK l i k M2 = M3 at *
                      have il' : i < l.length := by rw [HL.out]; omega
                      have kl' : k < l.length := by rw [HL.out]; omega
                      obtain ⟨ci, hci⟩ : ∃ c, l.getD i 0 = c := ⟨_, rfl⟩
                      obtain ⟨ck, hck⟩ : ∃ c, l.getD k 0 = c := ⟨_, rfl⟩
                      have gi : l[i]? = some ci := by rw [List.getD_eq_getElem?_getD, List.getElem?_eq_getElem il'] at hci; rw [List.getElem?_eq_getElem il']; exact congrArg some hci
                      have gk : l[k]? = some ck := by rw [List.getD_eq_getElem?_getD, List.getElem?_eq_getElem kl'] at hck; rw [List.getElem?_eq_getElem kl']; exact congrArg some hck
                      have bb1 := dXY_bd ci
                      have bb2 := dXY_bd ck
                      have pc : ∀ (j d t : Nat), l[j]? = some d → t < 2 → wr.cell? ⟨gL, j * 2 + t, none⟩ = (encD x y d)[t]? := fun j d t hj ht => (World.cell?_of_block (a := ⟨gL, j * 2 + t, none⟩) (bu3.block gL zl ng)).trans (PC.out j d hj t ht)
                      have a0 := pc i ci 0 gi (by omega)
                      have a1 := pc i ci 1 gi (by omega)
                      have d0 := pc k ck 0 gk (by omega)
                      have d1 := pc k ck 1 gk (by omega)
                      change _ = some (Value.int .i64 (x + dX ci)) at a0
                      change _ = some (Value.int .i64 (y + dY ci)) at a1
                      change _ = some (Value.int .i64 (x + dX ck)) at d0
                      change _ = some (Value.int .i64 (y + dY ck)) at d1
                      have NR := Lib.hid fun w' => near_any (x + dX ci) (y + dY ci) (x + dX ck) (y + dY ck) true w' (by omega) (by omega) (by omega) (by omega)
                      rw [near_D] at NR
                      rw [hci, hck] at MS3
                      obtain ⟨z, hz⟩ : ∃ z, nearD ci ck = z := ⟨_, rfl⟩
                      rw [hz] at NR MS3
                      generalize x + dX ci = xa at *
                      generalize y + dY ci = ya at *
                      generalize x + dX ck = xb at *
                      generalize y + dY ck = yb at *
                      rw [Nat.add_zero] at a0 d0
                      have cm := kk.cell i
                      rw [bols_at (by rw [ML3.out]; omega)] at cm
                      obtain ⟨a, ha⟩ : ∃ a, M3.getD i false = a := ⟨_, rfl⟩
                      rw [ha] at cm MS3
                      have KK := Lib.hid kk
                      have BU := Lib.hid bu3
                      have KS := Lib.hid fun (w' : World) (h : Below wr.heap.size wr w') => (⟨(h.cell (p := ⟨gm, i, none⟩) kk.lt).trans cm, (h.cell (p := ⟨gL, i * 2, none⟩) (by show gL < _; have := bu3.size; omega)).trans a0, (h.cell (p := ⟨gL, i * 2 + 1, none⟩) (by show gL < _; have := bu3.size; omega)).trans a1, (h.cell (p := ⟨gL, k * 2, none⟩) (by show gL < _; have := bu3.size; omega)).trans d0, (h.cell (p := ⟨gL, k * 2 + 1, none⟩) (by show gL < _; have := bu3.size; omega)).trans d1⟩ : w'.cell? ⟨gm, i, none⟩ = some (.bool a) ∧ w'.cell? ⟨gL, i * 2, none⟩ = some (.int .i64 xa) ∧ w'.cell? ⟨gL, i * 2 + 1, none⟩ = some (.int .i64 ya) ∧ w'.cell? ⟨gL, k * 2, none⟩ = some (.int .i64 xb) ∧ w'.cell? ⟨gL, k * 2 + 1, none⟩ = some (.int .i64 yb))
                      clear il' kl' hci hck gi gk bb1 bb2 pc a0 a1 d0 d1 hz cm ha kk bu3
                      cases a with
                      | false =>
                        have M4 : Hid (metK l i (k + 1) M2 = M3) := Lib.hid (by rw [MS3.out]; simp)
                        go_upto_region 27 with fail
                        refine wp_region_held_drew (S := fun w' => w'.cell? ⟨gm, i, none⟩ = some (.bool false) ∧ w'.cell? ⟨gL, i * 2, none⟩ = some (.int .i64 xa) ∧ w'.cell? ⟨gL, i * 2 + 1, none⟩ = some (.int .i64 ya) ∧ w'.cell? ⟨gL, k * 2, none⟩ = some (.int .i64 xb) ∧ w'.cell? ⟨gL, k * 2 + 1, none⟩ = some (.int .i64 yb)) (by kernel_rfl) (KS.out _ (Below.refl _ _).drew) (fun hHeld => ?_)
                        refine wpAnyH_take (i := 0) (oi := _) (v := ?_) (by simp only [List.getElem?_toArray, List.getElem?_cons_zero]; exact rfl) (by kernel_rfl) (by kernel_rfl) (by kernel_rfl) (by exact fun _ _ _ h => h) (Or.inl ⟨by rfl, ?_⟩) (by assumption) ?_
                        rotate_left 1
                        · intro w hSw
                          (try dsimp only at hSw)
                          go_simp
                          try with_reducible rfl
                        try simp only [Act.put, List.setIfInBounds_toArray, List.set_cons_zero, List.set_cons_succ]
                        refine wpAnyH_take (i := 1) (oi := _) (v := ?_) (by simp only [List.getElem?_toArray, List.getElem?_cons_zero, List.getElem?_cons_succ]; exact rfl) (by kernel_rfl) (by kernel_rfl) (by kernel_rfl) (by exact fun _ _ _ h => h) (Or.inl ⟨by rfl, ?_⟩) (by assumption) ?_
                        rotate_left 1
                        · intro w hSw
                          (try dsimp only at hSw)
                          go_simp
                          try with_reducible rfl
                        try simp only [Act.put, List.setIfInBounds_toArray, List.set_cons_zero, List.set_cons_succ]
                        refine wpAnyH_take (i := 2) (oi := _) (v := ?_) (by simp only [List.getElem?_toArray, List.getElem?_cons_zero, List.getElem?_cons_succ]; exact rfl) (by kernel_rfl) (by kernel_rfl) (by kernel_rfl) (by exact fun _ _ _ h => h) (Or.inl ⟨by rfl, ?_⟩) (by assumption) ?_
                        rotate_left 1
                        · intro w hSw
                          (try dsimp only at hSw)
                          go_simp
                          try with_reducible rfl
                        try simp only [Act.put, List.setIfInBounds_toArray, List.set_cons_zero, List.set_cons_succ]
                        refine wpAnyH_take (i := 3) (oi := _) (v := ?_) (by simp only [List.getElem?_toArray, List.getElem?_cons_zero, List.getElem?_cons_succ]; exact rfl) (by kernel_rfl) (by kernel_rfl) (by kernel_rfl) (by exact fun _ _ _ h => h) (Or.inl ⟨by rfl, ?_⟩) (by assumption) ?_
                        rotate_left 1
                        · intro w hSw
                          (try dsimp only at hSw)
                          go_simp
                          try with_reducible rfl
                        try simp only [Act.put, List.setIfInBounds_toArray, List.set_cons_zero, List.set_cons_succ]
                        refine wpAnyH_take (i := 4) (oi := _) (v := ?_) (by simp only [List.getElem?_toArray, List.getElem?_cons_zero, List.getElem?_cons_succ]; exact rfl) (by kernel_rfl) (by kernel_rfl) (by kernel_rfl) (by exact fun _ _ _ h => h) (Or.inl ⟨by rfl, ?_⟩) (by assumption) ?_
                        rotate_left 1
                        · intro w hSw
                          (try dsimp only at hSw)
                          go_simp
                          try with_reducible rfl
                        try simp only [Act.put, List.setIfInBounds_toArray, List.set_cons_zero, List.set_cons_succ]
                        refine wpAnyH_take (i := 5) (oi := _) (v := undef) (by simp only [List.getElem?_toArray, List.getElem?_cons_zero, List.getElem?_cons_succ]; exact rfl) (by kernel_rfl) (by kernel_rfl) (by kernel_rfl) (by exact fun _ _ _ h => h) (Or.inr ⟨by rfl, rfl⟩) (by assumption) ?_
                        try simp only [Act.put, List.setIfInBounds_toArray, List.set_cons_zero, List.set_cons_succ]
                        refine wpAnyH_take (i := 6) (oi := _) (v := undef) (by simp only [List.getElem?_toArray, List.getElem?_cons_zero, List.getElem?_cons_succ]; exact rfl) (by kernel_rfl) (by kernel_rfl) (by kernel_rfl) (by exact fun _ _ _ h => h) (Or.inr ⟨by rfl, rfl⟩) (by assumption) ?_
                        try simp only [Act.put, List.setIfInBounds_toArray, List.set_cons_zero, List.set_cons_succ]
                        refine wpAnyH_take (i := 7) (oi := _) (v := undef) (by simp only [List.getElem?_toArray, List.getElem?_cons_zero, List.getElem?_cons_succ]; exact rfl) (by kernel_rfl) (by kernel_rfl) (by kernel_rfl) (by exact fun _ _ _ h => h) (Or.inr ⟨by rfl, rfl⟩) (by assumption) ?_
                        try simp only [Act.put, List.setIfInBounds_toArray, List.set_cons_zero, List.set_cons_succ]
                        refine wpAnyH_take (i := 8) (oi := _) (v := undef) (by simp only [List.getElem?_toArray, List.getElem?_cons_zero, List.getElem?_cons_succ]; exact rfl) (by kernel_rfl) (by kernel_rfl) (by kernel_rfl) (by exact fun _ _ _ h => h) (Or.inr ⟨by rfl, rfl⟩) (by assumption) ?_
                        try simp only [Act.put, List.setIfInBounds_toArray, List.set_cons_zero, List.set_cons_succ]
                        refine wpAnyH_take (i := 9) (oi := _) (v := undef) (by simp only [List.getElem?_toArray, List.getElem?_cons_zero, List.getElem?_cons_succ]; exact rfl) (by kernel_rfl) (by kernel_rfl) (by kernel_rfl) (by exact fun _ _ _ h => h) (Or.inr ⟨by rfl, rfl⟩) (by assumption) ?_
                        try simp only [Act.put, List.setIfInBounds_toArray, List.set_cons_zero, List.set_cons_succ]
                        refine wpAnyH_take (i := 10) (oi := _) (v := undef) (by simp only [List.getElem?_toArray, List.getElem?_cons_zero, List.getElem?_cons_succ]; exact rfl) (by kernel_rfl) (by kernel_rfl) (by kernel_rfl) (by exact fun _ _ _ h => h) (Or.inr ⟨by rfl, rfl⟩) (by assumption) ?_
                        try simp only [Act.put, List.setIfInBounds_toArray, List.set_cons_zero, List.set_cons_succ]
                        refine wpAnyH_take (i := 11) (oi := _) (v := undef) (by simp only [List.getElem?_toArray, List.getElem?_cons_zero, List.getElem?_cons_succ]; exact rfl) (by kernel_rfl) (by kernel_rfl) (by kernel_rfl) (by exact fun _ _ _ h => h) (Or.inr ⟨by rfl, rfl⟩) (by assumption) ?_
                        try simp only [Act.put, List.setIfInBounds_toArray, List.set_cons_zero, List.set_cons_succ]
                        refine wpAnyH_take (i := 12) (oi := _) (v := undef) (by simp only [List.getElem?_toArray, List.getElem?_cons_zero, List.getElem?_cons_succ]; exact rfl) (by kernel_rfl) (by kernel_rfl) (by kernel_rfl) (by exact fun _ _ _ h => h) (Or.inr ⟨by rfl, rfl⟩) (by assumption) ?_
                        try simp only [Act.put, List.setIfInBounds_toArray, List.set_cons_zero, List.set_cons_succ]
                        refine wpAnyH_take (i := 13) (oi := _) (v := undef) (by simp only [List.getElem?_toArray, List.getElem?_cons_zero, List.getElem?_cons_succ]; exact rfl) (by kernel_rfl) (by kernel_rfl) (by kernel_rfl) (by exact fun _ _ _ h => h) (Or.inr ⟨by rfl, rfl⟩) (by assumption) ?_
                        try simp only [Act.put, List.setIfInBounds_toArray, List.set_cons_zero, List.set_cons_succ]
                        refine wpAnyH_take (i := 14) (oi := _) (v := ?_) (by simp only [List.getElem?_toArray, List.getElem?_cons_zero, List.getElem?_cons_succ]; exact rfl) (by kernel_rfl) (by kernel_rfl) (by kernel_rfl) (by exact fun _ _ _ h => h) (Or.inl ⟨by rfl, ?_⟩) (by assumption) ?_
                        rotate_left 1
                        · intro w hSw
                          (try dsimp only at hSw)
                          go_simp
                          try with_reducible rfl
                        try simp only [Act.put, List.setIfInBounds_toArray, List.set_cons_zero, List.set_cons_succ]
                        refine wpAnyH_done (by kernel_rfl) ?_ _
                        go_wp2_with fail
                        go_round
                        case rel => exact ⟨k + 1, by omega, by go_num, BU.out.then ((Below.refl _ _).drew), by rw [M4.out]; exact KK.out.drew⟩
                        case measure => simp [intOf]; omega
                      | true =>
                        go_upto_region 27 with fail
                        refine wp_region_held_drew (S := fun w' => w'.cell? ⟨gm, i, none⟩ = some (.bool true) ∧ w'.cell? ⟨gL, i * 2, none⟩ = some (.int .i64 xa) ∧ w'.cell? ⟨gL, i * 2 + 1, none⟩ = some (.int .i64 ya) ∧ w'.cell? ⟨gL, k * 2, none⟩ = some (.int .i64 xb) ∧ w'.cell? ⟨gL, k * 2 + 1, none⟩ = some (.int .i64 yb)) (by kernel_rfl) (KS.out _ (Below.refl _ _).drew) (fun hHeld => ?_)
                        refine wpAnyH_take (i := 0) (oi := _) (v := ?_) (by simp only [List.getElem?_toArray, List.getElem?_cons_zero]; exact rfl) (by kernel_rfl) (by kernel_rfl) (by kernel_rfl) (by exact fun _ _ _ h => h) (Or.inl ⟨by rfl, ?_⟩) (by assumption) ?_
                        rotate_left 1
                        · intro w hSw
                          (try dsimp only at hSw)
                          go_simp
                          try with_reducible rfl
                        try simp only [Act.put, List.setIfInBounds_toArray, List.set_cons_zero, List.set_cons_succ]
                        refine wpAnyH_take (i := 1) (oi := _) (v := ?_) (by simp only [List.getElem?_toArray, List.getElem?_cons_zero, List.getElem?_cons_succ]; exact rfl) (by kernel_rfl) (by kernel_rfl) (by kernel_rfl) (by exact fun _ _ _ h => h) (Or.inl ⟨by rfl, ?_⟩) (by assumption) ?_
                        rotate_left 1
                        · intro w hSw
                          (try dsimp only at hSw)
                          go_simp
                          try with_reducible rfl
                        try simp only [Act.put, List.setIfInBounds_toArray, List.set_cons_zero, List.set_cons_succ]
                        refine wpAnyH_take (i := 2) (oi := _) (v := ?_) (by simp only [List.getElem?_toArray, List.getElem?_cons_zero, List.getElem?_cons_succ]; exact rfl) (by kernel_rfl) (by kernel_rfl) (by kernel_rfl) (by exact fun _ _ _ h => h) (Or.inl ⟨by rfl, ?_⟩) (by assumption) ?_
                        rotate_left 1
                        · intro w hSw
                          (try dsimp only at hSw)
                          go_simp
                          try with_reducible rfl
                        try simp only [Act.put, List.setIfInBounds_toArray, List.set_cons_zero, List.set_cons_succ]
                        refine wpAnyH_take (i := 3) (oi := _) (v := ?_) (by simp only [List.getElem?_toArray, List.getElem?_cons_zero, List.getElem?_cons_succ]; exact rfl) (by kernel_rfl) (by kernel_rfl) (by kernel_rfl) (by exact fun _ _ _ h => h) (Or.inl ⟨by rfl, ?_⟩) (by assumption) ?_
                        rotate_left 1
                        · intro w hSw
                          (try dsimp only at hSw)
                          go_simp
                          try with_reducible rfl
                        try simp only [Act.put, List.setIfInBounds_toArray, List.set_cons_zero, List.set_cons_succ]
                        refine wpAnyH_take (i := 4) (oi := _) (v := ?_) (by simp only [List.getElem?_toArray, List.getElem?_cons_zero, List.getElem?_cons_succ]; exact rfl) (by kernel_rfl) (by kernel_rfl) (by kernel_rfl) (by exact fun _ _ _ h => h) (Or.inl ⟨by rfl, ?_⟩) (by assumption) ?_
                        rotate_left 1
                        · intro w hSw
                          (try dsimp only at hSw)
                          go_simp
                          try with_reducible rfl
                        try simp only [Act.put, List.setIfInBounds_toArray, List.set_cons_zero, List.set_cons_succ]
                        refine wpAnyH_take (i := 5) (oi := _) (v := ?_) (by simp only [List.getElem?_toArray, List.getElem?_cons_zero, List.getElem?_cons_succ]; exact rfl) (by kernel_rfl) (by kernel_rfl) (by kernel_rfl) (by exact fun _ _ _ h => h) (Or.inl ⟨by rfl, ?_⟩) (by assumption) ?_
                        rotate_left 1
                        · intro w hSw
                          (try dsimp only at hSw)
                          go_simp
                          try with_reducible rfl
                        try simp only [Act.put, List.setIfInBounds_toArray, List.set_cons_zero, List.set_cons_succ]
                        refine wpAnyH_take (i := 6) (oi := _) (v := ?_) (by simp only [List.getElem?_toArray, List.getElem?_cons_zero, List.getElem?_cons_succ]; exact rfl) (by kernel_rfl) (by kernel_rfl) (by kernel_rfl) (by exact fun _ _ _ h => h) (Or.inl ⟨by rfl, ?_⟩) (by assumption) ?_
                        rotate_left 1
                        · intro w hSw
                          (try dsimp only at hSw)
                          go_simp
                          try with_reducible rfl
                        try simp only [Act.put, List.setIfInBounds_toArray, List.set_cons_zero, List.set_cons_succ]
                        refine wpAnyH_take (i := 7) (oi := _) (v := ?_) (by simp only [List.getElem?_toArray, List.getElem?_cons_zero, List.getElem?_cons_succ]; exact rfl) (by kernel_rfl) (by kernel_rfl) (by kernel_rfl) (by exact fun _ _ _ h => h) (Or.inl ⟨by rfl, ?_⟩) (by assumption) ?_
                        rotate_left 1
                        · intro w hSw
                          (try dsimp only at hSw)
                          go_simp
                          try with_reducible rfl
                        try simp only [Act.put, List.setIfInBounds_toArray, List.set_cons_zero, List.set_cons_succ]
                        refine wpAnyH_take (i := 8) (oi := _) (v := ?_) (by simp only [List.getElem?_toArray, List.getElem?_cons_zero, List.getElem?_cons_succ]; exact rfl) (by kernel_rfl) (by kernel_rfl) (by kernel_rfl) (by exact fun _ _ _ h => h) (Or.inl ⟨by rfl, ?_⟩) (by assumption) ?_
                        rotate_left 1
                        · intro w hSw
                          (try dsimp only at hSw)
                          go_simp
                          try with_reducible rfl
                        try simp only [Act.put, List.setIfInBounds_toArray, List.set_cons_zero, List.set_cons_succ]
                        refine wpAnyH_take (i := 9) (oi := _) (v := ?_) (by simp only [List.getElem?_toArray, List.getElem?_cons_zero, List.getElem?_cons_succ]; exact rfl) (by kernel_rfl) (by kernel_rfl) (by kernel_rfl) (by exact fun _ _ _ h => h) (Or.inl ⟨by rfl, ?_⟩) (by assumption) ?_
                        rotate_left 1
                        · intro w hSw
                          (try dsimp only at hSw)
                          go_simp
                          try with_reducible rfl
                        try simp only [Act.put, List.setIfInBounds_toArray, List.set_cons_zero, List.set_cons_succ]
                        refine wpAnyH_take (i := 10) (oi := _) (v := ?_) (by simp only [List.getElem?_toArray, List.getElem?_cons_zero, List.getElem?_cons_succ]; exact rfl) (by kernel_rfl) (by kernel_rfl) (by kernel_rfl) (by exact fun _ _ _ h => h) (Or.inl ⟨by rfl, ?_⟩) (by assumption) ?_
                        rotate_left 1
                        · intro w hSw
                          (try dsimp only at hSw)
                          go_simp
                          try with_reducible rfl
                        try simp only [Act.put, List.setIfInBounds_toArray, List.set_cons_zero, List.set_cons_succ]
                        refine wpAnyH_take (i := 11) (oi := _) (v := ?_) (by simp only [List.getElem?_toArray, List.getElem?_cons_zero, List.getElem?_cons_succ]; exact rfl) (by kernel_rfl) (by kernel_rfl) (by kernel_rfl) (by exact fun _ _ _ h => h) (Or.inl ⟨by rfl, ?_⟩) (by assumption) ?_
                        rotate_left 1
                        · intro w hSw
                          (try dsimp only at hSw)
                          go_simp
                          try with_reducible rfl
                        try simp only [Act.put, List.setIfInBounds_toArray, List.set_cons_zero, List.set_cons_succ]
                        refine wpAnyH_take (i := 12) (oi := _) (v := ?_) (by simp only [List.getElem?_toArray, List.getElem?_cons_zero, List.getElem?_cons_succ]; exact rfl) (by kernel_rfl) (by kernel_rfl) (by kernel_rfl) (by exact fun _ _ _ h => h) (Or.inl ⟨by rfl, ?_⟩) (by assumption) ?_
                        rotate_left 1
                        · intro w hSw
                          (try dsimp only at hSw)
                          go_simp
                          try with_reducible rfl
                        try simp only [Act.put, List.setIfInBounds_toArray, List.set_cons_zero, List.set_cons_succ]
                        refine wpAnyH_ready (rs := [13]) (by kernel_rfl) (by simp) ?_
                        refine AllReadyH.cons (o := _) (by simp only [List.getElem?_toArray, List.getElem?_cons_zero, List.getElem?_cons_succ]; exact rfl) (fun K' hK => ?_) AllReadyH.nil
                        go_simp
                        refine (NR.out _).mono ?_
                        rintro ee w7 ⟨rfl, hb7⟩
                        have b7 := (Below.refl wr.heap.size wr).drew.trans hb7
                        refine hK.out _ _ (KS.out _ b7) (fun hHeld => ?_)
                        clear hK K'
                        try simp only [Act.put, List.setIfInBounds_toArray, List.set_cons_zero, List.set_cons_succ]
                        refine wpAnyH_take (i := 14) (oi := _) (v := ?_) (by simp only [List.getElem?_toArray, List.getElem?_cons_zero, List.getElem?_cons_succ]; exact rfl) (by kernel_rfl) (by kernel_rfl) (by kernel_rfl) (by exact fun _ _ _ h => h) (Or.inl ⟨by rfl, ?_⟩) (by assumption) ?_
                        rotate_left 1
                        · intro w hSw
                          (try dsimp only at hSw)
                          go_simp
                          try with_reducible rfl
                        try simp only [Act.put, List.setIfInBounds_toArray, List.set_cons_zero, List.set_cons_succ]
                        refine wpAnyH_done (by kernel_rfl) ?_ _
                        have bu7 : But gq gm w5 w7 := BU.out.then (b7.mono BU.out.size)
                        have k7 := KK.out.below' b7
                        have c7 := k7.cell k
                        rw [bols_at (by rw [ML3.out]; omega)] at c7
                        have f7 := k7.frozen k
                        clear KS hHeld BU KK b7
                        cases z with
                        | false =>
                          have M4 : Hid (metK l i (k + 1) M2 = M3) := Lib.hid (by rw [MS3.out]; simp)
                          go_wp2_with fail
                          go_round
                          case rel => exact ⟨k + 1, by omega, by go_num, bu7, by rw [M4.out]; exact k7⟩
                          case measure => simp [intOf]; omega
                        | true =>
                          have M4 : Hid (metK l i (k + 1) M2 = M3.set k true) := Lib.hid (by rw [MS3.out]; simp)
                          have bu8 := bu7.set k (.bool true)
                          have k8 := k7.set_ k (.bool true)
                          rw [bols_set] at k8
                          clear bu7 k7
                          go_wp2_with fail
                          go_round
                          case rel => exact ⟨k + 1, by omega, by go_num, bu8, by rw [M4.out]; exact k8⟩
                          case measure => simp [intOf]; omega
                    · obtain rfl : k = L := by omega
                      go_wp2_with fail
                      go_round
                      case rel => exact ⟨i + 1, by omega, by go_num, bu3, by rw [MS2.out]; exact kk⟩
                      case measure => simp [intOf]; omega
                · obtain rfl : i = L := by omega
                  go_wp2_with fail
                  go_round
                  case rel => exact ⟨nn + 1, by omega, by go_num, bu2, by rw [MS.out]; exact ki⟩
                  case measure => simp [intOf]; omega
            · obtain rfl : nn = L := by omega
              have ML : Hid ((metN l nn (met0 nn)).length = nn) := Lib.hid (by rw [metN_len, LN.out])
              generalize metN l nn (met0 nn) = M at *
              have b9 : Below w.heap.size w wr := B5.out.trans (bu.to hgq (by omega) (by have := B5.out.size; omega))
              have KN := Lib.hid kn
              clear bu kn
              go_wp2_with fail
              go_loopw [15] (fun s wx => ∃ i : Nat, i ≤ nn ∧ s = .int .i64 i ∧ wx = wr ∧ Hid ((M.take i).all id = true)) (fun s _ => nn - (intOf s).toNat)
              case atStart => exact ⟨0, by omega, rfl, rfl, Lib.hid rfl⟩
              case round =>
                obtain ⟨i, hi, rfl, rfl, hall⟩ := hrel
                by_cases il : (i : Int) < nn
                · have cm := KN.out.cell i
                  rw [bols_at (by rw [ML.out]; omega)] at cm
                  obtain ⟨a, ha⟩ : ∃ a, M.getD i false = a := ⟨_, rfl⟩
                  rw [ha] at cm
                  have gi : M[i]? = some a := by
                    have h : i < M.length := by rw [ML.out]; omega
                    rw [List.getD_eq_getElem?_getD, List.getElem?_eq_getElem h] at ha
                    rw [List.getElem?_eq_getElem h]; exact congrArg some ha
                  have GI := Lib.hid gi
                  clear ha gi
                  cases a with
                  | false =>
                    have GF : goesR b = false := by
                      rw [GT.out]
                      rw [← Bool.not_eq_true, List.all_eq_true]
                      exact fun h => by have := h false (List.mem_of_getElem? GI.out); cases this
                    go_wp2_with fail
                    go_ret
                    exact ⟨by first | rfl | (rw [GF]; rfl), b9⟩
                  | true =>
                    have HS : Hid ((M.take (i + 1)).all id = true) := Lib.hid (by rw [List.take_add_one, GI.out, List.all_append, hall.out]; rfl)
                    go_wp2_with fail
                    go_round
                    case rel => exact ⟨i + 1, by omega, by go_num, by first | rfl | trivial, HS⟩
                    case measure => simp [intOf]; omega
                · obtain rfl : i = nn := by omega
                  have GF : goesR b = true := by
                    rw [GT.out]
                    have := hall.out
                    rw [List.take_of_length_le (by rw [ML.out]; exact Nat.le_refl _)] at this
                    exact this
                  go_wp2_with fail
                  go_ret
                  exact ⟨by first | rfl | (rw [GF]; rfl), b9⟩
end Go.Proofs.YtoonkpjddfiopaaDoor

/- Walks: copies of bytes and of an image that can be written. -/
namespace Go.Proofs.YtoonkpjddfiopaaDoor
open Go.RowKit
set_option linter.unusedVariables false

set_option maxRecDepth 100000 in
set_option maxHeartbeats 400000 in
theorem copyBytesO_any (ad : Addr) (n c : Nat) (p : Int → Int) (w : World) (hA : ArrB w w.heap.size (some ad) n p) (hn0 : 0 < n) (hn : n ≤ 140737488355328) :
    Calls Tryd.prog 77 #[.slice (some ad) n c] w (New w fun v w' => ∃ g c', v = .slice (some ⟨g, 0, none⟩) n c' ∧ n ≤ c' ∧ w.heap.size ≤ g ∧ ArrO w' g n p) := by
  obtain ⟨i0, hi0, hz0, hz1, hz2⟩ := info_parts infoU8
  have hnil := World.ownsRow_nil w w.heap.size 5 1
  go_enter Tryd.func77, Tryd.ntmps77
  go_wp2_with (at_builtin; refine wpList_append_own _ rfl (.tmp 4) (.tmp 5) 22 rfl w.heap.size 5 i0 (.int .u8 0) 1 1 Tryd.underlying22 hi0 hz0 hz1 hz2 rfl (by decide) _ 0 [] rfl hnil ad n c ((List.range n).map (fun (j : Nat) => Value.int .u8 (p j))) rfl (by simp) ?c1 ?c2 ?c3 ?c4 (Nat.le_refl _) ?_)
  case c1 =>
    intro j u hj
    have hjn : j < n := by
      rcases Nat.lt_or_ge j n with h | h
      · exact h
      · rw [List.getElem?_eq_none (by simpa using h)] at hj; cases hj
    obtain ⟨b, off, e, _, hcell⟩ := hA (by omega)
    injection e with e; subst e
    have := hcell j (by omega) (by omega)
    simp [hjn] at hj
    subst hj
    rw [Int.toNat_natCast] at this
    unfold Addr.add
    split
    · rename_i e; subst e; exact this
    · exact this
  case c2 => intro u hu; simp at hu; obtain ⟨j, _, rfl⟩ := hu; rfl
  case c3 => unfold maxLen; omega
  case c4 => omega
  intro v' w1 hown' hg _
  go_wp2
  go_ret
  try rw [Nat.zero_add, List.nil_append] at hown'
  obtain ⟨g, c', rfl, h1, h2, h3⟩ := own_arrO hown' hn0
  exact ⟨_, rfl, ⟨g, c', rfl, h1, h2, h3⟩, (Below.refl _ _).grown hg (Nat.le_refl _) (fun k hk => by simp [Value.ownBlock] at hk)⟩

set_option maxHeartbeats 1000000 in
theorem copyInkO_any (W H : Int) (ad : Addr) (n c : Nat) (p : Int → Int) (w : World) (hA : ArrB w w.heap.size (some ad) n p) (hn0 : 0 < n) (hn : n ≤ 140737488355328) :
    Calls Tryd.prog 16 #[.agg #[.int .i64 W, .int .i64 H, .slice (some ad) n c]] w (New w fun v w' => ∃ g c', v = .agg #[.int .i64 W, .int .i64 H, .slice (some ⟨g, 0, none⟩) n c'] ∧ n ≤ c' ∧ w.heap.size ≤ g ∧ ArrO w' g n p) := by
  have CB := Lib.hid fun w' hA' => copyBytesO_any ad n c p w' hA' hn0 hn
  go_enter Tryd.func16, Tryd.ntmps16
  go_wp2_with fail
  have k1 := (Blk.new w 24 #[.int .i64 W, .int .i64 H, .slice (some ad) n c]).alloc (.cells #[.int .i64 0, .int .i64 0, .slice none 0 0] 24)
  have k2 := Blk.new' (w := w.alloc (.cells #[.int .i64 W, .int .i64 H, .slice (some ad) n c] 24)) (World.size_alloc _ _) 24 #[.int .i64 0, .int .i64 0, .slice none 0 0]
  have b1 : Below w.heap.size w ((w.alloc (.cells #[.int .i64 W, .int .i64 H, .slice (some ad) n c] 24)).alloc (.cells #[.int .i64 0, .int .i64 0, .slice none 0 0] 24)) := by (repeat (first | exact Below.refl _ _ | assumption | refine Below.drew ?_ | refine below_drewN ?_ _ | refine Below.alloc ?_ (by first | omega | (simp; done) | (simp; omega)) _ | refine Below.setCell ?_ (by first | omega | (simp; done) | (simp; omega)) _ | refine below_setRow ?_ (by first | omega | (simp; done) | (simp; omega)) _ ))
  have hA1 := hA.to b1
  generalize (w.alloc (.cells #[.int .i64 W, .int .i64 H, .slice (some ad) n c] 24)).alloc (.cells #[.int .i64 0, .int .i64 0, .slice none 0 0] 24) = w1 at *
  clear hA
  have K1 := Lib.hid k1; have K2 := Lib.hid k2; have B1 := Lib.hid b1; have A1 := Lib.hid hA1
  obtain ⟨p1, p2, p3⟩ := k1.cells3
  obtain ⟨r1, r2, r3⟩ := k2.cells3
  obtain ⟨f1, f2, f3⟩ := k2.frozen3
  clear k1 k2 b1 hA1
  go_region_held3 (fun w' => w'.cell? ⟨w.heap.size, 0, none⟩ = some (.int .i64 W) ∧ w'.cell? ⟨w.heap.size, 1, none⟩ = some (.int .i64 H) ∧ w'.cell? ⟨w.heap.size, 2, none⟩ = some (.slice (some ad) n c))
    (simp [go_sem, *])
    (first
      | (go_at_call 77; refine (CB.out _ A1.out.drew).mono ?_; rintro e w2 ⟨_, rfl, ⟨g, c', rfl, hc', hge', ha'⟩, hb2⟩
         have k3 := K1.out.drew.below' hb2; have k4 := K2.out.drew.below' hb2
         obtain ⟨x1, x2, x3⟩ := k3.cells3; obtain ⟨y1, y2, y3⟩ := k4.cells3; obtain ⟨z1, z2, z3⟩ := k4.frozen3
         have b2 : Below w.heap.size w w2 := B1.out.drew.trans (hb2.mono B1.out.size)
         have z2 := K2.out.lt))
  go_wp2
  refine bodyPost_ret (v := .agg #[.int .i64 W, .int .i64 H, .slice (some ⟨g, 0, none⟩) n c']) (by simp [results, Tryd.results16, go_sem, y1, y2, y3]) rfl ?_
  have hge : w1.heap.size ≤ g := hge'
  have hne : g ≠ w.heap.size + 1 := by omega
  have hbs := B1.out.size
  refine ⟨_, rfl, ⟨g, c', rfl, hc', by omega, ?_⟩, by (repeat (first | exact Below.refl _ _ | assumption | refine Below.drew ?_ | refine below_drewN ?_ _ | refine Below.alloc ?_ (by first | omega | (simp; done) | (simp; omega)) _ | refine Below.setCell ?_ (by first | omega | (simp; done) | (simp; omega)) _ | refine below_setRow ?_ (by first | omega | (simp; done) | (simp; omega)) _ ))⟩
  exact (((ha'.drew.far (p := ⟨w.heap.size + 1, 0, none⟩) hne _).far (p := ⟨w.heap.size + 1, 1, none⟩) hne _).far (p := ⟨w.heap.size + 1, 2, none⟩) hne _)
end Go.Proofs.YtoonkpjddfiopaaDoor

/- Walk: the reference's Thin. -/
namespace Go.Proofs.YtoonkpjddfiopaaDoor
open Go.RowKit
set_option linter.unusedVariables false
attribute [local go_sem] Oper.semAt_some

def boM : Value → Nat
  | .bool true => 1
  | _ => 0
set_option maxRecDepth 100000 in
set_option maxHeartbeats 4000000 in
theorem rthin_pos (W H : Nat) (A : Option Addr) (n c : Nat) (p : Int → Int) (w : World) (hA : ArrB w w.heap.size A n p) (hW : W ≤ 640) (hH : H ≤ 640) (hn : n = W * H) (h0 : 0 < n) (hp : ∀ i, p i = 0 ∨ p i = 1) :
    Calls Tryd.prog 23 #[.agg #[.int .i64 W, .int .i64 H, .slice A n c]] w (New w fun v w' => ∃ g c' q, v = .agg #[.int .i64 W, .int .i64 H, .slice (some ⟨g, 0, none⟩) n c'] ∧ w.heap.size ≤ g ∧ Thinned W H p q ∧ ArrO w' g n q) := by
  have hnI : (n : Int) = (W : Int) * H := by rw [hn]; push_cast; rfl
  have hn9 : n ≤ 409600 := by rw [hn]; exact Nat.mul_le_mul hW hH
  obtain ⟨bA, oA, rfl, -, -⟩ := ArrB.at_ hA (i := 0) (by omega) (by omega)
  have CI := Lib.hid fun w' hA' => copyInkO_any W H ⟨bA, oA, none⟩ n c p w' hA' h0 (by omega)
  have b1 : Below w.heap.size w ((w.alloc (.cells #[.int .i64 W, .int .i64 H, .slice (some ⟨bA, oA, none⟩) n c] 24)).alloc (.cells #[.int .i64 0, .int .i64 0, .slice none 0 0] 24)) := by (repeat (first | exact Below.refl _ _ | assumption | refine Below.drew ?_ | refine below_drewN ?_ _ | refine Below.alloc ?_ (by first | omega | (simp; done) | (simp; omega)) _ | refine Below.setCell ?_ (by first | omega | (simp; done) | (simp; omega)) _ | refine below_setRow ?_ (by first | omega | (simp; done) | (simp; omega)) _ ))
  have k1 : Blk ((w.alloc (.cells #[.int .i64 W, .int .i64 H, .slice (some ⟨bA, oA, none⟩) n c] 24)).alloc (.cells #[.int .i64 0, .int .i64 0, .slice none 0 0] 24)) w.heap.size 24 #[.int .i64 W, .int .i64 H, .slice (some ⟨bA, oA, none⟩) n c] := (Blk.new _ _ _).alloc _
  have k2 : Blk ((w.alloc (.cells #[.int .i64 W, .int .i64 H, .slice (some ⟨bA, oA, none⟩) n c] 24)).alloc (.cells #[.int .i64 0, .int .i64 0, .slice none 0 0] 24)) (w.heap.size + 1) 24 #[.int .i64 0, .int .i64 0, .slice none 0 0] := Blk.new' (by simp) _ _
  have HN := Lib.hid hnI
  have HP := Lib.hid hp
  have HA := Lib.hid hA
  clear hnI hn hp hA
  go_enter Tryd.func23, Tryd.ntmps23
  go_wp2_with fail
  generalize (w.alloc (.cells #[.int .i64 W, .int .i64 H, .slice (some ⟨bA, oA, none⟩) n c] 24)).alloc (.cells #[.int .i64 0, .int .i64 0, .slice none 0 0] 24) = w1 at *
  refine (CI.out _ (HA.out.to b1)).mono ?_
  rintro e w3 ⟨_, rfl, ⟨gp, cp, rfl, hcp, hgp, ap⟩, hb2⟩
  have b3 := below_call b1 b1.size hb2
  have z2 := k2.lt
  have zp := ap.lt
  obtain ⟨gx, hgx⟩ : ∃ g, w3.heap.size = g := ⟨_, rfl⟩
  have kx : Blk (w3.alloc (.cells #[.int .i64 W, .int .i64 H, .slice (some ⟨gp, 0, none⟩) n cp] 24)) gx 24 #[.int .i64 W, .int .i64 H, .slice (some ⟨gp, 0, none⟩) n cp] := Blk.new' hgx _ _
  replace k1 := (k1.below' hb2).alloc (.cells #[.int .i64 W, .int .i64 H, .slice (some ⟨gp, 0, none⟩) n cp] 24)
  replace k2 := (k2.below' hb2).alloc (.cells #[.int .i64 W, .int .i64 H, .slice (some ⟨gp, 0, none⟩) n cp] 24)
  have ap4 := ap.alloc (.cells #[.int .i64 W, .int .i64 H, .slice (some ⟨gp, 0, none⟩) n cp] 24)
  have b4 := b3.alloc b3.size (.cells #[.int .i64 W, .int .i64 H, .slice (some ⟨gp, 0, none⟩) n cp] 24)
  have zs := hb2.size
  have hgp2 : w.heap.size + 1 < gp := by omega
  have hgx1 : gp < gx := by omega
  clear b1 hb2 CI HA b3 ap z2 zp hgp zs
  go_upto_region 3 with fail
  generalize w3.alloc (.cells #[.int .i64 W, .int .i64 H, .slice (some ⟨gp, 0, none⟩) n cp] 24) = w4 at *
  clear hgx
  go_wp2_with fail
  go_loopw [4] (fun s wr => ∃ (b : Bool) (q : Int → Int), s = .bool b ∧ Hid ((∃ m, q = thI W H m p) ∧ (b = false → thP W H q = q) ∧ ∀ i, q i = 0 ∨ q i = 1) ∧ Below w.heap.size w wr ∧ Blk wr w.heap.size 24 #[.int .i64 W, .int .i64 H, .slice (some ⟨bA, oA, none⟩) n c] ∧ Blk wr (w.heap.size + 1) 24 #[.int .i64 0, .int .i64 0, .slice none 0 0] ∧ Blk wr gx 24 #[.int .i64 W, .int .i64 H, .slice (some ⟨gp, 0, none⟩) n cp] ∧ ArrO wr gp n q) (fun s wr => boM s + sumW gp n wr)
  case atStart => exact ⟨true, p, rfl, Lib.hid ⟨⟨0, rfl⟩, (fun h => by cases h), HP.out⟩, b4, k1, k2, kx, ap4⟩
  case round =>
    obtain ⟨b0, q, rfl, hq, b5, m1, m2, mx, mp⟩ := hrel
    clear k1 k2 b4 kx ap4
    have SW := Lib.hid (sumW_arr mp)
    have Q01 := Lib.hid hq.out.2.2
    cases b0 with
    | true =>
      obtain ⟨p1, p2, p3⟩ := m1.cells3
      go_wp2_with fail
      go_loopw [4, 5] (fun t s wx => ∃ (y : Nat) (b : Bool), y ≤ H ∧ s = .int .i64 y ∧ t = .bool b ∧ Hid (ChQ n b q (thY W H W y q)) ∧ Below w.heap.size w wx ∧ Blk wx w.heap.size 24 #[.int .i64 W, .int .i64 H, .slice (some ⟨bA, oA, none⟩) n c] ∧ Blk wx (w.heap.size + 1) 24 #[.int .i64 0, .int .i64 0, .slice none 0 0] ∧ Blk wx gx 24 #[.int .i64 W, .int .i64 H, .slice (some ⟨gp, 0, none⟩) n cp] ∧ ArrO wx gp n (thY W H W y q)) (fun _ s _ => H - (intOf s).toNat)
      case atStart => exact ⟨0, false, by omega, rfl, rfl, ⟨fun _ => rfl, fun h => by cases h⟩, b5, m1, m2, mx, mp⟩
      case round =>
        obtain ⟨y, b, hy, rfl, rfl, hch, b6, o1, o2, ox, op⟩ := hrel
        clear b5 m1 m2 mx mp p1 p2 p3
        obtain ⟨p1, p2, p3⟩ := o1.cells3
        by_cases hlt : (y : Int) < H
        · have YS : Hid (thY W H W (y + 1) q = thX W H y W (thY W H W y q)) := by show _ = _; rfl
          have QY := Lib.hid (thY_01 (W := W) (H := H) (Wn := W) Q01.out y)
          generalize thY W H W y q = q1 at *
          go_wp2_with fail
          go_loopw [4, 6] (fun t s wx => ∃ (x : Nat) (b : Bool), x ≤ W ∧ s = .int .i64 x ∧ t = .bool b ∧ Hid (ChQ n b q (thX W H y x q1)) ∧ Below w.heap.size w wx ∧ Blk wx w.heap.size 24 #[.int .i64 W, .int .i64 H, .slice (some ⟨bA, oA, none⟩) n c] ∧ Blk wx (w.heap.size + 1) 24 #[.int .i64 0, .int .i64 0, .slice none 0 0] ∧ Blk wx gx 24 #[.int .i64 W, .int .i64 H, .slice (some ⟨gp, 0, none⟩) n cp] ∧ ArrO wx gp n (thX W H y x q1)) (fun _ s _ => W - (intOf s).toNat)
          case atStart => exact ⟨0, b, by omega, rfl, rfl, hch, b6, o1, o2, ox, op⟩
          case round =>
            obtain ⟨x, b', hx, rfl, rfl, hch', b7, r1, r2, rx, rp⟩ := hrel
            clear b6 o1 o2 ox op p1 p2 p3
            obtain ⟨p1, p2, p3⟩ := r1.cells3
            obtain ⟨x1, x2, x3⟩ := rx.cells3
            by_cases hlx : (x : Int) < W
            · have XS : Hid (thX W H y (x + 1) q1 = thS W H x y (thX W H y x q1)) := by show _ = _; rfl
              have QX := Lib.hid (thX_01 (W := W) (H := H) (y := y) QY.out x)
              generalize thX W H y x q1 = q2 at *
              have hx0 : (0 : Int) ≤ (x : Int) := by omega
              have hy0 : (0 : Int) ≤ (y : Int) := by omega
              obtain ⟨j1, j2, j3⟩ := idx_lt hx0 hlx hy0 hlt
              rw [Int.mul_comm (H : Int) W] at j2
              have j4 : (y : Int) * W + x < n := by have := HN.out; omega
              have v1 : IntKind.i64.wrap ((y : Int) * W) = (y : Int) * W := IntWalk.i64_in _ (by omega)
              have v2 : IntKind.i64.wrap ((y : Int) * W + x) = (y : Int) * W + x := IntWalk.i64_in _ (by omega)
              have IK := Lib.hid fun w' hA' => rink_any W H (some ⟨gp, 0, none⟩) n cp q2 x y w' hA' (by omega) (by omega) HN.out
              have GO := Lib.hid fun w' hA' => rgoes_any W H x y (some ⟨gp, 0, none⟩) n cp q2 w' hA' (by omega) (by omega) HN.out hx0 (by omega) hy0 (by omega)
              rw [← goes_same] at GO
              have IB := Lib.hid (inkB_in (p := q2) hx0 hlx hy0 hlt)
              have hq := QX.out ((y : Int) * W + x)
              obtain ⟨J, hJ⟩ : ∃ J, (y : Int) * W + x = J := ⟨_, rfl⟩
              have v3 : IntKind.i64.wrap ((y : Int) * W + x) = J := by rw [← hJ]; exact v2
              have TS : Hid (thS W H x y q2 = if inkB W H q2 x y && goesB (bD W H q2 x y) then upd q2 J 0 else q2) := by show _ = _; unfold thS; rw [hJ]
              rw [hJ] at hq j1 j4 IB v2
              obtain ⟨gv, hgv⟩ : ∃ g, goesB (bD W H q2 x y) = g := ⟨_, rfl⟩
              rw [hgv] at TS GO
              obtain ⟨iv, hiv⟩ : ∃ g, inkB W H q2 x y = g := ⟨_, rfl⟩
              rw [hiv] at TS IK IB
              have HI := Lib.hid (fun h : iv = true => (by have := IB.out; rw [h] at this; exact of_decide_eq_true this.symm : q2 J = 1))
              have RP := Lib.hid rp
              clear hgv hJ hq hiv IB rp
              go_wp2_with fail
              refine (IK.out _ RP.out.arr).mono ?_
              rintro e w6 ⟨rfl, hb6⟩
              have b8 := below_call b7 b7.size hb6
              have t1 := r1.below' hb6
              have t2 := r2.below' hb6
              have tx := rx.below' hb6
              have TP := Lib.hid (RP.out.below hb6)
              clear b7 r1 r2 rx RP hb6 p1 p2 p3 x1 x2 x3
              obtain ⟨p1, p2, p3⟩ := t1.cells3
              obtain ⟨x1, x2, x3⟩ := tx.cells3
              cases iv with
              | false =>
                have XS2 : Hid (thX W H y (x + 1) q1 = q2) := by show _ = _; rw [XS.out, TS.out]; rfl
                clear XS TS GO HI
                go_wp2_with fail
                go_roundw
                case rel => exact ⟨x + 1, b', by omega, by go_num, rfl, by rw [XS2.out]; exact hch', b8, t1, t2, tx, by rw [XS2.out]; exact TP.out⟩
                case measure => simp [intOf]; omega
              | true =>
                have hz := HI.out rfl
                have CH2 : Hid (ChQ n true q (upd q2 J 0)) := by show ChQ _ _ _ _; exact hch'.out.step j1 j4 hz
                clear hz HI
                go_wp2_with fail
                refine (GO.out _ TP.out.arr).mono ?_
                rintro e w7 ⟨rfl, hb7⟩
                have b9 := below_call b8 b8.size hb7
                replace t1 := t1.below' hb7
                replace t2 := t2.below' hb7
                replace tx := tx.below' hb7
                have tp := TP.out.below hb7
                clear b8 TP hb7 p1 p2 p3 x1 x2 x3 GO IK
                obtain ⟨p1, p2, p3⟩ := t1.cells3
                obtain ⟨x1, x2, x3⟩ := tx.cells3
                have hc := tp.cell j1 j4
                have hf := tp.frozen J.toNat
                cases gv with
                | false =>
                  have XS2 : Hid (thX W H y (x + 1) q1 = q2) := by show _ = _; rw [XS.out, TS.out]; rfl
                  have TP := Lib.hid tp
                  clear tp XS TS hc hf
                  go_wp2_with fail
                  go_roundw
                  case rel => exact ⟨x + 1, b', by omega, by go_num, rfl, by rw [XS2.out]; exact hch', b9, t1, t2, tx, by rw [XS2.out]; exact TP.out⟩
                  case measure => simp [intOf]; omega
                | true =>
                  have XS2 : Hid (thX W H y (x + 1) q1 = upd q2 J 0) := by show _ = _; rw [XS.out, TS.out]; rfl
                  have TP := Lib.hid (tp.set J j1 j4 0)
                  have n1 : w.heap.size ≠ gp := by omega
                  have n2 : w.heap.size + 1 ≠ gp := by omega
                  have n3 : gx ≠ gp := by omega
                  have B8 := Lib.hid (b9.setCell (p := ⟨gp, J.toNat, none⟩) (by simp; omega) (.int .u8 0))
                  have T1 := Lib.hid (t1.far (p := ⟨gp, J.toNat, none⟩) n1 (.int .u8 0))
                  have T2 := Lib.hid (t2.far (p := ⟨gp, J.toNat, none⟩) n2 (.int .u8 0))
                  have TX := Lib.hid (tx.far (p := ⟨gp, J.toNat, none⟩) n3 (.int .u8 0))
                  clear tp XS TS b9 t1 t2 tx
                  go_wp2_with fail
                  go_roundw
                  case rel => exact ⟨x + 1, true, by omega, by go_num, rfl, by rw [XS2.out]; exact CH2.out, B8.out, T1.out, T2.out, TX.out, by rw [XS2.out]; exact TP.out⟩
                  case measure => simp [intOf]; omega
            · obtain rfl : x = W := by omega
              go_wp2_with fail
              go_roundw
              case rel => exact ⟨y + 1, b', by omega, by go_num, rfl, by rw [YS.out]; exact hch', b7, r1, r2, rx, by rw [YS.out]; exact rp⟩
              case measure => simp [intOf]; omega
        · have eyH : y = H := by omega
          have PQ : Hid (thP W H q = thY W H W y q) := by show _ = _; rw [eyH]; rfl
          have QY := Lib.hid (thY_01 (W := W) (H := H) (Wn := W) Q01.out y)
          clear eyH
          generalize thY W H W y q = q' at *
          have NQ : Hid ((∃ m, q' = thI W H m p) ∧ (b = false → thP W H q' = q') ∧ ∀ i, q' i = 0 ∨ q' i = 1) := by
            obtain ⟨m, e⟩ := hq.out.1
            refine ⟨⟨m + 1, by rw [thI, ← e, PQ.out]⟩, fun h => ?_, QY.out⟩
            rw [hch.out.1 h]
            have := PQ.out
            rw [hch.out.1 h] at this
            exact this
          have OP := Lib.hid op
          have SM : Hid (boM (.bool b) + (sumN n q').toNat < boM (.bool true) + (sumN n q).toNat) := by
            show _ < _
            cases b with
            | false =>
              rw [hch.out.1 rfl]
              show 0 + _ < 1 + _
              omega
            | true =>
              have h1 := hch.out.2 rfl
              have h2 := (sumN_bd (n := n) (f := q') (m := 1) fun i _ _ => by rcases QY.out i with e | e <;> omega).1
              omega
          clear op hch PQ
          go_wp2_with fail
          go_roundw
          case rel => exact ⟨b, q', rfl, NQ, b6, o1, o2, ox, OP.out⟩
          case measure => rw [SW.out, sumW_arr OP.out]; exact SM.out
    | false =>
      have TH : Hid (Thinned W H p q) := by
        show Thinned _ _ _ _
        exact ⟨hq.out.1, hq.out.2.1 rfl⟩
      have n2 : gp ≠ w.heap.size + 1 := by omega
      obtain ⟨x1, x2, x3⟩ := mx.cells3
      obtain ⟨t1, t2, t3⟩ := m2.cells3
      obtain ⟨f1, f2, f3⟩ := m2.frozen3
      have OP := Lib.hid (((mp.far (p := ⟨w.heap.size + 1, 0, none⟩) n2 (.int .i64 W)).far (p := ⟨w.heap.size + 1, 1, none⟩) n2 (.int .i64 H)).far (p := ⟨w.heap.size + 1, 2, none⟩) n2 (.slice (some ⟨gp, 0, none⟩) n cp))
      have B6 := Lib.hid (((b5.setCell (p := ⟨w.heap.size + 1, 0, none⟩) (by simp) (.int .i64 W)).setCell (p := ⟨w.heap.size + 1, 1, none⟩) (by simp) (.int .i64 H)).setCell (p := ⟨w.heap.size + 1, 2, none⟩) (by simp) (.slice (some ⟨gp, 0, none⟩) n cp))
      have k9 := ((m2.set_ 0 (.int .i64 W)).set_ 1 (.int .i64 H)).set_ 2 (.slice (some ⟨gp, 0, none⟩) n cp)
      obtain ⟨s1, s2, s3⟩ := Blk.cells3 (a := .int .i64 W) (b := .int .i64 H) (c := .slice (some ⟨gp, 0, none⟩) n cp) k9
      clear mp b5 m1 m2 mx k9 SW
      go_wp2_with fail
      refine bodyPost_ret (v := .agg #[.int .i64 W, .int .i64 H, .slice (some ⟨gp, 0, none⟩) n cp]) (by simp [results, Tryd.results23, go_sem, s1, s2, s3]) rfl ?_
      first | exact ⟨_, rfl, ⟨gp, cp, q, rfl, by omega, TH.out, OP.out⟩, B6.out⟩ | exact ⟨_, rfl, ⟨gp, ⟨cp, rfl⟩, by omega, q, TH.out, OP.out⟩, B6.out⟩
set_option maxRecDepth 100000 in
set_option maxHeartbeats 4000000 in
theorem rthin_zero (W H : Nat) (A : Option Addr) (c : Nat) (p : Int → Int) (w : World) (hW : W ≤ 640) (hH : H ≤ 640) (hn : 0 = W * H) (hc : A = none → c = 0) :
    Calls Tryd.prog 23 #[.agg #[.int .i64 W, .int .i64 H, .slice A (0 : Nat) c]] w (New w fun v w' => ∃ A' c', v = .agg #[.int .i64 W, .int .i64 H, .slice A' (0 : Nat) c']) := by
  have CI := Lib.hid fun w' => copyInk_any W H A 0 c p w' ArrB.nil hc (by omega)
  have b1 : Below w.heap.size w ((w.alloc (.cells #[.int .i64 W, .int .i64 H, .slice A (0 : Nat) c] 24)).alloc (.cells #[.int .i64 0, .int .i64 0, .slice none 0 0] 24)) := by (repeat (first | exact Below.refl _ _ | assumption | refine Below.drew ?_ | refine below_drewN ?_ _ | refine Below.alloc ?_ (by first | omega | (simp; done) | (simp; omega)) _ | refine Below.setCell ?_ (by first | omega | (simp; done) | (simp; omega)) _ | refine below_setRow ?_ (by first | omega | (simp; done) | (simp; omega)) _ ))
  have k1 : Blk ((w.alloc (.cells #[.int .i64 W, .int .i64 H, .slice A (0 : Nat) c] 24)).alloc (.cells #[.int .i64 0, .int .i64 0, .slice none 0 0] 24)) w.heap.size 24 #[.int .i64 W, .int .i64 H, .slice A (0 : Nat) c] := (Blk.new _ _ _).alloc _
  have k2 : Blk ((w.alloc (.cells #[.int .i64 W, .int .i64 H, .slice A (0 : Nat) c] 24)).alloc (.cells #[.int .i64 0, .int .i64 0, .slice none 0 0] 24)) (w.heap.size + 1) 24 #[.int .i64 0, .int .i64 0, .slice none 0 0] := Blk.new' (by simp) _ _
  have hz : W = 0 ∨ H = 0 := Nat.mul_eq_zero.1 hn.symm
  clear hn
  go_enter Tryd.func23, Tryd.ntmps23
  go_wp2_with fail
  generalize (w.alloc (.cells #[.int .i64 W, .int .i64 H, .slice A (0 : Nat) c] 24)).alloc (.cells #[.int .i64 0, .int .i64 0, .slice none 0 0] 24) = w1 at *
  refine (CI.out _).mono ?_
  rintro e w3 ⟨_, rfl, ⟨_, rfl, A', c', rfl, hca, hna, hga, aa⟩, hb2⟩
  have b3 := below_call b1 b1.size hb2
  obtain ⟨gx, hgx⟩ : ∃ g, w3.heap.size = g := ⟨_, rfl⟩
  have kx : Blk (w3.alloc (.cells #[.int .i64 W, .int .i64 H, .slice A' (0 : Nat) c'] 24)) gx 24 #[.int .i64 W, .int .i64 H, .slice A' (0 : Nat) c'] := Blk.new' hgx _ _
  replace k1 := (k1.below' hb2).alloc (.cells #[.int .i64 W, .int .i64 H, .slice A' (0 : Nat) c'] 24)
  replace k2 := (k2.below' hb2).alloc (.cells #[.int .i64 W, .int .i64 H, .slice A' (0 : Nat) c'] 24)
  have b4 := b3.alloc b3.size (.cells #[.int .i64 W, .int .i64 H, .slice A' (0 : Nat) c'] 24)
  clear b1 hb2 CI b3 hca hna hga aa
  go_upto_region 3 with fail
  generalize w3.alloc (.cells #[.int .i64 W, .int .i64 H, .slice A' (0 : Nat) c'] 24) = w4 at *
  clear hgx
  go_wp2_with fail
  go_loopw [4] (fun s wr => ∃ b : Bool, s = .bool b ∧ wr = w4) (fun s _ => boM s)
  case atStart => exact ⟨true, rfl, rfl⟩
  case round =>
    obtain ⟨b, rfl, rfl⟩ := hrel
    obtain ⟨p1, p2, p3⟩ := k1.cells3
    cases b with
    | true =>
      go_wp2_with fail
      go_loopw [4, 5] (fun t s wx => ∃ y : Nat, y ≤ H ∧ s = .int .i64 y ∧ t = .bool false ∧ wx = wr) (fun _ s _ => H - (intOf s).toNat)
      case atStart => exact ⟨0, by omega, rfl, rfl, rfl⟩
      case round =>
        obtain ⟨y, hy, rfl, rfl, e⟩ := hrel
        subst e
        by_cases hlt : (y : Int) < H
        · have hW0 : ¬ (0 : Int) < (W : Int) := by omega
          have hW1 : decide ((0 : Int) < (W : Int)) = false := decide_eq_false hW0
          clear hz
          go_wp2_with fail
          go_loopw [4, 6] (fun t s wx => s = .int .i64 0 ∧ t = .bool false ∧ wx = wr) (fun _ s _ => 0)
          case atStart => exact ⟨rfl, rfl, rfl⟩
          case round =>
            obtain ⟨rfl, rfl, e⟩ := hrel
            subst e
            go_wp2_with fail
            go_roundw
            case rel => exact ⟨y + 1, by omega, by go_num, rfl, by first | rfl | trivial⟩
            case measure => simp [intOf]; omega
        · go_wp2_with fail
          go_roundw
          case rel => exact ⟨false, rfl, by first | rfl | trivial⟩
          case measure => show 0 < 1; omega
    | false =>
      obtain ⟨x1, x2, x3⟩ := kx.cells3
      obtain ⟨t1, t2, t3⟩ := k2.cells3
      obtain ⟨f1, f2, f3⟩ := k2.frozen3
      have B6 := Lib.hid (((b4.setCell (p := ⟨w.heap.size + 1, 0, none⟩) (by simp) (.int .i64 W)).setCell (p := ⟨w.heap.size + 1, 1, none⟩) (by simp) (.int .i64 H)).setCell (p := ⟨w.heap.size + 1, 2, none⟩) (by simp) (.slice A' (0 : Nat) c'))
      have k9 := ((k2.set_ 0 (.int .i64 W)).set_ 1 (.int .i64 H)).set_ 2 (.slice A' (0 : Nat) c')
      obtain ⟨s1, s2, s3⟩ := Blk.cells3 (a := .int .i64 W) (b := .int .i64 H) (c := .slice A' (0 : Nat) c') k9
      clear b4 k1 k2 kx k9
      go_wp2_with fail
      refine bodyPost_ret (v := .agg #[.int .i64 W, .int .i64 H, .slice A' (0 : Nat) c']) (by simp [results, Tryd.results23, go_sem, s1, s2, s3]) rfl ?_
      exact ⟨_, rfl, ⟨A', c', rfl⟩, B6.out⟩
theorem rthin_any (W H : Nat) (A : Option Addr) (n c : Nat) (p : Int → Int) (w : World) (hA : ArrB w w.heap.size A n p) (hc : A = none → c = 0) (hW : W ≤ 640) (hH : H ≤ 640) (hn : n = W * H) (hp : ∀ i, p i = 0 ∨ p i = 1) :
    Calls Tryd.prog 23 #[.agg #[.int .i64 W, .int .i64 H, .slice A n c]] w (New w fun v w' => ∃ A' c' q, v = .agg #[.int .i64 W, .int .i64 H, .slice A' n c'] ∧ Thinned W H p q ∧ ArrB w' w'.heap.size A' n q) := by
  rcases Nat.eq_zero_or_pos n with h | h
  · subst h
    refine (rthin_zero W H A c p w hW hH hn hc).mono ?_
    rintro e w' ⟨_, rfl, ⟨A', c', rfl⟩, hb⟩
    exact ⟨_, rfl, ⟨A', c', p, rfl, thinned_zero hn.symm p, ArrB.nil⟩, hb⟩
  · refine (rthin_pos W H A n c p w hA hW hH hn h hp).mono ?_
    rintro e w' ⟨_, rfl, ⟨g, c', q, rfl, hg, ht, ho⟩, hb⟩
    exact ⟨_, rfl, ⟨_, c', q, rfl, ht, ho.arr⟩, hb⟩
end Go.Proofs.YtoonkpjddfiopaaDoor

/- Plain laws: the threshold by all pairs of levels is the threshold by one pass. No program in sight. -/
namespace Go.Proofs.YtoonkpjddfiopaaDoor
open Go.RowKit
set_option linter.unusedVariables false

theorem first_occ (c : Int → Int) (a : Nat) (h : a ≤ 256) : ∃ m : Nat, a ≤ m ∧ m ≤ 256 ∧ (∀ j : Nat, a ≤ j → j < m → c j = 0) ∧ (m < 256 → c m ≠ 0) := by
  by_cases e : a = 256
  · exact ⟨a, by omega, by omega, fun j h1 h2 => by omega, fun h => by omega⟩
  · by_cases hc : c a = 0
    · obtain ⟨m, h1, h2, h3, h4⟩ := first_occ c (a + 1) (by omega)
      refine ⟨m, by omega, h2, fun j j1 j2 => ?_, h4⟩
      by_cases ej : j = a
      · subst ej; exact hc
      · exact h3 j (by omega) j2
    · exact ⟨a, by omega, by omega, fun j h1 h2 => by omega, fun _ => hc⟩
termination_by 256 - a
theorem levP_skip (c : Int → Int) (a m : Nat) (h : a ≤ m) (hz : ∀ j : Nat, a ≤ j → j < m → c j = 0) : levP c m = levP c a := by
  induction m with
  | zero => obtain rfl : a = 0 := by omega
            rfl
  | succ m ih =>
    by_cases e : a = m + 1
    · rw [e]
    · rw [levP, if_pos (hz m (by omega) (by omega))]
      exact ih (by omega) fun j h1 h2 => hz j h1 (by omega)
/-- the pairs that begin before the level a are done; m is the first level that occurs from a on -/
structure RL (c : Int → Int) (a m : Nat) (o b : Int) : Prop where
  le : a ≤ m
  top : m ≤ 256
  gap : ∀ j : Nat, a ≤ j → j < m → c j = 0
  occ : m < 256 → c m ≠ 0
  o : o = (levP c (min (m + 1) 256)).1
  b : b = (levP c (min (m + 1) 256)).2.1
theorem RL.start (c : Int → Int) : ∃ m, RL c 0 m 128 0 := by
  obtain ⟨m, h1, h2, h3, h4⟩ := first_occ c 0 (by omega)
  have hs := levP_skip c 0 m h1 h3
  by_cases e : m < 256
  · have hl : levP c (m + 1) = (128, 0, (m : Int)) := by
      rw [levP, if_neg (h4 e), hs]
      simp [levP]
    refine ⟨m, h1, h2, h3, h4, ?_, ?_⟩ <;> rw [Nat.min_eq_left (by omega), hl]
  · obtain rfl : m = 256 := by omega
    refine ⟨256, h1, h2, h3, h4, ?_, ?_⟩ <;> rw [Nat.min_eq_right (by omega), hs] <;> rfl
theorem RL.skip {c : Int → Int} {a m : Nat} {o b : Int} (h : RL c a m o b) (ha : a < 256) (hc : c a = 0) : RL c (a + 1) m o b := by
  have : a ≠ m := by rintro rfl; exact h.occ ha hc
  have := h.le
  exact ⟨by omega, h.top, fun j h1 h2 => h.gap j (by omega) h2, h.occ, h.o, h.b⟩
theorem RL.here {c : Int → Int} {a m : Nat} {o b : Int} (h : RL c a m o b) (ha : a < 256) (hc : c a ≠ 0) : levP c (a + 1) = (o, b, (a : Int)) := by
  have h1 := h.le
  have : m = a := by
    by_cases e : m = a
    · exact e
    · exact absurd (h.gap a (by omega) (by omega)) hc
  subst this
  have ho := h.o; have hb := h.b
  rw [Nat.min_eq_left (by omega)] at ho hb
  rw [ho, hb]
  have h3 : (levP c (m + 1)).2.2 = m := by
    rw [levP, if_neg hc]; split <;> rfl
  rw [← h3]
theorem RL.next {c : Int → Int} {a m : Nat} {o b : Int} (h : RL c a m o b) (ha : a < 256) (hc : c a ≠ 0) {k : Nat} (h1 : a < k) (hk : k < 256) (hz : ∀ j : Nat, a < j → j < k → c j = 0) (hck : c k ≠ 0) :
    RL c (a + 1) k (if b < (k : Int) - a then ((a : Int) + k + 1) / 2 else o) (if b < (k : Int) - a then (k : Int) - a else b) := by
  have hl := h.here ha hc
  have hs := levP_skip c (a + 1) k (by omega) fun j j1 j2 => hz j (by omega) j2
  rw [hl] at hs
  have e : levP c (k + 1) = if b < (k : Int) - a then (((a : Int) + k + 1) / 2, (k : Int) - a, (k : Int)) else (o, b, (k : Int)) := by
    rw [levP, if_neg hck, hs]
    by_cases hb : b < (k : Int) - a
    · simp [hb]
    · simp [hb]
  refine ⟨by omega, by omega, fun j j1 j2 => hz j (by omega) j2, fun _ => hck, ?_, ?_⟩ <;> rw [Nat.min_eq_left (by omega), e] <;> split <;> rfl
theorem RL.none {c : Int → Int} {a m : Nat} {o b : Int} (h : RL c a m o b) (ha : a < 256) (hc : c a ≠ 0) (hz : ∀ j : Nat, a < j → j < 256 → c j = 0) : RL c (a + 1) 256 o b := by
  have hl := h.here ha hc
  have hs := levP_skip c (a + 1) 256 (by omega) fun j j1 j2 => hz j (by omega) j2
  rw [hl] at hs
  refine ⟨by omega, by omega, fun j j1 j2 => hz j (by omega) j2, fun h => by omega, ?_, ?_⟩ <;> rw [Nat.min_eq_right (by omega), hs]
theorem RL.end_ {c : Int → Int} {m : Nat} {o b : Int} (h : RL c 256 m o b) : o = (levP c 256).1 := by
  have h1 := h.le; have h2 := h.top
  rw [h.o, Nat.min_eq_right (by omega)]
theorem RL.bd {c : Int → Int} {a m : Nat} {o b : Int} (h : RL c a m o b) : 0 ≤ o ∧ o ≤ 384 ∧ 0 ≤ b ∧ b ≤ 256 := by
  have hm := Nat.min_le_right (m + 1) 256
  rw [h.o, h.b]
  obtain ⟨d1, d2, d3, d4, d5, d6⟩ := levP_bd c (min (m + 1) 256)
  omega
end Go.Proofs.YtoonkpjddfiopaaDoor

/- Walks: copies of grey images; the reference's threshold; the image of two levels. -/
namespace Go.Proofs.YtoonkpjddfiopaaDoor
open Go.RowKit
set_option linter.unusedVariables false

set_option maxHeartbeats 1000000 in
theorem copyGrey_any (W H : Int) (A : Option Addr) (n c : Nat) (p : Int → Int) (w : World) (hA : ArrB w w.heap.size A n p) (hc : A = none → c = 0) (hn : n ≤ 140737488355328) :
    Calls Tryd.prog 32 #[.agg #[.int .i64 W, .int .i64 H, .slice A n c]] w (New w fun v w' => OutCopy w w' W H n p v) := by
  have CB := Lib.hid fun w' hA' => copyBytes_any A n c p w' hA' hc hn
  clear hc
  go_enter Tryd.func32, Tryd.ntmps32
  go_wp2_with fail
  have k1 := (Blk.new w 55 #[.int .i64 W, .int .i64 H, .slice A n c]).alloc (.cells #[.int .i64 0, .int .i64 0, .slice none 0 0] 55)
  have k2 := Blk.new' (w := w.alloc (.cells #[.int .i64 W, .int .i64 H, .slice A n c] 55)) (World.size_alloc _ _) 55 #[.int .i64 0, .int .i64 0, .slice none 0 0]
  have b1 : Below w.heap.size w ((w.alloc (.cells #[.int .i64 W, .int .i64 H, .slice A n c] 55)).alloc (.cells #[.int .i64 0, .int .i64 0, .slice none 0 0] 55)) := by (repeat (first | exact Below.refl _ _ | assumption | refine Below.drew ?_ | refine below_drewN ?_ _ | refine Below.alloc ?_ (by first | omega | (simp; done) | (simp; omega)) _ | refine Below.setCell ?_ (by first | omega | (simp; done) | (simp; omega)) _ | refine below_setRow ?_ (by first | omega | (simp; done) | (simp; omega)) _ ))
  have hA1 := hA.to b1
  generalize (w.alloc (.cells #[.int .i64 W, .int .i64 H, .slice A n c] 55)).alloc (.cells #[.int .i64 0, .int .i64 0, .slice none 0 0] 55) = w1 at *
  clear hA
  have K1 := Lib.hid k1; have K2 := Lib.hid k2; have B1 := Lib.hid b1; have A1 := Lib.hid hA1
  obtain ⟨p1, p2, p3⟩ := k1.cells3
  obtain ⟨r1, r2, r3⟩ := k2.cells3
  obtain ⟨f1, f2, f3⟩ := k2.frozen3
  clear k1 k2 b1 hA1
  go_region_held3 (fun w' => w'.cell? ⟨w.heap.size, 0, none⟩ = some (.int .i64 W) ∧ w'.cell? ⟨w.heap.size, 1, none⟩ = some (.int .i64 H) ∧ w'.cell? ⟨w.heap.size, 2, none⟩ = some (.slice A n c))
    (simp [go_sem, *])
    (first
      | (go_at_call 77; refine (CB.out _ A1.out.drew).mono ?_; rintro e w2 ⟨_, rfl, ⟨A', c', rfl, hc', hnil', hge', ha'⟩, hb2⟩
         have k3 := K1.out.drew.below' hb2; have k4 := K2.out.drew.below' hb2
         obtain ⟨x1, x2, x3⟩ := k3.cells3; obtain ⟨y1, y2, y3⟩ := k4.cells3; obtain ⟨z1, z2, z3⟩ := k4.frozen3
         have b2 : Below w.heap.size w w2 := B1.out.drew.trans (hb2.mono B1.out.size)
         have z2 := K2.out.lt))
  go_wp2
  refine bodyPost_ret (v := .agg #[.int .i64 W, .int .i64 H, .slice A' n c']) (by simp [results, Tryd.results32, go_sem, y1, y2, y3]) rfl ?_
  have hfar : ∀ i, ∀ a, A' = some a → a.block ≠ (⟨w.heap.size + 1, i, none⟩ : Addr).block := fun i a e h => by
    have := hge' a e
    simp at h this
    omega
  refine ⟨_, rfl, ⟨_, rfl, A', c', rfl, hc', hnil', fun a e => ?_, ?_⟩, by (repeat (first | exact Below.refl _ _ | assumption | refine Below.drew ?_ | refine below_drewN ?_ _ | refine Below.alloc ?_ (by first | omega | (simp; done) | (simp; omega)) _ | refine Below.setCell ?_ (by first | omega | (simp; done) | (simp; omega)) _ | refine below_setRow ?_ (by first | omega | (simp; done) | (simp; omega)) _ ))⟩
  · have := hge' a e; have := B1.out.size; simp at *; omega
  · simpa using ((ha'.far (hfar 0) _).far (hfar 1) _).far (hfar 2) _

set_option maxHeartbeats 1000000 in
theorem sameGrey_any (W H W' H' : Int) (A B : Option Addr) (n m c d : Nat) (p q : Int → Int) (w : World) (hA : ArrB w w.heap.size A n p) (hB : ArrB w w.heap.size B m q) (hn : n ≤ maxLen) (hm : m ≤ maxLen) :
    Calls Tryd.prog 39 #[.agg #[.int .i64 W, .int .i64 H, .slice A n c], .agg #[.int .i64 W', .int .i64 H', .slice B m d]] w
      fun e w' => e = .returned (.bool (decide (W = W') && decide (H = H') && sameB n m p q)) ∧ Below w.heap.size w w' := by
  have SA := Lib.hid fun w1 h1 h2 => sameBytes_any A B n m c d p q w1 h1 h2 hn hm
  by_cases hW : W = W'
  · subst hW
    by_cases hH : H = H'
    · subst hH
      have hr : Hid ((decide (W = W) && decide (H = H) && sameB n m p q) = sameB n m p q) := by show _ = _; simp
      rw [hr.out]
      go_enter Tryd.func39, Tryd.ntmps39
      go_wp2_with fail
      refine (SA.out _ (hA.to (by (repeat (first | exact Below.refl _ _ | assumption | refine Below.drew ?_ | refine below_drewN ?_ _ | refine Below.alloc ?_ (by first | omega | (simp; done) | (simp; omega)) _ | refine Below.setCell ?_ (by first | omega | (simp; done) | (simp; omega)) _ | refine below_setRow ?_ (by first | omega | (simp; done) | (simp; omega)) _ )))) (hB.to (by (repeat (first | exact Below.refl _ _ | assumption | refine Below.drew ?_ | refine below_drewN ?_ _ | refine Below.alloc ?_ (by first | omega | (simp; done) | (simp; omega)) _ | refine Below.setCell ?_ (by first | omega | (simp; done) | (simp; omega)) _ | refine below_setRow ?_ (by first | omega | (simp; done) | (simp; omega)) _ ))))).mono ?_
      rintro e w' ⟨rfl, k, rfl⟩
      generalize hb : sameB n m p q = b
      have HBB := Lib.hid hb; clear hb
      cases b <;> (go_wp2; go_ret; exact ⟨ret_bool HBB.out.symm, by (repeat (first | exact Below.refl _ _ | assumption | refine Below.drew ?_ | refine below_drewN ?_ _ | refine Below.alloc ?_ (by first | omega | (simp; done) | (simp; omega)) _ | refine Below.setCell ?_ (by first | omega | (simp; done) | (simp; omega)) _ | refine below_setRow ?_ (by first | omega | (simp; done) | (simp; omega)) _ ))⟩)
    · have hb : (H == H') = false := by simp [hH]
      have hr : Hid ((decide (W = W) && decide (H = H') && sameB n m p q) = false) := by show _ = _; simp [hH]
      rw [hr.out]
      have HH := Lib.hid hH; clear hH
      go_enter Tryd.func39, Tryd.ntmps39
      go_wp2
      go_ret
      exact ⟨rfl, by (repeat (first | exact Below.refl _ _ | assumption | refine Below.drew ?_ | refine below_drewN ?_ _ | refine Below.alloc ?_ (by first | omega | (simp; done) | (simp; omega)) _ | refine Below.setCell ?_ (by first | omega | (simp; done) | (simp; omega)) _ | refine below_setRow ?_ (by first | omega | (simp; done) | (simp; omega)) _ ))⟩
  · have hb : (W == W') = false := by simp [hW]
    have hr : Hid ((decide (W = W') && decide (H = H') && sameB n m p q) = false) := by show _ = _; simp [hW]
    rw [hr.out]
    have HW := Lib.hid hW; clear hW
    go_enter Tryd.func39, Tryd.ntmps39
    go_wp2
    go_ret
    exact ⟨rfl, by (repeat (first | exact Below.refl _ _ | assumption | refine Below.drew ?_ | refine below_drewN ?_ _ | refine Below.alloc ?_ (by first | omega | (simp; done) | (simp; omega)) _ | refine Below.setCell ?_ (by first | omega | (simp; done) | (simp; omega)) _ | refine below_setRow ?_ (by first | omega | (simp; done) | (simp; omega)) _ ))⟩

theorem sameGrey_true (W H : Int) (A B : Option Addr) (n c d : Nat) (p q : Int → Int) (w : World) (hA : ArrB w w.heap.size A n p) (hB : ArrB w w.heap.size B n q) (hn : n ≤ maxLen) (he : ∀ i : Int, 0 ≤ i → i < n → p i = q i) :
    Calls Tryd.prog 39 #[.agg #[.int .i64 W, .int .i64 H, .slice A n c], .agg #[.int .i64 W, .int .i64 H, .slice B n d]] w
      fun e w' => e = .returned (.bool true) ∧ Below w.heap.size w w' :=
  (sameGrey_any W H W H A B n n c d p q w hA hB hn hn).mono fun e w' ⟨h, hb⟩ => ⟨by rw [h, sameB_iff.2 ⟨rfl, he⟩]; simp, hb⟩

set_option maxHeartbeats 1000000 in
theorem rlevels_any (W H : Int) (A : Option Addr) (n c : Nat) (p : Int → Int) (w : World) (hA : ArrB w w.heap.size A n p) (hn : n ≤ maxLen) (hB : IsB p) :
    Calls Tryd.prog 38 #[.agg #[.int .i64 W, .int .i64 H, .slice A n c]] w
      (New w fun v w' => ∃ g, v = .slice (some ⟨g, 0, none⟩) 256 256 ∧ w.heap.size ≤ g ∧ Blk w' g 3 (i64s 256 (cntS n p))) := by
  have hmk := make256
  unfold maxLen at hn
  go_enter Tryd.func38, Tryd.ntmps38
  go_wp2_with fail
  go_loopw [4] (fun s wr => ∃ i : Nat, i ≤ n ∧ s = .int .i64 i ∧ Below w.heap.size w wr ∧ Blk wr w.heap.size 55 #[.int .i64 W, .int .i64 H, .slice A n c] ∧ Blk wr (w.heap.size + 1) 3 (i64s 256 (cntS i p))) (fun s _ => n - (intOf s).toNat)
  case atStart => exact ⟨0, by omega, rfl, by (repeat (first | exact Below.refl _ _ | assumption | refine Below.drew ?_ | refine below_drewN ?_ _ | refine Below.alloc ?_ (by first | omega | (simp; done) | (simp; omega)) _ | refine Below.setCell ?_ (by first | omega | (simp; done) | (simp; omega)) _ | refine below_setRow ?_ (by first | omega | (simp; done) | (simp; omega)) _ )), (Blk.new _ _ _).alloc _, Blk.new' (by simp) _ _⟩
  case round =>
    obtain ⟨i, hi, rfl, b2, k1, kr⟩ := hrel
    clear hmk
    obtain ⟨p1, p2, p3⟩ := k1.cells3
    by_cases hlt : i < n
    · have hi0 : (0 : Int) ≤ i := by omega
      have hiN : (i : Int) < n := by omega
      obtain ⟨pb1, pb2⟩ := hB i
      obtain ⟨b, off, rfl, hbB, hcell⟩ := ArrB.at_ (ArrB.below hA b2) hi0 hiN
      rw [Int.toNat_natCast] at hcell
      have hr := kr.i64at pb1 (by omega)
      have fr := kr.frozen (p i).toNat
      have SR := Lib.hid (fun v => cntS_step (n := i) (p := p) v)
      obtain ⟨c1, c2⟩ := cntS_bd i p (p i)
      have UR := Lib.hid (kr.i64set _ pb1 (cntS i p (p i) + 1))
      go_wp2
      go_roundw
      case rel => exact ⟨i + 1, by omega, by go_num, by (repeat (first | exact Below.refl _ _ | assumption | refine Below.drew ?_ | refine below_drewN ?_ _ | refine Below.alloc ?_ (by first | omega | (simp; done) | (simp; omega)) _ | refine Below.setCell ?_ (by first | omega | (simp; done) | (simp; omega)) _ | refine below_setRow ?_ (by first | omega | (simp; done) | (simp; omega)) _ )), k1.far (by simp) _, UR.out.i64conv fun v _ _ => SR.out v⟩
      case measure => simp [intOf]; omega
    · obtain rfl : i = n := by omega
      go_wp2
      go_ret
      exact ⟨_, rfl, ⟨_, rfl, by omega, kr⟩, b2⟩

/-! ### clean.Grey -/
def greyQ (p : Int → Int) (d l : Int) : Int → Int := fun i => if p i = 1 then d else l
def greyP (p : Int → Int) (d l : Int) (k : Nat) : Int → Int := fun i => if i < k then greyQ p d l i else 0
theorem greyP_l {p : Int → Int} {d l : Int} {k : Nat} (h : p k ≠ 1) (i : Int) : upd (greyP p d l k) k l i = greyP p d l (k + 1) i := by
  unfold upd greyP
  by_cases e : i = k
  · subst e; rw [if_pos rfl, if_pos (by omega)]; unfold greyQ; rw [if_neg h]
  · rw [if_neg e]
    by_cases h2 : i < k
    · rw [if_pos h2, if_pos (by omega)]
    · rw [if_neg h2, if_neg (by omega)]
theorem greyP_d {p : Int → Int} {d l x : Int} {k : Nat} (h : p k = 1) (i : Int) : upd (upd (greyP p d l k) k x) k d i = greyP p d l (k + 1) i := by
  unfold upd greyP
  by_cases e : i = k
  · subst e; rw [if_pos rfl, if_pos (by omega)]; unfold greyQ; rw [if_pos h]
  · rw [if_neg e]
    show (if i = (k : Int) then x else _) = _
    rw [if_neg e]
    by_cases h2 : i < k
    · rw [if_pos h2, if_pos (by omega)]
    · rw [if_neg h2, if_neg (by omega)]
theorem greyP_end {p : Int → Int} {d l : Int} {n : Nat} {i : Int} (h : i < n) : greyP p d l n i = greyQ p d l i := by unfold greyP; rw [if_pos h]

end Go.Proofs.YtoonkpjddfiopaaDoor
