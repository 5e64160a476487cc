/- Texts of mine in build order: B2, B0, B3, G4, S1, S2, S3, W21, T1, T4, T2, T3, T5, T6, T8, T10, G1, C1, C2, C3, C4. Conditions: each theorem's own. -/
import Derived.Test.YtoonkpjddfiopaaMCleanRecipesx3
import Derived.Deep.RegionHeld3
import Derived.BigQuiet
import Derived.Deep.QuietTactic
import Derived.StillTailTactics
import Derived.RangeFuncNested
import Derived.RangeFuncFrom
/- Walk: an image made pixel by pixel by a function value (image.made). -/
namespace Go.Proofs.Ytoonkpjddfiopaa
open Go.RowKit
set_option linter.unusedVariables false
attribute [local go_sem] Oper.semAt_some

/-- pixel by pixel -/
def byPix (W : Int) (f : Int → Int → Int) : Int → Int := fun i => f (i % W) (i / W)
theorem byPix_at {W x y : Int} {f : Int → Int → Int} (x0 : 0 ≤ x) (x1 : x < W) : byPix W f (y * W + x) = f x y := by
  unfold byPix; rw [idx_mod x0 x1, idx_div x0 x1]
theorem OutImg.outN {w w' : World} {W H : Int} {N : Nat} {q : Int → Int} {v : Value} (h : OutImg w w' W H q v) (hN : (N : Int) = W * H) : OutN w w' W H N q v := by
  obtain ⟨g, rfl, hg, hk⟩ := h
  obtain rfl : (W * H).toNat = N := by omega
  exact ⟨g, rfl, hg, hk⟩
set_option maxRecDepth 100000 in
set_option maxHeartbeats 4000000 in
theorem pixmade_any (W H : Int) (N : Nat) (fid : Nat) (cap : Array Value) (f : Int → Int → Int) (w : World) (hent : ∀ args w, (callFunc fid args).run Try.prog w = .ok (.enter fid args) w) (h1 : 0 ≤ W) (h2 : W ≤ 640) (h3 : 0 ≤ H) (h4 : H ≤ 640) (hN : (N : Int) = W * H)
    (hf : ∀ x y w', 0 ≤ x → x < W → 0 ≤ y → y < H → Below w.heap.size w w' → Calls Try.prog fid (#[.int .i64 x, .int .i64 y] ++ cap) w' fun e w'' => e = .returned (.int .u8 (f x y)) ∧ Below w'.heap.size w' w'') :
    Calls Try.prog 70 #[.int .i64 W, .int .i64 H, .func (.func fid) #[] cap] w (New w fun v w' => OutN w w' W H N (byPix W f) v) := by
  have HF := Lib.hid hf
  have BL := Lib.hid fun w' => (blank_any W H w' h1 h2 h3 h4).mono fun e w'' (⟨v, he, ho, hb⟩ : New w' (fun v w'' => OutImg w' w'' W H (fun _ => 0) v) e w'') => (show New w' (fun v w'' => OutN w' w'' W H N (fun _ => 0) v) e w'' from ⟨v, he, ho.outN hN, hb⟩)
  have HN := Lib.hid hN
  have nb := (area_bd h1 h2 h3 h4).2
  clear hf hN
  go_enter Try.func70, Try.ntmps70
  go_wp2_with fail
  refine (BL.out _).mono ?_
  rintro e w1 ⟨_, rfl, ⟨gp, rfl, hgp, kp⟩, hb1⟩
  have z0 : w.heap.size < w1.heap.size := by have := hb1.size; simp at this; omega
  have z1 : w.heap.size < gp := by simp at hgp; omega
  have z2 := kp.lt
  have k6 : Blk w1 w.heap.size 29 #[.int .i64 0, .int .i64 0, .slice none 0 0] := (Blk.new _ _ _).below' hb1
  have b1 : Below w.heap.size w w1 := below_call (by (repeat (first | exact Below.refl _ _ | assumption | refine Below.drew ?_ | refine below_drewN ?_ _ | refine Below.alloc ?_ (by first | omega | (simp; done) | (simp; omega)) _ | refine Below.setCell ?_ (by first | omega | (simp; done) | (simp; omega)) _ | refine below_setRow ?_ (by first | omega | (simp; done) | (simp; omega)) _ ))) (by simp) hb1
  clear hb1 hgp BL
  have b2 : Below w.heap.size w (w1.alloc (.cells #[.int .i64 W, .int .i64 H, .slice (some ⟨gp, 0, none⟩) N N] 29)) := by (repeat (first | exact Below.refl _ _ | assumption | refine Below.drew ?_ | refine below_drewN ?_ _ | refine Below.alloc ?_ (by first | omega | (simp; done) | (simp; omega)) _ | refine Below.setCell ?_ (by first | omega | (simp; done) | (simp; omega)) _ | refine below_setRow ?_ (by first | omega | (simp; done) | (simp; omega)) _ ))
  have t6 := k6.alloc (.cells #[.int .i64 W, .int .i64 H, .slice (some ⟨gp, 0, none⟩) N N] 29)
  have tx := Blk.new w1 29 #[.int .i64 W, .int .i64 H, .slice (some ⟨gp, 0, none⟩) N N]
  have tp : H = 0 ∨ W = 0 ∨ Blk (w1.alloc (.cells #[.int .i64 W, .int .i64 H, .slice (some ⟨gp, 0, none⟩) N N] 29)) gp 5 (u8s N (byRow W (byPix W f) (fun _ => 0) (0 : Nat) (0 : Nat))) := by
    by_cases hw : W = 0
    · exact .inr (.inl hw)
    · exact .inr (.inr ((kp.alloc _).u8conv fun i i0 _ => (byRow_zero (W := W) (q := byPix W f) (z := fun _ => 0) (by omega) i0).symm))
  have tp0 := kp.alloc (.cells #[.int .i64 W, .int .i64 H, .slice (some ⟨gp, 0, none⟩) N N] 29)
  clear kp b1 k6 tp
  have tp : Blk (w1.alloc (.cells #[.int .i64 W, .int .i64 H, .slice (some ⟨gp, 0, none⟩) N N] 29)) gp 5 (u8s N (byRow W (byPix W f) (fun _ => 0) (0 : Nat) (0 : Nat))) := tp0.u8conv fun i i0 i1 => by
    have hw : 0 < W := by
      rcases Int.lt_or_le 0 W with h | h
      · exact h
      · have : W = 0 := by omega
        subst this
        have := HN.out
        simp at this
        omega
    exact (byRow_zero (W := W) (q := byPix W f) (z := fun _ => 0) hw i0).symm
  have hgx : gp ≠ w1.heap.size := by omega
  clear tp0
  go_wp2_with fail
  generalize w1.alloc (.cells #[.int .i64 W, .int .i64 H, .slice (some ⟨gp, 0, none⟩) N N] 29) = w2 at *
  generalize w1.heap.size = gx at *
  go_loopw [14] (fun s wr => ∃ y : Nat, (y : Int) ≤ H ∧ s = .int .i64 y ∧ Below w.heap.size w wr ∧ Blk wr w.heap.size 29 #[.int .i64 0, .int .i64 0, .slice none 0 0] ∧ Blk wr gx 29 #[.int .i64 W, .int .i64 H, .slice (some ⟨gp, 0, none⟩) N N] ∧ Blk wr gp 5 (u8s N (byRow W (byPix W f) (fun _ => 0) y (0 : Nat)))) (fun s _ => (H - intOf s).toNat)
  case atStart => exact ⟨0, by omega, rfl, b2, t6, tx, tp⟩
  case round =>
    obtain ⟨y, hy, rfl, b3, a6, ax, ap⟩ := hrel
    clear b2 t6 tx tp
    obtain ⟨x1, x2, x3⟩ := ax.cells3
    by_cases yl : (y : Int) < H
    · go_wp2_with fail
      go_loopw [18] (fun s wr => ∃ x : Nat, (x : Int) ≤ W ∧ s = .int .i64 x ∧ Below w.heap.size w wr ∧ Blk wr w.heap.size 29 #[.int .i64 0, .int .i64 0, .slice none 0 0] ∧ Blk wr gx 29 #[.int .i64 W, .int .i64 H, .slice (some ⟨gp, 0, none⟩) N N] ∧ Blk wr gp 5 (u8s N (byRow W (byPix W f) (fun _ => 0) y x))) (fun s _ => (W - intOf s).toNat)
      case atStart => exact ⟨0, by omega, rfl, b3, a6, ax, ap⟩
      case round =>
        obtain ⟨x, hx, rfl, b4, c6, cx, cp⟩ := hrel
        clear x1 x2 x3 b3 a6 ax ap
        obtain ⟨x1, x2, x3⟩ := cx.cells3
        by_cases xl : (x : Int) < W
        · obtain ⟨j1, j2, j3⟩ := idx_lt (x := (x : Int)) (y := (y : Int)) (W := W) (H := H) (by omega) xl (by omega) yl
          rw [Int.mul_comm H W] at j2
          have j4 : (y : Int) * W + x < (N : Int) := by have := HN.out; omega
          have v7 : IntKind.i64.wrap ((y : Int) * W) = (y : Int) * W := IntWalk.i64_in _ (by omega)
          have v8 : IntKind.i64.wrap ((y : Int) * W + x) = (y : Int) * W + x := IntWalk.i64_in _ (by omega)
          have HC := Lib.hid (HF.out x y wr.drew (by omega) xl (by omega) yl b4.drew)
          have HV := Lib.hid (byPix_at (W := W) (x := (x : Int)) (y := (y : Int)) (f := f) (by omega) xl)
          have BS := Lib.hid (fun i => byRow_set (q := byPix W f) (z := fun _ => 0) (W := W) (y := (y : Int)) (i := i) (by omega : (0 : Int) ≤ x) xl)
          go_wp2_with fail
          go_region_held3 (fun w' => w'.cell? ⟨gx, 2, none⟩ = some (.slice (some ⟨gp, 0, none⟩) N N))
            (simp [go_sem, *])
            (first
              | (with_reducible refine Calls.mono HC.out ?_; rintro e w5 ⟨rfl, hb5⟩
                 have d6 := c6.drew.below' hb5; have dx := cx.drew.below' hb5; have dp := cp.drew.below' hb5
                 obtain ⟨y1, y2, y3⟩ := dx.cells3
                 have cg := dp.u8at j1 j4
                 have fg := dp.frozen ((y : Int) * W + x).toNat))
          have b5 := below_call b4.drew b4.drew.size hb5
          have zz := b5.size
          go_wp2
          go_roundw
          case rel =>
            refine ⟨x + 1, by omega, by go_num, b5.setCell (by show w.heap.size ≤ gp; omega) _, d6.far (p := ⟨gp, ((y : Int) * W + x).toNat, none⟩) (by show w.heap.size ≠ gp; omega) _, dx.far (p := ⟨gp, ((y : Int) * W + x).toNat, none⟩) (fun e => hgx e.symm) _, (dp.u8set ((y : Int) * W + x) j1 (f x y)).u8conv fun i _ _ => ?_⟩
            have h := BS.out i
            rw [HV.out] at h
            rw [Int.natCast_add]
            exact h
          case measure => simp [intOf]; omega
        · have ex : (x : Int) = W := by omega
          have cp2 := cp.u8conv (r := byRow W (byPix W f) (fun _ => 0) ((y : Int) + 1) (0 : Nat)) fun i i0 i1 => by
            rw [ex]
            refine byRow_row ?_
            rcases Int.lt_or_le 0 W with h | h
            · exact h
            · have : W = 0 := by omega
              subst this
              have := HN.out
              simp at this
              omega
          clear cp ex
          go_wp2_with fail
          go_roundw
          case rel => exact ⟨y + 1, by omega, by go_num, b4, c6, cx, cp2⟩
          case measure => simp [intOf]; omega
    · have ey : (y : Int) = H := by omega
      obtain ⟨u1, u2, u3⟩ := a6.cells3
      obtain ⟨f1, f2, f3⟩ := a6.frozen3
      have k5 := ((a6.set_ 0 (.int .i64 W)).set_ 1 (.int .i64 H)).set_ 2 (.slice (some ⟨gp, 0, none⟩) N N)
      obtain ⟨s4, s5, s6⟩ := Blk.cells3 (a := .int .i64 W) (b := .int .i64 H) (c := .slice (some ⟨gp, 0, none⟩) N N) k5
      have zz := b3.size
      have g1 : gp ≠ w.heap.size := by omega
      have TP := Lib.hid (ap.u8conv (r := byPix W f) fun i i0 i1 => by
        rw [ey]
        refine byRow_end (h := H) ?_ (by have := HN.out; omega)
        rcases Int.lt_or_le 0 W with h | h
        · exact h
        · have : W = 0 := by omega
          subst this
          have := HN.out
          simp at this
          omega)
      clear ap ey
      go_wp2_with fail
      refine bodyPost_ret (v := .agg #[.int .i64 W, .int .i64 H, .slice (some ⟨gp, 0, none⟩) N N]) (by simp [results, Try.results70, go_sem, s4, s5, s6]) rfl ?_
      exact ⟨_, rfl, OutN.mk (by omega) (Blk.far (Blk.far (Blk.far TP.out (p := ⟨w.heap.size, 0, none⟩) g1 (.int .i64 W)) (p := ⟨w.heap.size, 1, none⟩) g1 (.int .i64 H)) (p := ⟨w.heap.size, 2, none⟩) g1 (.slice (some ⟨gp, 0, none⟩) N N)), by (repeat (first | exact Below.refl _ _ | assumption | refine Below.drew ?_ | refine below_drewN ?_ _ | refine Below.alloc ?_ (by first | omega | (simp; done) | (simp; omega)) _ | refine Below.setCell ?_ (by first | omega | (simp; done) | (simp; omega)) _ | refine below_setRow ?_ (by first | omega | (simp; done) | (simp; omega)) _ ))⟩
end Go.Proofs.Ytoonkpjddfiopaa

/- Plain: an image that is made, or none, with an error. No program in sight. -/
namespace Go.Proofs.Ytoonkpjddfiopaa
open Go.RowKit
set_option linter.unusedVariables false
/-- an image over memory made by the call, and an error -/
def OutT (w w' : World) (E W H : Int) (N : Nat) (q : Int → Int) (v : Value) : Prop := ∃ A c, v = .tuple #[.agg #[.int .i64 W, .int .i64 H, .slice A N c], .int .i64 E] ∧ (∀ a, A = some a → w.heap.size ≤ a.block) ∧ ArrB w' w'.heap.size A N q
/-- the sides of an image that is made, or of none -/
def RSize (E W h W2 H2 : Int) (N : Nat) : Prop := (E = 0 → W2 = W ∧ H2 = h ∧ (N : Int) = W * h) ∧ (E ≠ 0 → W2 = 0 ∧ H2 = 0 ∧ N = 0)
theorem rsize_ex (E W h : Int) (hp : E = 0 → 0 ≤ W * h) : ∃ W2 H2 N, RSize E W h W2 H2 N := by
  by_cases hE : E = 0
  · exact ⟨W, h, (W * h).toNat, fun _ => ⟨rfl, rfl, Int.toNat_of_nonneg (hp hE)⟩, fun h => absurd hE h⟩
  · exact ⟨0, 0, 0, fun h => absurd h hE, fun _ => ⟨rfl, rfl, rfl⟩⟩
theorem rsize_le {E W h W2 H2 : Int} {N : Nat} (hs : RSize E W h W2 H2 N) (hb : E = 0 → 0 ≤ W ∧ W ≤ 640 ∧ 0 ≤ h ∧ h ≤ 640) : N ≤ 409600 := by
  by_cases hE : E = 0
  · obtain ⟨-, -, h1⟩ := hs.1 hE
    obtain ⟨a, b, c, d⟩ := hb hE
    have := (area_bd a b c d).2
    omega
  · obtain ⟨-, -, h1⟩ := hs.2 hE
    omega
theorem outT_bad {w w' : World} {E W h W2 H2 : Int} {N : Nat} {q : Int → Int} (hs : RSize E W h W2 H2 N) (hE : E ≠ 0) : OutT w w' E W2 H2 N q (.tuple #[noImg, .int .i64 E]) := by
  obtain ⟨rfl, rfl, rfl⟩ := hs.2 hE
  exact ⟨none, 0, rfl, (fun _ h => by cases h), ArrB.nil⟩
theorem OutN.outT {w w' : World} {W H : Int} {N : Nat} {q : Int → Int} {v : Value} (h : OutN w w' W H N q v) : OutT w w' 0 W H N q (.tuple #[v, .int .i64 0]) := by
  obtain ⟨g, rfl, hg, hk⟩ := h
  exact ⟨_, _, rfl, (fun a e => by cases e; exact hg), hk.arrB hk.lt⟩
theorem OutT.conv {w w' : World} {E W H : Int} {N : Nat} {q r : Int → Int} {v : Value} (h : OutT w w' E W H N q v) (he : ∀ i : Int, 0 ≤ i → i < N → q i = r i) : OutT w w' E W H N r v := by
  obtain ⟨A, c, rfl, hg, ha⟩ := h
  exact ⟨A, c, rfl, hg, ha.congr he⟩
end Go.Proofs.Ytoonkpjddfiopaa

/- Walk: image.Not. -/
namespace Go.Proofs.Ytoonkpjddfiopaa
open Go.RowKit
set_option linter.unusedVariables false
attribute [local go_sem] Oper.semAt_some
end Go.Proofs.Ytoonkpjddfiopaa

/- Walk: image.Threshold. -/
namespace Go.Proofs.Ytoonkpjddfiopaa
open Go.RowKit
set_option linter.unusedVariables false
attribute [local go_sem] Oper.semAt_some
/-- the error of a threshold -/
def thrE (W H : Int) (n : Nat) (lv : Int) : Int := if sidesB W H n then (if lv < 0 ∨ 256 < lv then 1 else 0) else 2
def thrQ (p : Int → Int) (lv : Int) : Int → Int := fun i => if p i < lv then 1 else 0
theorem enterThr1 (args : Array Value) (w : World) : (callFunc 71 args).run Try.prog w = .ok (.enter 71 args) w := by kernel_rfl
set_option maxHeartbeats 1000000 in
theorem thr1_any (W H lv x y : Int) (A : Option Addr) (n c bx bl : Nat) (p : Int → Int) (w : World) (hk : Blk w bx 24 #[.int .i64 W, .int .i64 H, .slice A n c]) (hl : Blk w bl 3 #[.int .i64 lv]) (hA : ArrB w w.heap.size A n p) (hB : IsB p) (h1 : 0 ≤ W) (h2 : W ≤ 640) (h3 : 0 ≤ H) (h4 : H ≤ 640) (hnn : (n : Int) = W * H) (x0 : 0 ≤ x) (x1 : x < W) (y0 : 0 ≤ y) (y1 : y < H) :
    Calls Try.prog 71 #[.int .i64 x, .int .i64 y, .pointer (some ⟨bx, 0, none⟩), .pointer (some ⟨bl, 0, none⟩)] w fun e w' => e = .returned (.int .u8 (if p (y * W + x) < lv then 1 else 0)) ∧ Below w.heap.size w w' := by
  obtain ⟨p1, p2, p3⟩ := hk.cells3
  have p4 := hl.cells1
  obtain ⟨j1, j2, j3⟩ := idx_lt x0 x1 y0 y1
  rw [Int.mul_comm H W] at j2
  have j4 : y * W + x < (n : Int) := by omega
  have nb := (area_bd h1 h2 h3 h4).2
  obtain ⟨b, off, rfl, hb, hc⟩ := ArrB.at_ hA j1 j4
  have q1 := hB (y * W + x)
  generalize p (y * W + x) = v at *
  obtain ⟨q2, q3⟩ := q1
  have v1 : IntKind.i64.wrap (y * W) = y * W := IntWalk.i64_in _ (by omega)
  have v2 : IntKind.i64.wrap (y * W + x) = y * W + x := IntWalk.i64_in _ (by omega)
  have v3 : IntKind.i64.wrap v = v := IntWalk.i64_in _ (by omega)
  clear hnn hA
  by_cases hv : v < lv
  · have e1 : (if v < lv then (1 : Int) else 0) = 1 := if_pos hv
    rw [e1]
    go_enter Try.func71, Try.ntmps71
    go_wp2_with fail
    go_quiet (fail)
    go_wp2_with fail
    go_ret
    exact ⟨rfl, by (repeat (first | exact Below.refl _ _ | assumption | refine Below.drew ?_ | refine below_drewN ?_ _ | refine Below.alloc ?_ (by first | omega | (simp; done) | (simp; omega)) _ | refine Below.setCell ?_ (by first | omega | (simp; done) | (simp; omega)) _ | refine below_setRow ?_ (by first | omega | (simp; done) | (simp; omega)) _ ))⟩
  · have e1 : (if v < lv then (1 : Int) else 0) = 0 := if_neg hv
    rw [e1]
    go_enter Try.func71, Try.ntmps71
    go_wp2_with fail
    go_quiet (fail)
    go_wp2_with fail
    go_ret
    exact ⟨rfl, by (repeat (first | exact Below.refl _ _ | assumption | refine Below.drew ?_ | refine below_drewN ?_ _ | refine Below.alloc ?_ (by first | omega | (simp; done) | (simp; omega)) _ | refine Below.setCell ?_ (by first | omega | (simp; done) | (simp; omega)) _ | refine below_setRow ?_ (by first | omega | (simp; done) | (simp; omega)) _ ))⟩
set_option maxRecDepth 100000 in
set_option maxHeartbeats 2000000 in
theorem thr_all (W H lv : Int) (A : Option Addr) (n c : Nat) (p : Int → Int) (E W2 H2 : Int) (N : Nat) (w : World) (hA : ArrB w w.heap.size A n p) (hB : IsB p) (hE : thrE W H n lv = E) (hs : RSize E W H W2 H2 N) :
    Calls Try.prog 47 #[.agg #[.int .i64 W, .int .i64 H, .slice A n c], .int .i64 lv] w (New w fun v w' => OutT w w' E W2 H2 N (thrQ p lv) v) := by
  have CK := Lib.hid fun w' => checkGrey_any W H A n c w'
  have b1 : Below w.heap.size w (((w.alloc (.cells #[.int .i64 W, .int .i64 H, .slice A n c] 24)).alloc (.cells #[.int .i64 lv] 3)).alloc (.cells #[.int .i64 0, .int .i64 0, .slice none 0 0] 29)) := by (repeat (first | exact Below.refl _ _ | assumption | refine Below.drew ?_ | refine below_drewN ?_ _ | refine Below.alloc ?_ (by first | omega | (simp; done) | (simp; omega)) _ | refine Below.setCell ?_ (by first | omega | (simp; done) | (simp; omega)) _ | refine below_setRow ?_ (by first | omega | (simp; done) | (simp; omega)) _ ))
  have k1 : Blk (((w.alloc (.cells #[.int .i64 W, .int .i64 H, .slice A n c] 24)).alloc (.cells #[.int .i64 lv] 3)).alloc (.cells #[.int .i64 0, .int .i64 0, .slice none 0 0] 29)) w.heap.size 24 #[.int .i64 W, .int .i64 H, .slice A n c] := ((Blk.new _ _ _).alloc _).alloc _
  have k2 : Blk (((w.alloc (.cells #[.int .i64 W, .int .i64 H, .slice A n c] 24)).alloc (.cells #[.int .i64 lv] 3)).alloc (.cells #[.int .i64 0, .int .i64 0, .slice none 0 0] 29)) (w.heap.size + 1) 3 #[.int .i64 lv] := (Blk.new' (by simp) _ _).alloc _
  have k3 : Blk (((w.alloc (.cells #[.int .i64 W, .int .i64 H, .slice A n c] 24)).alloc (.cells #[.int .i64 lv] 3)).alloc (.cells #[.int .i64 0, .int .i64 0, .slice none 0 0] 29)) (w.heap.size + 1 + 1) 29 #[.int .i64 0, .int .i64 0, .slice none 0 0] := Blk.new' (by simp) _ _
  have HS := Lib.hid hs
  cases hsd : sidesB W H n with
  | false =>
    have hE2 : E = 2 := by rw [← hE]; unfold thrE; rw [hsd]; rfl
    subst hE2
    rw [hsd] at CK
    clear hs hE hsd
    go_enter Try.func47, Try.ntmps47
    go_wp2_with fail
    generalize ((w.alloc (.cells #[.int .i64 W, .int .i64 H, .slice A n c] 24)).alloc (.cells #[.int .i64 lv] 3)).alloc (.cells #[.int .i64 0, .int .i64 0, .slice none 0 0] 29) = w1 at *
    refine (CK.out _).mono ?_
    rintro e w2 ⟨rfl, hb2⟩
    have b2 := below_call b1 b1.size hb2
    have k4 := k3.below' hb2
    obtain ⟨r1, r2, r3⟩ := k4.cells3
    obtain ⟨f1, f2, f3⟩ := k4.frozen3
    have k9 := ((k4.set_ 0 (.int .i64 0)).set_ 1 (.int .i64 0)).set_ 2 (.slice none 0 0)
    obtain ⟨s1, s2, s3⟩ := Blk.cells3 (a := .int .i64 0) (b := .int .i64 0) (c := .slice none 0 0) k9
    go_wp2_with fail
    refine bodyPost_ret (v := .tuple #[noImg, .int .i64 2]) (by simp [results, Try.results47, go_sem, noImg, s1, s2, s3]) rfl ?_
    exact ⟨_, rfl, outT_bad HS.out (by decide), by (repeat (first | with_reducible exact Below.refl _ _ | with_reducible assumption | with_reducible refine Below.drew ?_ | (with_reducible refine below_alloc' ?_ ?_; focus (first | omega | (simp; done) | (simp; omega))) | (with_reducible refine below_fill3' ?_ ?_; focus omega) | (with_reducible refine below_setCell' ?_ ?_; focus (first | omega | (simp; done) | (simp; omega))) | (with_reducible apply below_call'; (focus (with_reducible assumption)); (focus (first | omega | (simp; done) | (simp; omega))))))⟩
  | true =>
    rw [hsd] at CK
    obtain ⟨hW1, hW2, hH1, hH2, hnn⟩ := sidesB_iff.1 hsd
    by_cases hl : lv < 0 ∨ 256 < lv
    · have hE2 : E = 1 := by rw [← hE]; unfold thrE; rw [hsd, if_pos rfl, if_pos hl]
      subst hE2
      clear hs hE hsd hnn
      rcases (show lv < 0 ∨ (0 ≤ lv ∧ 256 < lv) by omega) with hl | ⟨hl0, hl⟩
      all_goals
        go_enter Try.func47, Try.ntmps47
        go_wp2_with fail
        generalize ((w.alloc (.cells #[.int .i64 W, .int .i64 H, .slice A n c] 24)).alloc (.cells #[.int .i64 lv] 3)).alloc (.cells #[.int .i64 0, .int .i64 0, .slice none 0 0] 29) = w1 at *
        refine (CK.out _).mono ?_
        rintro e w2 ⟨rfl, hb2⟩
        have b2 := below_call b1 b1.size hb2
        have k4 := k3.below' hb2
        have k5 := (k2.below' hb2).cells1
        obtain ⟨r1, r2, r3⟩ := k4.cells3
        obtain ⟨f1, f2, f3⟩ := k4.frozen3
        have k9 := ((k4.set_ 0 (.int .i64 0)).set_ 1 (.int .i64 0)).set_ 2 (.slice none 0 0)
        obtain ⟨s1, s2, s3⟩ := Blk.cells3 (a := .int .i64 0) (b := .int .i64 0) (c := .slice none 0 0) k9
        go_wp2_with fail
        refine bodyPost_ret (v := .tuple #[noImg, .int .i64 1]) (by simp [results, Try.results47, go_sem, noImg, s1, s2, s3]) rfl ?_
        exact ⟨_, rfl, outT_bad HS.out (by decide), by (repeat (first | with_reducible exact Below.refl _ _ | with_reducible assumption | with_reducible refine Below.drew ?_ | (with_reducible refine below_alloc' ?_ ?_; focus (first | omega | (simp; done) | (simp; omega))) | (with_reducible refine below_fill3' ?_ ?_; focus omega) | (with_reducible refine below_setCell' ?_ ?_; focus (first | omega | (simp; done) | (simp; omega))) | (with_reducible apply below_call'; (focus (with_reducible assumption)); (focus (first | omega | (simp; done) | (simp; omega))))))⟩
    · have hE2 : E = 0 := by rw [← hE]; unfold thrE; rw [hsd, if_pos rfl, if_neg hl]
      subst hE2
      obtain ⟨rfl, rfl, hN⟩ := hs.1 rfl
      obtain rfl : N = n := by omega
      have l0 : 0 ≤ lv := by omega
      have l1 : lv ≤ 256 := by omega
      have N1 := Lib.hid fun x y bx bl w' hk hl hA' => thr1_any W2 H2 lv x y A N c bx bl p w' hk hl hA' hB hW1 hW2 hH1 hH2 hnn
      have MD := Lib.hid fun (w' : World) (hk : Blk w' w.heap.size 24 #[.int .i64 W2, .int .i64 H2, .slice A N c]) (hl : Blk w' (w.heap.size + 1) 3 #[.int .i64 lv]) (hA' : ArrB w' w'.heap.size A N p) => pixmade_any W2 H2 N 71 #[.pointer (some ⟨w.heap.size, 0, none⟩), .pointer (some ⟨w.heap.size + 1, 0, none⟩)] (fun x y => if p (y * W2 + x) < lv then 1 else 0) w' enterThr1 hW1 hW2 hH1 hH2 hN
        (fun x y v x0 x1 y0 y1 hb => by
          show Calls _ _ #[_, _, _, _] _ _
          exact N1.out x y w.heap.size (w.heap.size + 1) v (hk.below' hb) (hl.below' hb) (hA'.to hb) x0 x1 y0 y1)
      clear hs hE hnn hB hN hsd hl
      go_enter Try.func47, Try.ntmps47
      go_wp2_with fail
      generalize ((w.alloc (.cells #[.int .i64 W2, .int .i64 H2, .slice A N c] 24)).alloc (.cells #[.int .i64 lv] 3)).alloc (.cells #[.int .i64 0, .int .i64 0, .slice none 0 0] 29) = w1 at *
      refine (CK.out _).mono ?_
      rintro e w2 ⟨rfl, hb2⟩
      have b2 := below_call b1 b1.size hb2
      have m1 := k1.below' hb2
      have m2 := k2.below' hb2
      have k4 := k3.below' hb2
      have hA2 := Lib.hid (hA.to b2)
      have M1 := Lib.hid m1
      have M2 := Lib.hid m2
      obtain ⟨p1, p2, p3⟩ := m1.cells3
      have p4 := m2.cells1
      have hmf : ∀ (fn : Fn) (first cap : Array Value) (w : World), (Instr.makeFunc fn first cap).run Try.prog w = .ok (.func fn first cap) w := fun _ _ _ _ => rfl
      clear b1 k1 k2 hb2 CK m1 m2
      go_wp2_with fail
      refine (MD.out _ M1.out M2.out hA2.out).mono ?_
      rintro e w3 ⟨_, rfl, ⟨gp, rfl, hgp, kp⟩, hb3⟩
      have b3 := below_call b2 b2.size hb3
      have k5 := k4.below' hb3
      have zz := k4.lt
      obtain ⟨r1, r2, r3⟩ := k5.cells3
      obtain ⟨f1, f2, f3⟩ := k5.frozen3
      have k6 := ((k5.set_ 0 (.int .i64 W2)).set_ 1 (.int .i64 H2)).set_ 2 (.slice (some ⟨gp, 0, none⟩) N N)
      obtain ⟨s1, s2, s3⟩ := Blk.cells3 (a := .int .i64 W2) (b := .int .i64 H2) (c := .slice (some ⟨gp, 0, none⟩) N N) k6
      have zb := b2.size
      clear p1 p2 p3 p4
      go_wp2_with fail
      refine bodyPost_ret (v := .tuple #[.agg #[.int .i64 W2, .int .i64 H2, .slice (some ⟨gp, 0, none⟩) N N], .int .i64 0]) (by simp [results, Try.results47, go_sem, s1, s2, s3]) rfl ?_
      have g1 : gp ≠ w.heap.size + 1 + 1 := by omega
      refine ⟨_, rfl, ⟨_, _, rfl, (fun a e => by cases e; show w.heap.size ≤ gp; omega), ?_⟩, by (repeat (first | exact Below.refl _ _ | assumption | refine Below.drew ?_ | refine below_drewN ?_ _ | refine Below.alloc ?_ (by first | omega | (simp; done) | (simp; omega)) _ | refine Below.setCell ?_ (by first | omega | (simp; done) | (simp; omega)) _ | refine below_setRow ?_ (by first | omega | (simp; done) | (simp; omega)) _ ))⟩
      have KE := Blk.far (Blk.far (Blk.far kp (p := ⟨w.heap.size + 1 + 1, 0, none⟩) g1 (.int .i64 W2)) (p := ⟨w.heap.size + 1 + 1, 1, none⟩) g1 (.int .i64 H2)) (p := ⟨w.heap.size + 1 + 1, 2, none⟩) g1 (.slice (some ⟨gp, 0, none⟩) N N)
      refine (KE.arrB KE.lt).congr fun i i0 i1 => ?_
      unfold byPix thrQ
      have := Int.emod_add_mul_ediv i W2
      rw [Int.mul_comm] at this
      show (if p (i / W2 * W2 + i % W2) < lv then (1 : Int) else 0) = _
      rw [show i / W2 * W2 + i % W2 = i by omega]
end Go.Proofs.Ytoonkpjddfiopaa

/- Plain laws of the cheapest paths: least costs column by column, once with the program's number for 'never', once with the reference's. No program in sight. -/
namespace Go.Proofs.Ytoonkpjddfiopaa
open Go.RowKit
set_option linter.unusedVariables false

/-- the least of N and of f at j places from lo on -/
def mfold (N : Int) (f : Int → Int) (lo : Int) : Nat → Int
  | 0 => N
  | j + 1 => min (mfold N f lo j) (f (lo + j))
theorem mfold_le (N : Int) (f : Int → Int) (lo : Int) (j : Nat) : mfold N f lo j ≤ N := by
  induction j with
  | zero => exact Int.le_refl _
  | succ j ih => rw [mfold]; omega
theorem mfold_ge {N m : Int} {f : Int → Int} {lo : Int} {j : Nat} (hN : m ≤ N) (h : ∀ i : Nat, i < j → m ≤ f (lo + i)) : m ≤ mfold N f lo j := by
  induction j with
  | zero => exact hN
  | succ j ih => rw [mfold]; have := ih (fun i hi => h i (by omega)); have := h j (by omega); omega
theorem mfold_at {N : Int} {f : Int → Int} {lo : Int} {j i : Nat} (h : i < j) : mfold N f lo j ≤ f (lo + i) := by
  induction j with
  | zero => omega
  | succ j ih =>
    rw [mfold]
    by_cases e : i = j
    · subst e; omega
    · have := ih (by omega); omega
theorem mfold_is {N : Int} {f : Int → Int} {lo : Int} {j : Nat} : mfold N f lo j = N ∨ ∃ i : Nat, i < j ∧ mfold N f lo j = f (lo + i) := by
  induction j with
  | zero => exact .inl rfl
  | succ j ih =>
    rw [mfold]
    rcases Int.le_total (mfold N f lo j) (f (lo + j)) with h | h
    · rw [Int.min_eq_left h]
      rcases ih with e | ⟨i, hi, e⟩
      · exact .inl e
      · exact .inr ⟨i, by omega, e⟩
    · rw [Int.min_eq_right h]
      exact .inr ⟨j, by omega, rfl⟩

/-- what it costs to go on to a row -/
def goTo (d : Int → Int) (y : Int) : Int → Int := fun u => d u + if u = y then 0 else 1
/-- the first of the rows next to a row, and how many there are -/
def nxLo (y : Int) : Int := if y - 1 < 0 then 0 else y - 1
def nxN (H y : Int) : Nat := ((if y + 1 < H - 1 then y + 1 else H - 1) - nxLo y + 1).toNat
/-- the least costs to the last column: k columns are to the right -/
def gcol (N W H : Int) (c : Int → Int → Int) (F : Int → Int → Bool) : Nat → Int → Int
  | 0, y => if F (W - 1) y then N else min (c (W - 1) y) N
  | k + 1, y => if F (W - 1 - (k + 1 : Nat)) y then N else min (mfold N (goTo (gcol N W H c F k) y) (nxLo y) (nxN H y) + c (W - 1 - (k + 1 : Nat)) y) N
/-- the same as the reference has it -/
def rgo (N H cc : Int) (d : Int → Int) (y : Int) : Int → Int := fun u => if u < 0 ∨ H ≤ u ∨ d u = N then N else cc + d u + if u = y then 0 else 1
def rcol (N W H : Int) (c : Int → Int → Int) (F : Int → Int → Bool) : Nat → Int → Int
  | 0, y => if F (W - 1) y then N else c (W - 1) y
  | k + 1, y => if F (W - 1 - (k + 1 : Nat)) y then N else mfold N (rgo N H (c (W - 1 - (k + 1 : Nat)) y) (rcol N W H c F k) y) (y - 1) 3
/-- two numbers are the same cost, or both are none -/
def Alike (N M b x y : Int) : Prop := (0 ≤ x ∧ x ≤ b ∧ y = x) ∨ (x = N ∧ y = M)
theorem nx_in {H y : Int} (h0 : 0 ≤ y) (h : y < H) (i : Nat) : i < nxN H y ↔ nxLo y + i < H ∧ nxLo y + i ≤ y + 1 := by
  unfold nxN nxLo; split <;> split <;> omega
theorem alike_N (N M b : Int) : Alike N M b N M := .inr ⟨rfl, rfl⟩
theorem alike_min {N M b x y x' y' : Int} (hN : b < N) (hM : b < M) (h : Alike N M b x y) (h' : Alike N M b x' y') : Alike N M b (min x x') (min y y') := by
  rcases h with ⟨h1, h2, h3⟩ | ⟨h1, h2⟩ <;> rcases h' with ⟨g1, g2, g3⟩ | ⟨g1, g2⟩
  · left; omega
  · left; omega
  · left; omega
  · right; omega
theorem alike_capR {N M b x y : Int} (hM : b < M) (h : Alike N M b x y) : Alike N M b x (min y M) := by
  rcases h with ⟨h1, h2, h3⟩ | ⟨h1, h2⟩
  · left; omega
  · right; omega
theorem alike_term {N M b d e cc z : Int} (hN : b + 3 < N) (hc0 : 0 ≤ cc) (hc : cc ≤ 2) (z0 : 0 ≤ z) (z1 : z ≤ 1) (hM : b + 3 < M) (h : Alike N M b d e) :
    Alike N M (b + 3) (min (d + z + cc) N) (if e = M then M else cc + e + z) := by
  rcases h with ⟨h1, h2, h3⟩ | ⟨h1, h2⟩
  · left; rw [if_neg (by omega)]; omega
  · right; rw [if_pos h2]; exact ⟨by omega, rfl⟩
theorem mfold_cap {N cc : Int} (hc0 : 0 ≤ cc) (f : Int → Int) (lo : Int) (j : Nat) : min (mfold N f lo j + cc) N = mfold N (fun t => min (f t + cc) N) lo j := by
  induction j with
  | zero => simp only [mfold]; omega
  | succ j ih =>
    simp only [mfold]
    rw [← ih]
    generalize mfold N f lo j = a
    generalize f (lo + j) = b
    omega
theorem step_alike {N M H b cc : Int} {d e : Int → Int} {y : Int} (h0 : 0 ≤ y) (h : y < H) (hN : b + 3 < N) (hM : b + 3 < M) (hc0 : 0 ≤ cc) (hc : cc ≤ 2) (ha : ∀ t, 0 ≤ t → t < H → Alike N M b (d t) (e t)) :
    Alike N M (b + 3) (min (mfold N (goTo d y) (nxLo y) (nxN H y) + cc) N) (mfold M (rgo M H cc e y) (y - 1) 3) := by
  have e3 : mfold M (rgo M H cc e y) (y - 1) 3 = min (min (min M (rgo M H cc e y (y - 1))) (rgo M H cc e y y)) (rgo M H cc e y (y + 1)) := by
    simp only [mfold]
    rw [show y - 1 + ((0 : Nat) : Int) = y - 1 by omega, show y - 1 + ((1 : Nat) : Int) = y by omega, show y - 1 + ((2 : Nat) : Int) = y + 1 by omega]
  rw [e3, mfold_cap hc0]
  have g0 : goTo d y y = d y + 0 := by unfold goTo; rw [if_pos rfl]
  have gm : goTo d y (y - 1) = d (y - 1) + 1 := by unfold goTo; rw [if_neg (by omega)]
  have gp : goTo d y (y + 1) = d (y + 1) + 1 := by unfold goTo; rw [if_neg (by omega)]
  have r0 : rgo M H cc e y y = if e y = M then M else cc + e y + 0 := by
    unfold rgo; rw [if_pos rfl]
    by_cases h1 : e y = M
    · rw [if_pos (.inr (.inr h1)), if_pos h1]
    · rw [if_neg (by omega), if_neg h1]
  have T0 := alike_term (z := 0) hN hc0 hc (by omega) (by omega) hM (ha y h0 h)
  have rm : 0 ≤ y - 1 → rgo M H cc e y (y - 1) = if e (y - 1) = M then M else cc + e (y - 1) + 1 := by
    intro hm
    unfold rgo; rw [if_neg (by omega : ¬ y - 1 = y)]
    by_cases h1 : e (y - 1) = M
    · rw [if_pos (.inr (.inr h1)), if_pos h1]
    · rw [if_neg (by omega), if_neg h1]
  have rp : y + 1 < H → rgo M H cc e y (y + 1) = if e (y + 1) = M then M else cc + e (y + 1) + 1 := by
    intro hp
    unfold rgo; rw [if_neg (by omega : ¬ y + 1 = y)]
    by_cases h1 : e (y + 1) = M
    · rw [if_pos (.inr (.inr h1)), if_pos h1]
    · rw [if_neg (by omega), if_neg h1]
  by_cases hm : 0 ≤ y - 1
  · have Tm := alike_term (z := 1) hN hc0 hc (by omega) (by omega) hM (ha (y - 1) hm (by omega))
    have lo : nxLo y = y - 1 := by unfold nxLo; rw [if_neg (by omega)]
    rw [rm hm, r0]
    by_cases hp : y + 1 < H
    · have Tp := alike_term (z := 1) hN hc0 hc (by omega) (by omega) hM (ha (y + 1) (by omega) hp)
      have nn : nxN H y = 3 := by
        have := (nx_in h0 h 2).2 (by rw [lo]; omega)
        have := mt (nx_in h0 h 3).1 (by rw [lo]; omega)
        omega
      rw [rp hp, nn, lo]
      simp only [mfold]
      rw [show y - 1 + ((0 : Nat) : Int) = y - 1 by omega, show y - 1 + ((1 : Nat) : Int) = y by omega, show y - 1 + ((2 : Nat) : Int) = y + 1 by omega, g0, gm, gp]
      exact alike_min hN hM (alike_min hN hM (alike_min hN hM (alike_N _ _ _) Tm) T0) Tp
    · have rq : rgo M H cc e y (y + 1) = M := by unfold rgo; rw [if_pos (by omega)]
      have nn : nxN H y = 2 := by
        have := (nx_in h0 h 1).2 (by rw [lo]; omega)
        have := mt (nx_in h0 h 2).1 (by rw [lo]; omega)
        omega
      rw [rq, nn, lo]
      simp only [mfold]
      rw [show y - 1 + ((0 : Nat) : Int) = y - 1 by omega, show y - 1 + ((1 : Nat) : Int) = y by omega, g0, gm]
      exact alike_capR hM (alike_min hN hM (alike_min hN hM (alike_N _ _ _) Tm) T0)
  · have rq : rgo M H cc e y (y - 1) = M := by unfold rgo; rw [if_pos (by omega)]
    have lo : nxLo y = y := by unfold nxLo; rw [if_pos (by omega)]; omega
    rw [rq, r0, show min M M = M from Int.min_self M]
    by_cases hp : y + 1 < H
    · have Tp := alike_term (z := 1) hN hc0 hc (by omega) (by omega) hM (ha (y + 1) (by omega) hp)
      have nn : nxN H y = 2 := by
        have := (nx_in h0 h 1).2 (by rw [lo]; omega)
        have := mt (nx_in h0 h 2).1 (by rw [lo]; omega)
        omega
      rw [rp hp, nn, lo]
      simp only [mfold]
      rw [show y + ((0 : Nat) : Int) = y by omega, show y + ((1 : Nat) : Int) = y + 1 by omega, g0, gp]
      exact alike_min hN hM (alike_min hN hM (alike_N _ _ _) T0) Tp
    · have rs : rgo M H cc e y (y + 1) = M := by unfold rgo; rw [if_pos (by omega)]
      have nn : nxN H y = 1 := by
        have := (nx_in h0 h 0).2 (by rw [lo]; omega)
        have := mt (nx_in h0 h 1).1 (by rw [lo]; omega)
        omega
      rw [rs, nn, lo]
      simp only [mfold]
      rw [show y + ((0 : Nat) : Int) = y by omega, g0]
      exact alike_capR hM (alike_min hN hM (alike_N _ _ _) T0)
theorem cols_alike {N M W H : Int} {c : Int → Int → Int} {F : Int → Int → Bool} (hc : ∀ x y, 0 ≤ c x y ∧ c x y ≤ 2) (hN : 3 * W < N) (hM : 3 * W < M) (k : Nat) (hk : (k : Int) < W) (y : Int) (h0 : 0 ≤ y) (h : y < H) :
    Alike N M (3 * (k + 1)) (gcol N W H c F k y) (rcol M W H c F k y) := by
  induction k generalizing y with
  | zero =>
    rw [gcol, rcol]
    have := hc (W - 1) y
    unfold Alike
    split <;> omega
  | succ k ih =>
    rw [gcol, rcol]
    by_cases hF : F (W - 1 - (k + 1 : Nat)) y = true
    · rw [if_pos hF, if_pos hF]; exact .inr ⟨rfl, rfl⟩
    · rw [if_neg hF, if_neg hF]
      have hcc := hc (W - 1 - (k + 1 : Nat)) y
      have := step_alike (N := N) (M := M) (H := H) (b := 3 * (k + 1)) (cc := c (W - 1 - (k + 1 : Nat)) y) (d := gcol N W H c F k) (e := rcol M W H c F k) h0 h (by omega) (by omega) hcc.1 hcc.2 (fun t a b => ih (by omega) t a b)
      rw [show (3 * (((k + 1 : Nat) : Int) + 1)) = 3 * ((k : Int) + 1) + 3 by omega]
      exact this
end Go.Proofs.Ytoonkpjddfiopaa

/- Plain laws of the cheapest paths: the path that is read off the costs, its cost, and that the reference reads off the same. No program in sight. -/
namespace Go.Proofs.Ytoonkpjddfiopaa
open Go.RowKit
set_option linter.unusedVariables false

/-- the first place at which g is least -/
def fmin (g : Int → Int) : Nat → Int
  | 0 => 0
  | y + 1 => if g y < g (fmin g y) then y else fmin g y
theorem fmin_bd (g : Int → Int) (n : Nat) : 0 ≤ fmin g n ∧ (0 < n → fmin g n < n) := by
  induction n with
  | zero => simp [fmin]
  | succ n ih =>
    rw [fmin]
    split
    · omega
    · refine ⟨ih.1, fun _ => ?_⟩
      by_cases h : 0 < n
      · have := ih.2 h; omega
      · obtain rfl : n = 0 := by omega
        show (0 : Int) < _; omega
theorem fmin_le {g : Int → Int} {n : Nat} {i : Int} (h0 : 0 ≤ i) (h : i < n) : g (fmin g n) ≤ g i := by
  induction n with
  | zero => omega
  | succ n ih =>
    rw [fmin]
    by_cases e : i = n
    · subst e; split <;> omega
    · have := ih (by omega)
      split <;> omega
theorem fmin_first {g : Int → Int} {n : Nat} {i : Int} (h0 : 0 ≤ i) (h : i < fmin g n) : g (fmin g n) < g i := by
  induction n with
  | zero => simp [fmin] at h; omega
  | succ n ih =>
    rw [fmin] at h ⊢
    by_cases e : g n < g (fmin g n)
    · rw [if_pos e] at h ⊢
      have := fmin_le (g := g) h0 h
      omega
    · rw [if_neg e] at h ⊢
      exact ih h

section
variable (N W H : Int) (c : Int → Int → Int) (F : Int → Int → Bool)
/-- the least cost from a pixel on -/
def gAt (x y : Int) : Int := gcol N W H c F (W - 1 - x).toNat y
def rAt (x y : Int) : Int := rcol N W H c F (W - 1 - x).toNat y
/-- the row in which the path goes on -/
def nxt (x a : Int) : Int :=
  if 0 ≤ idxF (fun i => decide (goTo (gAt N W H c F (x + 1)) a (nxLo a + i) = gAt N W H c F x a - c x a)) (nxN H a)
  then nxLo a + idxF (fun i => decide (goTo (gAt N W H c F (x + 1)) a (nxLo a + i) = gAt N W H c F x a - c x a)) (nxN H a) else a
def pathP : Nat → Int
  | 0 => fmin (gAt N W H c F 0) H.toNat
  | x + 1 => nxt N W H c F x (pathP x)
end
/-- the cost of a path up to a column -/
def costP (c : Int → Int → Int) (l : Int → Int) : Nat → Int
  | 0 => 0
  | x + 1 => costP c l x + c x (l x) + if 0 < x ∧ l x ≠ l ((x : Int) - 1) then 1 else 0

section
variable {N W H : Int} {c : Int → Int → Int} {F : Int → Int → Bool}
theorem gAt_last (y : Int) : gAt N W H c F (W - 1) y = if F (W - 1) y then N else min (c (W - 1) y) N := by
  unfold gAt; rw [show (W - 1 - (W - 1)).toNat = 0 by omega, gcol]
theorem gAt_step {x : Int} (h0 : 0 ≤ x) (h : x < W - 1) (y : Int) : gAt N W H c F x y = if F x y then N else min (mfold N (goTo (gAt N W H c F (x + 1)) y) (nxLo y) (nxN H y) + c x y) N := by
  unfold gAt
  obtain ⟨k, hk⟩ : ∃ k : Nat, (W - 1 - x).toNat = k + 1 := ⟨(W - 1 - x).toNat - 1, by omega⟩
  rw [hk, gcol, show W - 1 - ((k + 1 : Nat) : Int) = x by omega, show (W - 1 - (x + 1)).toNat = k by omega]
theorem gAt_bd (hc : ∀ x y, 0 ≤ c x y ∧ c x y ≤ 2) (hN : 3 * W < N) {x y : Int} (h0 : 0 ≤ x) (h : x < W) (y0 : 0 ≤ y) (y1 : y < H) : (0 ≤ gAt N W H c F x y ∧ gAt N W H c F x y ≤ 3 * (W - x)) ∨ gAt N W H c F x y = N := by
  have := cols_alike (F := F) hc hN hN (W - 1 - x).toNat (by omega) y y0 y1
  unfold gAt
  unfold Alike at this
  omega
/-- where the cost is finite there is a row to go on to -/
theorem nxt_ex (hc : ∀ x y, 0 ≤ c x y ∧ c x y ≤ 2) {x a : Int} (h0 : 0 ≤ x) (h : x < W - 1) (hf : gAt N W H c F x a < N) :
    ∃ i : Nat, i < nxN H a ∧ goTo (gAt N W H c F (x + 1)) a (nxLo a + i) = gAt N W H c F x a - c x a := by
  rw [gAt_step h0 h] at hf ⊢
  by_cases hF : F x a = true
  · rw [if_pos hF] at hf; omega
  · rw [if_neg hF] at hf ⊢
    have hcc := hc x a
    rcases mfold_is (N := N) (f := goTo (gAt N W H c F (x + 1)) a) (lo := nxLo a) (j := nxN H a) with e | ⟨i, hi, e⟩
    · rw [e] at hf; omega
    · exact ⟨i, hi, by omega⟩
theorem nxt_spec (hc : ∀ x y, 0 ≤ c x y ∧ c x y ≤ 2) {x a : Int} (h0 : 0 ≤ x) (h : x < W - 1) (a0 : 0 ≤ a) (a1 : a < H) (hf : gAt N W H c F x a < N) :
    goTo (gAt N W H c F (x + 1)) a (nxt N W H c F x a) = gAt N W H c F x a - c x a ∧ 0 ≤ nxt N W H c F x a ∧ nxt N W H c F x a < H ∧ a - 1 ≤ nxt N W H c F x a ∧ nxt N W H c F x a ≤ a + 1 ∧
      ∀ y, 0 ≤ y → a - 1 ≤ y → y < nxt N W H c F x a → goTo (gAt N W H c F (x + 1)) a y ≠ gAt N W H c F x a - c x a := by
  obtain ⟨i, hi, e⟩ := nxt_ex hc h0 h hf
  have hex : 0 ≤ idxF (fun i => decide (goTo (gAt N W H c F (x + 1)) a (nxLo a + i) = gAt N W H c F x a - c x a)) (nxN H a) := idxF_iff.2 ⟨i, by omega, by omega, by simpa using e⟩
  have sp : ∀ n : Nat, ∀ f : Int → Bool, 0 ≤ idxF f n → idxF f n < n ∧ f (idxF f n) = true ∧ ∀ j : Int, 0 ≤ j → j < idxF f n → f j = false := by
    intro n f
    induction n with
    | zero => intro h; simp [idxF] at h
    | succ n ih =>
      intro h
      rw [idxF] at h ⊢
      by_cases h1 : 0 ≤ idxF f n
      · rw [if_pos h1]; have := ih h1; exact ⟨by omega, this.2.1, this.2.2⟩
      · rw [if_neg h1] at h ⊢
        by_cases h2 : f n = true
        · rw [if_pos h2]
          exact ⟨by omega, h2, fun j j0 j1 => Bool.eq_false_iff.2 fun h3 => h1 (idxF_iff.2 ⟨j, j0, j1, h3⟩)⟩
        · rw [if_neg h2] at h; omega
  obtain ⟨s1, s2, s3⟩ := sp _ _ hex
  have hn : nxt N W H c F x a = nxLo a + idxF (fun i => decide (goTo (gAt N W H c F (x + 1)) a (nxLo a + i) = gAt N W H c F x a - c x a)) (nxN H a) := by unfold nxt; rw [if_pos hex]
  generalize idxF (fun i => decide (goTo (gAt N W H c F (x + 1)) a (nxLo a + i) = gAt N W H c F x a - c x a)) (nxN H a) = k at *
  rw [hn]
  obtain ⟨k', rfl⟩ := Int.eq_ofNat_of_zero_le hex
  have hin := (nx_in a0 a1 k').1 (by omega)
  have lo : nxLo a = if a - 1 < 0 then 0 else a - 1 := rfl
  have lo2 : 0 ≤ nxLo a ∧ a - 1 ≤ nxLo a ∧ (0 < nxLo a → nxLo a = a - 1) := by rw [lo]; split <;> omega
  refine ⟨by simpa using s2, by omega, hin.1, by omega, hin.2, fun y y0 y1 y2 hy => ?_⟩
  have h4 : nxLo a ≤ y := by rw [lo]; split <;> omega
  have := s3 (y - nxLo a) (by omega) (by omega)
  rw [show nxLo a + (y - nxLo a) = y by omega] at this
  simp at this
  exact this hy
/-- the path stays in the image and its costs stay finite -/
theorem path_ok (hc : ∀ x y, 0 ≤ c x y ∧ c x y ≤ 2) (hN : 3 * W < N) (hH : 0 < H) (hW : 0 < W) (hf : gAt N W H c F 0 (pathP N W H c F 0) < N) (x : Nat) (hx : (x : Int) < W) :
    0 ≤ pathP N W H c F x ∧ pathP N W H c F x < H ∧ gAt N W H c F x (pathP N W H c F x) < N := by
  induction x with
  | zero =>
    have := fmin_bd (gAt N W H c F 0) H.toNat
    refine ⟨this.1, ?_, hf⟩
    have := this.2 (by omega)
    show fmin _ _ < H
    omega
  | succ x ih =>
    obtain ⟨i1, i2, i3⟩ := ih (by omega)
    obtain ⟨s1, s2, s3, s4, s5, -⟩ := nxt_spec hc (by omega) (by omega : (x : Int) < W - 1) i1 i2 i3
    refine ⟨s2, s3, ?_⟩
    show gAt N W H c F ((x + 1 : Nat) : Int) (nxt N W H c F x (pathP N W H c F x)) < N
    have hcc := hc x (pathP N W H c F x)
    unfold goTo at s1
    rw [show ((x + 1 : Nat) : Int) = (x : Int) + 1 by omega]
    split at s1 <;> omega
theorem path_cost (hc : ∀ x y, 0 ≤ c x y ∧ c x y ≤ 2) (hN : 3 * W < N) (hH : 0 < H) (hW : 0 < W) (hf : gAt N W H c F 0 (pathP N W H c F 0) < N) (x : Nat) (hx : (x : Int) < W) :
    costP c (fun i => pathP N W H c F i.toNat) (x + 1) + gAt N W H c F x (pathP N W H c F x) = gAt N W H c F 0 (pathP N W H c F 0) + c x (pathP N W H c F x) := by
  induction x with
  | zero => simp [costP]; omega
  | succ x ih =>
    have ih := ih (by omega)
    obtain ⟨i1, i2, i3⟩ := path_ok hc hN hH hW hf x (by omega)
    obtain ⟨s1, -, -, -, -, -⟩ := nxt_spec hc (by omega) (by omega : (x : Int) < W - 1) i1 i2 i3
    rw [costP]
    have e : pathP N W H c F (x + 1) = nxt N W H c F x (pathP N W H c F x) := rfl
    rw [← e] at s1
    unfold goTo at s1
    simp only [Int.toNat_natCast, show ((x + 1 : Nat) : Int) - 1 = (x : Int) by omega]
    rw [show ((x + 1 : Nat) : Int) = (x : Int) + 1 by omega] at *
    by_cases hq : pathP N W H c F (x + 1) = pathP N W H c F x
    · rw [if_pos hq] at s1
      rw [if_neg (by simp [hq])]
      omega
    · rw [if_neg hq] at s1
      rw [if_pos ⟨by omega, hq⟩]
      omega
/-- the whole path costs what stands at its start -/
theorem path_total (hc : ∀ x y, 0 ≤ c x y ∧ c x y ≤ 2) (hN : 3 * W < N) (hH : 0 < H) (hW : 0 < W) (hf : gAt N W H c F 0 (pathP N W H c F 0) < N) :
    costP c (fun i => pathP N W H c F i.toNat) W.toNat = gAt N W H c F 0 (pathP N W H c F 0) := by
  obtain ⟨x, hx⟩ : ∃ x : Nat, W.toNat = x + 1 := ⟨W.toNat - 1, by omega⟩
  have h1 := path_cost hc hN hH hW hf x (by omega)
  obtain ⟨i1, i2, i3⟩ := path_ok hc hN hH hW hf x (by omega)
  have e : (x : Int) = W - 1 := by omega
  rw [hx]
  have hl := gAt_last (N := N) (W := W) (H := H) (c := c) (F := F) (pathP N W H c F x)
  rw [← e] at hl
  rw [hl] at h1 i3
  by_cases hF : F x (pathP N W H c F x) = true
  · rw [if_pos hF] at i3; omega
  · rw [if_neg hF] at h1 i3; omega
end
end Go.Proofs.Ytoonkpjddfiopaa

/- Plain laws of the cheapest paths: the reference finds the same path. No program in sight. -/
namespace Go.Proofs.Ytoonkpjddfiopaa
open Go.RowKit
set_option linter.unusedVariables false
section
variable {N M W H : Int} {c : Int → Int → Int} {F : Int → Int → Bool}
theorem gr_alike (hc : ∀ x y, 0 ≤ c x y ∧ c x y ≤ 2) (hN : 3 * W < N) (hM : 3 * W < M) {x y : Int} (h0 : 0 ≤ x) (h : x < W) (y0 : 0 ≤ y) (y1 : y < H) :
    (gAt N W H c F x y < N ∧ rAt M W H c F x y = gAt N W H c F x y ∧ gAt N W H c F x y ≤ 3 * W ∧ 0 ≤ gAt N W H c F x y) ∨ (gAt N W H c F x y = N ∧ rAt M W H c F x y = M) := by
  have := cols_alike (F := F) hc hN hM (W - 1 - x).toNat (by omega) y y0 y1
  unfold gAt rAt
  unfold Alike at this
  omega
/-- the least cost of the first column, as the reference reckons it -/
def rleast (M W H : Int) (c : Int → Int → Int) (F : Int → Int → Bool) : Int := mfold M (rAt M W H c F 0) 0 H.toNat
theorem rleast_eq (hc : ∀ x y, 0 ≤ c x y ∧ c x y ≤ 2) (hN : 3 * W < N) (hM : 3 * W < M) (hW : 0 < W) (hH : 0 < H) :
    (gAt N W H c F 0 (pathP N W H c F 0) < N ∧ rleast M W H c F = gAt N W H c F 0 (pathP N W H c F 0) ∧ rleast M W H c F < M) ∨ (gAt N W H c F 0 (pathP N W H c F 0) = N ∧ rleast M W H c F = M) := by
  have hp := fmin_bd (gAt N W H c F 0) H.toNat
  have h2 := hp.2 (by omega)
  have e : pathP N W H c F 0 = fmin (gAt N W H c F 0) H.toNat := rfl
  rw [← e] at hp h2
  have ha := gr_alike (H := H) (F := F) hc hN hM (x := 0) (y := pathP N W H c F 0) (by omega) hW hp.1 (by omega)
  have hle : ∀ i : Nat, i < H.toNat → gAt N W H c F 0 (pathP N W H c F 0) ≤ gAt N W H c F 0 i := fun i hi => fmin_le (by omega) (by omega)
  have hat := mfold_at (N := M) (f := rAt M W H c F 0) (lo := 0) (j := H.toNat) (i := (pathP N W H c F 0).toNat) (by omega)
  rw [show (0 : Int) + ((pathP N W H c F 0).toNat : Int) = pathP N W H c F 0 by omega] at hat
  have hlM := mfold_le M (rAt M W H c F 0) 0 H.toNat
  rcases ha with ⟨a1, a2, a3, a4⟩ | ⟨a1, a2⟩
  · left
    have hge : gAt N W H c F 0 (pathP N W H c F 0) ≤ mfold M (rAt M W H c F 0) 0 H.toNat := mfold_ge (by omega) fun i hi => by
      have hi2 := hle i hi
      rw [Int.zero_add]
      have := gr_alike (H := H) (F := F) hc hN hM (x := 0) (y := i) (by omega) hW (by omega) (by omega)
      omega
    unfold rleast
    omega
  · right
    refine ⟨a1, ?_⟩
    unfold rleast
    rcases mfold_is (N := M) (f := rAt M W H c F 0) (lo := 0) (j := H.toNat) with h | ⟨i, hi, h⟩
    · exact h
    · have hi2 := hle i hi
      rw [Int.zero_add] at h
      have := gr_alike (H := H) (F := F) hc hN hM (x := 0) (y := i) (by omega) hW (by omega) (by omega)
      omega
/-- the reference's test in the first column -/
theorem rfirst (hc : ∀ x y, 0 ≤ c x y ∧ c x y ≤ 2) (hN : 3 * W < N) (hM : 3 * W < M) (hW : 0 < W) (hH : 0 < H) (hf : gAt N W H c F 0 (pathP N W H c F 0) < N) :
    (rAt M W H c F 0 (pathP N W H c F 0) ≠ M ∧ rAt M W H c F 0 (pathP N W H c F 0) = rleast M W H c F) ∧ ∀ y, 0 ≤ y → y < pathP N W H c F 0 → ¬ (rAt M W H c F 0 y ≠ M ∧ rAt M W H c F 0 y = rleast M W H c F) := by
  have hp := fmin_bd (gAt N W H c F 0) H.toNat
  have h2 := hp.2 (by omega)
  have e : pathP N W H c F 0 = fmin (gAt N W H c F 0) H.toNat := rfl
  rw [← e] at hp h2
  have hl := rleast_eq (H := H) (F := F) hc hN hM hW hH
  have ha := gr_alike (H := H) (F := F) hc hN hM (x := 0) (y := pathP N W H c F 0) (by omega) hW hp.1 (by omega)
  refine ⟨by omega, fun y y0 y1 => ?_⟩
  have hy := gr_alike (H := H) (F := F) hc hN hM (x := 0) (y := y) (by omega) hW y0 (by omega)
  have := fmin_first (g := gAt N W H c F 0) (n := H.toNat) y0 (by rw [← e]; exact y1)
  rw [← e] at this
  omega
/-- the reference's test in a later column: what is left is the cost of the last pixel's rest -/
theorem rnext (hc : ∀ x y, 0 ≤ c x y ∧ c x y ≤ 2) (hN : 3 * W < N) (hM : 3 * W < M) (hW : 0 < W) (hH : 0 < H) (hf : gAt N W H c F 0 (pathP N W H c F 0) < N) (x : Nat) (hx : (x : Int) + 1 < W) :
    (rAt M W H c F (x + 1) (pathP N W H c F (x + 1)) ≠ M ∧ rAt M W H c F (x + 1) (pathP N W H c F (x + 1)) + (if pathP N W H c F (x + 1) = pathP N W H c F x then 0 else 1) = rAt M W H c F x (pathP N W H c F x) - c x (pathP N W H c F x)) ∧
    (0 ≤ pathP N W H c F (x + 1) ∧ pathP N W H c F (x + 1) < H ∧ pathP N W H c F x - 1 ≤ pathP N W H c F (x + 1) ∧ pathP N W H c F (x + 1) ≤ pathP N W H c F x + 1) ∧
    ∀ y, 0 ≤ y → y < H → pathP N W H c F x - 1 ≤ y → y < pathP N W H c F (x + 1) → ¬ (rAt M W H c F (x + 1) y ≠ M ∧ rAt M W H c F (x + 1) y + (if y = pathP N W H c F x then 0 else 1) = rAt M W H c F x (pathP N W H c F x) - c x (pathP N W H c F x)) := by
  obtain ⟨i1, i2, i3⟩ := path_ok hc hN hH hW hf x (by omega)
  obtain ⟨j1, j2, j3⟩ := path_ok hc hN hH hW hf (x + 1) (by omega)
  obtain ⟨s1, s2, s3, s4, s5, s6⟩ := nxt_spec hc (by omega) (by omega : (x : Int) < W - 1) i1 i2 i3
  have e : nxt N W H c F x (pathP N W H c F x) = pathP N W H c F (x + 1) := rfl
  rw [e] at s1 s2 s3 s4 s5 s6
  have ha := gr_alike (H := H) (F := F) hc hN hM (x := x) (by omega) (by omega) i1 i2
  have hb := gr_alike (H := H) (F := F) hc hN hM (x := (x : Int) + 1) (by omega) (by omega) j1 j2
  rw [show ((x + 1 : Nat) : Int) = (x : Int) + 1 by omega] at j3
  have hcc := hc x (pathP N W H c F x)
  unfold goTo at s1 s6
  refine ⟨⟨by omega, ?_⟩, ⟨s2, s3, s4, s5⟩, fun y y0 y1 y2 y3 ⟨h1, h2⟩ => ?_⟩
  · split at s1 <;> split <;> omega
  · have hy := gr_alike (H := H) (F := F) hc hN hM (x := (x : Int) + 1) (y := y) (by omega) (by omega) y0 y1
    have := s6 y y0 y2 y3
    split at h2 <;> split at this <;> omega
end
end Go.Proofs.Ytoonkpjddfiopaa

/- Walks: images made of bits; lists of numbers compared. -/
namespace Go.Proofs.Ytoonkpjddfiopaa
open Go.RowKit
set_option linter.unusedVariables false

theorem and_one_u8 (E : Int) (h0 : 0 ≤ E) (h1 : E ≤ 255) : bits BinOp.and IntKind.u8 E 1 = E % 2 := by
  have h : ∀ k : Fin 256, bits BinOp.and IntKind.u8 (k.val : Int) 1 = (k.val : Int) % 2 := by decide +kernel
  have := h ⟨E.toNat, by omega⟩
  simpa [Int.toNat_of_nonneg h0] using this
/-- the bit i of a list of bytes; 0 behind its end -/
def bitV (r : Int → Int) (i : Int) : Int := r (i / 8) / 2 ^ (i % 8).toNat % 2
def bitQ (n : Nat) (r : Int → Int) : Int → Int := fun i => if i / 8 < n then bitV r i else 0
def bitP (n : Nat) (r : Int → Int) (k : Nat) : Int → Int := fun i => if i < k then bitQ n r i else 0
theorem bitV_01 (r : Int → Int) (i : Int) : 0 ≤ bitV r i ∧ bitV r i ≤ 1 := by unfold bitV; omega
theorem bitQ_01 (n : Nat) (r : Int → Int) (i : Int) : 0 ≤ bitQ n r i ∧ bitQ n r i ≤ 1 := by
  unfold bitQ; split
  · exact bitV_01 r i
  · omega
theorem bitP_yes {n : Nat} {r : Int → Int} {k : Nat} (h : (k : Int) / 8 < n) (i : Int) : upd (bitP n r k) k (bitV r k) i = bitP n r (k + 1) i := by
  unfold upd bitP
  by_cases e : i = k
  · subst e; rw [if_pos rfl, if_pos (by omega)]; unfold bitQ; rw [if_pos h]
  · rw [if_neg e]
    by_cases h2 : i < k
    · rw [if_pos h2, if_pos (by omega)]
    · rw [if_neg h2, if_neg (by omega)]
theorem bitP_no {n : Nat} {r : Int → Int} {k : Nat} (h : ¬ (k : Int) / 8 < n) (i : Int) : bitP n r k i = bitP n r (k + 1) i := by
  unfold bitP
  by_cases e : i = k
  · subst e; rw [if_neg (by omega), if_pos (by omega)]; unfold bitQ; rw [if_neg h]
  · by_cases h2 : i < k
    · rw [if_pos h2, if_pos (by omega)]
    · rw [if_neg h2, if_neg (by omega)]
theorem bitP_end {n : Nat} {r : Int → Int} {k : Nat} {i : Int} (h : i < k) : bitP n r k i = bitQ n r i := by unfold bitP; rw [if_pos h]

def sameI (n m : Nat) (p q : Int → Int) : Bool := decide (n = m) && allN n fun i => decide (p i = q i)
theorem sameI_iff {n m : Nat} {p q : Int → Int} : sameI n m p q = true ↔ n = m ∧ ∀ i : Int, 0 ≤ i → i < n → p i = q i := by
  simp [sameI, allN_iff]
end Go.Proofs.Ytoonkpjddfiopaa

/- Walks of package stave and of its reference: paths and their costs. -/
namespace Go.Proofs.Ytoonkpjddfiopaa
open Go.RowKit
set_option linter.unusedVariables false

/-- a place of a path is right -/
def stepB (H : Int) (q : Int → Int) (x : Int) : Bool := decide (0 ≤ q x) && (decide (q x < H) && (decide (x ≤ 0) || (decide (q (x - 1) - 1 ≤ q x) && decide (q x ≤ q (x - 1) + 1))))
theorem stepB_iff {H : Int} {q : Int → Int} {x : Int} : stepB H q x = true ↔ 0 ≤ q x ∧ q x < H ∧ (x ≤ 0 ∨ (q (x - 1) - 1 ≤ q x ∧ q x ≤ q (x - 1) + 1)) := by simp [stepB]
def isPathB (W H : Int) (m : Nat) (q : Int → Int) : Bool := decide (1 ≤ W ∧ 1 ≤ H ∧ (m : Int) = W) && allN m (stepB H q)
theorem isPathB_iff {W H : Int} {m : Nat} {q : Int → Int} : isPathB W H m q = true ↔ (1 ≤ W ∧ 1 ≤ H ∧ (m : Int) = W) ∧ ∀ i : Int, 0 ≤ i → i < m → stepB H q i = true := by
  unfold isPathB; rw [Bool.and_eq_true, allN_iff, decide_eq_true_iff]
/-- the cost of a pixel -/
def cst (p : Int → Int) (W : Int) : Int → Int → Int := fun x y => if p (y * W + x) = 1 then 0 else 2
theorem cst_bd (p : Int → Int) (W : Int) (x y : Int) : 0 ≤ cst p W x y ∧ cst p W x y ≤ 2 := by unfold cst; split <;> omega
theorem costP_bd {c : Int → Int → Int} (hc : ∀ x y, 0 ≤ c x y ∧ c x y ≤ 2) (l : Int → Int) (x : Nat) : 0 ≤ costP c l x ∧ costP c l x ≤ 3 * x := by
  induction x with
  | zero => simp [costP]
  | succ x ih => rw [costP]; have := hc x (l x); split <;> omega

/-- the error of a cost, and the cost -/
def costE (W H : Int) (n : Nat) (p : Int → Int) (m : Nat) (q : Int → Int) : Int := if chk W H n p ≠ 0 then chk W H n p else if isPathB W H m q then 0 else 1
def costV (W H : Int) (n : Nat) (p : Int → Int) (m : Nat) (q : Int → Int) : Int := if costE W H n p m q = 0 then costP (cst p W) q m else 0
theorem costE_ok {W H : Int} {n : Nat} {p : Int → Int} {m : Nat} {q : Int → Int} (h : costE W H n p m q = 0) : chk W H n p = 0 ∧ isPathB W H m q = true := by
  unfold costE at h
  by_cases a : chk W H n p = 0
  · rw [if_neg (by simp [a])] at h
    cases b : isPathB W H m q
    · rw [b] at h; simp at h
    · exact ⟨a, rfl⟩
  · rw [if_pos a] at h; exact absurd h a

end Go.Proofs.Ytoonkpjddfiopaa

/- Walk: the rows next to a row, from above. -/
namespace Go.Proofs.Ytoonkpjddfiopaa
open Go.RowKit Go.Shelf
set_option linter.unusedVariables false
attribute [local go_sem] Oper.semAt_some

/-- a row of an image of height h -/
abbrev RowIn (h : Int) := { t : Int // 0 ≤ t ∧ t < h }
/-- the first i of the rows next to y -/
def nbT (y : Int) (i : Nat) : List Int := (List.range i).map fun j => nxLo y + (j : Nat)
theorem nbT_snoc (y : Int) (i : Nat) : nbT y (i + 1) = nbT y i ++ [nxLo y + i] := by simp [nbT, List.range_succ]
theorem nbT_len (y : Int) (i : Nat) : (nbT y i).length = i := by simp [nbT]
/-- these two blocks are as they were -/
def KpB (a b : Nat) (W W' : World) : Prop := W'.heap[a]? = W.heap[a]? ∧ W'.heap[b]? = W.heap[b]?
theorem KpB.trans {a b : Nat} {A B C : World} (h : KpB a b A B) (k : KpB a b B C) : KpB a b A C := ⟨k.1.trans h.1, k.2.trans h.2⟩
theorem Blk.at0 {w : World} {g t : Nat} {v : Value} (h : Blk w g t #[v]) : w.cell? ⟨g, 0, none⟩ = some v := by rw [h.cell]; rfl

end Go.Proofs.Ytoonkpjddfiopaa

/- Walks: the reference's paths and their costs; costs with their errors. -/
namespace Go.Proofs.Ytoonkpjddfiopaa
open Go.RowKit
set_option linter.unusedVariables false

theorem inkB_in {W H : Int} {p : Int → Int} {x y : Int} (h1 : 0 ≤ x) (h2 : x < W) (h3 : 0 ≤ y) (h4 : y < H) : inkB W H p x y = decide (p (y * W + x) = 1) := by
  unfold inkB; simp [h1, h2, h3, h4]
end Go.Proofs.Ytoonkpjddfiopaa

/- Walks: costs with their errors, the program's and the reference's. -/
namespace Go.Proofs.Ytoonkpjddfiopaa
open Go.RowKit
set_option linter.unusedVariables false

end Go.Proofs.Ytoonkpjddfiopaa

/- Walk: the least cost from a pixel to the last column (the closure of best). -/
namespace Go.Proofs.Ytoonkpjddfiopaa
open Go.RowKit Go.Shelf
set_option linter.unusedVariables false
attribute [local go_sem] Oper.semAt_some

section
variable {B : Nat} {w w' : World} {W H : Int} {Bf Bw Bh Br Bi gr N : Nat} {Fa A : Option Addr} {fc n c : Nat} {fb : Int → Bool} {R p : Int → Int}
end
/-- the least of N and of what going on to the rows of a list costs -/
def minL (N : Int) (D : Int → Int) (y : Int) (l : List Int) : Int := l.foldl (fun n t => min n (goTo D y t)) N
theorem minL_snoc (N : Int) (D : Int → Int) (y t : Int) (l : List Int) : minL N D y (l ++ [t]) = min (minL N D y l) (goTo D y t) := by simp [minL]
theorem minL_nb (N : Int) (D : Int → Int) (y : Int) (j : Nat) : minL N D y (nbT y j) = mfold N (goTo D y) (nxLo y) j := by
  induction j with
  | zero => rfl
  | succ j ih => rw [nbT_snoc, minL_snoc, ih, mfold]
theorem minL_bd {N H : Int} {D : Int → Int} {y : Int} (hN : 0 ≤ N) (hD : ∀ t, 0 ≤ t → t < H → 0 ≤ D t) (l : List (RowIn H)) : 0 ≤ minL N D y (l.map Subtype.val) ∧ minL N D y (l.map Subtype.val) ≤ N := by
  have : ∀ (l : List (RowIn H)) (m : Int), 0 ≤ m → m ≤ N → 0 ≤ minL m D y (l.map Subtype.val) ∧ minL m D y (l.map Subtype.val) ≤ N := by
    intro l
    induction l with
    | nil => intro m h0 h1; exact ⟨h0, h1⟩
    | cons t l ih =>
      intro m h0 h1
      have := hD t.1 t.2.1 t.2.2
      exact ih (min m (goTo D y t.1)) (by unfold goTo; split <;> omega) (by omega)
  exact this l N hN (Int.le_refl _)

end Go.Proofs.Ytoonkpjddfiopaa

/- Walk: the closure of best in one piece; the table of least costs while it is filled. -/
namespace Go.Proofs.Ytoonkpjddfiopaa
open Go.RowKit
set_option linter.unusedVariables false

def NV : Int := 1073741824
/-- the table of least costs: the columns behind x are done, and the first y rows of column x -/
def restR (W : Int) (G : Int → Int → Int) (x y : Int) : Int → Int := fun i => if x < i % W ∨ (i % W = x ∧ i / W < y) then G (i % W) (i / W) else 0
theorem restR_start {W : Int} {G : Int → Int → Int} {i : Int} (hW : 0 < W) (h0 : 0 ≤ i) : restR W G (W - 1) 0 i = 0 := by
  have h1 : i % W < W := Int.emod_lt_of_pos _ hW
  have h2 : 0 ≤ i / W := Int.ediv_nonneg h0 (by omega)
  unfold restR; rw [if_neg (by omega)]
theorem restR_set {W : Int} {G : Int → Int → Int} {x y : Int} (hx0 : 0 ≤ x) (hx : x < W) (i : Int) : upd (restR W G x y) (y * W + x) (G x y) i = restR W G x (y + 1) i := by
  have a := idx_mod (y := y) hx0 hx
  have b := idx_div (y := y) hx0 hx
  show (if i = y * W + x then G x y else restR W G x y i) = _
  by_cases e : i = y * W + x
  · rw [if_pos e]; subst e
    unfold restR
    rw [a, b, if_pos (by omega)]
  · rw [if_neg e]
    unfold restR
    have : ¬ (i / W = y ∧ i % W = x) := fun ⟨h1, h2⟩ => e (by
      have := Int.emod_add_mul_ediv i W
      rw [h1, h2, Int.mul_comm] at this; omega)
    by_cases e2 : x < i % W ∨ (i % W = x ∧ i / W < y)
    · rw [if_pos e2, if_pos (by omega)]
    · rw [if_neg e2, if_neg (by omega)]
theorem restR_col {W H : Int} {G : Int → Int → Int} {x i : Int} (hW : 0 < W) (h0 : 0 ≤ i) (hi : i < W * H) : restR W G x H i = restR W G (x - 1) 0 i := by
  have h1 : i / W < H := Int.ediv_lt_of_lt_mul hW (by rw [Int.mul_comm]; exact hi)
  have h2 : 0 ≤ i / W := Int.ediv_nonneg h0 (by omega)
  unfold restR
  by_cases e : x < i % W ∨ (i % W = x ∧ i / W < H)
  · rw [if_pos e, if_pos (by omega)]
  · rw [if_neg e, if_neg (by omega)]
theorem restR_at {W : Int} {G : Int → Int → Int} {x y t u : Int} (hu0 : 0 ≤ u) (hu : u < W) (h : x < u) : restR W G x y (t * W + u) = G u t := by
  unfold restR
  rw [idx_mod hu0 hu, idx_div hu0 hu, if_pos (by omega)]
end Go.Proofs.Ytoonkpjddfiopaa

/- A function that leaves with several marks of ranges over functions among its deferred calls. No program in sight. -/
namespace Go.Proofs.Ytoonkpjddfiopaa
open Go.RowKit
set_option linter.unusedVariables false

/-- the marks of these blocks -/
def marks (Ds : List Nat) : List Deferred := Ds.map fun D => { target := .collected D, args := #[] }
/-- blocks that hold no deferred calls -/
def Held (w : World) (Ds : List Nat) : Prop := Ds.Nodup ∧ ∀ D ∈ Ds, w.heap[D]? = some (.deferred (some []))
theorem Held.nil (w : World) : Held w [] := ⟨List.nodup_nil, fun _ h => by simp at h⟩
theorem Held.cons {w : World} {Ds : List Nat} {D : Nat} (h : Held w Ds) (hD : w.heap[D]? = some (.deferred (some []))) (hn : D ∉ Ds) : Held w (D :: Ds) :=
  ⟨List.nodup_cons.2 ⟨hn, h.1⟩, fun E hE => by rcases List.mem_cons.1 hE with rfl | hE <;> first | exact hD | exact h.2 E hE⟩
theorem Held.keep {w w' : World} {Ds : List Nat} (h : Held w Ds) (k : ∀ D : Nat, w.heap[D]? = some (Obj.deferred (some [])) → w'.heap[D]? = some (Obj.deferred (some []))) : Held w' Ds := ⟨h.1, fun D hD => k D (h.2 D hD)⟩
theorem leavesM_marks {P : Program} {F : Fence} {n : Nat} {fn : Func} {tmps : Array Value} {R : Ending → World → Prop} {B : Nat} (Ds : List Nat) (w : World) (h : Held w Ds) (hB : ∀ D ∈ Ds, B ≤ D)
    (hend : ∀ w', Below B w w' → (∀ k, k < w.heap.size → k ∉ Ds → w'.heap[k]? = w.heap[k]?) → LeavesIn F n P fn tmps R [] .returning w') : LeavesInM F n P fn tmps R (marks Ds) .returning w := by
  induction Ds generalizing w with
  | nil => exact hend w (Below.refl _ _) fun _ _ _ => rfl
  | cons D Ds ih =>
    have hD := h.2 D (List.mem_cons_self ..)
    have hl := (Array.getElem?_eq_some_iff.1 hD).1
    have hg := grownBy_putObj' w D (.deferred none)
    have hb : Below B w (w.putObj D (.deferred none)) := (Below.refl B w).grown hg (by have := hB D (List.mem_cons_self ..); omega) (fun k e => by cases e; exact hB D (List.mem_cons_self ..))
    refine ⟨by simp, .inl ⟨D, _, rfl, run_takeDeferred hD, ?_⟩⟩
    refine ih _ ⟨(List.nodup_cons.1 h.1).2, fun E hE => ?_⟩ (fun E hE => hB E (List.mem_cons_of_mem _ hE)) (fun w' hw hk => hend w' (hb.trans hw) fun k h1 h2 => ?_)
    · have hne : E ≠ D := fun e => (List.nodup_cons.1 h.1).1 (e ▸ hE)
      have hE' := h.2 E (List.mem_cons_of_mem _ hE)
      rw [← hE']
      exact hg.block E ((Array.getElem?_eq_some_iff.1 hE').1) (by intro e; cases e; exact hne rfl)
    · refine (hk k (Nat.lt_of_lt_of_le h1 hg.size) fun hm => h2 (List.mem_cons_of_mem _ hm)).trans (hg.block k h1 ?_)
      intro e; cases e; exact h2 (List.mem_cons_self ..)
end Go.Proofs.Ytoonkpjddfiopaa

/- Plain: the row in which the path goes on, as the first of a list that meets a test; worlds that differ in one block. No program in sight. -/
namespace Go.Proofs.Ytoonkpjddfiopaa
open Go.RowKit
set_option linter.unusedVariables false

theorem nbT_find (f : Int → Bool) (a : Int) (n : Nat) : (nbT a n).find? f = if 0 ≤ idxF (fun i => f (nxLo a + i)) n then some (nxLo a + idxF (fun i => f (nxLo a + i)) n) else none := by
  induction n with
  | zero => simp [nbT, idxF]
  | succ n ih =>
    rw [nbT_snoc, List.find?_append, ih, idxF]
    by_cases h : 0 ≤ idxF (fun i => f (nxLo a + i)) n
    · rw [if_pos h, if_pos h, if_pos h]; rfl
    · rw [if_neg h, if_neg h]
      cases h2 : f (nxLo a + (n : Int)) with
      | true => simp [h2]
      | false => simp [h2]
theorem nxt_find (N W H : Int) (c : Int → Int → Int) (F : Int → Int → Bool) (x a : Int) :
    nxt N W H c F x a = ((nbT a (nxN H a)).find? (fun t => decide (goTo (gAt N W H c F (x + 1)) a t = gAt N W H c F x a - c x a))).getD a := by
  rw [nbT_find]
  unfold nxt
  split <;> rfl
theorem find_none {f : Int → Bool} {h : Int} {l : List (RowIn h)} {m : List Int} (e : l.map Subtype.val = m) (hf : ∀ t ∈ l, f t.1 = false) (a : Int) : (m.find? f).getD a = a := by
  have : m.find? f = none := List.find?_eq_none.2 fun t ht => by
    rw [← e] at ht
    obtain ⟨s, hs, rfl⟩ := List.mem_map.1 ht
    simp [hf s hs]
  rw [this]; rfl
theorem nbT_add (a : Int) (j k : Nat) : ∃ r, nbT a (j + k) = nbT a j ++ r := by
  induction k with
  | zero => exact ⟨[], by simp⟩
  | succ k ih => obtain ⟨r, hr⟩ := ih; exact ⟨r ++ [nxLo a + (j + k : Nat)], by rw [← Nat.add_assoc, nbT_snoc, hr, List.append_assoc]⟩
theorem find_some {f : Int → Bool} {h a : Int} {n : Nat} {l p : List (RowIn h)} {t : RowIn h} (hj : ∃ j, j ≤ n ∧ l.map Subtype.val = nbT a j) (e : l = p ++ [t]) (hf : ∀ s ∈ p, f s.1 = false) (ht : f t.1 = true) (b : Int) : ((nbT a n).find? f).getD b = t.1 := by
  obtain ⟨j, hj, hl⟩ := hj
  obtain ⟨r, hr⟩ := nbT_add a j (n - j)
  rw [show j + (n - j) = n by omega] at hr
  rw [hr, ← hl, e, List.map_append, List.append_assoc, List.find?_append]
  have : (p.map Subtype.val).find? f = none := List.find?_eq_none.2 fun t ht => by
    obtain ⟨s, hs, rfl⟩ := List.mem_map.1 ht
    simp [hf s hs]
  rw [this]
  simp [ht]

/-- the blocks below B, but for block k, are as they were -/
structure But (B k : Nat) (w w' : World) : Prop where
  os : w'.os = w.os
  tape : w'.tape = w.tape
  output : w'.output = w.output
  size : B ≤ w'.heap.size
  block : ∀ j, j < B → j ≠ k → w'.heap[j]? = w.heap[j]?
theorem But.refl {B : Nat} {w : World} (k : Nat) (h : B ≤ w.heap.size) : But B k w w := ⟨rfl, rfl, rfl, h, fun _ _ _ => rfl⟩
theorem But.then {B k : Nat} {w w' w'' : World} (h : But B k w w') (hb : Below B w' w'') : But B k w w'' :=
  ⟨hb.os.trans h.os, hb.tape.trans h.tape, hb.output.trans h.output, Nat.le_trans h.size hb.size, fun j hj hk => (hb.block j hj).trans (h.block j hj hk)⟩
theorem But.set {B k : Nat} {w w' : World} (h : But B k w w') (o : Nat) (u : Value) : But B k w (w'.setCell ⟨k, o, none⟩ u) := by
  have hb := Below.setCell (Below.refl k w') (show k ≤ (⟨k, o, none⟩ : Addr).block from Nat.le_refl _) u
  refine ⟨hb.os.trans h.os, hb.tape.trans h.tape, hb.output.trans h.output, by simpa using h.size, fun j hj hk => ?_⟩
  rw [heap_setCell_other w' ⟨k, o, none⟩ j u hk]
  exact h.block j hj hk
theorem But.to {B k m : Nat} {w w' : World} (h : But B k w w') (hs : w.heap.size = B) (hk : m ≤ k) (hB : m ≤ B) : Below m w w' := ⟨h.os, h.tape, h.output, hs ▸ h.size, fun j hj => h.block j (by omega) (by omega)⟩
theorem Blk.but {B k : Nat} {w w' : World} {g t : Nat} {cs : Array Value} (h : Blk w g t cs) (hb : But B k w w') (hg : g < B) (hn : g ≠ k) : Blk w' g t cs := h.move (hb.block g hg hn)
theorem Held.but {B k : Nat} {w w' : World} {Ds : List Nat} (h : Held w Ds) (hb : But B k w w') (hB : w.heap.size = B) (hk : ∃ t cs, Blk w k t cs) : Held w' Ds := h.keep fun D hD => by
  have hl := (Array.getElem?_eq_some_iff.1 hD).1
  refine (hb.block D (by omega) fun e => ?_).trans hD
  obtain ⟨t, cs, hc⟩ := hk
  rw [e, hc] at hD; cases hD
theorem Held.below {w w' : World} {Ds : List Nat} (h : Held w Ds) (hb : Below w.heap.size w w') : Held w' Ds := h.keep fun D hD => (hb.block D (Array.getElem?_eq_some_iff.1 hD).1).trans hD
theorem own_cells {w : World} {base : Nat} {e : TypeId} {size n k : Nat} {v : Value} {xs : List Value} (h : w.ownsRow base e size v n xs) (hk : v.ownBlock = some k) : ∃ cs, w.heap[k]? = some (.cells cs e (0, 0)) := by
  rcases h.2 with ⟨rfl, _⟩ | ⟨g, cap, cur, rfl, hb, hh, _⟩
  · simp [Value.ownBlock] at hk
  · simp [Value.ownBlock] at hk
    subst hk
    exact ⟨_, hh⟩
theorem own_but {w w' : World} {base n B k : Nat} {e : TypeId} {v : Value} {xs : List Value} (h : w.ownsRow base e 1 v n xs) (hb : But B k w w') (hB : w.heap.size = B) (hk : k < base) : w'.ownsRow base e 1 v n xs := by
  refine ⟨h.1, ?_⟩
  rcases h.2 with h2 | ⟨g, cap, cur, hv, hg, hh, r⟩
  · exact .inl h2
  · exact .inr ⟨g, cap, cur, hv, hg, (hb.block g (by rw [← hB]; exact (Array.getElem?_eq_some_iff.1 hh).1) (by omega)).trans hh, r⟩
theorem own_held {w w' : World} {base n : Nat} {e : TypeId} {v : Value} {xs : List Value} {Ds : List Nat} (h : w.ownsRow base e 1 v n xs) (hd : Held w Ds) (hk : ∀ k, k < w.heap.size → k ∉ Ds → w'.heap[k]? = w.heap[k]?) : w'.ownsRow base e 1 v n xs := by
  refine ⟨h.1, ?_⟩
  rcases h.2 with h2 | ⟨g, cap, cur, hv, hg, hh, r⟩
  · exact .inl h2
  · refine .inr ⟨g, cap, cur, hv, hg, (hk g (Array.getElem?_eq_some_iff.1 hh).1 fun hm => ?_).trans hh, r⟩
    have := hd.2 g hm
    rw [hh] at this; cases this
theorem own_one {w : World} {base g : Nat} {e : TypeId} {u : Value} (h : Blk w g e #[u]) (hb : base ≤ g) : w.ownsRow base e 1 (.slice (some ⟨g, 0, none⟩) 1 1) 1 [u] :=
  ⟨rfl, .inr ⟨g, 1, #[u], rfl, hb, h, Nat.le_refl _, by unfold maxLen; omega, rfl, rfl⟩⟩
theorem Held.grown {w w' : World} {Ds : List Nat} {base : Nat} {e : TypeId} {n : Nat} {v : Value} {xs : List Value} (h : Held w Ds) (ho : w.ownsRow base e 1 v n xs) (hg : w.grownBy w' v.ownBlock) : Held w' Ds := h.keep fun D hD => by
  refine (hg.block D (Array.getElem?_eq_some_iff.1 hD).1 fun e => ?_).trans hD
  obtain ⟨cs, hc⟩ := own_cells ho e.symm
  rw [hc] at hD; cases hD
theorem Held.lt {w : World} {Ds : List Nat} (h : Held w Ds) {D : Nat} (hD : D ∈ Ds) : D < w.heap.size := (Array.getElem?_eq_some_iff.1 (h.2 D hD)).1
theorem range_snoc {α : Type} (f : Nat → α) (n : Nat) : (List.range (n + 1)).map f = (List.range n).map f ++ [f n] := by rw [List.range_succ, List.map_append]; rfl
theorem own_base {w : World} {base base' n : Nat} {e : TypeId} {v : Value} {xs : List Value} (h : w.ownsRow base e 1 v n xs) (hb : base' ≤ base) : w.ownsRow base' e 1 v n xs := by
  refine ⟨h.1, ?_⟩
  rcases h.2 with h2 | ⟨g, cap, cur, hv, hg, r⟩
  · exact .inl h2
  · exact .inr ⟨g, cap, cur, hv, Nat.le_trans hb hg, r⟩
/-- rows of different types lie apart -/
theorem own_apart {w : World} {base base' n n' k : Nat} {e e' : TypeId} {v v' : Value} {xs xs' : List Value} (h : w.ownsRow base e 1 v n xs) (h' : w.ownsRow base' e' 1 v' n' xs') (hne : e ≠ e') (hk : v.ownBlock = some k) : v'.ownBlock ≠ some k := fun hk' => by
  obtain ⟨cs, hc⟩ := own_cells h hk
  obtain ⟨cs', hc'⟩ := own_cells h' hk'
  rw [hc] at hc'; cases hc'; exact hne rfl
theorem own_move {w w' : World} {base n : Nat} {e : TypeId} {v : Value} {xs : List Value} (h : w.ownsRow base e 1 v n xs) (hk : ∀ k, v.ownBlock = some k → w'.heap[k]? = w.heap[k]?) : w'.ownsRow base e 1 v n xs := by
  refine ⟨h.1, ?_⟩
  rcases h.2 with h2 | ⟨g, cap, cur, hv, hg, hh, r⟩
  · exact .inl h2
  · exact .inr ⟨g, cap, cur, hv, hg, (hk g (by rw [hv]; rfl)).trans hh, r⟩
theorem own_grown {w w' : World} {base base' n n' : Nat} {e e' : TypeId} {v v' : Value} {xs xs' : List Value} (h : w.ownsRow base e 1 v n xs) (h' : w.ownsRow base' e' 1 v' n' xs') (hne : e ≠ e') (hg : w.grownBy w' v'.ownBlock) : w'.ownsRow base e 1 v n xs :=
  own_move h fun k hk => hg.block k (own_ge h hk).2 fun e => own_apart h h' hne hk e.symm
theorem own_far {w : World} {base n g t : Nat} {e : TypeId} {v : Value} {xs : List Value} {cs : Array Value} (h : w.ownsRow base e 1 v n xs) (hb : Blk w g t cs) (hne : e ≠ t) (o : Nat) (u : Value) : (w.setCell ⟨g, o, none⟩ u).ownsRow base e 1 v n xs :=
  own_move h fun k hk => heap_setCell_other w ⟨g, o, none⟩ k u fun e => by
    obtain ⟨cs', hc⟩ := own_cells h hk
    have e : k = g := e
    subst e
    rw [hb] at hc; cases hc; exact hne rfl
theorem own_neB {w : World} {base n g t : Nat} {e : TypeId} {v : Value} {xs : List Value} {cs : Array Value} (h : w.ownsRow base e 1 v n xs) (hb : Blk w g t cs) (hne : t ≠ e) : some g ≠ v.ownBlock := fun hk => by
  obtain ⟨cs', hc⟩ := own_cells h hk.symm
  rw [hb] at hc; cases hc; exact hne rfl
/-- how long a slice is -/
def lenV : Value → Nat
  | .slice _ n _ => n
  | _ => 0
theorem own_len {w : World} {base n : Nat} {e : TypeId} {v : Value} {xs : List Value} (h : w.ownsRow base e 1 v n xs) : lenV v = n := by
  obtain ⟨A, c, rfl, _⟩ := own_arr h
  rfl
section
variable {w w' : World} {B n size : Nat} {e : TypeId} {v : Value} {xs : List Value}
theorem own_moveS (h : w.ownsRow B e size v n xs) (hk : ∀ k, v.ownBlock = some k → w'.heap[k]? = w.heap[k]?) : w'.ownsRow B e size v n xs := by
  refine ⟨h.1, ?_⟩
  rcases h.2 with h2 | ⟨g, cap, cur, hv, hg, hh, r⟩
  · exact .inl h2
  · exact .inr ⟨g, cap, cur, hv, hg, (hk g (by rw [hv]; rfl)).trans hh, r⟩
theorem own_belowS (h : w.ownsRow B e size v n xs) (hb : Below w.heap.size w w') : w'.ownsRow B e size v n xs := own_moveS h fun k hk => hb.block k (own_ge h hk).2
end
end Go.Proofs.Ytoonkpjddfiopaa

/- Rows of elements of several cells, by an encoder. -/
namespace Go.Proofs.Ytoonkpjddfiopaa
open Go.RowKit
set_option linter.unusedVariables false

section
variable {α : Type} {enc : α → List Value} {k : Nat}
def flatE (enc : α → List Value) (l : List α) : List Value := l.flatMap enc
theorem flatE_len (hk : ∀ a, (enc a).length = k) (l : List α) : (flatE enc l).length = l.length * k := by
  induction l with
  | nil => simp [flatE]
  | cons a l ih =>
    show (enc a ++ flatE enc l).length = (l.length + 1) * k
    rw [List.length_append, ih, hk, Nat.succ_mul, Nat.add_comm]
theorem flatE_snoc (l : List α) (r : α) : flatE enc (l ++ [r]) = flatE enc l ++ enc r := by simp [flatE]
theorem flatE_at (hk : ∀ a, (enc a).length = k) : ∀ (l : List α) (i : Nat) (r : α), l[i]? = some r → ∀ t, t < k → (flatE enc l)[i * k + t]? = (enc r)[t]?
  | [], i, r, h, t, ht => by simp at h
  | a :: l, 0, r, h, t, ht => by
    simp at h; subst h
    show ((enc a) ++ flatE enc l)[0 * k + t]? = _
    rw [Nat.zero_mul, Nat.zero_add, List.getElem?_append_left (by rw [hk]; exact ht)]
  | a :: l, i + 1, r, h, t, ht => by
    have ih := flatE_at hk l i r (by simpa using h) t ht
    show ((enc a) ++ flatE enc l)[(i + 1) * k + t]? = _
    rw [List.getElem?_append_right (by rw [hk, Nat.succ_mul]; omega), ← ih]
    congr 1
    rw [hk, Nat.succ_mul]; omega
/-- a row of such elements that the call owns -/
def ERow (w : World) (B : Nat) (T : TypeId) (k : Nat) (enc : α → List Value) (v : Value) (l : List α) : Prop := w.ownsRow B T k v l.length (flatE enc l)
/-- a slice that reads as these elements -/
def EArr (w : World) (B : Nat) (k : Nat) (enc : α → List Value) (A : Option Addr) (l : List α) : Prop := l ≠ [] → ∃ g, A = some ⟨g, 0, none⟩ ∧ g < B ∧ ∀ i r, l[i]? = some r → ∀ t, t < k → w.cell? ⟨g, i * k + t, none⟩ = (enc r)[t]?
variable {w w' : World} {B : Nat} {T : TypeId} {v : Value} {l : List α}
theorem ERow.below (h : ERow w B T k enc v l) (hb : Below w.heap.size w w') : ERow w' B T k enc v l := own_belowS h hb
theorem ERow.move (h : ERow w B T k enc v l) (hk : ∀ j, v.ownBlock = some j → w'.heap[j]? = w.heap[j]?) : ERow w' B T k enc v l := own_moveS h hk
theorem ERow.nil (w : World) (B : Nat) (T : TypeId) (k : Nat) (enc : α → List Value) : ERow w B T k enc (.slice none 0 0) [] := by
  refine ⟨by simp [flatE], .inl ⟨rfl, rfl⟩⟩
theorem ERow.base {B' : Nat} (h : ERow w B T k enc v l) (hB : B' ≤ B) : ERow w B' T k enc v l := ⟨h.1, h.2.imp id fun ⟨g, c, cur, a, b, r⟩ => ⟨g, c, cur, a, Nat.le_trans hB b, r⟩⟩
theorem ERow.val (h : ERow w B T k enc v l) : ∃ A c, v = .slice A l.length c ∧ l.length ≤ c := by
  rcases h.2 with ⟨rfl, h2⟩ | ⟨g, cap, cur, rfl, hb, hh, hc, _⟩
  · have h3 : l = [] := by
      have := h2
      cases l with
      | nil => rfl
      | cons a t => simp at h2
    subst h3
    exact ⟨none, 0, rfl, Nat.le_refl _⟩
  · exact ⟨_, _, rfl, hc⟩
theorem ERow.blk (h : ERow w B T k enc v l) (hl : l ≠ []) : ∃ g c cs, v = .slice (some ⟨g, 0, none⟩) l.length c ∧ l.length ≤ c ∧ B ≤ g ∧ Blk w g T cs ∧ cs.size = c * k ∧ c ≤ maxLen ∧ cs.toList.take (l.length * k) = flatE enc l := by
  rcases h.2 with ⟨-, h2⟩ | ⟨g, cap, cur, rfl, hb, hh, hc, hm, hs, ht⟩
  · exfalso
    cases l with
    | nil => exact hl rfl
    | cons a t => simp at h2
  · exact ⟨g, cap, cur, rfl, hc, hb, hh, hs, hm, ht⟩
theorem ERow.of {g c : Nat} {cs : Array Value} (hk : ∀ a, (enc a).length = k) (h : Blk w g T cs) (hB : B ≤ g) (hc : l.length ≤ c) (hm : c ≤ maxLen) (hs : cs.size = c * k) (ht : cs.toList.take (l.length * k) = flatE enc l) : ERow w B T k enc (.slice (some ⟨g, 0, none⟩) l.length c) l :=
  ⟨flatE_len hk l, .inr ⟨g, c, cs, rfl, hB, h, hc, hm, hs, ht⟩⟩
theorem ERow.cell (hk : ∀ a, (enc a).length = k) {g : Nat} {cs : Array Value} (h : Blk w g T cs) (ht : cs.toList.take (l.length * k) = flatE enc l) {i : Nat} {r : α} (hi : l[i]? = some r) {t : Nat} (h1 : t < k) : w.cell? ⟨g, i * k + t, none⟩ = (enc r)[t]? := by
  have hl := (List.getElem?_eq_some_iff.1 hi).1
  rw [h.cell, ← flatE_at hk l i r hi t h1, ← ht, List.getElem?_take, if_pos ?_, Array.getElem?_toList]
  have h2 : i * k + k ≤ l.length * k := by
    have := Nat.mul_le_mul_right k (show i + 1 ≤ l.length from hl)
    rw [Nat.succ_mul] at this; exact this
  omega
theorem ERow.arr (hk : ∀ a, (enc a).length = k) (h : ERow w B T k enc v l) : ∃ A c, v = .slice A l.length c ∧ l.length ≤ c ∧ EArr w w.heap.size k enc A l := by
  by_cases hl : l = []
  · obtain ⟨A, c, e, hc⟩ := h.val
    exact ⟨A, c, e, hc, fun h => absurd hl h⟩
  · obtain ⟨g, c, cs, e, hc, hg, hb, hs, hm, ht⟩ := h.blk hl
    exact ⟨_, c, e, hc, fun _ => ⟨g, rfl, hb.lt, fun i r hi t h1 => ERow.cell hk hb ht hi h1⟩⟩
theorem EArr.to {A : Option Addr} (h : EArr w w.heap.size k enc A l) (hb : Below w.heap.size w w') : EArr w' w'.heap.size k enc A l := fun hl => by
  obtain ⟨g, rfl, hg, hc⟩ := h hl
  refine ⟨g, rfl, Nat.lt_of_lt_of_le hg hb.size, fun i r hi t ht => (hb.cell (p := ⟨g, i * k + t, none⟩) hg).trans (hc i r hi t ht)⟩
theorem EArr.below {A : Option Addr} (h : EArr w B k enc A l) (hb : Below B w w') : EArr w' B k enc A l := fun hl => by
  obtain ⟨g, rfl, hg, hc⟩ := h hl
  refine ⟨g, rfl, hg, fun i r hi t ht => (hb.cell (p := ⟨g, i * k + t, none⟩) hg).trans (hc i r hi t ht)⟩
end
/-- the place i of a grid W wide, as a point's cells -/
def encP (W : Nat) (i : Nat) : List Value := [.int .i64 ((i % W : Nat) : Int), .int .i64 ((i / W : Nat) : Int)]
theorem encP_len (W : Nat) (i : Nat) : (encP W i).length = 2 := rfl
end Go.Proofs.Ytoonkpjddfiopaa

/- Plain: connected parts of a set of numbers. No program in sight. -/
namespace Go.Proofs.Ytoonkpjddfiopaa
set_option linter.unusedVariables false

/-- b is reached from a by steps within a set -/
inductive Cn (ink : Nat → Prop) (A : Nat → Nat → Prop) : Nat → Nat → Prop
  | refl {a : Nat} : ink a → Cn ink A a a
  | step {a b c : Nat} : Cn ink A a b → ink c → A b c → Cn ink A a c
section
variable {ink : Nat → Prop} {A : Nat → Nat → Prop} {a b c : Nat}
theorem Cn.left (h : Cn ink A a b) : ink a := by
  induction h with
  | refl h => exact h
  | step _ _ _ ih => exact ih
theorem Cn.right (h : Cn ink A a b) : ink b := by
  cases h with
  | refl h => exact h
  | step _ h _ => exact h
theorem Cn.trans (h : Cn ink A a b) (h' : Cn ink A b c) : Cn ink A a c := by
  induction h' with
  | refl _ => exact h
  | step _ hc hA ih => exact ih.step hc hA
theorem Cn.symm (hA : ∀ a b, A a b → A b a) (h : Cn ink A a b) : Cn ink A b a := by
  induction h with
  | refl h => exact .refl h
  | step h hc hs ih => exact ((Cn.refl hc).step h.right (hA _ _ hs)).trans ih
theorem Cn.one (ha : ink a) (hb : ink b) (h : A a b) : Cn ink A a b := (Cn.refl ha).step hb h
/-- a closed set that holds a holds all that a leads to -/
theorem Cn.closed {S : Nat → Prop} (h : Cn ink A a b) (ha : S a) (hc : ∀ x y, S x → ink y → A x y → S y) : S b := by
  induction h with
  | refl _ => exact ha
  | step _ h1 h2 ih => exact hc _ _ ih h1 h2
theorem Cn.mono {ink' : Nat → Prop} {A' : Nat → Nat → Prop} (hi : ∀ x, ink x → ink' x) (hA : ∀ x y, A x y → A' x y) (h : Cn ink A a b) : Cn ink' A' a b := by
  induction h with
  | refl h => exact .refl (hi _ h)
  | step _ h1 h2 ih => exact ih.step (hi _ h1) (hA _ _ h2)
end
open Classical in
/-- all numbers of a part, in order -/
noncomputable def partN (n : Nat) (ink : Nat → Prop) (A : Nat → Nat → Prop) (i : Nat) : List Nat := (List.range n).filter fun j => decide (Cn ink A i j)
/-- the least of its part -/
def Root (ink : Nat → Prop) (A : Nat → Nat → Prop) (i : Nat) : Prop := ink i ∧ ∀ j, Cn ink A i j → i ≤ j
open Classical in
/-- the first numbers of all parts, in order -/
noncomputable def rootN (n : Nat) (ink : Nat → Prop) (A : Nat → Nat → Prop) : List Nat := (List.range n).filter fun i => decide (Root ink A i)
section
variable {n : Nat} {ink : Nat → Prop} {A : Nat → Nat → Prop} {i j : Nat}
theorem mem_partN : j ∈ partN n ink A i ↔ j < n ∧ Cn ink A i j := by
  simp only [partN, List.mem_filter, List.mem_range, decide_eq_true_eq]
theorem mem_rootN : i ∈ rootN n ink A ↔ i < n ∧ Root ink A i := by
  simp only [rootN, List.mem_filter, List.mem_range, decide_eq_true_eq]
theorem partN_sorted : (partN n ink A i).Pairwise (· < ·) := List.Pairwise.filter _ List.pairwise_lt_range
theorem rootN_sorted : (rootN n ink A).Pairwise (· < ·) := List.Pairwise.filter _ List.pairwise_lt_range
/-- two lists in order with the same members -/
theorem sorted_ext : ∀ {l l' : List Nat}, l.Pairwise (· < ·) → l'.Pairwise (· < ·) → (∀ x, x ∈ l ↔ x ∈ l') → l = l'
  | [], [], _, _, _ => rfl
  | [], y :: l', _, _, h => absurd ((h y).2 (by simp)) (by simp)
  | x :: l, [], _, _, h => absurd ((h x).1 (by simp)) (by simp)
  | x :: l, y :: l', hl, hl', h => by
    rw [List.pairwise_cons] at hl hl'
    have e : x = y := by
      have h1 := (h x).1 (by simp)
      have h2 := (h y).2 (by simp)
      rcases List.mem_cons.1 h1 with e | h1
      · exact e
      · rcases List.mem_cons.1 h2 with e | h2
        · exact e.symm
        · have := hl.1 y h2; have := hl'.1 x h1; omega
    subst e
    rw [sorted_ext hl.2 hl'.2 fun z => ⟨fun hz => by
        have h1 := (h z).1 (List.mem_cons_of_mem _ hz)
        rcases List.mem_cons.1 h1 with e | h1
        · subst e; have := hl.1 z hz; omega
        · exact h1, fun hz => by
        have h1 := (h z).2 (List.mem_cons_of_mem _ hz)
        rcases List.mem_cons.1 h1 with e | h1
        · subst e; have := hl'.1 z hz; omega
        · exact h1⟩]
/-- what has been found is whole and closed: it is the part -/
theorem part_found {l : List Nat} (hl : l.Pairwise (· < ·)) (hb : ∀ x ∈ l, x < n) (hi : i ∈ l) (hc : ∀ x ∈ l, Cn ink A i x) (hcl : ∀ x y, x ∈ l → ink y → A x y → y ∈ l) : l = partN n ink A i := by
  refine sorted_ext hl partN_sorted fun x => ?_
  rw [mem_partN]
  exact ⟨fun h => ⟨hb x h, hc x h⟩, fun ⟨_, h⟩ => h.closed (S := (· ∈ l)) hi hcl⟩
/-- each member of the set has a root -/
theorem root_ex (hA : ∀ a b, A a b → A b a) (h : ink i) : ∃ r, r ≤ i ∧ Root ink A r ∧ Cn ink A r i := by
  classical
  have : ∀ m, ∀ r, r ≤ m → Cn ink A r i → ∃ r', r' ≤ r ∧ Root ink A r' ∧ Cn ink A r' i := by
    intro m
    induction m with
    | zero =>
      intro r hr hc
      obtain rfl : r = 0 := by omega
      exact ⟨0, Nat.le_refl _, ⟨hc.left, fun j _ => Nat.zero_le _⟩, hc⟩
    | succ m ih =>
      intro r hr hc
      by_cases hR : ∀ j, Cn ink A r j → r ≤ j
      · exact ⟨r, Nat.le_refl _, ⟨hc.left, hR⟩, hc⟩
      · obtain ⟨j, hj⟩ := Classical.not_forall.1 hR
        have hj1 : Cn ink A r j := Classical.byContradiction fun h => hj fun h' => absurd h' h
        have hj2 : j < r := by
          rcases Nat.lt_or_ge j r with h | h
          · exact h
          · exact absurd (fun _ => h) hj
        obtain ⟨r', h1, h2, h3⟩ := ih j (by omega) ((hj1.symm hA).trans hc)
        exact ⟨r', by omega, h2, h3⟩
  exact this i i (Nat.le_refl _) (.refl h)
theorem root_uniq (hA : ∀ a b, A a b → A b a) {r r' : Nat} (h : Root ink A r) (h' : Root ink A r') (hc : Cn ink A r r') : r = r' := by
  have h1 := h.2 _ hc
  have h2 := h'.2 _ (hc.symm hA)
  omega
end
/-! ### what is left while the parts are found -/
/-- i is in the set, and no part that begins ahead of k holds it -/
def LeftN (ink : Nat → Prop) (A : Nat → Nat → Prop) (k i : Nat) : Prop := ink i ∧ ∀ r, Root ink A r → r < k → ¬ Cn ink A r i
section
variable {ink : Nat → Prop} {A : Nat → Nat → Prop} {i k : Nat}
theorem left_zero : LeftN ink A 0 i ↔ ink i := ⟨fun h => h.1, fun h => ⟨h, fun r _ h2 => by omega⟩⟩
/-- what is first left is a root -/
theorem left_root (hA : ∀ a b, A a b → A b a) : LeftN ink A k k ↔ Root ink A k := by
  constructor
  · intro h
    obtain ⟨r, h1, h2, h3⟩ := root_ex hA h.1
    by_cases e : r = k
    · exact e ▸ h2
    · exact absurd h3 (h.2 r h2 (by omega))
  · intro h
    refine ⟨h.1, fun r h1 h2 h3 => ?_⟩
    have := root_uniq hA h1 h h3
    omega
theorem left_skip (h : ¬ Root ink A k) : LeftN ink A (k + 1) i ↔ LeftN ink A k i := by
  constructor
  · exact fun h1 => ⟨h1.1, fun r a b => h1.2 r a (by omega)⟩
  · exact fun h1 => ⟨h1.1, fun r a b => by
      by_cases e : r = k
      · exact absurd (e ▸ a) h
      · exact h1.2 r a (by omega)⟩
theorem left_take (h : Root ink A k) : LeftN ink A (k + 1) i ↔ LeftN ink A k i ∧ ¬ Cn ink A k i := by
  constructor
  · exact fun h1 => ⟨⟨h1.1, fun r a b => h1.2 r a (by omega)⟩, h1.2 k h (by omega)⟩
  · exact fun ⟨h1, h2⟩ => ⟨h1.1, fun r a b => by
      by_cases e : r = k
      · rw [e]; exact h2
      · exact h1.2 r a (by omega)⟩
/-- what a root leads to is still left when it comes up -/
theorem left_part (hA : ∀ a b, A a b → A b a) (h : Root ink A k) (hc : Cn ink A k i) : LeftN ink A k i :=
  ⟨hc.right, fun r a b hc' => by
    have := root_uniq hA a h (hc'.trans (hc.symm hA))
    omega⟩
end
open Classical in
/-- the roots ahead of k -/
noncomputable def rootK (k : Nat) (ink : Nat → Prop) (A : Nat → Nat → Prop) : List Nat := (List.range k).filter fun i => decide (Root ink A i)
theorem rootK_zero (ink : Nat → Prop) (A : Nat → Nat → Prop) : rootK 0 ink A = [] := rfl
theorem rootK_yes {k : Nat} {ink : Nat → Prop} {A : Nat → Nat → Prop} (h : Root ink A k) : rootK (k + 1) ink A = rootK k ink A ++ [k] := by
  unfold rootK; rw [List.range_succ, List.filter_append]; congr 1; simp [List.filter, h]
theorem rootK_no {k : Nat} {ink : Nat → Prop} {A : Nat → Nat → Prop} (h : ¬ Root ink A k) : rootK (k + 1) ink A = rootK k ink A := by
  unfold rootK; rw [List.range_succ, List.filter_append]; simp [List.filter, h]
theorem rootK_n {n : Nat} {ink : Nat → Prop} {A : Nat → Nat → Prop} : rootK n ink A = rootN n ink A := rfl
theorem rootK_len (k : Nat) (ink : Nat → Prop) (A : Nat → Nat → Prop) : (rootK k ink A).length ≤ k := by
  unfold rootK
  exact Nat.le_trans (List.length_filter_le _ _) (by simp)
/-! ### neighbours of a grid -/
/-- neighbours: in a row, in a column, and aslant if e -/
def AdjN (W : Nat) (e : Bool) (i j : Nat) : Prop :=
  i ≠ j ∧ (j % W : Int) - (i % W : Int) ≤ 1 ∧ (i % W : Int) - (j % W : Int) ≤ 1 ∧ (j / W : Int) - (i / W : Int) ≤ 1 ∧ (i / W : Int) - (j / W : Int) ≤ 1 ∧ (e = true ∨ (i % W : Int) = (j % W : Int) ∨ (i / W : Int) = (j / W : Int))
theorem AdjN.symm {W : Nat} {e : Bool} (i j : Nat) (h : AdjN W e i j) : AdjN W e j i := by
  obtain ⟨h1, h2, h3, h4, h5, h6⟩ := h
  refine ⟨fun e => h1 e.symm, h3, h2, h5, h4, ?_⟩
  rcases h6 with h | h | h
  · exact .inl h
  · exact .inr (.inl h.symm)
  · exact .inr (.inr h.symm)
/-- the set of an image's ink -/
def InkN (n : Nat) (p : Int → Int) (i : Nat) : Prop := i < n ∧ p i = 1
end Go.Proofs.Ytoonkpjddfiopaa

/- Plain: the least rectangle around some places of a grid. No program in sight. -/
namespace Go.Proofs.Ytoonkpjddfiopaa
set_option linter.unusedVariables false
/-- the rectangle around a list of places: left, upper, width, height -/
def IsBox (W : Nat) (l : List Nat) (b : Int × Int × Int × Int) : Prop :=
  (l = [] ∧ b = (0, 0, 0, 0)) ∨ (l ≠ [] ∧ (∀ i ∈ l, b.1 ≤ ((i % W : Nat) : Int) ∧ ((i % W : Nat) : Int) ≤ b.1 + b.2.2.1 - 1 ∧ b.2.1 ≤ ((i / W : Nat) : Int) ∧ ((i / W : Nat) : Int) ≤ b.2.1 + b.2.2.2 - 1) ∧
    (∃ i ∈ l, ((i % W : Nat) : Int) = b.1) ∧ (∃ i ∈ l, ((i % W : Nat) : Int) = b.1 + b.2.2.1 - 1) ∧ (∃ i ∈ l, ((i / W : Nat) : Int) = b.2.1) ∧ ∃ i ∈ l, ((i / W : Nat) : Int) = b.2.1 + b.2.2.2 - 1)
theorem IsBox.uniq {W : Nat} {l : List Nat} {b b' : Int × Int × Int × Int} (h : IsBox W l b) (h' : IsBox W l b') : b = b' := by
  rcases h with ⟨h1, rfl⟩ | ⟨h1, h2, ⟨i1, m1, e1⟩, ⟨i2, m2, e2⟩, ⟨i3, m3, e3⟩, ⟨i4, m4, e4⟩⟩
  · rcases h' with ⟨-, rfl⟩ | ⟨h2, -⟩
    · rfl
    · exact absurd h1 h2
  · rcases h' with ⟨h3, -⟩ | ⟨-, g2, ⟨j1, n1, f1⟩, ⟨j2, n2, f2⟩, ⟨j3, n3, f3⟩, ⟨j4, n4, f4⟩⟩
    · exact absurd h3 h1
    · obtain ⟨x, y, w, h⟩ := b
      obtain ⟨x', y', w', h'⟩ := b'
      simp only at *
      have a1 := g2 i1 m1; have a2 := g2 i2 m2; have a3 := g2 i3 m3; have a4 := g2 i4 m4
      have c1 := h2 j1 n1; have c2 := h2 j2 n2; have c3 := h2 j3 n3; have c4 := h2 j4 n4
      have q1 : x = x' := by omega
      have q2 : y = y' := by omega
      have q3 : w = w' := by omega
      have q4 : h = h' := by omega
      subst q1 q2 q3 q4; rfl
theorem IsBox.perm {W : Nat} {l l' : List Nat} {b : Int × Int × Int × Int} (hm : ∀ i, i ∈ l ↔ i ∈ l') (h : IsBox W l b) : IsBox W l' b := by
  rcases h with ⟨h1, rfl⟩ | ⟨h1, h2, ⟨i1, m1, e1⟩, ⟨i2, m2, e2⟩, ⟨i3, m3, e3⟩, ⟨i4, m4, e4⟩⟩
  · refine .inl ⟨List.eq_nil_iff_forall_not_mem.2 fun x hx => ?_, rfl⟩
    have := (hm x).2 hx
    rw [h1] at this; simp at this
  · refine .inr ⟨fun e => ?_, fun i hi => h2 i ((hm i).2 hi), ⟨i1, (hm _).1 m1, e1⟩, ⟨i2, (hm _).1 m2, e2⟩, ⟨i3, (hm _).1 m3, e3⟩, ⟨i4, (hm _).1 m4, e4⟩⟩
    rw [e] at hm
    exact absurd ((hm _).1 m1) (by simp)
/-- corners on the way: least and greatest column and row -/
structure Corn (W : Nat) (l : List Nat) (ax ay bx by' : Int) : Prop where
  in_ : ∀ i ∈ l, ax ≤ ((i % W : Nat) : Int) ∧ ((i % W : Nat) : Int) ≤ bx ∧ ay ≤ ((i / W : Nat) : Int) ∧ ((i / W : Nat) : Int) ≤ by'
  ax : ∃ i ∈ l, ((i % W : Nat) : Int) = ax
  bx : ∃ i ∈ l, ((i % W : Nat) : Int) = bx
  ay : ∃ i ∈ l, ((i / W : Nat) : Int) = ay
  by' : ∃ i ∈ l, ((i / W : Nat) : Int) = by'
theorem Corn.one (W i : Nat) : Corn W [i] ((i % W : Nat) : Int) ((i / W : Nat) : Int) ((i % W : Nat) : Int) ((i / W : Nat) : Int) :=
  ⟨fun j hj => by rw [List.mem_singleton] at hj; subst hj; exact ⟨Int.le_refl _, Int.le_refl _, Int.le_refl _, Int.le_refl _⟩, ⟨i, by simp, rfl⟩, ⟨i, by simp, rfl⟩, ⟨i, by simp, rfl⟩, ⟨i, by simp, rfl⟩⟩
theorem Corn.snoc {W : Nat} {l : List Nat} {ax ay bx by' : Int} (h : Corn W l ax ay bx by') (i : Nat) : Corn W (l ++ [i]) (min ax ((i % W : Nat) : Int)) (min ay ((i / W : Nat) : Int)) (max bx ((i % W : Nat) : Int)) (max by' ((i / W : Nat) : Int)) := by
  have key : ∀ {P : Nat → Prop}, (∃ j ∈ l, P j) ∨ P i → ∃ j ∈ l ++ [i], P j := fun h => by
    rcases h with ⟨j, hj, h⟩ | h
    · exact ⟨j, by simp [hj], h⟩
    · exact ⟨i, by simp, h⟩
  refine ⟨fun j hj => ?_, key ?_, key ?_, key ?_, key ?_⟩
  · rcases List.mem_append.1 hj with hj | hj
    · have := h.in_ j hj; omega
    · rw [List.mem_singleton] at hj; subst hj; omega
  · rcases Int.le_total ax ((i % W : Nat) : Int) with c | c
    · rw [Int.min_eq_left c]; exact .inl h.ax
    · rw [Int.min_eq_right c]; exact .inr rfl
  · rcases Int.le_total bx ((i % W : Nat) : Int) with c | c
    · rw [Int.max_eq_right c]; exact .inr rfl
    · rw [Int.max_eq_left c]; exact .inl h.bx
  · rcases Int.le_total ay ((i / W : Nat) : Int) with c | c
    · rw [Int.min_eq_left c]; exact .inl h.ay
    · rw [Int.min_eq_right c]; exact .inr rfl
  · rcases Int.le_total by' ((i / W : Nat) : Int) with c | c
    · rw [Int.max_eq_right c]; exact .inr rfl
    · rw [Int.max_eq_left c]; exact .inl h.by'
theorem Corn.again {W : Nat} {l : List Nat} {ax ay bx by' : Int} (h : Corn W l ax ay bx by') {i : Nat} (hi : i ∈ l) : min ax ((i % W : Nat) : Int) = ax ∧ min ay ((i / W : Nat) : Int) = ay ∧ max bx ((i % W : Nat) : Int) = bx ∧ max by' ((i / W : Nat) : Int) = by' := by
  have := h.in_ i hi; omega
theorem Corn.box {W : Nat} {l : List Nat} {ax ay bx by' : Int} (h : Corn W l ax ay bx by') : IsBox W l (ax, ay, bx - ax + 1, by' - ay + 1) := by
  obtain ⟨i, hi, -⟩ := h.ax
  refine .inr ⟨fun e => by rw [e] at hi; simp at hi, fun j hj => ?_, h.ax, ?_, h.ay, ?_⟩
  · have := h.in_ j hj; simp only; omega
  · obtain ⟨j, hj, e⟩ := h.bx; exact ⟨j, hj, by simp only; omega⟩
  · obtain ⟨j, hj, e⟩ := h.by'; exact ⟨j, hj, by simp only; omega⟩
theorem Corn.bd {W H : Nat} {l : List Nat} {ax ay bx by' : Int} (h : Corn W l ax ay bx by') (hl : ∀ i ∈ l, i < W * H) (hW : 0 < W) : 0 ≤ ax ∧ ax ≤ bx ∧ bx < W ∧ 0 ≤ ay ∧ ay ≤ by' ∧ by' < H := by
  obtain ⟨i, hi, e1⟩ := h.ax
  obtain ⟨j, hj, e2⟩ := h.bx
  obtain ⟨k, hk, e3⟩ := h.ay
  obtain ⟨m, hm, e4⟩ := h.by'
  have a1 := h.in_ i hi
  have a2 := h.in_ m hm
  have c1 : ((j % W : Nat) : Int) < (W : Int) := Int.ofNat_lt.2 (Nat.mod_lt j hW)
  have c2 : ((m / W : Nat) : Int) < (H : Int) := Int.ofNat_lt.2 (Nat.div_lt_of_lt_mul (hl m hm))
  have c3 : (0 : Int) ≤ ((i % W : Nat) : Int) := Int.natCast_nonneg _
  have c4 : (0 : Int) ≤ ((k / W : Nat) : Int) := Int.natCast_nonneg _
  generalize ((i % W : Nat) : Int) = u1 at *
  generalize ((j % W : Nat) : Int) = u2 at *
  generalize ((k / W : Nat) : Int) = u3 at *
  generalize ((m / W : Nat) : Int) = u4 at *
  omega
end Go.Proofs.Ytoonkpjddfiopaa

/- Plain: numbers that sink to the least of each part. No program in sight. -/
namespace Go.Proofs.Ytoonkpjddfiopaa
set_option linter.unusedVariables false
structure NumI (n : Nat) (ink : Nat → Prop) (A : Nat → Nat → Prop) (num : Int → Int) : Prop where
  le : ∀ i : Nat, i < n → 0 ≤ num i ∧ num i ≤ i
  cn : ∀ i : Nat, ink i → Cn ink A i (num i).toNat
section
variable {n : Nat} {ink : Nat → Prop} {A : Nat → Nat → Prop} {num : Int → Int}
theorem NumI.start (n : Nat) (ink : Nat → Prop) (A : Nat → Nat → Prop) : NumI n ink A fun i => i :=
  ⟨fun i _ => ⟨by simp, by simp⟩, fun i h => by simpa using Cn.refl h⟩
theorem NumI.step (h : NumI n ink A num) {i j : Nat} (hi : ink i) (hj : ink j) (hA : A i j) (hn : j < n) (hl : num j < num i) : NumI n ink A (upd num i (num j)) := by
  refine ⟨fun k hk => ?_, fun k hk => ?_⟩
  · unfold upd
    split
    · rename_i e
      have e' : k = i := by omega
      subst e'
      have := h.le k hk; have := h.le j hn
      omega
    · exact h.le k hk
  · unfold upd
    split
    · rename_i e
      have e' : k = i := by omega
      subst e'
      exact (Cn.one hi hj hA).trans (h.cn j hj)
    · exact h.cn k hk
theorem NumI.fixed (h : NumI n ink A num) (hin : ∀ i, ink i → i < n) (hA : ∀ a b, A a b → A b a) (hf : ∀ i j : Nat, ink i → ink j → A i j → num i ≤ num j) {i r : Nat} (hr : Root ink A r) (hc : Cn ink A r i) : num i = r := by
  have e : num i = num r := by
    induction hc with
    | refl _ => rfl
    | step h1 h2 h3 ih => rw [← ih]; exact Int.le_antisymm (hf _ _ h2 h1.right (hA _ _ h3)) (hf _ _ h1.right h2 h3)
  have h1 := h.le r (hin r hr.1)
  have h2 := hr.2 _ (h.cn r hr.1)
  omega
theorem NumI.root (h : NumI n ink A num) (hin : ∀ i, ink i → i < n) (hA : ∀ a b, A a b → A b a) (hf : ∀ i j : Nat, ink i → ink j → A i j → num i ≤ num j) {i : Nat} (hi : ink i) : num i = i ↔ Root ink A i := by
  obtain ⟨r, h1, h2, h3⟩ := root_ex hA hi
  have e := h.fixed hin hA hf h2 h3
  constructor
  · intro h4
    have : r = i := by omega
    exact this ▸ h2
  · intro h4
    exact h.fixed hin hA hf h4 (.refl h4.1)
theorem NumI.part (h : NumI n ink A num) (hin : ∀ i, ink i → i < n) (hA : ∀ a b, A a b → A b a) (hf : ∀ i j : Nat, ink i → ink j → A i j → num i ≤ num j) {i r : Nat} (hr : Root ink A r) (hi : ink i) : num i = r ↔ Cn ink A r i := by
  obtain ⟨r', h1, h2, h3⟩ := root_ex hA hi
  have e := h.fixed hin hA hf h2 h3
  constructor
  · intro h4
    have : r' = r := by omega
    exact this ▸ h3
  · exact fun h4 => h.fixed hin hA hf hr h4
end
theorem sumN_upd (num : Int → Int) (i : Nat) (v : Int) : ∀ n : Nat, sumN n (upd num i v) = if i < n then sumN n num - num i + v else sumN n num
  | 0 => by simp [sumN]
  | n + 1 => by
    rw [sumN, sumN, sumN_upd num i v n]
    unfold upd
    by_cases e : n = i
    · subst e
      rw [if_neg (by omega), if_pos rfl, if_pos (by omega)]; omega
    · rw [if_neg (by omega : ¬ ((n : Int) = i))]
      by_cases c : i < n
      · rw [if_pos c, if_pos (by omega)]; omega
      · rw [if_neg c, if_neg (by omega)]
theorem sumN_nonneg {q : Int → Int} : ∀ {n : Nat}, (∀ i : Nat, i < n → 0 ≤ q i) → 0 ≤ sumN n q
  | 0, _ => by simp [sumN]
  | n + 1, h => by
    have := sumN_nonneg (n := n) fun i hi => h i (by omega)
    have := h n (by omega)
    rw [sumN]; omega
open Classical in
/-- the numbers of a part, from i on, up to k -/
noncomputable def partK (i k : Nat) (ink : Nat → Prop) (A : Nat → Nat → Prop) : List Nat := (List.range k).filter fun j => decide (Cn ink A i j)
section
variable {n k i : Nat} {ink : Nat → Prop} {A : Nat → Nat → Prop}
theorem partK_start (h : Root ink A i) : partK i i ink A = [] := by
  refine List.eq_nil_iff_forall_not_mem.2 fun x hx => ?_
  simp only [partK, List.mem_filter, List.mem_range, decide_eq_true_eq] at hx
  have := h.2 _ hx.2
  omega
theorem partK_yes (h : Cn ink A i k) : partK i (k + 1) ink A = partK i k ink A ++ [k] := by
  unfold partK; rw [List.range_succ, List.filter_append]; congr 1; simp [List.filter, h]
theorem partK_no (h : ¬ Cn ink A i k) : partK i (k + 1) ink A = partK i k ink A := by
  unfold partK; rw [List.range_succ, List.filter_append]; simp [List.filter, h]
theorem partK_n : partK i n ink A = partN n ink A i := rfl
theorem partK_len : (partK i k ink A).length ≤ k := by
  unfold partK
  exact Nat.le_trans (List.length_filter_le _ _) (by simp)
end
end Go.Proofs.Ytoonkpjddfiopaa

/- Plain: a part is filled from its first place. No program in sight. -/
namespace Go.Proofs.Ytoonkpjddfiopaa
set_option linter.unusedVariables false
/-- the eight directions, clockwise from above -/
def dX (d : Nat) : Int := [0, 1, 1, 1, 0, -1, -1, -1].getD d 0
def dY (d : Nat) : Int := [-1, -1, 0, 1, 1, 1, 0, -1].getD d 0
theorem dXY_bd (d : Nat) : -1 ≤ dX d ∧ dX d ≤ 1 ∧ -1 ≤ dY d ∧ dY d ≤ 1 := by
  match d with
  | 0 => decide
  | 1 => decide
  | 2 => decide
  | 3 => decide
  | 4 => decide
  | 5 => decide
  | 6 => decide
  | 7 => decide
  | d + 8 => simp [dX, dY]
theorem dir_of {a b : Int} (h1 : -1 ≤ a) (h2 : a ≤ 1) (h3 : -1 ≤ b) (h4 : b ≤ 1) (h5 : ¬ (a = 0 ∧ b = 0)) : ∃ d, d < 8 ∧ dX d = a ∧ dY d = b ∧ (d % 2 = 0 ↔ (a = 0 ∨ b = 0)) := by
  have ha : a = -1 ∨ a = 0 ∨ a = 1 := by omega
  have hb : b = -1 ∨ b = 0 ∨ b = 1 := by omega
  rcases ha with rfl | rfl | rfl <;> rcases hb with rfl | rfl | rfl
  · exact ⟨7, by decide⟩
  · exact ⟨6, by decide⟩
  · exact ⟨5, by decide⟩
  · exact ⟨0, by decide⟩
  · exact absurd ⟨rfl, rfl⟩ h5
  · exact ⟨4, by decide⟩
  · exact ⟨1, by decide⟩
  · exact ⟨2, by decide⟩
  · exact ⟨3, by decide⟩
theorem dir_ne (d : Nat) (h : d < 8) : ¬ (dX d = 0 ∧ dY d = 0) := by
  match d, h with
  | 0, _ => decide
  | 1, _ => decide
  | 2, _ => decide
  | 3, _ => decide
  | 4, _ => decide
  | 5, _ => decide
  | 6, _ => decide
  | 7, _ => decide
theorem dir_even (d : Nat) (h : d < 8) (h2 : d % 2 = 0) : dX d = 0 ∨ dY d = 0 := by
  have hd : d = 0 ∨ d = 2 ∨ d = 4 ∨ d = 6 := by omega
  rcases hd with rfl | rfl | rfl | rfl <;> decide
theorem divmod_eq {W x y : Nat} (h1 : ((x % W : Nat) : Int) = ((y % W : Nat) : Int)) (h2 : ((x / W : Nat) : Int) = ((y / W : Nat) : Int)) : x = y := by
  have e1 : x % W = y % W := Int.ofNat_inj.1 h1
  have e2 : x / W = y / W := Int.ofNat_inj.1 h2
  rw [← Nat.div_add_mod x W, ← Nat.div_add_mod y W, e1, e2]
theorem adj_dir {W : Nat} {e : Bool} {x y : Nat} (h : AdjN W e x y) : ∃ d, d < 8 ∧ (e = true ∨ d % 2 = 0) ∧ ((y % W : Nat) : Int) = ((x % W : Nat) : Int) + dX d ∧ ((y / W : Nat) : Int) = ((x / W : Nat) : Int) + dY d := by
  obtain ⟨h1, h2, h3, h4, h5, h6⟩ := h
  obtain ⟨d, d1, d2, d3, d4⟩ := dir_of (a := ((y % W : Nat) : Int) - ((x % W : Nat) : Int)) (b := ((y / W : Nat) : Int) - ((x / W : Nat) : Int)) (by push_cast; omega) (by push_cast; omega) (by push_cast; omega) (by push_cast; omega) (fun ⟨a, b⟩ => h1 (divmod_eq (W := W) (by omega) (by omega)))
  refine ⟨d, d1, ?_, by omega, by omega⟩
  rcases h6 with h | h | h
  · exact .inl h
  · exact .inr (d4.2 (.inl (by push_cast; omega)))
  · exact .inr (d4.2 (.inr (by push_cast; omega)))
theorem dir_adj {W : Nat} {e : Bool} {x y d : Nat} (hd : d < 8) (he : e = true ∨ d % 2 = 0) (h1 : ((y % W : Nat) : Int) = ((x % W : Nat) : Int) + dX d) (h2 : ((y / W : Nat) : Int) = ((x / W : Nat) : Int) + dY d) : AdjN W e x y := by
  have hb := dXY_bd d
  push_cast at h1 h2
  refine ⟨fun e => dir_ne d hd (by subst e; omega), by omega, by omega, by omega, by omega, ?_⟩
  rcases he with h | h
  · exact .inl h
  · rcases dir_even d hd h with h | h
    · exact .inr (.inl (by omega))
    · exact .inr (.inr (by omega))
theorem nodup_len : ∀ (n : Nat) (l : List Nat), l.Nodup → (∀ x ∈ l, x < n) → l.length ≤ n
  | 0, l, _, h => by
    cases l with
    | nil => simp
    | cons a t => have := h a (by simp); omega
  | n + 1, l, hn, h => by
    by_cases hm : n ∈ l
    · have h1 := nodup_len n (l.erase n) (hn.erase n) fun x hx => by
        have h2 := (List.Nodup.mem_erase_iff hn).1 hx
        have := h x h2.2
        omega
      rw [List.length_erase_of_mem hm] at h1
      omega
    · have := nodup_len n l hn fun x hx => by
        have := h x hx
        have : x ≠ n := fun e => hm (e ▸ hx)
        omega
      omega
/-- the state of the filling: what has been found, how far its places and their directions are done, what is left -/
structure Bfs (n W : Nat) (e : Bool) (p : Int → Int) (i : Nat) (l : List Nat) (k j : Nat) (lf : Int → Int) : Prop where
  mem : i ∈ l
  nd : l.Nodup
  cn : ∀ x ∈ l, Cn (InkN n p) (AdjN W e) i x
  lv : ∀ x : Nat, x < n → (lf x = 1 ↔ LeftN (InkN n p) (AdjN W e) i x ∧ x ∉ l)
  lz : ∀ x : Nat, x < n → lf x = 0 ∨ lf x = 1
  done : ∀ t, t < k → ∀ x, l[t]? = some x → ∀ y, InkN n p y → AdjN W e x y → y ∈ l
  dir : ∀ x, l[k]? = some x → ∀ d, d < j → (e = true ∨ d % 2 = 0) → ∀ y, InkN n p y → ((y % W : Nat) : Int) = ((x % W : Nat) : Int) + dX d → ((y / W : Nat) : Int) = ((x / W : Nat) : Int) + dY d → y ∈ l
section
variable {n W : Nat} {e : Bool} {p : Int → Int} {i : Nat} {l : List Nat} {k j : Nat} {lf : Int → Int}
/-- what is left ahead of place k -/
def LfI (n W : Nat) (e : Bool) (p : Int → Int) (k : Nat) (lf : Int → Int) : Prop := ∀ x : Nat, x < n → (lf x = 1 ↔ LeftN (InkN n p) (AdjN W e) k x) ∧ (lf x = 0 ∨ lf x = 1)
theorem LfI.start (hp : ∀ i : Int, 0 ≤ i → i < n → p i = 0 ∨ p i = 1) : LfI n W e p 0 p := fun x hx => ⟨by rw [left_zero]; exact ⟨fun h => ⟨hx, h⟩, fun h => h.2⟩, hp x (by omega) (by omega)⟩
theorem LfI.skip (h : LfI n W e p k lf) (hk : k < n) (h0 : lf k ≠ 1) : ¬ Root (InkN n p) (AdjN W e) k ∧ LfI n W e p (k + 1) lf := by
  have hr : ¬ Root (InkN n p) (AdjN W e) k := fun hr => h0 ((h k hk).1.2 ((left_root AdjN.symm).2 hr))
  exact ⟨hr, fun x hx => ⟨by rw [left_skip hr]; exact (h x hx).1, (h x hx).2⟩⟩
theorem Bfs.start (h : LfI n W e p i lf) (hi : i < n) (h1 : lf i = 1) : Root (InkN n p) (AdjN W e) i ∧ Bfs n W e p i [i] 0 0 (upd lf i 0) := by
  have hr : Root (InkN n p) (AdjN W e) i := (left_root AdjN.symm).1 ((h i hi).1.1 h1)
  refine ⟨hr, by simp, by simp, fun x hx => ?_, fun x hx => ?_, fun x hx => ?_, fun t ht => by omega, fun x _ d hd => by omega⟩
  · rw [List.mem_singleton] at hx; subst hx; exact .refl hr.1
  · unfold upd
    by_cases c : (x : Int) = i
    · rw [if_pos c]
      constructor
      · intro h; omega
      · intro h; exact absurd (by simp; omega) h.2
    · rw [if_neg c, (h x hx).1]
      constructor
      · exact fun h => ⟨h, by simp; omega⟩
      · exact fun h => h.1
  · unfold upd
    split
    · exact .inl rfl
    · exact (h x hx).2
theorem Bfs.in_ (h : Bfs n W e p i l k j lf) : ∀ x ∈ l, x < n := fun x hx => (h.cn x hx).right.1
theorem Bfs.len (h : Bfs n W e p i l k j lf) : l.length ≤ n := nodup_len n l h.nd h.in_
/-- a direction that is not asked, or leads to nothing that is left -/
theorem Bfs.skip (hr : Root (InkN n p) (AdjN W e) i) (h : Bfs n W e p i l k j lf) {x : Nat} (hx : l[k]? = some x) (hj : j < 8) (hs : (e = true ∨ j % 2 = 0) → ∀ y : Nat, y < n → ((y % W : Nat) : Int) = ((x % W : Nat) : Int) + dX j → ((y / W : Nat) : Int) = ((x / W : Nat) : Int) + dY j → lf y ≠ 1) :
    Bfs n W e p i l k (j + 1) lf := by
  refine ⟨h.mem, h.nd, h.cn, h.lv, h.lz, h.done, fun x' hx' d hd he y hy h1 h2 => ?_⟩
  rw [hx] at hx'
  cases hx'
  by_cases c : d = j
  · subst c
    have h3 := hs he y hy.1 h1 h2
    refine Classical.byContradiction fun hn => h3 ((h.lv y hy.1).2 ⟨left_part AdjN.symm hr ?_, hn⟩)
    exact (h.cn x (List.mem_of_getElem? hx)).step hy (dir_adj hj he h1 h2)
  · exact h.dir x hx d (by omega) he y hy h1 h2
/-- a direction that leads to a place that is left -/
theorem Bfs.take (h : Bfs n W e p i l k j lf) {x y : Nat} (hx : l[k]? = some x) (hj : j < 8) (he : e = true ∨ j % 2 = 0) (hy : y < n) (h1 : ((y % W : Nat) : Int) = ((x % W : Nat) : Int) + dX j) (h2 : ((y / W : Nat) : Int) = ((x / W : Nat) : Int) + dY j) (h3 : lf y = 1) :
    Bfs n W e p i (l ++ [y]) k (j + 1) (upd lf y 0) := by
  obtain ⟨g1, g2⟩ := (h.lv y hy).1 h3
  have hk : k < l.length := (List.getElem?_eq_some_iff.1 hx).1
  have hcn : Cn (InkN n p) (AdjN W e) i y := (h.cn x (List.mem_of_getElem? hx)).step g1.1 (dir_adj hj he h1 h2)
  refine ⟨by simp [h.mem], ?_, fun z hz => ?_, fun z hz => ?_, fun z hz => ?_, fun t ht z hz w hw ha => ?_, fun z hz d hd he' w hw ha hb => ?_⟩
  · rw [List.nodup_append]
    exact ⟨h.nd, by simp, fun a ha b hb e => g2 (by rw [List.mem_singleton] at hb; rw [← hb, ← e]; exact ha)⟩
  · rcases List.mem_append.1 hz with hz | hz
    · exact h.cn z hz
    · rw [List.mem_singleton] at hz; subst hz; exact hcn
  · unfold upd
    by_cases c : (z : Int) = y
    · have c' : z = y := by omega
      subst c'
      rw [if_pos rfl]
      exact ⟨fun h => by omega, fun h => absurd (by simp) h.2⟩
    · rw [if_neg c, h.lv z hz]
      constructor
      · exact fun ⟨a, b⟩ => ⟨a, by simp only [List.mem_append, List.mem_singleton, not_or]; exact ⟨b, by omega⟩⟩
      · exact fun ⟨a, b⟩ => ⟨a, fun hb => b (by simp [hb])⟩
  · unfold upd
    split
    · exact .inl rfl
    · exact h.lz z hz
  · rw [List.getElem?_append_left (by omega)] at hz
    exact List.mem_append_left _ (h.done t ht z hz w hw ha)
  · rw [List.getElem?_append_left hk, hx] at hz
    cases hz
    by_cases c : d = j
    · subst c
      have e1 : w = y := divmod_eq (W := W) (by omega) (by omega)
      rw [e1]; simp
    · exact List.mem_append_left _ (h.dir x hx d (by omega) he' w hw ha hb)
theorem Bfs.next (h : Bfs n W e p i l k 8 lf) (hk : k < l.length) : Bfs n W e p i l (k + 1) 0 lf := by
  refine ⟨h.mem, h.nd, h.cn, h.lv, h.lz, fun t ht x hx y hy ha => ?_, fun x _ d hd => by omega⟩
  by_cases c : t = k
  · subst c
    obtain ⟨d, d1, d2, d3, d4⟩ := adj_dir ha
    exact h.dir x hx d d1 d2 y hy d3 d4
  · exact h.done t (by omega) x hx y hy ha
theorem Bfs.mem_iff (h : Bfs n W e p i l l.length 0 lf) {x : Nat} : x ∈ l ↔ Cn (InkN n p) (AdjN W e) i x :=
  ⟨fun hx => h.cn x hx, fun hc => hc.closed (S := (· ∈ l)) h.mem fun a b ha hb hab => by
    obtain ⟨t, ht, e⟩ := List.getElem_of_mem ha
    exact h.done t ht a (by rw [List.getElem?_eq_getElem ht, e]) b hb hab⟩
theorem Bfs.left (hr : Root (InkN n p) (AdjN W e) i) (h : Bfs n W e p i l l.length 0 lf) : LfI n W e p (i + 1) lf := fun x hx => ⟨by
  rw [left_take hr, h.lv x hx, h.mem_iff], h.lz x hx⟩
theorem Bfs.sorted (h : Bfs n W e p i l l.length 0 lf) {l' : List Nat} (hp : l'.Perm l) (hs : l'.Pairwise (· ≤ ·)) : l' = partN n (InkN n p) (AdjN W e) i := by
  have hnd : l'.Nodup := hp.nodup_iff.2 h.nd
  refine sorted_ext ?_ partN_sorted fun x => ?_
  · exact (List.pairwise_and_iff.2 ⟨hs, hnd⟩).imp fun ⟨a, b⟩ => by omega
  · rw [hp.mem_iff, h.mem_iff, mem_partN]
    exact ⟨fun hc => ⟨hc.right.1, hc⟩, fun hc => hc.2⟩
end
end Go.Proofs.Ytoonkpjddfiopaa
