/- Texts of mine in build order: W15, Q2, W16, W17, W18, Q3, W19, W20, S10. Conditions: each theorem's own. -/
import Derived.Test.YtoonkpjddfiopaaMCleanRecipesx2
import Derived.Laws.AppendOwn
import Derived.Deep.RegionHeld3
import Derived.Deep.DeepCutAuto
import Derived.Deep.Cut
/- Walks: the reference's checks, New, Ink and Set. -/
namespace Go.Proofs.Ytoonkpjddfiopaa
open Go.RowKit
set_option linter.unusedVariables false

def fitsB (W H : Int) : Bool := decide (0 ≤ W ∧ W ≤ 640 ∧ 0 ≤ H ∧ H ≤ 640)
theorem fitsB_iff {W H : Int} : fitsB W H = true ↔ 0 ≤ W ∧ W ≤ 640 ∧ 0 ≤ H ∧ H ≤ 640 := by simp [fitsB]
set_option maxHeartbeats 400000 in
theorem fits_any (W H : Int) (w : World) : Calls Try.prog 30 #[.int .i64 W, .int .i64 H] w fun e w' => e = .returned (.bool (fitsB W H)) ∧ w = w' := by
  by_cases h : 0 ≤ W ∧ W ≤ 640 ∧ 0 ≤ H ∧ H ≤ 640
  · rw [fitsB_iff.2 h]
    obtain ⟨h1, h2, h3, h4⟩ := h
    go_enter Try.func30, Try.ntmps30
    go_wp2
    go_ret
    exact ⟨rfl, rfl⟩
  · have h' : fitsB W H = false := Bool.eq_false_iff.2 fun e => h (fitsB_iff.1 e)
    rw [h']
    by_cases a : 0 ≤ W
    · by_cases b : W ≤ 640
      · by_cases c : 0 ≤ H
        · have d : ¬ H ≤ 640 := fun d => h ⟨a, b, c, d⟩
          clear h h'
          go_enter Try.func30, Try.ntmps30
          go_wp2
          go_ret
          exact ⟨rfl, rfl⟩
        · clear h h'
          go_enter Try.func30, Try.ntmps30
          go_wp2
          go_ret
          exact ⟨rfl, rfl⟩
      · clear h h'
        go_enter Try.func30, Try.ntmps30
        go_wp2
        go_ret
        exact ⟨rfl, rfl⟩
    · clear h h'
      go_enter Try.func30, Try.ntmps30
      go_wp2
      go_ret
      exact ⟨rfl, rfl⟩

theorem chk_nofit {W H : Int} {n : Nat} {p : Int → Int} (h : fitsB W H = false) : chk W H n p = 2 := by
  have : sidesB W H n = false := Bool.eq_false_iff.2 fun e => by
    obtain ⟨a, b, c, d, _⟩ := sidesB_iff.1 e
    rw [fitsB_iff.2 ⟨a, b, c, d⟩] at h; cases h
  unfold chk; rw [this]; rfl
theorem chk_size {W H : Int} {n : Nat} {p : Int → Int} (h : (n : Int) ≠ W * H) : chk W H n p = 2 := by
  have : sidesB W H n = false := Bool.eq_false_iff.2 fun e => h (sidesB_iff.1 e).2.2.2.2
  unfold chk; rw [this]; rfl
theorem sides_mk {W H : Int} {n : Nat} (h : fitsB W H = true) (hn : (n : Int) = W * H) : sidesB W H n = true := by
  obtain ⟨a, b, c, d⟩ := fitsB_iff.1 h; exact sidesB_iff.2 ⟨a, b, c, d, hn⟩
theorem chk_pix {W H : Int} {n : Nat} {p : Int → Int} (h : sidesB W H n = true) {i : Int} (h0 : 0 ≤ i) (hi : i < n) (hp : ¬ p i ≤ 1) : chk W H n p = 3 := by
  have : pixB n p = false := Bool.eq_false_iff.2 fun e => hp (by simpa using allN_iff.1 e i h0 hi)
  unfold chk; rw [h, this]; rfl

set_option maxHeartbeats 1000000 in
theorem rcheck_any (W H : Int) (A : Option Addr) (n c : Nat) (p : Int → Int) (w : World) (hA : ArrB w w.heap.size A n p) (hn : n ≤ maxLen) (hB : IsB p) :
    Calls Try.prog 57 #[.agg #[.int .i64 W, .int .i64 H, .slice A n c]] w fun e w' => e = .returned (.int .i64 (chk W H n p)) ∧ Below w.heap.size w w' := by
  unfold maxLen at hn
  have FT := Lib.hid (fits_any W H)
  have K0 := Blk.new w 29 #[.int .i64 W, .int .i64 H, .slice A n c]
  cases hf : fitsB W H
  · rw [chk_nofit hf]
    rw [hf] at FT
    clear hf
    go_enter Try.func57, Try.ntmps57
    go_wp2_with (go_at_call 30; refine (FT.out _).mono ?_; rintro e w' ⟨rfl, rfl⟩)
    go_ret
    exact ⟨rfl, by (repeat (first | exact Below.refl _ _ | assumption | refine Below.drew ?_ | refine below_drewN ?_ _ | refine Below.alloc ?_ (by first | omega | (simp; done) | (simp; omega)) _ | refine Below.setCell ?_ (by first | omega | (simp; done) | (simp; omega)) _ | refine below_setRow ?_ (by first | omega | (simp; done) | (simp; omega)) _ ))⟩
  · obtain ⟨h1, h2, h3, h4⟩ := fitsB_iff.1 hf
    obtain ⟨m1, m2⟩ := area_bd h1 h2 h3 h4
    rw [hf] at FT
    have m3 : IntKind.i64.wrap (W * H) = W * H := IntWalk.i64_in _ (by omega)
    by_cases hs : (n : Int) = W * H
    · have hS := Lib.hid (sides_mk hf hs)
      have hb : ((n : Int) != W * H) = false := by simp [hs]
      have HS := Lib.hid hs
      clear hf hs
      go_enter Try.func57, Try.ntmps57
      go_wp2_with (go_at_call 30; refine (FT.out _).mono ?_; rintro e w' ⟨rfl, rfl⟩)
      go_loop [3] (fun s => ∃ i : Int, 0 ≤ i ∧ i ≤ n ∧ s = .int .i64 i ∧ ∀ j : Int, 0 ≤ j → j < i → p j ≤ 1) (fun s => n - (intOf s).toNat)
      case atStart => exact ⟨0, by omega, by omega, rfl, fun j a b => by omega⟩
      case round =>
        obtain ⟨i, h0, hi, rfl, hall⟩ := hrel
        have HALL := Lib.hid hall; clear hall
        by_cases hlt : i < n
        · have hA' := hA.to (w' := w.alloc (.cells #[.int .i64 W, .int .i64 H, .slice A n c] 29)) (by (repeat (first | exact Below.refl _ _ | assumption | refine Below.drew ?_ | refine below_drewN ?_ _ | refine Below.alloc ?_ (by first | omega | (simp; done) | (simp; omega)) _ | refine Below.setCell ?_ (by first | omega | (simp; done) | (simp; omega)) _ | refine below_setRow ?_ (by first | omega | (simp; done) | (simp; omega)) _ )))
          obtain ⟨b, off, rfl, hbB, hcell⟩ := ArrB.at_ hA' h0 hlt
          obtain ⟨pb1, pb2⟩ := hB i
          by_cases e0 : p i = 0
          · have hb0 : (p i != 0) = false := by simp [e0]
            have E0 := Lib.hid e0; clear e0
            go_wp2
            go_round
            case rel => exact ⟨i + 1, by omega, by omega, by go_num, fun j a b => if e : j = i then by rw [e, E0.out]; omega else HALL.out j a (by omega)⟩
            case measure => simp [intOf]; omega
          · have hb0 : (p i != 0) = true := by simp [e0]
            by_cases e1 : p i = 1
            · have hb1 : (p i != 1) = false := by simp [e1]
              have E1 := Lib.hid e1; clear e1
              have E0 := Lib.hid e0; clear e0
              go_wp2
              go_round
              case rel => exact ⟨i + 1, by omega, by omega, by go_num, fun j a b => if e : j = i then by rw [e, E1.out]; omega else HALL.out j a (by omega)⟩
              case measure => simp [intOf]; omega
            · have hb1 : (p i != 1) = true := by simp [e1]
              have hr : Hid (chk W H n p = 3) := by show _ = _; exact chk_pix hS.out h0 hlt (by omega)
              have E1 := Lib.hid e1; clear e1
              have E0 := Lib.hid e0; clear e0
              go_wp2
              go_ret
              exact ⟨ret_int hr.out.symm, by (repeat (first | exact Below.refl _ _ | assumption | refine Below.drew ?_ | refine below_drewN ?_ _ | refine Below.alloc ?_ (by first | omega | (simp; done) | (simp; omega)) _ | refine Below.setCell ?_ (by first | omega | (simp; done) | (simp; omega)) _ | refine below_setRow ?_ (by first | omega | (simp; done) | (simp; omega)) _ ))⟩
        · have hr : Hid (chk W H n p = 0) := by
            show _ = _; unfold chk; rw [hS.out, show pixB n p = true from allN_iff.2 fun j a b => by simpa using HALL.out j a (by omega)]; rfl
          go_wp2
          go_ret
          exact ⟨ret_int hr.out.symm, by (repeat (first | exact Below.refl _ _ | assumption | refine Below.drew ?_ | refine below_drewN ?_ _ | refine Below.alloc ?_ (by first | omega | (simp; done) | (simp; omega)) _ | refine Below.setCell ?_ (by first | omega | (simp; done) | (simp; omega)) _ | refine below_setRow ?_ (by first | omega | (simp; done) | (simp; omega)) _ ))⟩
    · rw [chk_size hs]
      have hb : ((n : Int) != W * H) = true := by simp [hs]
      have HS := Lib.hid hs
      clear hf hs
      go_enter Try.func57, Try.ntmps57
      go_wp2_with (go_at_call 30; refine (FT.out _).mono ?_; rintro e w' ⟨rfl, rfl⟩)
      go_ret
      exact ⟨rfl, by (repeat (first | exact Below.refl _ _ | assumption | refine Below.drew ?_ | refine below_drewN ?_ _ | refine Below.alloc ?_ (by first | omega | (simp; done) | (simp; omega)) _ | refine Below.setCell ?_ (by first | omega | (simp; done) | (simp; omega)) _ | refine below_setRow ?_ (by first | omega | (simp; done) | (simp; omega)) _ ))⟩

set_option maxHeartbeats 400000 in
theorem rcheckGrey_any (W H : Int) (A : Option Addr) (n c : Nat) (w : World) (hn : n ≤ maxLen) :
    Calls Try.prog 10 #[.agg #[.int .i64 W, .int .i64 H, .slice A n c]] w fun e w' => e = .returned (.int .i64 (if sidesB W H n then 0 else 2)) ∧ Below w.heap.size w w' := by
  unfold maxLen at hn
  have FT := Lib.hid (fits_any W H)
  cases hf : fitsB W H
  · have hs : sidesB W H n = false := Bool.eq_false_iff.2 fun e => by
      obtain ⟨a, b, c, d, _⟩ := sidesB_iff.1 e
      rw [fitsB_iff.2 ⟨a, b, c, d⟩] at hf; cases hf
    rw [hs]
    rw [hf] at FT
    clear hf hs
    go_enter Try.func10, Try.ntmps10
    go_wp2_with (go_at_call 30; refine (FT.out _).mono ?_; rintro e w' ⟨rfl, rfl⟩)
    go_ret
    exact ⟨rfl, by (repeat (first | exact Below.refl _ _ | assumption | refine Below.drew ?_ | refine below_drewN ?_ _ | refine Below.alloc ?_ (by first | omega | (simp; done) | (simp; omega)) _ | refine Below.setCell ?_ (by first | omega | (simp; done) | (simp; omega)) _ | refine below_setRow ?_ (by first | omega | (simp; done) | (simp; omega)) _ ))⟩
  · obtain ⟨h1, h2, h3, h4⟩ := fitsB_iff.1 hf
    obtain ⟨m1, m2⟩ := area_bd h1 h2 h3 h4
    rw [hf] at FT
    have m3 : IntKind.i64.wrap (W * H) = W * H := IntWalk.i64_in _ (by omega)
    by_cases hs : (n : Int) = W * H
    · rw [sides_mk hf hs]
      have hb : ((n : Int) != W * H) = false := by simp [hs]
      have HS := Lib.hid hs
      clear hf hs
      go_enter Try.func10, Try.ntmps10
      go_wp2_with (go_at_call 30; refine (FT.out _).mono ?_; rintro e w' ⟨rfl, rfl⟩)
      go_ret
      exact ⟨rfl, by (repeat (first | exact Below.refl _ _ | assumption | refine Below.drew ?_ | refine below_drewN ?_ _ | refine Below.alloc ?_ (by first | omega | (simp; done) | (simp; omega)) _ | refine Below.setCell ?_ (by first | omega | (simp; done) | (simp; omega)) _ | refine below_setRow ?_ (by first | omega | (simp; done) | (simp; omega)) _ ))⟩
    · have hs' : sidesB W H n = false := Bool.eq_false_iff.2 fun e => hs (sidesB_iff.1 e).2.2.2.2
      rw [hs']
      have hb : ((n : Int) != W * H) = true := by simp [hs]
      have HS := Lib.hid hs
      clear hf hs hs'
      go_enter Try.func10, Try.ntmps10
      go_wp2_with (go_at_call 30; refine (FT.out _).mono ?_; rintro e w' ⟨rfl, rfl⟩)
      go_ret
      exact ⟨rfl, by (repeat (first | exact Below.refl _ _ | assumption | refine Below.drew ?_ | refine below_drewN ?_ _ | refine Below.alloc ?_ (by first | omega | (simp; done) | (simp; omega)) _ | refine Below.setCell ?_ (by first | omega | (simp; done) | (simp; omega)) _ | refine below_setRow ?_ (by first | omega | (simp; done) | (simp; omega)) _ ))⟩

set_option maxHeartbeats 400000 in
theorem rnew_any (W H : Int) (N : Nat) (w : World) (h1 : 0 ≤ W) (h2 : W ≤ 640) (h3 : 0 ≤ H) (h4 : H ≤ 640) (hN : (N : Int) = W * H) :
    Calls Try.prog 55 #[.int .i64 W, .int .i64 H] w (New w fun v w' => OutN w w' W H N (fun _ => 0) v) := by
  obtain ⟨m1, m2⟩ := area_bd h1 h2 h3 h4
  have hmk := makeB (W * H) m1 (by omega)
  have e : (W * H).toNat = N := by omega
  rw [e] at hmk
  have HN := Lib.hid hN
  clear hN e
  go_enter Try.func55, Try.ntmps55
  go_wp2
  refine bodyPost_ret (v := .agg #[.int .i64 W, .int .i64 H, .slice (some ⟨w.heap.size + 1, 0, none⟩) N N]) (by simp [results, Try.results55, go_sem]) rfl ?_
  exact ⟨_, rfl, OutN.mk (by omega) (Blk.new' (by simp) _ _), by (repeat (first | exact Below.refl _ _ | assumption | refine Below.drew ?_ | refine below_drewN ?_ _ | refine Below.alloc ?_ (by first | omega | (simp; done) | (simp; omega)) _ | refine Below.setCell ?_ (by first | omega | (simp; done) | (simp; omega)) _ | refine below_setRow ?_ (by first | omega | (simp; done) | (simp; omega)) _ ))⟩

set_option maxHeartbeats 1000000 in
theorem rink_any (W H : Int) (A : Option Addr) (n c : Nat) (p : Int → Int) (x y : Int) (w : World) (hA : ArrB w w.heap.size A n p) (hW : W ≤ 640) (hH : H ≤ 640) (hn : (n : Int) = W * H) :
    Calls Try.prog 59 #[.agg #[.int .i64 W, .int .i64 H, .slice A n c], .int .i64 x, .int .i64 y] w fun e w' => e = .returned (.bool (inkB W H p x y)) ∧ Below w.heap.size w w' := by
  by_cases a : 0 ≤ x
  · by_cases b : x < W
    · by_cases c' : 0 ≤ y
      · by_cases d : y < H
        · obtain ⟨i1, i2, i3⟩ := idx_lt a b c' d
          rw [Int.mul_comm H W] at i2
          have i4 : y * W + x < n := by omega
          have j6 := (area_bd (by omega : 0 ≤ W) hW (by omega : 0 ≤ H) hH).2
          have v1 : IntKind.i64.wrap (y * W) = y * W := IntWalk.i64_in _ (by omega)
          have v2 : IntKind.i64.wrap (y * W + x) = y * W + x := IntWalk.i64_in _ (by omega)
          obtain ⟨b', off, rfl, hbB, hcell⟩ := ArrB.at_ (hA.to (w' := w.alloc (.cells #[.int .i64 W, .int .i64 H, .slice A n c] 29)) (by (repeat (first | exact Below.refl _ _ | assumption | refine Below.drew ?_ | refine below_drewN ?_ _ | refine Below.alloc ?_ (by first | omega | (simp; done) | (simp; omega)) _ | refine Below.setCell ?_ (by first | omega | (simp; done) | (simp; omega)) _ | refine below_setRow ?_ (by first | omega | (simp; done) | (simp; omega)) _ )))) i1 i4
          by_cases e : p (y * W + x) = 1
          · have hr : inkB W H p x y = true := inkB_iff.2 ⟨a, b, c', d, e⟩
            rw [hr]
            have hb : (p (y * W + x) == 1) = true := by simp [e]
            have E := Lib.hid e; clear e hr
            go_enter Try.func59, Try.ntmps59
            go_wp2
            go_ret
            exact ⟨rfl, by (repeat (first | exact Below.refl _ _ | assumption | refine Below.drew ?_ | refine below_drewN ?_ _ | refine Below.alloc ?_ (by first | omega | (simp; done) | (simp; omega)) _ | refine Below.setCell ?_ (by first | omega | (simp; done) | (simp; omega)) _ | refine below_setRow ?_ (by first | omega | (simp; done) | (simp; omega)) _ ))⟩
          · have hr : inkB W H p x y = false := Bool.eq_false_iff.2 fun h => e (inkB_iff.1 h).2.2.2.2
            rw [hr]
            have hb : (p (y * W + x) == 1) = false := by simp [e]
            have E := Lib.hid e; clear e hr
            go_enter Try.func59, Try.ntmps59
            go_wp2
            go_ret
            exact ⟨rfl, by (repeat (first | exact Below.refl _ _ | assumption | refine Below.drew ?_ | refine below_drewN ?_ _ | refine Below.alloc ?_ (by first | omega | (simp; done) | (simp; omega)) _ | refine Below.setCell ?_ (by first | omega | (simp; done) | (simp; omega)) _ | refine below_setRow ?_ (by first | omega | (simp; done) | (simp; omega)) _ ))⟩
        · have hr : inkB W H p x y = false := Bool.eq_false_iff.2 fun e => d (inkB_iff.1 e).2.2.2.1
          rw [hr]
          go_enter Try.func59, Try.ntmps59
          go_wp2
          go_ret
          exact ⟨rfl, by (repeat (first | exact Below.refl _ _ | assumption | refine Below.drew ?_ | refine below_drewN ?_ _ | refine Below.alloc ?_ (by first | omega | (simp; done) | (simp; omega)) _ | refine Below.setCell ?_ (by first | omega | (simp; done) | (simp; omega)) _ | refine below_setRow ?_ (by first | omega | (simp; done) | (simp; omega)) _ ))⟩
      · have hr : inkB W H p x y = false := Bool.eq_false_iff.2 fun e => c' (inkB_iff.1 e).2.2.1
        rw [hr]
        go_enter Try.func59, Try.ntmps59
        go_wp2
        go_ret
        exact ⟨rfl, by (repeat (first | exact Below.refl _ _ | assumption | refine Below.drew ?_ | refine below_drewN ?_ _ | refine Below.alloc ?_ (by first | omega | (simp; done) | (simp; omega)) _ | refine Below.setCell ?_ (by first | omega | (simp; done) | (simp; omega)) _ | refine below_setRow ?_ (by first | omega | (simp; done) | (simp; omega)) _ ))⟩
    · have hr : inkB W H p x y = false := Bool.eq_false_iff.2 fun e => b (inkB_iff.1 e).2.1
      rw [hr]
      go_enter Try.func59, Try.ntmps59
      go_wp2
      go_ret
      exact ⟨rfl, by (repeat (first | exact Below.refl _ _ | assumption | refine Below.drew ?_ | refine below_drewN ?_ _ | refine Below.alloc ?_ (by first | omega | (simp; done) | (simp; omega)) _ | refine Below.setCell ?_ (by first | omega | (simp; done) | (simp; omega)) _ | refine below_setRow ?_ (by first | omega | (simp; done) | (simp; omega)) _ ))⟩
  · have hr : inkB W H p x y = false := Bool.eq_false_iff.2 fun e => a (inkB_iff.1 e).1
    rw [hr]
    go_enter Try.func59, Try.ntmps59
    go_wp2
    go_ret
    exact ⟨rfl, by (repeat (first | exact Below.refl _ _ | assumption | refine Below.drew ?_ | refine below_drewN ?_ _ | refine Below.alloc ?_ (by first | omega | (simp; done) | (simp; omega)) _ | refine Below.setCell ?_ (by first | omega | (simp; done) | (simp; omega)) _ | refine below_setRow ?_ (by first | omega | (simp; done) | (simp; omega)) _ ))⟩

set_option maxHeartbeats 400000 in
theorem rset_any (W H : Int) (g n c t : Nat) (q : Int → Int) (x y : Int) (w : World) (hA : Blk w g t (u8s n q)) (h1 : 0 ≤ x) (h2 : x < W) (h3 : 0 ≤ y) (h4 : y < H) (hW : W ≤ 640) (hH : H ≤ 640) (hn : (n : Int) = W * H) :
    Calls Try.prog 56 #[.agg #[.int .i64 W, .int .i64 H, .slice (some ⟨g, 0, none⟩) n c], .int .i64 x, .int .i64 y] w fun e w' => e = .returned (.tuple #[]) ∧ Blk w' g t (u8s n (upd q (y * W + x) 1)) ∧ w.grownBy w' (some g) := by
  obtain ⟨i1, i2, i3⟩ := idx_lt h1 h2 h3 h4
  rw [Int.mul_comm H W] at i2
  have i4 : y * W + x < n := by omega
  have j6 := (area_bd (by omega : 0 ≤ W) hW (by omega : 0 ≤ H) hH).2
  have v1 : IntKind.i64.wrap (y * W) = y * W := IntWalk.i64_in _ (by omega)
  have v2 : IntKind.i64.wrap (y * W + x) = y * W + x := IntWalk.i64_in _ (by omega)
  have hr := (hA.alloc (.cells #[.int .i64 W, .int .i64 H, .slice (some ⟨g, 0, none⟩) n c] 29)).u8at i1 i4
  have hf := (hA.alloc (.cells #[.int .i64 W, .int .i64 H, .slice (some ⟨g, 0, none⟩) n c] 29)).frozen (y * W + x).toNat
  have US := Lib.hid ((hA.u8set _ i1 1).alloc (.cells #[.int .i64 W, .int .i64 H, .slice (some ⟨g, 0, none⟩) n c] 29))
  have gl := hA.lt
  go_enter Try.func56, Try.ntmps56
  go_wp2
  go_end0
  refine ⟨rfl, US.out, rfl, rfl, rfl, by simp, fun k hk hne => ?_⟩
  rw [Below.heap_alloc _ _ k (by simpa using hk), heap_setCell_other _ _ _ _ (by intro e; exact hne (by rw [e]))]
end Go.Proofs.Ytoonkpjddfiopaa

/- Plain laws: the greatest of the drops; the errors and the images of the reference's moves. No program in sight. -/
namespace Go.Proofs.Ytoonkpjddfiopaa
open Go.RowKit
set_option linter.unusedVariables false

def mxS (W k : Int) : Nat → Int
  | 0 => 0
  | n + 1 => if mxS W k n ≤ dropI W k n then dropI W k n else mxS W k n
theorem mxS_eq {W k : Int} (h3 : -3 ≤ k) (h4 : k ≤ 3) (n : Nat) (hn : n ≤ W) : mxS W k n = if n = 0 then 0 else if k < 0 then (W - 1) * (-k) / 64 else ((n : Int) - 1) * k / 64 := by
  induction n with
  | zero => rfl
  | succ n ih =>
    rw [mxS, ih (by omega)]
    unfold dropI
    rcases (by omega : k = -3 ∨ k = -2 ∨ k = -1 ∨ k = 0 ∨ k = 1 ∨ k = 2 ∨ k = 3) with rfl | rfl | rfl | rfl | rfl | rfl | rfl <;> simp only [reduceIte, Int.reduceNeg, Int.reduceLT, Int.neg_neg] <;> by_cases e : n = 0
    all_goals first | subst e | skip
    all_goals simp only [*, reduceIte, Nat.reduceAdd, Int.natCast_add, Int.natCast_one, Int.natCast_zero, Int.sub_zero, Nat.add_eq_zero_iff, Nat.succ_ne_zero, and_false]
    all_goals (split <;> omega)
theorem mxS_grt {W k : Int} (h1 : 0 ≤ W) (h3 : -3 ≤ k) (h4 : k ≤ 3) : mxS W k W.toNat = grt W k := by
  rw [mxS_eq h3 h4 _ (by omega)]
  unfold grt
  rcases (by omega : k = -3 ∨ k = -2 ∨ k = -1 ∨ k = 0 ∨ k = 1 ∨ k = 2 ∨ k = 3) with rfl | rfl | rfl | rfl | rfl | rfl | rfl <;> (simp only [reduceIte, Int.reduceNeg, Int.reduceLT, Int.neg_neg]; split <;> split <;> omega)
theorem mxS_bd {W k : Int} (h2 : W ≤ 640) (h3 : -3 ≤ k) (h4 : k ≤ 3) (n : Nat) (hn : n ≤ W) : 0 ≤ mxS W k n ∧ mxS W k n ≤ 29 := by
  rw [mxS_eq h3 h4 _ hn]
  rcases (by omega : k = -3 ∨ k = -2 ∨ k = -1 ∨ k = 0 ∨ k = 1 ∨ k = 2 ∨ k = 3) with rfl | rfl | rfl | rfl | rfl | rfl | rfl <;> (simp only [reduceIte, Int.reduceNeg, Int.reduceLT, Int.neg_neg]; split <;> omega)
theorem mxS_up {W k : Int} {n : Nat} (h : mxS W k n ≤ dropI W k n) : mxS W k (n + 1) = dropI W k n := by rw [mxS, if_pos h]
theorem mxS_no {W k : Int} {n : Nat} (h : ¬ mxS W k n ≤ dropI W k n) : mxS W k (n + 1) = mxS W k n := by rw [mxS, if_neg h]

/-- what the reference has drawn before the place (x, y), row by row of the new image -/
def drawR (W H : Int) (p : Int → Int) (k way y x : Int) : Int → Int := fun i => if i / W < y ∨ i / W = y ∧ i % W < x then movR W H p k way i else 0
theorem drawR_start {W H : Int} {p : Int → Int} {k way i : Int} (h0 : 0 ≤ i) (hW : 0 ≤ W) : drawR W H p k way 0 0 i = 0 := by
  unfold drawR
  have := emod_nn h0 hW
  have h2 : 0 ≤ i / W := Int.ediv_nonneg h0 hW
  rw [if_neg (by omega)]
theorem drawR_row {W h H : Int} {p : Int → Int} {k way y i : Int} (hW : 0 ≤ W) (h0 : 0 ≤ i) (hi : i < W * h) : drawR W H p k way y W i = drawR W H p k way (y + 1) 0 i := by
  have hW' : 0 < W := by
    rcases Int.lt_or_le 0 W with h | h
    · exact h
    · obtain rfl : W = 0 := by omega
      simp at hi; omega
  have h1 : 0 ≤ i % W := Int.emod_nonneg _ (by omega)
  have h2 : i % W < W := Int.emod_lt_of_pos _ hW'
  unfold drawR
  by_cases e : i / W < y + 1
  · rw [if_pos (by omega), if_pos (by omega)]
  · rw [if_neg (by omega), if_neg (by omega)]
theorem drawR_end {W h H : Int} {p : Int → Int} {k way i : Int} (hW : 0 ≤ W) (h0 : 0 ≤ i) (hi : i < W * h) : drawR W H p k way h 0 i = movR W H p k way i := by
  have hW' : 0 < W := by
    rcases Int.lt_or_le 0 W with h | h
    · exact h
    · obtain rfl : W = 0 := by omega
      simp at hi; omega
  have : i / W < h := Int.ediv_lt_of_lt_mul hW' (by rw [Int.mul_comm]; exact hi)
  unfold drawR
  rw [if_pos (by omega)]
theorem drawR_yes {W H : Int} {p : Int → Int} {k way y x i : Int} (hx0 : 0 ≤ x) (hx : x < W) (h : inkB W H p x (y - way * dropI W k x) = true) : upd (drawR W H p k way y x) (y * W + x) 1 i = drawR W H p k way y (x + 1) i := by
  have a := idx_mod (y := y) hx0 hx
  have b := idx_div (y := y) hx0 hx
  show (if i = y * W + x then (1 : Int) else drawR W H p k way y x i) = _
  by_cases e : i = y * W + x
  · rw [if_pos e]; subst e
    unfold drawR movR
    rw [a, b, if_pos (by omega), if_pos h]
  · rw [if_neg e]
    unfold drawR
    have : ¬ (i / W = y ∧ i % W = x) := fun ⟨h1, h2⟩ => e (by
      have := Int.emod_add_mul_ediv i W
      rw [h1, h2, Int.mul_comm] at this; omega)
    by_cases e2 : i / W < y ∨ i / W = y ∧ i % W < x
    · rw [if_pos e2, if_pos (by omega)]
    · rw [if_neg e2, if_neg (by omega)]
theorem drawR_no {W H : Int} {p : Int → Int} {k way y x i : Int} (hx0 : 0 ≤ x) (hx : x < W) (h : inkB W H p x (y - way * dropI W k x) = false) : drawR W H p k way y x i = drawR W H p k way y (x + 1) i := by
  have a := idx_mod (y := y) hx0 hx
  have b := idx_div (y := y) hx0 hx
  unfold drawR
  by_cases e : i / W = y ∧ i % W = x
  · rw [if_neg (by omega), if_pos (by omega)]
    unfold movR
    rw [e.1, e.2, if_neg (by rw [h]; simp)]
  · by_cases e2 : i / W < y ∨ i / W = y ∧ i % W < x
    · rw [if_pos e2, if_pos (by omega)]
    · rw [if_neg e2, if_neg (by omega)]

/-- the row y is full before the place x -/
theorem rowB_step (p : Int → Int) (b : Int) (x : Nat) : rowB (x + 1) p b = (rowB x p b && decide (p (b + x) = 1)) := rfl
theorem fullR_yes {W : Int} {p : Int → Int} {m : Nat} (h : 0 < W) (e : rowB W.toNat p (m * W) = true) : fullR W p (m + 1) = fullR W p m + 1 := by
  unfold fullR; rw [if_pos h, if_pos h, sumN, if_pos e]
theorem fullR_no {W : Int} {p : Int → Int} {m : Nat} (h : 0 < W) (e : rowB W.toNat p (m * W) = false) : fullR W p (m + 1) = fullR W p m := by
  unfold fullR; rw [if_pos h, if_pos h, sumN, if_neg (by rw [e]; simp)]; simp
end Go.Proofs.Ytoonkpjddfiopaa

/- Walks: the reference's drops, and its two moves. -/
namespace Go.Proofs.Ytoonkpjddfiopaa
open Go.RowKit
set_option linter.unusedVariables false

set_option maxHeartbeats 400000 in
theorem rdrop_any (W k x : Int) (w : World) (h2 : W ≤ 640) (h3 : -3 ≤ k) (h4 : k ≤ 3) (h5 : 0 ≤ x) (h6 : x < W) :
    Calls Try.prog 60 #[.int .i64 W, .int .i64 k, .int .i64 x] w fun e w' => e = .returned (.int .i64 (dropI W k x)) ∧ w = w' := by
  by_cases hk : k < 0
  · obtain ⟨a1, a2⟩ := mul_bd (a := W - 1 - x) (b := -k) (m := 639) (n := 3) (by omega) (by omega) (by omega) (by omega)
    have hr : Hid (dropI W k x = (W - 1 - x) * (-k) / 64) := by show _ = _; unfold dropI; rw [if_pos hk]
    go_enter Try.func60, Try.ntmps60
    go_wp2
    go_ret
    exact ⟨ret_int hr.out.symm, rfl⟩
  · obtain ⟨a1, a2⟩ := mul_bd (a := x) (b := k) (m := 639) (n := 3) (by omega) (by omega) (by omega) (by omega)
    have hr : Hid (dropI W k x = x * k / 64) := by show _ = _; unfold dropI; rw [if_neg hk]
    go_enter Try.func60, Try.ntmps60
    go_wp2
    go_ret
    exact ⟨ret_int hr.out.symm, rfl⟩

set_option maxHeartbeats 400000 in
theorem rgreatest_any (W k : Int) (w : World) (h1 : 0 ≤ W) (h2 : W ≤ 640) (h3 : -3 ≤ k) (h4 : k ≤ 3) :
    Calls Try.prog 58 #[.int .i64 W, .int .i64 k] w fun e w' => e = .returned (.int .i64 (grt W k)) ∧ w = w' := by
  have hG := Lib.hid (mxS_grt (W := W) (k := k) h1 h3 h4)
  obtain ⟨N, hN⟩ : ∃ N : Nat, (N : Int) = W := ⟨W.toNat, by omega⟩
  have HN : Hid (W.toNat = N) := by show _ = _; omega
  go_enter Try.func58, Try.ntmps58
  go_wp2
  go_loop [5, 6] (fun m s => ∃ i : Nat, i ≤ N ∧ s = .int .i64 i ∧ m = .int .i64 (mxS W k i)) (fun _ s => N - (intOf s).toNat)
  case atStart => exact ⟨0, by omega, rfl, rfl⟩
  case round =>
    obtain ⟨i, hi, rfl, rfl⟩ := hrel
    obtain ⟨b1, b2⟩ := mxS_bd (W := W) h2 h3 h4 i (by omega)
    by_cases hlt : i < N
    · have MU := Lib.hid (@mxS_up W k i)
      have MN := Lib.hid (@mxS_no W k i)
      have DR := Lib.hid fun w' => rdrop_any W k i w' h2 h3 h4 (by omega) (by omega)
      obtain ⟨d1, d2⟩ := drop_bd (W := W) (k := k) (x := i) h2 h3 h4 (by omega) (by omega)
      generalize mxS W k i = M at *
      generalize dropI W k i = D at *
      by_cases hm : M ≤ D
      · go_wp2_with (go_at_call 60; refine (DR.out _).mono ?_; rintro e w' ⟨rfl, rfl⟩)
        go_round
        case rel => exact ⟨i + 1, by omega, by go_num, by rw [MU.out hm]; first | rfl | (congr 1; omega)⟩
        case measure => simp [intOf]; omega
      · go_wp2_with (go_at_call 60; refine (DR.out _).mono ?_; rintro e w' ⟨rfl, rfl⟩)
        go_round
        case rel => exact ⟨i + 1, by omega, by go_num, by rw [MN.out hm]; first | rfl | (congr 1; omega)⟩
        case measure => simp [intOf]; omega
    · obtain rfl : i = N := by omega
      go_wp2
      go_ret
      exact ⟨ret_int (by rw [← hG.out, HN.out]), rfl⟩

structure RmR (w wr : World) (W H h : Int) (N : Nat) (A : Option Addr) (n c g s8 : Nat) (p : Int → Int) (k way y x : Int) : Prop where
  bl : Below w.heap.size w wr
  k2 : Blk wr w.heap.size 29 #[.int .i64 W, .int .i64 H, .slice A n c]
  k4 : Blk wr (w.heap.size + 1) 29 #[.int .i64 0, .int .i64 0, .slice none 0 0]
  k8 : Blk wr s8 29 #[.int .i64 W, .int .i64 h, .slice (some ⟨g, 0, none⟩) N N]
  kg : Blk wr g 5 (u8s N (drawR W H p k way y x))
theorem RmR.keep {w wr wr' : World} {W H h : Int} {N : Nat} {A : Option Addr} {n c g s8 : Nat} {p : Int → Int} {k way y x : Int} (m : RmR w wr W H h N A n c g s8 p k way y x) (hb : Below wr.heap.size wr wr') : RmR w wr' W H h N A n c g s8 p k way y x :=
  ⟨m.bl.trans (hb.mono m.bl.size), m.k2.below' hb, m.k4.below' hb, m.k8.below' hb, m.kg.below' hb⟩
theorem RmR.drew {w wr : World} {W H h : Int} {N : Nat} {A : Option Addr} {n c g s8 : Nat} {p : Int → Int} {k way y x : Int} (m : RmR w wr W H h N A n c g s8 p k way y x) : RmR w wr.drew W H h N A n c g s8 p k way y x :=
  ⟨m.bl.drew, m.k2.drew, m.k4.drew, m.k8.drew, m.kg.drew⟩
theorem RmR.conv {w wr : World} {W H h : Int} {N : Nat} {A : Option Addr} {n c g s8 : Nat} {p : Int → Int} {k way y x y' x' : Int} (m : RmR w wr W H h N A n c g s8 p k way y x) (hc : ∀ i : Int, 0 ≤ i → i < N → drawR W H p k way y x i = drawR W H p k way y' x' i) : RmR w wr W H h N A n c g s8 p k way y' x' :=
  ⟨m.bl, m.k2, m.k4, m.k8, m.kg.u8conv hc⟩
theorem RmR.set {w wr wr' : World} {W H h : Int} {N : Nat} {A : Option Addr} {n c g s8 : Nat} {p : Int → Int} {k way y x : Int} (m : RmR w wr W H h N A n c g s8 p k way y x) (hg : w.heap.size + 2 ≤ g) (h8 : s8 ≠ g) (hb : wr.grownBy wr' (some g)) (hk : Blk wr' g 5 (u8s N (upd (drawR W H p k way y x) (y * W + x) 1)))
    (hc : ∀ i : Int, 0 ≤ i → i < N → upd (drawR W H p k way y x) (y * W + x) 1 i = drawR W H p k way y (x + 1) i) : RmR w wr' W H h N A n c g s8 p k way y (x + 1) :=
  ⟨⟨hb.os.trans m.bl.os, hb.tape.trans m.bl.tape, hb.output.trans m.bl.output, Nat.le_trans m.bl.size hb.size, fun j hj => (hb.block j (by have := m.bl.size; omega) (by simp; omega)).trans (m.bl.block j hj)⟩,
    m.k2.grown hb (by simp; omega), m.k4.grown hb (by simp; omega), m.k8.grown hb (by simp; omega), hk.u8conv hc⟩

set_option maxRecDepth 100000 in
set_option maxHeartbeats 1000000 in
theorem runskew_ok (W H h : Int) (N : Nat) (A : Option Addr) (n c : Nat) (p : Int → Int) (k : Int) (w : World) (hA : ArrB w w.heap.size A n p) (hn : n ≤ maxLen) (hB : IsB p)
    (hE : movE W H n p k (-1) = 0) (hh : h = H - grt W k) (hN : (N : Int) = W * h) :
    Calls Try.prog 28 #[.agg #[.int .i64 W, .int .i64 H, .slice A n c], .int .i64 k] w
      (New w fun v w' => ∃ g, v = .tuple #[g, .int .i64 0] ∧ OutN w w' W h N (movR W H p k (-1)) g) := by
  subst hh
  obtain ⟨hc, hk1, hk2, hh1, hh2⟩ := movE_ok hE
  obtain ⟨hW1, hW2, hH1, hH2, hnn, -⟩ := chk_ok hc
  have e1 : H + -1 * grt W k = H - grt W k := by omega
  rw [e1] at hh1 hh2
  have HC := Lib.hid hc
  have HNN := Lib.hid hnn
  have HN := Lib.hid hN
  have GR := Lib.hid fun w' => rgreatest_any W k w' hW1 hW2 hk1 hk2
  obtain ⟨hg1, hg2⟩ := grt_bd hW1 hW2 hk1 hk2
  generalize grt W k = G at *
  clear hE hc hnn hN e1
  go_enter Try.func28, Try.ntmps28
  go_wp2_with fail
  refine (rcheck_any W H A n c p _ (hA.to (by (repeat (first | exact Below.refl _ _ | assumption | refine Below.drew ?_ | refine below_drewN ?_ _ | refine Below.alloc ?_ (by first | omega | (simp; done) | (simp; omega)) _ | refine Below.setCell ?_ (by first | omega | (simp; done) | (simp; omega)) _ | refine below_setRow ?_ (by first | omega | (simp; done) | (simp; omega)) _ )))) hn hB).mono ?_
  rintro e w1 ⟨rfl, hb1⟩
  rw [HC.out]
  have k3 : Blk w1 w.heap.size 29 #[.int .i64 W, .int .i64 H, .slice A n c] := ((Blk.new _ _ _).alloc _).below' hb1
  have k6 : Blk w1 (w.heap.size + 1) 29 #[.int .i64 0, .int .i64 0, .slice none 0 0] := (Blk.new' (by simp) _ _).below' hb1
  have z1 : w.heap.size + 2 ≤ w1.heap.size := by simpa using hb1.size
  have b1 : Below w.heap.size w w1 := below_call (by (repeat (first | exact Below.refl _ _ | assumption | refine Below.drew ?_ | refine below_drewN ?_ _ | refine Below.alloc ?_ (by first | omega | (simp; done) | (simp; omega)) _ | refine Below.setCell ?_ (by first | omega | (simp; done) | (simp; omega)) _ | refine below_setRow ?_ (by first | omega | (simp; done) | (simp; omega)) _ ))) (by simp; try omega) hb1
  clear hb1
  obtain ⟨p1, p2, p3⟩ := k3.cells3
  have hs : IntKind.i64.wrap (H - G) = H - G := IntWalk.i64_in _ (by omega)
  go_wp2_with fail
  go_quiet ((go_at_call 58; exact qcallN (GR.out _)))
  replace k3 := k3.drewN nq
  replace k6 := k6.drewN nq
  replace b1 := below_drewN b1 nq
  replace z1 : w.heap.size + 2 ≤ (w1.drewN nq).heap.size := z1
  have p1 := p1; have p2 := p2; have p3 := p3
  clear p1 p2 p3 hs
  generalize w1.drewN nq = w2 at *
  obtain ⟨p1, p2, p3⟩ := k3.cells3
  go_wp2_with fail
  refine (rnew_any W (H - G) N _ hW1 hW2 hh1 hh2 HN.out).mono ?_
  rintro e w3 ⟨_, rfl, ⟨g, rfl, hg, kg⟩, hb3⟩
  replace k3 := k3.below' hb3
  replace k6 := k6.below' hb3
  replace b1 := below_call b1 (by omega) hb3
  have z3 : w2.heap.size ≤ w3.heap.size := hb3.size
  have z4 := kg.lt
  clear hb3 p1 p2 p3
  obtain ⟨p1, p2, p3⟩ := k3.cells3
  have hg0 : w.heap.size + 2 ≤ g := by omega
  clear hg
  go_wp2_with fail
  have m : ∀ w', w' = w3.alloc (.cells #[.int .i64 W, .int .i64 (H - G), .slice (some ⟨g, 0, none⟩) N N] 29) → RmR w w' W H (H - G) N A n c g w3.heap.size p k (-1) 0 0 := by
    rintro _ rfl
    exact ⟨by (repeat (first | exact Below.refl _ _ | assumption | refine Below.drew ?_ | refine below_drewN ?_ _ | refine Below.alloc ?_ (by first | omega | (simp; done) | (simp; omega)) _ | refine Below.setCell ?_ (by first | omega | (simp; done) | (simp; omega)) _ | refine below_setRow ?_ (by first | omega | (simp; done) | (simp; omega)) _ )), k3.alloc _, k6.alloc _, Blk.new _ _ _, (kg.alloc _).u8conv fun j h0 _ => (drawR_start h0 hW1).symm⟩
  replace m := m _ rfl
  clear k3 k6 kg b1 p1 p2 p3 z1 z3
  generalize w3.alloc (.cells #[.int .i64 W, .int .i64 (H - G), .slice (some ⟨g, 0, none⟩) N N] 29) = w5 at *
  go_loopw [9] (fun i wr => ∃ y : Int, 0 ≤ y ∧ y ≤ H - G ∧ i = .int .i64 y ∧ RmR w wr W H (H - G) N A n c g w3.heap.size p k (-1) y 0) (fun i _ => (H - G - intOf i).toNat)
  case atStart => exact ⟨0, by omega, by omega, rfl, m⟩
  case round =>
    obtain ⟨y, hy0, hy, rfl, m1⟩ := hrel
    clear m
    obtain ⟨p1, p2, p3⟩ := m1.k2.cells3
    by_cases hyH : y < H - G
    · go_wp2
      go_loopw [10] (fun i wr => ∃ x : Int, 0 ≤ x ∧ x ≤ W ∧ i = .int .i64 x ∧ RmR w wr W H (H - G) N A n c g w3.heap.size p k (-1) y x) (fun i _ => (W - intOf i).toNat)
      case atStart => exact ⟨0, by omega, by omega, rfl, m1⟩
      case round =>
        obtain ⟨x, hx0, hx, rfl, m2⟩ := hrel
        clear m1 p1 p2 p3
        obtain ⟨p1, p2, p3⟩ := m2.k2.cells3
        by_cases hxW : x < W
        · obtain ⟨hd1, hd2⟩ := drop_bd (W := W) (k := k) (x := x) hW2 hk1 hk2 hx0 hxW
          have DR := Lib.hid fun w' => rdrop_any W k x w' hW2 hk1 hk2 hx0 hxW
          have DY := Lib.hid fun i => @drawR_yes W H p k (-1) y x i hx0 hxW
          have DN := Lib.hid fun i => @drawR_no W H p k (-1) y x i hx0 hxW
          have et : y + dropI W k x = y - -1 * dropI W k x := by omega
          have v1 : IntKind.i64.wrap (y + dropI W k x) = y + dropI W k x := IntWalk.i64_in _ (by omega)
          generalize dropI W k x = D at *
          have IK := Lib.hid fun w' hA' => rink_any W H A n c p x (y + D) w' hA' hW2 hH2 HNN.out
          rw [← et] at DY DN
          clear et
          have M2 := Lib.hid m2.drew
          cases hi : inkB W H p x (y + D)
          · have HI := Lib.hid hi
            rw [hi] at IK
            clear hi
            go_wp2_with fail
            go_region_held3 (fun w' => w'.cell? ⟨w.heap.size, 0, none⟩ = some (.int .i64 W) ∧ w'.cell? ⟨w.heap.size, 1, none⟩ = some (.int .i64 H) ∧ w'.cell? ⟨w.heap.size, 2, none⟩ = some (.slice A n c))
              (simp [go_sem, *])
              (first
                | (go_at_call 60; refine (DR.out _).mono ?_; rintro e w' ⟨rfl, rfl⟩)
                | (go_at_call 59; refine (IK.out _ ((ArrB.below hA M2.out.bl).more M2.out.bl.size)).mono ?_; rintro e w6 ⟨rfl, hb6⟩
                   have m6 := M2.out.keep hb6
                   obtain ⟨x1, x2, x3⟩ := m6.k2.cells3))
            go_wp2
            go_roundw
            case rel => exact ⟨x + 1, by omega, by omega, by go_num, m6.conv fun i _ _ => DN.out i HI.out⟩
            case measure => simp [intOf]; omega
          · have HI := Lib.hid hi
            rw [hi] at IK
            clear hi
            go_wp2_with fail
            go_region_held3 (fun w' => w'.cell? ⟨w.heap.size, 0, none⟩ = some (.int .i64 W) ∧ w'.cell? ⟨w.heap.size, 1, none⟩ = some (.int .i64 H) ∧ w'.cell? ⟨w.heap.size, 2, none⟩ = some (.slice A n c))
              (simp [go_sem, *])
              (first
                | (go_at_call 60; refine (DR.out _).mono ?_; rintro e w' ⟨rfl, rfl⟩)
                | (go_at_call 59; refine (IK.out _ ((ArrB.below hA M2.out.bl).more M2.out.bl.size)).mono ?_; rintro e w6 ⟨rfl, hb6⟩
                   have m6 := M2.out.keep hb6
                   obtain ⟨x1, x2, x3⟩ := m6.k2.cells3))
            obtain ⟨q1, q2, q3⟩ := m6.k8.cells3
            go_wp2_with fail
            refine (rset_any W (H - G) g N N 5 _ x y _ m6.kg hx0 hxW hy0 hyH hW2 hh2 HN.out).mono ?_
            rintro e w7 ⟨rfl, hk7, hb7⟩
            have m7 := m6.set hg0 (by omega) hb7 hk7 (fun i _ _ => DY.out i HI.out)
            go_wp2
            go_roundw
            case rel => exact ⟨x + 1, by omega, by omega, by go_num, m7⟩
            case measure => simp [intOf]; omega
        · obtain rfl : x = W := by omega
          go_wp2
          go_roundw
          case rel => exact ⟨y + 1, by omega, by omega, by go_num, m2.conv fun i h0 hi => drawR_row (h := H - G) hW1 h0 (by have := HN.out; omega)⟩
          case measure => simp [intOf]; omega
    · obtain rfl : y = H - G := by omega
      obtain ⟨q1, q2, q3⟩ := m1.k8.cells3
      obtain ⟨r1, r2, r3⟩ := m1.k4.cells3
      obtain ⟨f1, f2, f3⟩ := m1.k4.frozen3
      go_wp2
      refine bodyPost_ret (v := .tuple #[.agg #[.int .i64 W, .int .i64 (H - G), .slice (some ⟨g, 0, none⟩) N N], .int .i64 0]) (by simp [results, Try.results28, go_sem, r1, r2, r3]) rfl ?_
      refine ⟨_, rfl, ⟨_, rfl, OutN.mk (by omega) ?_⟩, by have := m1.bl; (repeat (first | exact Below.refl _ _ | assumption | refine Below.drew ?_ | refine below_drewN ?_ _ | refine Below.alloc ?_ (by first | omega | (simp; done) | (simp; omega)) _ | refine Below.setCell ?_ (by first | omega | (simp; done) | (simp; omega)) _ | refine below_setRow ?_ (by first | omega | (simp; done) | (simp; omega)) _ ))⟩
      exact (((m1.kg.u8conv fun i h0 hi => drawR_end (h := H - G) hW1 h0 (by have := HN.out; omega)).far (by simp; omega) _).far (by simp; omega) _).far (by simp; omega) _

set_option maxHeartbeats 1000000 in
theorem runskew_bad (W H : Int) (A : Option Addr) (n c : Nat) (p : Int → Int) (k z : Int) (w : World) (hA : ArrB w w.heap.size A n p) (hn : n ≤ maxLen) (hB : IsB p)
    (hE : movE W H n p k (-1) = z) (hz : z ≠ 0) :
    Calls Try.prog 28 #[.agg #[.int .i64 W, .int .i64 H, .slice A n c], .int .i64 k] w
      fun e w' => e = .returned (.tuple #[noImg, .int .i64 z]) ∧ Below w.heap.size w w' := by
  have CK := Lib.hid fun w' hA' => rcheck_any W H A n c p w' hA' hn hB
  by_cases hc : chk W H n p = 0
  · obtain ⟨hW1, hW2, hH1, hH2, -, -⟩ := chk_ok hc
    rw [hc] at CK
    by_cases hk : k < -3 ∨ 3 < k
    · obtain rfl : (1 : Int) = z := by rw [← hE]; unfold movE; rw [hc]; simp [hk]
      clear hc hE
      go_enter Try.func28, Try.ntmps28
      go_wp2_with fail
      refine (CK.out _ (hA.to (by (repeat (first | exact Below.refl _ _ | assumption | refine Below.drew ?_ | refine below_drewN ?_ _ | refine Below.alloc ?_ (by first | omega | (simp; done) | (simp; omega)) _ | refine Below.setCell ?_ (by first | omega | (simp; done) | (simp; omega)) _ | refine below_setRow ?_ (by first | omega | (simp; done) | (simp; omega)) _ ))))).mono ?_
      rintro e w1 ⟨rfl, hb1⟩
      have k6 : Blk w1 (w.heap.size + 1) 29 #[.int .i64 0, .int .i64 0, .slice none 0 0] := (Blk.new' (by simp) _ _).below' hb1
      have b1 : Below w.heap.size w w1 := below_call (by (repeat (first | exact Below.refl _ _ | assumption | refine Below.drew ?_ | refine below_drewN ?_ _ | refine Below.alloc ?_ (by first | omega | (simp; done) | (simp; omega)) _ | refine Below.setCell ?_ (by first | omega | (simp; done) | (simp; omega)) _ | refine below_setRow ?_ (by first | omega | (simp; done) | (simp; omega)) _ ))) (by simp; try omega) hb1
      obtain ⟨r1, r2, r3⟩ := k6.cells3
      obtain ⟨f1, f2, f3⟩ := k6.frozen3
      clear hb1
      rcases hk with hk | hk
      all_goals
        go_wp2
        refine bodyPost_ret (v := .tuple #[noImg, .int .i64 1]) (by simp [results, Try.results28, go_sem, noImg, r1, r2, r3]) rfl ?_
        exact ⟨rfl, by (repeat (first | exact Below.refl _ _ | assumption | refine Below.drew ?_ | refine below_drewN ?_ _ | refine Below.alloc ?_ (by first | omega | (simp; done) | (simp; omega)) _ | refine Below.setCell ?_ (by first | omega | (simp; done) | (simp; omega)) _ | refine below_setRow ?_ (by first | omega | (simp; done) | (simp; omega)) _ ))⟩
    · have hk1 : -3 ≤ k := by omega
      have hk2 : k ≤ 3 := by omega
      obtain ⟨hg1, hg2⟩ := grt_bd hW1 hW2 hk1 hk2
      obtain ⟨rfl, hh⟩ : (2 : Int) = z ∧ H - grt W k < 0 := by
        rw [← hE]
        rw [← hE] at hz
        unfold movE at hz ⊢
        rw [hc] at hz ⊢
        simp only [ne_eq, not_true_eq_false, reduceIte, if_neg hk] at hz ⊢
        split at hz
        · rename_i h; rw [if_pos h]; omega
        · exact absurd rfl hz
      have GR := Lib.hid fun w' => rgreatest_any W k w' hW1 hW2 hk1 hk2
      generalize grt W k = G at *
      clear hc hE hk
      go_enter Try.func28, Try.ntmps28
      go_wp2_with fail
      refine (CK.out _ (hA.to (by (repeat (first | exact Below.refl _ _ | assumption | refine Below.drew ?_ | refine below_drewN ?_ _ | refine Below.alloc ?_ (by first | omega | (simp; done) | (simp; omega)) _ | refine Below.setCell ?_ (by first | omega | (simp; done) | (simp; omega)) _ | refine below_setRow ?_ (by first | omega | (simp; done) | (simp; omega)) _ ))))).mono ?_
      rintro e w1 ⟨rfl, hb1⟩
      have k3 : Blk w1 w.heap.size 29 #[.int .i64 W, .int .i64 H, .slice A n c] := ((Blk.new _ _ _).alloc _).below' hb1
      have k6 : Blk w1 (w.heap.size + 1) 29 #[.int .i64 0, .int .i64 0, .slice none 0 0] := (Blk.new' (by simp) _ _).below' hb1
      have b1 : Below w.heap.size w w1 := below_call (by (repeat (first | exact Below.refl _ _ | assumption | refine Below.drew ?_ | refine below_drewN ?_ _ | refine Below.alloc ?_ (by first | omega | (simp; done) | (simp; omega)) _ | refine Below.setCell ?_ (by first | omega | (simp; done) | (simp; omega)) _ | refine below_setRow ?_ (by first | omega | (simp; done) | (simp; omega)) _ ))) (by simp; try omega) hb1
      clear hb1
      obtain ⟨p1, p2, p3⟩ := k3.cells3
      have hs : IntKind.i64.wrap (H - G) = H - G := IntWalk.i64_in _ (by omega)
      go_wp2_with fail
      go_quiet ((go_at_call 58; exact qcallN (GR.out _)))
      replace k6 := k6.drewN nq
      replace b1 := below_drewN b1 nq
      have p1 := p1; have p2 := p2; have p3 := p3
      clear p1 p2 p3 hs k3
      generalize w1.drewN nq = w2 at *
      obtain ⟨r1, r2, r3⟩ := k6.cells3
      obtain ⟨f1, f2, f3⟩ := k6.frozen3
      go_wp2
      refine bodyPost_ret (v := .tuple #[noImg, .int .i64 2]) (by simp [results, Try.results28, go_sem, noImg, r1, r2, r3]) rfl ?_
      exact ⟨rfl, by (repeat (first | exact Below.refl _ _ | assumption | refine Below.drew ?_ | refine below_drewN ?_ _ | refine Below.alloc ?_ (by first | omega | (simp; done) | (simp; omega)) _ | refine Below.setCell ?_ (by first | omega | (simp; done) | (simp; omega)) _ | refine below_setRow ?_ (by first | omega | (simp; done) | (simp; omega)) _ ))⟩
  · obtain rfl : chk W H n p = z := by rw [← hE]; unfold movE; rw [if_pos hc]
    generalize chk W H n p = z at *
    clear hE hc
    go_enter Try.func28, Try.ntmps28
    go_wp2_with fail
    refine (CK.out _ (hA.to (by (repeat (first | exact Below.refl _ _ | assumption | refine Below.drew ?_ | refine below_drewN ?_ _ | refine Below.alloc ?_ (by first | omega | (simp; done) | (simp; omega)) _ | refine Below.setCell ?_ (by first | omega | (simp; done) | (simp; omega)) _ | refine below_setRow ?_ (by first | omega | (simp; done) | (simp; omega)) _ ))))).mono ?_
    rintro e w1 ⟨rfl, hb1⟩
    have k6 : Blk w1 (w.heap.size + 1) 29 #[.int .i64 0, .int .i64 0, .slice none 0 0] := (Blk.new' (by simp) _ _).below' hb1
    have b1 : Below w.heap.size w w1 := below_call (by (repeat (first | exact Below.refl _ _ | assumption | refine Below.drew ?_ | refine below_drewN ?_ _ | refine Below.alloc ?_ (by first | omega | (simp; done) | (simp; omega)) _ | refine Below.setCell ?_ (by first | omega | (simp; done) | (simp; omega)) _ | refine below_setRow ?_ (by first | omega | (simp; done) | (simp; omega)) _ ))) (by simp; try omega) hb1
    obtain ⟨r1, r2, r3⟩ := k6.cells3
    obtain ⟨f1, f2, f3⟩ := k6.frozen3
    clear hb1
    go_wp2
    refine bodyPost_ret (v := .tuple #[noImg, .int .i64 z]) (by simp [results, Try.results28, go_sem, noImg, r1, r2, r3]) rfl ?_
    exact ⟨rfl, by (repeat (first | exact Below.refl _ _ | assumption | refine Below.drew ?_ | refine below_drewN ?_ _ | refine Below.alloc ?_ (by first | omega | (simp; done) | (simp; omega)) _ | refine Below.setCell ?_ (by first | omega | (simp; done) | (simp; omega)) _ | refine below_setRow ?_ (by first | omega | (simp; done) | (simp; omega)) _ ))⟩
end Go.Proofs.Ytoonkpjddfiopaa

/- Walks: the reference's full rows and its skew; the moves' contracts in one piece; clean.Drop. -/
namespace Go.Proofs.Ytoonkpjddfiopaa
open Go.RowKit
set_option linter.unusedVariables false

theorem ink_in {W H : Int} {p : Int → Int} {x y : Int} (h1 : 0 ≤ x) (h2 : x < W) (h3 : 0 ≤ y) (h4 : y < H) : inkB W H p x y = decide (p (y * W + x) = 1) := by
  unfold inkB; simp [h1, h2, h3, h4]
theorem fullS_eq {W H : Int} {n : Nat} {p : Int → Int} (h : chk W H n p = 0) (hB : IsB p) : fullR W p H.toNat = fullS W H n p := fullR_eq h hB _ (Nat.le_refl _)

set_option maxHeartbeats 1000000 in
theorem rfull_ok (W H : Int) (A : Option Addr) (n c : Nat) (p : Int → Int) (w : World) (hA : ArrB w w.heap.size A n p) (hB : IsB p) (hE : chk W H n p = 0) :
    Calls Try.prog 63 #[.agg #[.int .i64 W, .int .i64 H, .slice A n c]] w fun e w' => e = .returned (.int .i64 (fullS W H n p)) ∧ Below w.heap.size w w' := by
  have HF := Lib.hid (fullS_eq hE hB)
  obtain ⟨hW1, hW2, hH1, hH2, hnn, -⟩ := chk_ok hE
  have HNN := Lib.hid hnn
  clear hE hnn
  obtain ⟨Wn, rfl⟩ : ∃ Wn : Nat, W = Wn := ⟨W.toNat, by omega⟩
  obtain ⟨Hn, rfl⟩ : ∃ Hn : Nat, H = Hn := ⟨H.toNat, by omega⟩
  have HFN : Hid (fullR Wn p Hn = fullS Wn Hn n p) := by show _ = _; have := HF.out; rwa [Int.toNat_natCast] at this
  clear HF
  go_enter Try.func63, Try.ntmps63
  go_wp2_with fail
  go_loopw [3, 4] (fun m s wr => ∃ i : Nat, i ≤ Hn ∧ s = .int .i64 i ∧ m = .int .i64 (fullR Wn p i) ∧ Below w.heap.size w wr ∧ Blk wr w.heap.size 29 #[.int .i64 Wn, .int .i64 Hn, .slice A n c]) (fun _ s _ => Hn - (intOf s).toNat)
  case atStart => exact ⟨0, by omega, rfl, by unfold fullR; simp [sumN], by (repeat (first | exact Below.refl _ _ | assumption | refine Below.drew ?_ | refine below_drewN ?_ _ | refine Below.alloc ?_ (by first | omega | (simp; done) | (simp; omega)) _ | refine Below.setCell ?_ (by first | omega | (simp; done) | (simp; omega)) _ | refine below_setRow ?_ (by first | omega | (simp; done) | (simp; omega)) _ )), Blk.new _ _ _⟩
  case round =>
    obtain ⟨i, hi, rfl, rfl, b1, k1⟩ := hrel
    obtain ⟨p1, p2, p3⟩ := k1.cells3
    obtain ⟨fb1, fb2⟩ := fullR_bd Wn p i
    by_cases hlt : i < Hn
    · by_cases hW : 0 < Wn
      · have FY := Lib.hid (@fullR_yes Wn p i (by omega))
        have FN := Lib.hid (@fullR_no Wn p i (by omega))
        generalize fullR Wn p i = S at *
        go_wp2_with fail
        go_loopw [5, 6] (fun f s wr => ∃ x : Nat, x ≤ Wn ∧ s = .int .i64 x ∧ f = .bool (rowB x p (i * Wn)) ∧ Below w.heap.size w wr ∧ Blk wr w.heap.size 29 #[.int .i64 Wn, .int .i64 Hn, .slice A n c]) (fun _ s _ => Wn - (intOf s).toNat)
        case atStart => exact ⟨0, by omega, rfl, rfl, b1, k1⟩
        case round =>
          obtain ⟨x, hx, rfl, rfl, b2, k2⟩ := hrel
          clear p1 p2 p3 k1 b1
          obtain ⟨p1, p2, p3⟩ := k2.cells3
          by_cases hxl : x < Wn
          · have RS := Lib.hid (rowB_step p (i * Wn) x)
            cases hr : rowB x p (i * Wn)
            · have HR := Lib.hid hr; clear hr
              go_wp2
              go_roundw
              case rel => exact ⟨x + 1, by omega, by go_num, by rw [RS.out, HR.out]; rfl, b2, k2⟩
              case measure => simp [intOf]; omega
            · have HR := Lib.hid hr; clear hr
              have IK := Lib.hid (rink_any Wn Hn A n c p x i wr ((ArrB.below hA b2).more b2.size) hW2 hH2 HNN.out)
              rw [ink_in (by omega) (by omega) (by omega) (by omega)] at IK
              generalize hd : decide (p ((i : Int) * Wn + x) = 1) = d at IK
              have RS2 : Hid (rowB (x + 1) p (i * Wn) = d) := by show _ = _; rw [RS.out, HR.out, hd]; rfl
              clear RS hd
              go_wp2_with fail
              refine IK.out.mono ?_
              rintro e w2 ⟨rfl, hb2⟩
              have b3 := below_call b2 b2.size hb2
              have k3 := k2.below' hb2
              cases d <;> go_wp2
              all_goals
                go_roundw
                case rel => exact ⟨x + 1, by omega, by go_num, by rw [RS2.out], b3, k3⟩
                case measure => simp [intOf]; omega
          · obtain rfl : x = Wn := by omega
            rw [Int.toNat_natCast] at FY FN
            cases hr : rowB x p (i * x)
            · have HR := Lib.hid hr; clear hr
              go_wp2
              go_roundw
              case rel => exact ⟨i + 1, by omega, by go_num, by rw [FN.out HR.out], b2, k2⟩
              case measure => simp [intOf]; omega
            · have HR := Lib.hid hr; clear hr
              go_wp2
              go_roundw
              case rel => exact ⟨i + 1, by omega, by go_num, by rw [FY.out HR.out], b2, k2⟩
              case measure => simp [intOf]; omega
      · obtain rfl : Wn = 0 := by omega
        have hr : Hid (fullR (0 : Nat) p i = fullS (0 : Nat) Hn n p) := by show _ = _; rw [← HFN.out]; unfold fullR; simp
        go_wp2
        go_ret
        exact ⟨ret_int hr.out, by (repeat (first | exact Below.refl _ _ | assumption | refine Below.drew ?_ | refine below_drewN ?_ _ | refine Below.alloc ?_ (by first | omega | (simp; done) | (simp; omega)) _ | refine Below.setCell ?_ (by first | omega | (simp; done) | (simp; omega)) _ | refine below_setRow ?_ (by first | omega | (simp; done) | (simp; omega)) _ ))⟩
    · obtain rfl : i = Hn := by omega
      go_wp2
      go_ret
      exact ⟨ret_int HFN.out, by (repeat (first | exact Below.refl _ _ | assumption | refine Below.drew ?_ | refine below_drewN ?_ _ | refine Below.alloc ?_ (by first | omega | (simp; done) | (simp; omega)) _ | refine Below.setCell ?_ (by first | omega | (simp; done) | (simp; omega)) _ | refine below_setRow ?_ (by first | omega | (simp; done) | (simp; omega)) _ ))⟩

/-! ### the moves' contracts in one piece -/
def OutM (w w' : World) (E W H : Int) (N : Nat) (q : Int → Int) (v : Value) : Prop := ∃ A c, v = .tuple #[.agg #[.int .i64 W, .int .i64 H, .slice A N c], .int .i64 E] ∧ (∀ a, A = some a → w.heap.size ≤ a.block) ∧ ArrB w' w'.heap.size A N q
/-- the size that goes with an error E of a move -/
structure MSize (W H G E Wm Hm : Int) (N : Nat) : Prop where
  ok : E = 0 → Wm = W ∧ Hm = H + G ∧ (N : Int) = W * (H + G)
  bad : E ≠ 0 → Wm = 0 ∧ Hm = 0 ∧ N = 0
theorem msize_ex (W H G E : Int) (h : E = 0 → 0 ≤ W ∧ 0 ≤ H + G) : ∃ Wm Hm N, MSize W H G E Wm Hm N := by
  by_cases e : E = 0
  · obtain ⟨a, b⟩ := h e
    exact ⟨W, H + G, (W * (H + G)).toNat, fun _ => ⟨rfl, rfl, Int.toNat_of_nonneg (Int.mul_nonneg a b)⟩, fun h => absurd e h⟩
  · exact ⟨0, 0, 0, fun h => absurd h e, fun _ => ⟨rfl, rfl, rfl⟩⟩
theorem outM_bad {w w' : World} {E W H : Int} {N : Nat} {q : Int → Int} (hs : W = 0 ∧ H = 0 ∧ N = 0) : OutM w w' E W H N q (.tuple #[noImg, .int .i64 E]) := by
  obtain ⟨rfl, rfl, rfl⟩ := hs
  exact ⟨none, 0, rfl, fun _ h => by (cases h), ArrB.nil⟩

theorem skew_all (W H Wm Hm E : Int) (N : Nat) (A : Option Addr) (n c : Nat) (p : Int → Int) (k : Int) (w : World) (hA : ArrB w w.heap.size A n p) (hn : n ≤ maxLen) (hB : IsB p) (hE : movE W H n p k 1 = E) (hs : MSize W H (grt W k) E Wm Hm N) :
    Calls Try.prog 15 #[.agg #[.int .i64 W, .int .i64 H, .slice A n c], .int .i64 k] w (New w fun v w' => OutM w w' E Wm Hm N (movQ W H p k 1) v) := by
  by_cases e : E = 0
  · subst e
    obtain ⟨rfl, rfl, hN⟩ := hs.ok rfl
    obtain rfl : N = (Wm * (H + grt Wm k)).toNat := by omega
    refine (skew_ok Wm H _ A n c p k w hA hn hB hE rfl).mono ?_
    rintro _ w' ⟨_, rfl, ⟨_, rfl, ⟨g, rfl, hg, kg⟩⟩, hb⟩
    exact ⟨_, rfl, ⟨_, _, rfl, fun _ h => by (cases h; exact hg), kg.arrB kg.lt⟩, hb⟩
  · refine (skew_bad W H A n c p k E w hA hn hE e).mono ?_
    rintro _ w' ⟨rfl, hb⟩
    exact ⟨_, rfl, outM_bad (hs.bad e), hb⟩
theorem unskew_all (W H Wm Hm E : Int) (N : Nat) (A : Option Addr) (n c : Nat) (p : Int → Int) (k : Int) (w : World) (hA : ArrB w w.heap.size A n p) (hn : n ≤ maxLen) (hB : IsB p) (hE : movE W H n p k (-1) = E) (hs : MSize W H (-grt W k) E Wm Hm N) :
    Calls Try.prog 38 #[.agg #[.int .i64 W, .int .i64 H, .slice A n c], .int .i64 k] w (New w fun v w' => OutM w w' E Wm Hm N (movQ W H p k (-1)) v) := by
  by_cases e : E = 0
  · subst e
    obtain ⟨rfl, rfl, hN⟩ := hs.ok rfl
    obtain rfl : N = (Wm * (H + -grt Wm k)).toNat := by omega
    refine (unskew_ok Wm H (H + -grt Wm k) A n c p k w hA hn hB hE (by omega)).mono ?_
    rintro _ w' ⟨_, rfl, ⟨_, rfl, ⟨g, rfl, hg, kg⟩⟩, hb⟩
    exact ⟨_, rfl, ⟨_, _, rfl, fun _ h => by (cases h; exact hg), kg.arrB kg.lt⟩, hb⟩
  · refine (unskew_bad W H A n c p k E w hA hn hE e).mono ?_
    rintro _ w' ⟨rfl, hb⟩
    exact ⟨_, rfl, outM_bad (hs.bad e), hb⟩
theorem runskew_all (W H Wm Hm E : Int) (N : Nat) (A : Option Addr) (n c : Nat) (p : Int → Int) (k : Int) (w : World) (hA : ArrB w w.heap.size A n p) (hn : n ≤ maxLen) (hB : IsB p) (hE : movE W H n p k (-1) = E) (hs : MSize W H (-grt W k) E Wm Hm N) :
    Calls Try.prog 28 #[.agg #[.int .i64 W, .int .i64 H, .slice A n c], .int .i64 k] w (New w fun v w' => OutM w w' E Wm Hm N (movQ W H p k (-1)) v) := by
  by_cases e : E = 0
  · subst e
    obtain ⟨rfl, rfl, hN⟩ := hs.ok rfl
    refine (runskew_ok Wm H (H + -grt Wm k) N A n c p k w hA hn hB hE (by omega) hN).mono ?_
    rintro _ w' ⟨_, rfl, ⟨_, rfl, ⟨g, rfl, hg, kg⟩⟩, hb⟩
    exact ⟨_, rfl, ⟨_, _, rfl, fun _ h => by (cases h; exact hg), (kg.arrB kg.lt).congr fun i h0 hi => movR_eq (movE_ok hE).1 hB h0 (by rw [← hN]; exact hi)⟩, hb⟩
  · refine (runskew_bad W H A n c p k E w hA hn hB hE e).mono ?_
    rintro _ w' ⟨rfl, hb⟩
    exact ⟨_, rfl, outM_bad (hs.bad e), hb⟩
theorem movE_sides {W H : Int} {n : Nat} {p : Int → Int} {k way : Int} (h : movE W H n p k way = 0) : 0 ≤ W ∧ 0 ≤ H + way * grt W k :=
  ⟨(chk_ok (movE_ok h).1).1, (movE_ok h).2.2.2.1⟩

theorem L7_take (i : Nat) (h : i < 7) : L7.take (i + 1) = L7.take i ++ [lit L7 i] := by
  rcases (by omega : i = 0 ∨ i = 1 ∨ i = 2 ∨ i = 3 ∨ i = 4 ∨ i = 5 ∨ i = 6) with rfl | rfl | rfl | rfl | rfl | rfl | rfl <;> rfl
theorem chk_out {W H Wm Hm : Int} {N n : Nat} {p : Int → Int} {k : Int} (h : movE W H n p k (-1) = 0) (hs : MSize W H (-grt W k) 0 Wm Hm N) : chk Wm Hm N (movQ W H p k (-1)) = 0 := by
  obtain ⟨rfl, rfl, hN⟩ := hs.ok rfl
  have := chk_mov (h := H + -grt Wm k) h (by omega)
  rwa [show (Wm * (H + -grt Wm k)).toNat = N by omega] at this
theorem fsN_mv {W H Wm Hm : Int} {N n : Nat} {p : Int → Int} {k : Int} (h : movE W H n p k (-1) = 0) (hs : MSize W H (-grt W k) 0 Wm Hm N) : fsN W H n p k = fullS Wm Hm N (movQ W H p k (-1)) := by
  obtain ⟨rfl, rfl, hN⟩ := hs.ok rfl
  unfold fsN
  rw [if_pos h, show H - grt Wm k = H + -grt Wm k by omega, show (Wm * (H + -grt Wm k)).toNat = N by omega]

set_option maxRecDepth 100000 in
set_option maxHeartbeats 2000000 in
theorem rfindSkew_ok (W H : Int) (A : Option Addr) (n c : Nat) (p : Int → Int) (w : World) (hA : ArrB w w.heap.size A n p) (hn : n ≤ maxLen) (hB : IsB p) (hE : chk W H n p = 0) :
    Calls Try.prog 33 #[.agg #[.int .i64 W, .int .i64 H, .slice A n c]] w fun e w' => e = .returned (.int .i64 (findS W H n p)) ∧ Below w.heap.size w w' := by
  have FD : Hid (findS W H n p = (fsL (fsN W H n p) (L7.take 7)).1) := by show _ = _; rfl
  have cells : #[Value.int .i64 0, .int .i64 1, .int .i64 (-1), .int .i64 2, .int .i64 (-2), .int .i64 3, .int .i64 (-3)] = i64s 7 (lit L7) := i64s_lit (l := L7)
  have CS := Lib.hid cells; clear cells
  have HE := Lib.hid hE
  clear hE
  go_enter Try.func33, Try.ntmps33
  go_wp2_with fail
  have k0 : ∀ w', w' = (w.alloc (.cells #[.int .i64 W, .int .i64 H, .slice A n c] 29)).alloc (.cells #[Value.int .i64 0, .int .i64 1, .int .i64 (-1), .int .i64 2, .int .i64 (-2), .int .i64 3, .int .i64 (-3)] 3) →
      Below w.heap.size w w' ∧ Blk w' w.heap.size 29 #[.int .i64 W, .int .i64 H, .slice A n c] ∧ Blk w' (w.heap.size + 1) 3 (i64s 7 (lit L7)) := by
    rintro _ rfl
    exact ⟨by (repeat (first | exact Below.refl _ _ | assumption | refine Below.drew ?_ | refine below_drewN ?_ _ | refine Below.alloc ?_ (by first | omega | (simp; done) | (simp; omega)) _ | refine Below.setCell ?_ (by first | omega | (simp; done) | (simp; omega)) _ | refine below_setRow ?_ (by first | omega | (simp; done) | (simp; omega)) _ )), (Blk.new _ _ _).alloc _, (Blk.new' (by simp) _ _).to CS.out⟩
  replace k0 := k0 _ rfl
  generalize (w.alloc (.cells #[.int .i64 W, .int .i64 H, .slice A n c] 29)).alloc (.cells #[Value.int .i64 0, .int .i64 1, .int .i64 (-1), .int .i64 2, .int .i64 (-2), .int .i64 3, .int .i64 (-3)] 3) = w1 at *
  obtain ⟨b1, k1, k2⟩ := k0
  go_loopw [4, 5, 6] (fun o m s wr => ∃ i : Nat, i ≤ 7 ∧ s = .int .i64 i ∧ o = .int .i64 (fsL (fsN W H n p) (L7.take i)).1 ∧ m = .int .i64 (fsL (fsN W H n p) (L7.take i)).2 ∧ Below w.heap.size w wr ∧ Blk wr w.heap.size 29 #[.int .i64 W, .int .i64 H, .slice A n c] ∧ Blk wr (w.heap.size + 1) 3 (i64s 7 (lit L7))) (fun _ _ s _ => 7 - (intOf s).toNat)
  case atStart => exact ⟨0, by omega, rfl, rfl, rfl, b1, k1, k2⟩
  case round =>
    obtain ⟨i, hi, rfl, rfl, rfl, b2, k3, k4⟩ := hrel
    clear b1 k1 k2
    by_cases hlt : i < 7
    · have FS : Hid (fsL (fsN W H n p) (L7.take (i + 1)) = fsStep (fsN W H n p) (fsL (fsN W H n p) (L7.take i)) (lit L7 i)) := by show _ = _; rw [L7_take i hlt, fsL_snoc]
      have fb := fsL_bd (fsN_bd W H n p) (L7.take i)
      obtain ⟨fb1, fb2⟩ := fb
      generalize fsL (fsN W H n p) (L7.take i) = S at *
      obtain ⟨so, sm⟩ := S
      simp only at fb1 fb2
      have hk : -3 ≤ lit L7 i ∧ lit L7 i ≤ 3 := by
        rcases (by omega : i = 0 ∨ i = 1 ∨ i = 2 ∨ i = 3 ∨ i = 4 ∨ i = 5 ∨ i = 6) with rfl | rfl | rfl | rfl | rfl | rfl | rfl <;> decide
      obtain ⟨hk1, hk2⟩ := hk
      have q4 := k4.i64at (i := (i : Int)) (by omega) (by omega)
      rw [Int.toNat_natCast] at q4
      generalize hkk : lit L7 i = k at *
      have HKK := Lib.hid hkk; clear hkk
      obtain ⟨p1, p2, p3⟩ := k3.cells3
      have hi0 : (0 : Int) ≤ (i : Int) := by omega
      have hi7 : (i : Int) < 7 := by omega
      by_cases hM : movE W H n p k (-1) = 0
      · obtain ⟨Wm, Hm, N, ms⟩ := msize_ex W H (-grt W k) 0 (fun _ => by have := movE_sides hM; omega)
        have HC := Lib.hid (chk_out hM ms)
        have FM := Lib.hid (fsN_mv hM ms)
        have UN := Lib.hid fun w' hA' => runskew_all W H Wm Hm 0 N A n c p k w' hA' hn hB hM ms
        have K3 := Lib.hid k3; have K4 := Lib.hid k4; have B2 := Lib.hid b2
        have BQ := Lib.hid (isB_mov (W := W) (H := H) (k := k) (way := -1) hB)
        generalize movQ W H p k (-1) = q at *
        clear ms hM k3 k4 b2
        have Z3 := K3.out.lt; have Z4 := K4.out.lt
        go_upto_region 6 with fail
        go_cut [7, 8, 24] (fun f z e wx => ∃ B Aq cq, f = .pointer (some ⟨B, 0, none⟩) ∧ z = .int .i64 0 ∧ e = .int .i64 0 ∧ Below w.heap.size w wx ∧ Blk wx w.heap.size 29 #[.int .i64 W, .int .i64 H, .slice A n c] ∧ Blk wx (w.heap.size + 1) 3 (i64s 7 (lit L7)) ∧
          Blk wx B 29 #[.int .i64 Wm, .int .i64 Hm, .slice Aq N cq] ∧ ArrB wx wx.heap.size Aq N q)
        case first =>
          go_region_held3 (fun w' => w'.cell? ⟨w.heap.size, 0, none⟩ = some (.int .i64 W) ∧ w'.cell? ⟨w.heap.size, 1, none⟩ = some (.int .i64 H) ∧ w'.cell? ⟨w.heap.size, 2, none⟩ = some (.slice A n c) ∧ w'.cell? ⟨w.heap.size + 1, i, none⟩ = some (.int .i64 k))
            (simp [go_sem, *])
            (first
              | (go_at_call 28; refine (UN.out _ ((ArrB.below hA B2.out.drew).more B2.out.drew.size)).mono ?_; rintro e w6 ⟨_, rfl, ⟨Aq, cq, rfl, hge, aq⟩, hb6⟩
                 have k6 := K3.out.drew.below' hb6
                 have k7 := K4.out.drew.below' hb6
                 have q6 := k7.i64at (i := (i : Int)) hi0 hi7
                 rw [Int.toNat_natCast, HKK.out] at q6
                 have z6 := k6.lt
                 have z7 := k7.lt
                 have b6 := below_call B2.out.drew B2.out.drew.size hb6
                 obtain ⟨x1, x2, x3⟩ := k6.cells3)
              | (go_at_call 28; refine (UN.out _ ((ArrB.below hA (B2.out.alloc B2.out.size _).drew).more (B2.out.alloc B2.out.size _).drew.size)).mono ?_; rintro e w6 ⟨_, rfl, ⟨Aq, cq, rfl, hge, aq⟩, hb6⟩
                 have k6 := (K3.out.alloc _).drew.below' hb6
                 have k7 := (K4.out.alloc _).drew.below' hb6
                 have kb := (Blk.new _ _ _).drew.below' hb6
                 have q6 := k7.i64at (i := (i : Int)) hi0 hi7
                 rw [Int.toNat_natCast, HKK.out] at q6
                 have z6 := k6.lt
                 have z7 := k7.lt
                 have b6 := below_call (B2.out.alloc B2.out.size _).drew (B2.out.alloc B2.out.size _).drew.size hb6
                 obtain ⟨x1, x2, x3⟩ := k6.cells3
                 obtain ⟨y1, y2, y3⟩ := kb.cells3
                 obtain ⟨f1, f2, f3⟩ := kb.frozen3))

          · go_wp2_with fail
            go_meet
            exact ⟨_, _, _, rfl, rfl, rfl, by have := b6.size; (repeat (first | exact Below.refl _ _ | assumption | refine Below.drew ?_ | refine below_drewN ?_ _ | refine Below.alloc ?_ (by first | omega | (simp; done) | (simp; omega)) _ | refine Below.setCell ?_ (by first | omega | (simp; done) | (simp; omega)) _ | refine below_setRow ?_ (by first | omega | (simp; done) | (simp; omega)) _ )), k6.alloc _, k7.alloc _, Blk.new _ _ _, aq.to (by (repeat (first | exact Below.refl _ _ | assumption | refine Below.drew ?_ | refine below_drewN ?_ _ | refine Below.alloc ?_ (by first | omega | (simp; done) | (simp; omega)) _ | refine Below.setCell ?_ (by first | omega | (simp; done) | (simp; omega)) _ | refine below_setRow ?_ (by first | omega | (simp; done) | (simp; omega)) _ )))⟩
          · go_wp2_with fail
            go_meet
            have e6 : w.heap.size ≤ wr.heap.size := by omega
            exact ⟨_, _, _, rfl, rfl, rfl, below_fill3 b6 e6, k6.far3 (by omega), k7.far3 (by omega), kb.fill3, by
              rw [fill3_size]
              exact aq.far3 fun a e => by have := hge a e; simp at this; omega⟩
        case rest =>
          obtain ⟨B, Aq, cq, rfl, rfl, rfl, b3, k5, k6, kb, aq⟩ := hcut
          obtain ⟨y1, y2, y3⟩ := kb.cells3
          go_wp2_with fail
          have RF := Lib.hid fun w' hA' => rfull_ok Wm Hm Aq N cq q w' hA' BQ.out HC.out
          refine (RF.out _ aq).mono ?_
          rintro e w8 ⟨rfl, hb8⟩
          rw [← FM.out]
          have FM1 : Hid (fsStep (fsN W H n p) (so, sm) k = if sm < fsN W H n p k then (k, fsN W H n p k) else (so, sm)) := by show _ = _; rfl
          have FB := fsN_bd W H n p k
          obtain ⟨fc1, fc2⟩ := FB
          have b4 := below_call b3 b3.size hb8
          have k7 := k5.below' hb8
          have k8 := k6.below' hb8
          have kb := kb.below' hb8
          have aq := aq.to hb8
          have q8 := k8.i64at (i := (i : Int)) hi0 hi7
          rw [Int.toNat_natCast, HKK.out] at q8
          clear b3 k5 k6 hb8 y1 y2 y3
          obtain ⟨y1, y2, y3⟩ := kb.cells3
          have FM := Lib.hid FM.out.symm
          generalize hF : fsN W H n p k = F at *
          clear hF
          by_cases hs : sm < F
          · rw [if_pos hs] at FM1
            have FS2 : Hid (fsL (fsN W H n p) (L7.take (i + 1)) = (k, F)) := by show _ = _; rw [FS.out, FM1.out]
            go_wp2_with fail
            refine (RF.out _ aq).mono ?_
            rintro e w9 ⟨rfl, hb9⟩
            rw [FM.out]
            have b5 := below_call b4 b4.size hb9
            have k7 := k7.below' hb9
            have k8 := k8.below' hb9
            go_wp2
            go_roundw
            case rel => exact ⟨i + 1, by omega, by go_num, by rw [FS2.out], by rw [FS2.out], b5, k7, k8⟩
            case measure => simp [intOf]; omega
          · rw [if_neg hs] at FM1
            have FS2 : Hid (fsL (fsN W H n p) (L7.take (i + 1)) = (so, sm)) := by show _ = _; rw [FS.out, FM1.out]
            go_wp2
            go_roundw
            case rel => exact ⟨i + 1, by omega, by go_num, by rw [FS2.out], by rw [FS2.out], b4, k7, k8⟩
            case measure => simp [intOf]; omega
      · obtain ⟨Wm, Hm, N, ms⟩ := msize_ex W H (-grt W k) (movE W H n p k (-1)) (fun h => absurd h hM)
        obtain ⟨rfl, rfl, rfl⟩ := ms.bad hM
        have FM1 : Hid (fsN W H n p k = -1) := by show _ = _; unfold fsN; rw [if_neg hM]
        have FM2 : Hid (fsStep (fsN W H n p) (so, sm) k = if sm < fsN W H n p k then (k, fsN W H n p k) else (so, sm)) := by show _ = _; rfl
        have FS2 : Hid (fsL (fsN W H n p) (L7.take (i + 1)) = (so, sm)) := by show _ = _; rw [FS.out, FM2.out, FM1.out, if_neg (by omega)]
        have UN := Lib.hid fun z hz w' hA' => runskew_all W H 0 0 z 0 A n c p k w' hA' hn hB hz (hz ▸ ms)
        have hb : (movE W H n p k (-1) == 0) = false := by simp [hM]
        replace UN := Lib.hid (UN.out _ rfl)
        clear ms
        generalize movE W H n p k (-1) = E at *
        have HM := Lib.hid hM; clear hM
        have K3 := Lib.hid k3; have K4 := Lib.hid k4; have B2 := Lib.hid b2
        generalize movQ W H p k (-1) = q at *
        clear k3 k4 b2
        have Z3 := K3.out.lt; have Z4 := K4.out.lt
        go_upto_region 6 with fail
        go_cut [7, 8, 24] (fun f z e wx => ∃ B Aq cq, f = .pointer (some ⟨B, 0, none⟩) ∧ z = .int .i64 E ∧ e = .int .i64 E ∧ Below w.heap.size w wx ∧ Blk wx w.heap.size 29 #[.int .i64 W, .int .i64 H, .slice A n c] ∧ Blk wx (w.heap.size + 1) 3 (i64s 7 (lit L7)) ∧
          Blk wx B 29 #[.int .i64 0, .int .i64 0, .slice Aq 0 cq] ∧ ArrB wx wx.heap.size Aq 0 q)
        case first =>
          go_region_held3 (fun w' => w'.cell? ⟨w.heap.size, 0, none⟩ = some (.int .i64 W) ∧ w'.cell? ⟨w.heap.size, 1, none⟩ = some (.int .i64 H) ∧ w'.cell? ⟨w.heap.size, 2, none⟩ = some (.slice A n c) ∧ w'.cell? ⟨w.heap.size + 1, i, none⟩ = some (.int .i64 k))
            (simp [go_sem, *])
            (first
              | (go_at_call 28; refine (UN.out _ ((ArrB.below hA B2.out.drew).more B2.out.drew.size)).mono ?_; rintro e w6 ⟨_, rfl, ⟨Aq, cq, rfl, hge, aq⟩, hb6⟩
                 have k6 := K3.out.drew.below' hb6
                 have k7 := K4.out.drew.below' hb6
                 have q6 := k7.i64at (i := (i : Int)) hi0 hi7
                 rw [Int.toNat_natCast, HKK.out] at q6
                 have z6 := k6.lt
                 have z7 := k7.lt
                 have b6 := below_call B2.out.drew B2.out.drew.size hb6
                 obtain ⟨x1, x2, x3⟩ := k6.cells3)
              | (go_at_call 28; refine (UN.out _ ((ArrB.below hA (B2.out.alloc B2.out.size _).drew).more (B2.out.alloc B2.out.size _).drew.size)).mono ?_; rintro e w6 ⟨_, rfl, ⟨Aq, cq, rfl, hge, aq⟩, hb6⟩
                 have k6 := (K3.out.alloc _).drew.below' hb6
                 have k7 := (K4.out.alloc _).drew.below' hb6
                 have kb := (Blk.new _ _ _).drew.below' hb6
                 have q6 := k7.i64at (i := (i : Int)) hi0 hi7
                 rw [Int.toNat_natCast, HKK.out] at q6
                 have z6 := k6.lt
                 have z7 := k7.lt
                 have b6 := below_call (B2.out.alloc B2.out.size _).drew (B2.out.alloc B2.out.size _).drew.size hb6
                 obtain ⟨x1, x2, x3⟩ := k6.cells3
                 obtain ⟨y1, y2, y3⟩ := kb.cells3
                 obtain ⟨f1, f2, f3⟩ := kb.frozen3))

          · go_wp2_with fail
            go_meet
            exact ⟨_, _, _, rfl, rfl, rfl, by have := b6.size; (repeat (first | exact Below.refl _ _ | assumption | refine Below.drew ?_ | refine below_drewN ?_ _ | refine Below.alloc ?_ (by first | omega | (simp; done) | (simp; omega)) _ | refine Below.setCell ?_ (by first | omega | (simp; done) | (simp; omega)) _ | refine below_setRow ?_ (by first | omega | (simp; done) | (simp; omega)) _ )), k6.alloc _, k7.alloc _, Blk.new _ _ _, aq.to (by (repeat (first | exact Below.refl _ _ | assumption | refine Below.drew ?_ | refine below_drewN ?_ _ | refine Below.alloc ?_ (by first | omega | (simp; done) | (simp; omega)) _ | refine Below.setCell ?_ (by first | omega | (simp; done) | (simp; omega)) _ | refine below_setRow ?_ (by first | omega | (simp; done) | (simp; omega)) _ )))⟩
          · go_wp2_with fail
            go_meet
            have e6 : w.heap.size ≤ wr.heap.size := by omega
            exact ⟨_, _, _, rfl, rfl, rfl, below_fill3 b6 e6, k6.far3 (by omega), k7.far3 (by omega), kb.fill3, by
              rw [fill3_size]
              exact aq.far3 fun a e => by have := hge a e; simp at this; omega⟩
        case rest =>
          obtain ⟨B, Aq, cq, rfl, rfl, rfl, b3, k5, k6, kb, aq⟩ := hcut
          go_wp2
          go_roundw
          case rel => exact ⟨i + 1, by omega, by go_num, by rw [FS2.out], by rw [FS2.out], b3, k5, k6⟩
          case measure => simp [intOf]; omega
    · obtain rfl : i = 7 := by omega
      go_wp2
      go_ret
      exact ⟨ret_int FD.out.symm, b2⟩

/-! ### clean.Drop -/
theorem index640 (D : Array Value) (x : Int) (v : Value) (h0 : 0 ≤ x) (h : x < 640) (hat : D[x.toNat]? = some v) (w : World) : (Instr.index 100 (.agg D) (.int .i64 x)).run Try.prog w = .ok v w := by
  simp [Instr.index, run_underlying Try.underlying100, asIntOf, h0, h, go_sem, part, hat]
def dropBad (W k x : Int) : Bool := decide (W < 1 ∨ 640 < W ∨ k < -3 ∨ 3 < k ∨ x < 0 ∨ W ≤ x)
end Go.Proofs.Ytoonkpjddfiopaa

/- Walk of the law CleanSkews. -/
namespace Go.Proofs.Ytoonkpjddfiopaa
open Go.RowKit
set_option linter.unusedVariables false

theorem msize_le {W H E Wm Hm : Int} {N n : Nat} {p : Int → Int} {k way : Int} (hE : movE W H n p k way = E) (hs : MSize W H (way * grt W k) E Wm Hm N) : N ≤ 409600 := by
  by_cases e : E = 0
  · subst e
    obtain ⟨h1, h2, h3⟩ := hs.ok rfl
    obtain ⟨a, b, c, d, f⟩ := movE_ok hE
    obtain ⟨a1, a2, a3, a4, -, -⟩ := chk_ok a
    have := (area_bd a1 a2 d f).2
    omega
  · have := (hs.bad e).2.2; omega
/-- Full and FindSkew with their errors -/
theorem full_all (W H : Int) (A : Option Addr) (n c : Nat) (p : Int → Int) (E V : Int) (w : World) (hA : ArrB w w.heap.size A n p) (hn : n ≤ maxLen) (hB : IsB p) (hE : chk W H n p = E) (hV : V = if E = 0 then fullS W H n p else 0) :
    Calls Try.prog 39 #[.agg #[.int .i64 W, .int .i64 H, .slice A n c]] w fun e w' => e = .returned (.tuple #[.int .i64 V, .int .i64 E]) ∧ Below w.heap.size w w' := by
  by_cases e : E = 0
  · subst e; rw [if_pos rfl] at hV; subst hV; exact full_ok W H A n c p w hA hn hB hE
  · rw [if_neg e] at hV; subst hV; exact full_bad W H A n c p E w hA hn hE e

set_option maxHeartbeats 400000 in
theorem findSkew_bad (W H : Int) (A : Option Addr) (n c : Nat) (p : Int → Int) (z : Int) (w : World) (hA : ArrB w w.heap.size A n p) (hn : n ≤ maxLen) (hE : chk W H n p = z) (hz : z ≠ 0) :
    Calls Try.prog 20 #[.agg #[.int .i64 W, .int .i64 H, .slice A n c]] w
      fun e w' => e = .returned (.tuple #[.int .i64 0, .int .i64 z]) ∧ Below w.heap.size w w' := by
  have hz' : (z != 0) = true := by simp [hz]
  have CK := Lib.hid fun w' hA' => check_any W H A n c p w' hA' hn
  rw [hE] at CK
  have HZ := Lib.hid hz; clear hz hE
  go_enter Try.func20, Try.ntmps20
  go_wp2_with fail
  refine (CK.out _ (hA.to (by (repeat (first | exact Below.refl _ _ | assumption | refine Below.drew ?_ | refine below_drewN ?_ _ | refine Below.alloc ?_ (by first | omega | (simp; done) | (simp; omega)) _ | refine Below.setCell ?_ (by first | omega | (simp; done) | (simp; omega)) _ | refine below_setRow ?_ (by first | omega | (simp; done) | (simp; omega)) _ ))))).mono ?_
  rintro e w1 ⟨rfl, hb1⟩
  have b1 : Below w.heap.size w w1 := below_call (by (repeat (first | exact Below.refl _ _ | assumption | refine Below.drew ?_ | refine below_drewN ?_ _ | refine Below.alloc ?_ (by first | omega | (simp; done) | (simp; omega)) _ | refine Below.setCell ?_ (by first | omega | (simp; done) | (simp; omega)) _ | refine below_setRow ?_ (by first | omega | (simp; done) | (simp; omega)) _ ))) (by simp; try omega) hb1
  go_wp2
  go_ret2
  exact ⟨rfl, b1⟩
theorem findSkew_all (W H : Int) (A : Option Addr) (n c : Nat) (p : Int → Int) (E V : Int) (w : World) (hA : ArrB w w.heap.size A n p) (hn : n ≤ maxLen) (hB : IsB p) (hE : chk W H n p = E) (hV : V = if E = 0 then findS W H n p else 0) :
    Calls Try.prog 20 #[.agg #[.int .i64 W, .int .i64 H, .slice A n c]] w fun e w' => e = .returned (.tuple #[.int .i64 V, .int .i64 E]) ∧ Below w.heap.size w w' := by
  by_cases e : E = 0
  · subst e; rw [if_pos rfl] at hV; subst hV; exact findSkew_ok W H A n c p w hA hn hB hE
  · rw [if_neg e] at hV; subst hV; exact findSkew_bad W H A n c p E w hA hn hE e

end Go.Proofs.Ytoonkpjddfiopaa

/- Plain laws: the threshold by all pairs of levels is the threshold by one pass. No program in sight. -/
namespace Go.Proofs.Ytoonkpjddfiopaa
open Go.RowKit
set_option linter.unusedVariables false

theorem first_occ (c : Int → Int) (a : Nat) (h : a ≤ 256) : ∃ m : Nat, a ≤ m ∧ m ≤ 256 ∧ (∀ j : Nat, a ≤ j → j < m → c j = 0) ∧ (m < 256 → c m ≠ 0) := by
  by_cases e : a = 256
  · exact ⟨a, by omega, by omega, fun j h1 h2 => by omega, fun h => by omega⟩
  · by_cases hc : c a = 0
    · obtain ⟨m, h1, h2, h3, h4⟩ := first_occ c (a + 1) (by omega)
      refine ⟨m, by omega, h2, fun j j1 j2 => ?_, h4⟩
      by_cases ej : j = a
      · subst ej; exact hc
      · exact h3 j (by omega) j2
    · exact ⟨a, by omega, by omega, fun j h1 h2 => by omega, fun _ => hc⟩
termination_by 256 - a
theorem levP_skip (c : Int → Int) (a m : Nat) (h : a ≤ m) (hz : ∀ j : Nat, a ≤ j → j < m → c j = 0) : levP c m = levP c a := by
  induction m with
  | zero => obtain rfl : a = 0 := by omega
            rfl
  | succ m ih =>
    by_cases e : a = m + 1
    · rw [e]
    · rw [levP, if_pos (hz m (by omega) (by omega))]
      exact ih (by omega) fun j h1 h2 => hz j h1 (by omega)
/-- the pairs that begin before the level a are done; m is the first level that occurs from a on -/
structure RL (c : Int → Int) (a m : Nat) (o b : Int) : Prop where
  le : a ≤ m
  top : m ≤ 256
  gap : ∀ j : Nat, a ≤ j → j < m → c j = 0
  occ : m < 256 → c m ≠ 0
  o : o = (levP c (min (m + 1) 256)).1
  b : b = (levP c (min (m + 1) 256)).2.1
theorem RL.start (c : Int → Int) : ∃ m, RL c 0 m 128 0 := by
  obtain ⟨m, h1, h2, h3, h4⟩ := first_occ c 0 (by omega)
  have hs := levP_skip c 0 m h1 h3
  by_cases e : m < 256
  · have hl : levP c (m + 1) = (128, 0, (m : Int)) := by
      rw [levP, if_neg (h4 e), hs]
      simp [levP]
    refine ⟨m, h1, h2, h3, h4, ?_, ?_⟩ <;> rw [Nat.min_eq_left (by omega), hl]
  · obtain rfl : m = 256 := by omega
    refine ⟨256, h1, h2, h3, h4, ?_, ?_⟩ <;> rw [Nat.min_eq_right (by omega), hs] <;> rfl
theorem RL.skip {c : Int → Int} {a m : Nat} {o b : Int} (h : RL c a m o b) (ha : a < 256) (hc : c a = 0) : RL c (a + 1) m o b := by
  have : a ≠ m := by rintro rfl; exact h.occ ha hc
  have := h.le
  exact ⟨by omega, h.top, fun j h1 h2 => h.gap j (by omega) h2, h.occ, h.o, h.b⟩
theorem RL.here {c : Int → Int} {a m : Nat} {o b : Int} (h : RL c a m o b) (ha : a < 256) (hc : c a ≠ 0) : levP c (a + 1) = (o, b, (a : Int)) := by
  have h1 := h.le
  have : m = a := by
    by_cases e : m = a
    · exact e
    · exact absurd (h.gap a (by omega) (by omega)) hc
  subst this
  have ho := h.o; have hb := h.b
  rw [Nat.min_eq_left (by omega)] at ho hb
  rw [ho, hb]
  have h3 : (levP c (m + 1)).2.2 = m := by
    rw [levP, if_neg hc]; split <;> rfl
  rw [← h3]
theorem RL.next {c : Int → Int} {a m : Nat} {o b : Int} (h : RL c a m o b) (ha : a < 256) (hc : c a ≠ 0) {k : Nat} (h1 : a < k) (hk : k < 256) (hz : ∀ j : Nat, a < j → j < k → c j = 0) (hck : c k ≠ 0) :
    RL c (a + 1) k (if b < (k : Int) - a then ((a : Int) + k + 1) / 2 else o) (if b < (k : Int) - a then (k : Int) - a else b) := by
  have hl := h.here ha hc
  have hs := levP_skip c (a + 1) k (by omega) fun j j1 j2 => hz j (by omega) j2
  rw [hl] at hs
  have e : levP c (k + 1) = if b < (k : Int) - a then (((a : Int) + k + 1) / 2, (k : Int) - a, (k : Int)) else (o, b, (k : Int)) := by
    rw [levP, if_neg hck, hs]
    by_cases hb : b < (k : Int) - a
    · simp [hb]
    · simp [hb]
  refine ⟨by omega, by omega, fun j j1 j2 => hz j (by omega) j2, fun _ => hck, ?_, ?_⟩ <;> rw [Nat.min_eq_left (by omega), e] <;> split <;> rfl
theorem RL.none {c : Int → Int} {a m : Nat} {o b : Int} (h : RL c a m o b) (ha : a < 256) (hc : c a ≠ 0) (hz : ∀ j : Nat, a < j → j < 256 → c j = 0) : RL c (a + 1) 256 o b := by
  have hl := h.here ha hc
  have hs := levP_skip c (a + 1) 256 (by omega) fun j j1 j2 => hz j (by omega) j2
  rw [hl] at hs
  refine ⟨by omega, by omega, fun j j1 j2 => hz j (by omega) j2, fun h => by omega, ?_, ?_⟩ <;> rw [Nat.min_eq_right (by omega), hs]
theorem RL.end_ {c : Int → Int} {m : Nat} {o b : Int} (h : RL c 256 m o b) : o = (levP c 256).1 := by
  have h1 := h.le; have h2 := h.top
  rw [h.o, Nat.min_eq_right (by omega)]
theorem RL.bd {c : Int → Int} {a m : Nat} {o b : Int} (h : RL c a m o b) : 0 ≤ o ∧ o ≤ 384 ∧ 0 ≤ b ∧ b ≤ 256 := by
  have hm := Nat.min_le_right (m + 1) 256
  rw [h.o, h.b]
  obtain ⟨d1, d2, d3, d4, d5, d6⟩ := levP_bd c (min (m + 1) 256)
  omega
end Go.Proofs.Ytoonkpjddfiopaa

/- Walks: copies of grey images; the reference's threshold; the image of two levels. -/
namespace Go.Proofs.Ytoonkpjddfiopaa
open Go.RowKit
set_option linter.unusedVariables false

set_option maxHeartbeats 1000000 in
theorem copyGrey_any (W H : Int) (A : Option Addr) (n c : Nat) (p : Int → Int) (w : World) (hA : ArrB w w.heap.size A n p) (hc : A = none → c = 0) (hn : n ≤ 140737488355328) :
    Calls Try.prog 6 #[.agg #[.int .i64 W, .int .i64 H, .slice A n c]] w (New w fun v w' => OutCopy w w' W H n p v) := by
  have CB := Lib.hid fun w' hA' => copyBytes_any A n c p w' hA' hc hn
  clear hc
  go_enter Try.func6, Try.ntmps6
  go_wp2_with fail
  have k1 := (Blk.new w 24 #[.int .i64 W, .int .i64 H, .slice A n c]).alloc (.cells #[.int .i64 0, .int .i64 0, .slice none 0 0] 24)
  have k2 := Blk.new' (w := w.alloc (.cells #[.int .i64 W, .int .i64 H, .slice A n c] 24)) (World.size_alloc _ _) 24 #[.int .i64 0, .int .i64 0, .slice none 0 0]
  have b1 : Below w.heap.size w ((w.alloc (.cells #[.int .i64 W, .int .i64 H, .slice A n c] 24)).alloc (.cells #[.int .i64 0, .int .i64 0, .slice none 0 0] 24)) := by (repeat (first | exact Below.refl _ _ | assumption | refine Below.drew ?_ | refine below_drewN ?_ _ | refine Below.alloc ?_ (by first | omega | (simp; done) | (simp; omega)) _ | refine Below.setCell ?_ (by first | omega | (simp; done) | (simp; omega)) _ | refine below_setRow ?_ (by first | omega | (simp; done) | (simp; omega)) _ ))
  have hA1 := hA.to b1
  generalize (w.alloc (.cells #[.int .i64 W, .int .i64 H, .slice A n c] 24)).alloc (.cells #[.int .i64 0, .int .i64 0, .slice none 0 0] 24) = w1 at *
  clear hA
  have K1 := Lib.hid k1; have K2 := Lib.hid k2; have B1 := Lib.hid b1; have A1 := Lib.hid hA1
  obtain ⟨p1, p2, p3⟩ := k1.cells3
  obtain ⟨r1, r2, r3⟩ := k2.cells3
  obtain ⟨f1, f2, f3⟩ := k2.frozen3
  clear k1 k2 b1 hA1
  go_region_held3 (fun w' => w'.cell? ⟨w.heap.size, 0, none⟩ = some (.int .i64 W) ∧ w'.cell? ⟨w.heap.size, 1, none⟩ = some (.int .i64 H) ∧ w'.cell? ⟨w.heap.size, 2, none⟩ = some (.slice A n c))
    (simp [go_sem, *])
    (first
      | (go_at_call 21; refine (CB.out _ A1.out.drew).mono ?_; rintro e w2 ⟨_, rfl, ⟨A', c', rfl, hc', hnil', hge', ha'⟩, hb2⟩
         have k3 := K1.out.drew.below' hb2; have k4 := K2.out.drew.below' hb2
         obtain ⟨x1, x2, x3⟩ := k3.cells3; obtain ⟨y1, y2, y3⟩ := k4.cells3; obtain ⟨z1, z2, z3⟩ := k4.frozen3
         have b2 : Below w.heap.size w w2 := B1.out.drew.trans (hb2.mono B1.out.size)
         have z2 := K2.out.lt))
  go_wp2
  refine bodyPost_ret (v := .agg #[.int .i64 W, .int .i64 H, .slice A' n c']) (by simp [results, Try.results6, go_sem, y1, y2, y3]) rfl ?_
  have hfar : ∀ i, ∀ a, A' = some a → a.block ≠ (⟨w.heap.size + 1, i, none⟩ : Addr).block := fun i a e h => by
    have := hge' a e
    simp at h this
    omega
  refine ⟨_, rfl, ⟨_, rfl, A', c', rfl, hc', hnil', fun a e => ?_, ?_⟩, by (repeat (first | exact Below.refl _ _ | assumption | refine Below.drew ?_ | refine below_drewN ?_ _ | refine Below.alloc ?_ (by first | omega | (simp; done) | (simp; omega)) _ | refine Below.setCell ?_ (by first | omega | (simp; done) | (simp; omega)) _ | refine below_setRow ?_ (by first | omega | (simp; done) | (simp; omega)) _ ))⟩
  · have := hge' a e; have := B1.out.size; simp at *; omega
  · simpa using ((ha'.far (hfar 0) _).far (hfar 1) _).far (hfar 2) _

set_option maxHeartbeats 1000000 in
theorem sameGrey_any (W H W' H' : Int) (A B : Option Addr) (n m c d : Nat) (p q : Int → Int) (w : World) (hA : ArrB w w.heap.size A n p) (hB : ArrB w w.heap.size B m q) (hn : n ≤ maxLen) (hm : m ≤ maxLen) :
    Calls Try.prog 12 #[.agg #[.int .i64 W, .int .i64 H, .slice A n c], .agg #[.int .i64 W', .int .i64 H', .slice B m d]] w
      fun e w' => e = .returned (.bool (decide (W = W') && decide (H = H') && sameB n m p q)) ∧ Below w.heap.size w w' := by
  have SA := Lib.hid fun w1 h1 h2 => sameBytes_any A B n m c d p q w1 h1 h2 hn hm
  by_cases hW : W = W'
  · subst hW
    by_cases hH : H = H'
    · subst hH
      have hr : Hid ((decide (W = W) && decide (H = H) && sameB n m p q) = sameB n m p q) := by show _ = _; simp
      rw [hr.out]
      go_enter Try.func12, Try.ntmps12
      go_wp2_with fail
      refine (SA.out _ (hA.to (by (repeat (first | exact Below.refl _ _ | assumption | refine Below.drew ?_ | refine below_drewN ?_ _ | refine Below.alloc ?_ (by first | omega | (simp; done) | (simp; omega)) _ | refine Below.setCell ?_ (by first | omega | (simp; done) | (simp; omega)) _ | refine below_setRow ?_ (by first | omega | (simp; done) | (simp; omega)) _ )))) (hB.to (by (repeat (first | exact Below.refl _ _ | assumption | refine Below.drew ?_ | refine below_drewN ?_ _ | refine Below.alloc ?_ (by first | omega | (simp; done) | (simp; omega)) _ | refine Below.setCell ?_ (by first | omega | (simp; done) | (simp; omega)) _ | refine below_setRow ?_ (by first | omega | (simp; done) | (simp; omega)) _ ))))).mono ?_
      rintro e w' ⟨rfl, k, rfl⟩
      generalize hb : sameB n m p q = b
      have HBB := Lib.hid hb; clear hb
      cases b <;> (go_wp2; go_ret; exact ⟨ret_bool HBB.out.symm, by (repeat (first | exact Below.refl _ _ | assumption | refine Below.drew ?_ | refine below_drewN ?_ _ | refine Below.alloc ?_ (by first | omega | (simp; done) | (simp; omega)) _ | refine Below.setCell ?_ (by first | omega | (simp; done) | (simp; omega)) _ | refine below_setRow ?_ (by first | omega | (simp; done) | (simp; omega)) _ ))⟩)
    · have hb : (H == H') = false := by simp [hH]
      have hr : Hid ((decide (W = W) && decide (H = H') && sameB n m p q) = false) := by show _ = _; simp [hH]
      rw [hr.out]
      have HH := Lib.hid hH; clear hH
      go_enter Try.func12, Try.ntmps12
      go_wp2
      go_ret
      exact ⟨rfl, by (repeat (first | exact Below.refl _ _ | assumption | refine Below.drew ?_ | refine below_drewN ?_ _ | refine Below.alloc ?_ (by first | omega | (simp; done) | (simp; omega)) _ | refine Below.setCell ?_ (by first | omega | (simp; done) | (simp; omega)) _ | refine below_setRow ?_ (by first | omega | (simp; done) | (simp; omega)) _ ))⟩
  · have hb : (W == W') = false := by simp [hW]
    have hr : Hid ((decide (W = W') && decide (H = H') && sameB n m p q) = false) := by show _ = _; simp [hW]
    rw [hr.out]
    have HW := Lib.hid hW; clear hW
    go_enter Try.func12, Try.ntmps12
    go_wp2
    go_ret
    exact ⟨rfl, by (repeat (first | exact Below.refl _ _ | assumption | refine Below.drew ?_ | refine below_drewN ?_ _ | refine Below.alloc ?_ (by first | omega | (simp; done) | (simp; omega)) _ | refine Below.setCell ?_ (by first | omega | (simp; done) | (simp; omega)) _ | refine below_setRow ?_ (by first | omega | (simp; done) | (simp; omega)) _ ))⟩

theorem sameGrey_true (W H : Int) (A B : Option Addr) (n c d : Nat) (p q : Int → Int) (w : World) (hA : ArrB w w.heap.size A n p) (hB : ArrB w w.heap.size B n q) (hn : n ≤ maxLen) (he : ∀ i : Int, 0 ≤ i → i < n → p i = q i) :
    Calls Try.prog 12 #[.agg #[.int .i64 W, .int .i64 H, .slice A n c], .agg #[.int .i64 W, .int .i64 H, .slice B n d]] w
      fun e w' => e = .returned (.bool true) ∧ Below w.heap.size w w' :=
  (sameGrey_any W H W H A B n n c d p q w hA hB hn hn).mono fun e w' ⟨h, hb⟩ => ⟨by rw [h, sameB_iff.2 ⟨rfl, he⟩]; simp, hb⟩

set_option maxHeartbeats 1000000 in
theorem rlevels_any (W H : Int) (A : Option Addr) (n c : Nat) (p : Int → Int) (w : World) (hA : ArrB w w.heap.size A n p) (hn : n ≤ maxLen) (hB : IsB p) :
    Calls Try.prog 62 #[.agg #[.int .i64 W, .int .i64 H, .slice A n c]] w
      (New w fun v w' => ∃ g, v = .slice (some ⟨g, 0, none⟩) 256 256 ∧ w.heap.size ≤ g ∧ Blk w' g 3 (i64s 256 (cntS n p))) := by
  have hmk := make256
  unfold maxLen at hn
  go_enter Try.func62, Try.ntmps62
  go_wp2_with fail
  go_loopw [4] (fun s wr => ∃ i : Nat, i ≤ n ∧ s = .int .i64 i ∧ Below w.heap.size w wr ∧ Blk wr w.heap.size 24 #[.int .i64 W, .int .i64 H, .slice A n c] ∧ Blk wr (w.heap.size + 1) 3 (i64s 256 (cntS i p))) (fun s _ => n - (intOf s).toNat)
  case atStart => exact ⟨0, by omega, rfl, by (repeat (first | exact Below.refl _ _ | assumption | refine Below.drew ?_ | refine below_drewN ?_ _ | refine Below.alloc ?_ (by first | omega | (simp; done) | (simp; omega)) _ | refine Below.setCell ?_ (by first | omega | (simp; done) | (simp; omega)) _ | refine below_setRow ?_ (by first | omega | (simp; done) | (simp; omega)) _ )), (Blk.new _ _ _).alloc _, Blk.new' (by simp) _ _⟩
  case round =>
    obtain ⟨i, hi, rfl, b2, k1, kr⟩ := hrel
    clear hmk
    obtain ⟨p1, p2, p3⟩ := k1.cells3
    by_cases hlt : i < n
    · have hi0 : (0 : Int) ≤ i := by omega
      have hiN : (i : Int) < n := by omega
      obtain ⟨pb1, pb2⟩ := hB i
      obtain ⟨b, off, rfl, hbB, hcell⟩ := ArrB.at_ (ArrB.below hA b2) hi0 hiN
      rw [Int.toNat_natCast] at hcell
      have hr := kr.i64at pb1 (by omega)
      have fr := kr.frozen (p i).toNat
      have SR := Lib.hid (fun v => cntS_step (n := i) (p := p) v)
      obtain ⟨c1, c2⟩ := cntS_bd i p (p i)
      have UR := Lib.hid (kr.i64set _ pb1 (cntS i p (p i) + 1))
      go_wp2
      go_roundw
      case rel => exact ⟨i + 1, by omega, by go_num, by (repeat (first | exact Below.refl _ _ | assumption | refine Below.drew ?_ | refine below_drewN ?_ _ | refine Below.alloc ?_ (by first | omega | (simp; done) | (simp; omega)) _ | refine Below.setCell ?_ (by first | omega | (simp; done) | (simp; omega)) _ | refine below_setRow ?_ (by first | omega | (simp; done) | (simp; omega)) _ )), k1.far (by simp) _, UR.out.i64conv fun v _ _ => SR.out v⟩
      case measure => simp [intOf]; omega
    · obtain rfl : i = n := by omega
      go_wp2
      go_ret
      exact ⟨_, rfl, ⟨_, rfl, by omega, kr⟩, b2⟩

set_option maxRecDepth 100000 in
set_option maxHeartbeats 2000000 in
theorem rlevel_any (W H : Int) (A : Option Addr) (n c : Nat) (p : Int → Int) (w : World) (hA : ArrB w w.heap.size A n p) (hn : n ≤ maxLen) (hB : IsB p) :
    Calls Try.prog 32 #[.agg #[.int .i64 W, .int .i64 H, .slice A n c]] w fun e w' => e = .returned (.int .i64 (levelS n p)) ∧ Below w.heap.size w w' := by
  have PA := fun w' hA' => rlevels_any W H A n c p w' hA' hn hB
  have PZ := fun v => cntS_bd n p v
  unfold levelS
  generalize cntS n p = cn at *
  have PA := Lib.hid PA
  have PZ := Lib.hid PZ
  go_enter Try.func32, Try.ntmps32
  go_wp2_with fail
  refine (PA.out _ (hA.to (by (repeat (first | exact Below.refl _ _ | assumption | refine Below.drew ?_ | refine below_drewN ?_ _ | refine Below.alloc ?_ (by first | omega | (simp; done) | (simp; omega)) _ | refine Below.setCell ?_ (by first | omega | (simp; done) | (simp; omega)) _ | refine below_setRow ?_ (by first | omega | (simp; done) | (simp; omega)) _ ))))).mono ?_
  rintro e w1 ⟨_, rfl, ⟨g, rfl, hg, kg⟩, hb1⟩
  have b1 : Below w.heap.size w w1 := below_call (by (repeat (first | exact Below.refl _ _ | assumption | refine Below.drew ?_ | refine below_drewN ?_ _ | refine Below.alloc ?_ (by first | omega | (simp; done) | (simp; omega)) _ | refine Below.setCell ?_ (by first | omega | (simp; done) | (simp; omega)) _ | refine below_setRow ?_ (by first | omega | (simp; done) | (simp; omega)) _ ))) (by simp; try omega) hb1
  clear hb1 PA
  obtain ⟨m0, R0⟩ := RL.start cn
  have R0 := Lib.hid R0
  go_wp2_with fail
  go_loop [4, 5, 6] (fun o b s => ∃ (i m : Nat) (O B : Int), i ≤ 256 ∧ s = .int .i64 i ∧ o = .int .i64 O ∧ b = .int .i64 B ∧ RL cn i m O B) (fun _ _ s => 256 - (intOf s).toNat)
  case atStart => exact ⟨0, m0, 128, 0, by omega, rfl, rfl, rfl, R0.out⟩
  case round =>
    obtain ⟨i, m, O, B, hi, rfl, rfl, rfl, hR⟩ := hrel
    obtain ⟨o1, o2, o3, o4⟩ := hR.bd
    have HR := Lib.hid hR; clear hR
    by_cases hlt : i < 256
    · have ci := kg.i64at (i := (i : Int)) (by omega) (by omega)
      rw [Int.toNat_natCast] at ci
      have hz := PZ.out i
      have hz0 := hz.1; clear hz
      by_cases hc : cn i = 0
      · have R1 := Lib.hid (HR.out.skip hlt hc)
        have hci : cn i ≤ 0 := by omega
        clear hc
        generalize cn i = C at *
        by_cases h1 : i + 1 < 256
        · have h2 : (i : Int) + 1 < 256 := by omega
          have h3 : (i : Int) < 256 := by omega
          clear h1
          go_wp2_with fail
          go_loop [4, 5, 7] (fun o b s => o = .int .i64 O ∧ b = .int .i64 B ∧ s = .int .i64 ((i : Int) + 1)) (fun _ _ _ => 0)
          case atStart => exact ⟨rfl, rfl, rfl⟩
          case round =>
            obtain ⟨rfl, rfl, rfl⟩ := hrel
            go_wp2
            go_round
            case rel => exact ⟨i + 1, m, O, B, by omega, by go_num, rfl, rfl, R1.out⟩
            case measure => simp [intOf]; omega
        · have h3 : (i : Int) < 256 := by omega
          have h7 : decide ((i : Int) + 1 < 256) = false := by simp; omega
          clear h1 hlt hi
          go_wp2_with fail
          go_loop [4, 5, 7] (fun o b s => o = .int .i64 O ∧ b = .int .i64 B ∧ s = .int .i64 ((i : Int) + 1)) (fun _ _ _ => 0)
          case atStart => exact ⟨rfl, rfl, rfl⟩
          case round =>
            obtain ⟨rfl, rfl, rfl⟩ := hrel
            go_wp2
            go_round
            case rel => exact ⟨i + 1, m, O, B, by omega, by go_num, rfl, rfl, R1.out⟩
            case measure => simp [intOf]; omega
      · have hci : 0 < cn i := by omega
        have HC := Lib.hid hc; clear hc
        have ci' : ∀ C, cn i = C → w1.cell? ⟨g, i, none⟩ = some (.int .i64 C) := fun C e => e ▸ ci
        clear ci
        generalize hCe : cn i = C at *
        have CE := Lib.hid hCe; clear hCe
        have ci := ci' C rfl; clear ci'
        go_wp2_with fail
        go_loop [4, 5, 7] (fun o b s => ∃ j : Nat, i < j ∧ j ≤ 256 ∧ s = .int .i64 j ∧ o = .int .i64 O ∧ b = .int .i64 B ∧ ∀ t : Nat, i < t → t < j → cn t = 0) (fun _ _ s => 256 - (intOf s).toNat)
        case atStart => exact ⟨i + 1, by omega, by omega, by go_num, rfl, rfl, fun t a b => by omega⟩
        case round =>
          obtain ⟨j, hj1, hj2, rfl, rfl, rfl, hz⟩ := hrel
          have HZ := Lib.hid hz; clear hz
          by_cases hj : j < 256
          · have cj := kg.i64at (i := (j : Int)) (by omega) (by omega)
            rw [Int.toNat_natCast] at cj
            by_cases hjc : cn j = 0
            · rw [hjc] at cj
              have HJ := Lib.hid hjc; clear hjc
              go_wp2
              go_round
              case rel => exact ⟨j + 1, by omega, by omega, by go_num, rfl, rfl, fun t a b => if e : t = j then e ▸ HJ.out else HZ.out t a (by omega)⟩
              case measure => simp [intOf]; omega
            · have hb : (cn j == 0) = false := by simp [hjc]
              have RN := Lib.hid (HR.out.next hlt (by rw [CE.out]; omega) hj1 hj HZ.out hjc)
              have HJ := Lib.hid hjc; clear hjc
              generalize cn j = D at *
              by_cases hB2 : B < (j : Int) - i
              · rw [if_pos hB2, if_pos hB2] at RN
                go_wp2
                go_round
                case rel => exact ⟨i + 1, j, _, _, by omega, by go_num, rfl, rfl, RN.out⟩
                case measure => simp [intOf]; omega
              · rw [if_neg hB2, if_neg hB2] at RN
                go_wp2
                go_round
                case rel => exact ⟨i + 1, j, _, _, by omega, by go_num, rfl, rfl, RN.out⟩
                case measure => simp [intOf]; omega
          · obtain rfl : j = 256 := by omega
            have RN := Lib.hid (HR.out.none hlt (by rw [CE.out]; omega) HZ.out)
            go_wp2
            go_round
            case rel => exact ⟨i + 1, 256, _, _, by omega, by go_num, rfl, rfl, RN.out⟩
            case measure => simp [intOf]; omega
    · obtain rfl : i = 256 := by omega
      have RE : Hid (O = (levP cn 256).1) := by show _ = _; exact HR.out.end_
      go_wp2
      go_ret
      exact ⟨ret_int RE.out, b1⟩

/-! ### clean.Grey -/
def greyQ (p : Int → Int) (d l : Int) : Int → Int := fun i => if p i = 1 then d else l
def greyP (p : Int → Int) (d l : Int) (k : Nat) : Int → Int := fun i => if i < k then greyQ p d l i else 0
theorem greyP_l {p : Int → Int} {d l : Int} {k : Nat} (h : p k ≠ 1) (i : Int) : upd (greyP p d l k) k l i = greyP p d l (k + 1) i := by
  unfold upd greyP
  by_cases e : i = k
  · subst e; rw [if_pos rfl, if_pos (by omega)]; unfold greyQ; rw [if_neg h]
  · rw [if_neg e]
    by_cases h2 : i < k
    · rw [if_pos h2, if_pos (by omega)]
    · rw [if_neg h2, if_neg (by omega)]
theorem greyP_d {p : Int → Int} {d l x : Int} {k : Nat} (h : p k = 1) (i : Int) : upd (upd (greyP p d l k) k x) k d i = greyP p d l (k + 1) i := by
  unfold upd greyP
  by_cases e : i = k
  · subst e; rw [if_pos rfl, if_pos (by omega)]; unfold greyQ; rw [if_pos h]
  · rw [if_neg e]
    show (if i = (k : Int) then x else _) = _
    rw [if_neg e]
    by_cases h2 : i < k
    · rw [if_pos h2, if_pos (by omega)]
    · rw [if_neg h2, if_neg (by omega)]
theorem greyP_end {p : Int → Int} {d l : Int} {n : Nat} {i : Int} (h : i < n) : greyP p d l n i = greyQ p d l i := by unfold greyP; rw [if_pos h]

end Go.Proofs.Ytoonkpjddfiopaa

/- Walk of the law CleanLevels. -/
namespace Go.Proofs.Ytoonkpjddfiopaa
open Go.RowKit
set_option linter.unusedVariables false

def levE (W H : Int) (n : Nat) : Int := if sidesB W H n then 0 else 2
theorem level_all (W H : Int) (A : Option Addr) (n c : Nat) (p : Int → Int) (E V : Int) (w : World) (hA : ArrB w w.heap.size A n p) (hn : n ≤ maxLen) (hB : IsB p) (hE : levE W H n = E) (hV : V = if E = 0 then levelS n p else 0) :
    Calls Try.prog 18 #[.agg #[.int .i64 W, .int .i64 H, .slice A n c]] w fun e w' => e = .returned (.tuple #[.int .i64 V, .int .i64 E]) ∧ Below w.heap.size w w' := by
  unfold levE at hE
  cases h : sidesB W H n
  · rw [h] at hE; subst hE; subst hV
    exact level_bad W H A n c w h
  · rw [h] at hE; subst hE; subst hV
    exact level_ok W H A n c p w hA hn hB h
def greyE (E d l : Int) : Int := if E ≠ 0 then E else if d < 0 ∨ 255 < d ∨ l < 0 ∨ 255 < l then 1 else 0
structure GSize (W H E Wm Hm : Int) (n Nm : Nat) : Prop where
  ok : E = 0 → Wm = W ∧ Hm = H ∧ Nm = n
  bad : E ≠ 0 → Wm = 0 ∧ Hm = 0 ∧ Nm = 0
theorem gsize_ex (W H E : Int) (n : Nat) : ∃ Wm Hm Nm, GSize W H E Wm Hm n Nm := by
  by_cases e : E = 0
  · exact ⟨W, H, n, fun _ => ⟨rfl, rfl, rfl⟩, fun h => absurd e h⟩
  · exact ⟨0, 0, 0, fun h => absurd h e, fun _ => ⟨rfl, rfl, rfl⟩⟩
theorem greyE_ok {E d l : Int} (h : greyE E d l = 0) : E = 0 ∧ 0 ≤ d ∧ d ≤ 255 ∧ 0 ≤ l ∧ l ≤ 255 := by
  unfold greyE at h
  by_cases e : E = 0
  · rw [if_neg (by simp [e])] at h
    by_cases b : d < 0 ∨ 255 < d ∨ l < 0 ∨ 255 < l
    · rw [if_pos b] at h; cases h
    · omega
  · rw [if_pos e] at h; exact absurd h e
end Go.Proofs.Ytoonkpjddfiopaa

/- Plain: a strip that is cut out along a line, filled column by column or row by row; a strip that is put back. No program in sight. -/
namespace Go.Proofs.Ytoonkpjddfiopaa
open Go.RowKit
set_option linter.unusedVariables false
/-- the strip: row y of column x is row 'l x - up + y' of the image, paper beside the image -/
def recQ (W H : Int) (p : Int → Int) (l : Nat → Int) (up : Int) : Int → Int := fun i =>
  if 0 ≤ l (i % W).toNat - up + i / W ∧ l (i % W).toNat - up + i / W < H then p ((l (i % W).toNat - up + i / W) * W + i % W) else 0
/-- the image with a strip of h rows put back -/
def resQ (W H h : Int) (p q : Int → Int) (l : Nat → Int) (up : Int) : Int → Int := fun i =>
  if 0 ≤ i / W - l (i % W).toNat + up ∧ i / W - l (i % W).toNat + up < h then q ((i / W - l (i % W).toNat + up) * W + i % W) else p i
/-- filled column by column: the columns before x, and column x above row y -/
def byCol (W : Int) (q z : Int → Int) (x y : Int) : Int → Int := fun i => if i % W < x ∨ (i % W = x ∧ i / W < y) then q i else z i
/-- filled row by row: the rows above y, and row y before column x -/
def byRow (W : Int) (q z : Int → Int) (y x : Int) : Int → Int := fun i => if i / W < y ∨ (i / W = y ∧ i % W < x) then q i else z i
section
variable {W h : Int} {q z : Int → Int} {x y i : Int}
theorem byCol_zero (hW : 0 < W) (h0 : 0 ≤ i) : byCol W q z 0 0 i = z i := by
  unfold byCol
  have h1 : 0 ≤ i % W := Int.emod_nonneg _ (by omega)
  have h2 : 0 ≤ i / W := Int.ediv_nonneg h0 (by omega)
  rw [if_neg (by omega)]
theorem byCol_end (hW : 0 < W) : byCol W q z W 0 i = q i := by
  unfold byCol
  have h1 : i % W < W := Int.emod_lt_of_pos _ hW
  rw [if_pos (by omega)]
theorem byCol_col (hW : 0 < W) (h0 : 0 ≤ i) (hi : i < W * h) : byCol W q z x h i = byCol W q z (x + 1) 0 i := by
  have h1 : i / W < h := Int.ediv_lt_of_lt_mul hW (by rw [Int.mul_comm]; exact hi)
  have h2 : 0 ≤ i / W := Int.ediv_nonneg h0 (by omega)
  unfold byCol
  by_cases c : i % W < x ∨ (i % W = x ∧ i / W < h)
  · rw [if_pos c, if_pos (by omega)]
  · rw [if_neg c, if_neg (by omega)]
theorem byCol_set (x0 : 0 ≤ x) (x1 : x < W) : upd (byCol W q z x y) (y * W + x) (q (y * W + x)) i = byCol W q z x (y + 1) i := by
  have a := idx_mod (y := y) x0 x1
  have b := idx_div (y := y) x0 x1
  unfold upd byCol
  by_cases e : i = y * W + x
  · subst e
    rw [if_pos rfl, a, b, if_pos (.inr ⟨rfl, by omega⟩)]
  · rw [if_neg e]
    have hne : i % W = x → i / W ≠ y := fun h3 h4 => e (by
      have := Int.emod_add_mul_ediv i W
      rw [h3, h4, Int.mul_comm] at this; omega)
    by_cases c : i % W < x ∨ (i % W = x ∧ i / W < y)
    · rw [if_pos c, if_pos (by omega)]
    · rw [if_neg c, if_neg (by omega)]
theorem byCol_skip (x0 : 0 ≤ x) (x1 : x < W) (hq : q (y * W + x) = z (y * W + x)) : byCol W q z x y i = byCol W q z x (y + 1) i := by
  have a := idx_mod (y := y) x0 x1
  have b := idx_div (y := y) x0 x1
  unfold byCol
  by_cases e : i = y * W + x
  · subst e
    rw [a, b, if_neg (by omega), if_pos (.inr ⟨rfl, by omega⟩), hq]
  · have hne : i % W = x → i / W ≠ y := fun h3 h4 => e (by
      have := Int.emod_add_mul_ediv i W
      rw [h3, h4, Int.mul_comm] at this; omega)
    by_cases c : i % W < x ∨ (i % W = x ∧ i / W < y)
    · rw [if_pos c, if_pos (by omega)]
    · rw [if_neg c, if_neg (by omega)]
theorem byRow_zero (hW : 0 < W) (h0 : 0 ≤ i) : byRow W q z 0 0 i = z i := by
  unfold byRow
  have h1 : 0 ≤ i % W := Int.emod_nonneg _ (by omega)
  have h2 : 0 ≤ i / W := Int.ediv_nonneg h0 (by omega)
  rw [if_neg (by omega)]
theorem byRow_end (hW : 0 < W) (hi : i < W * h) : byRow W q z h 0 i = q i := by
  have h1 : i / W < h := Int.ediv_lt_of_lt_mul hW (by rw [Int.mul_comm]; exact hi)
  unfold byRow
  rw [if_pos (by omega)]
theorem byRow_row (hW : 0 < W) : byRow W q z y W i = byRow W q z (y + 1) 0 i := by
  have h1 : i % W < W := Int.emod_lt_of_pos _ hW
  have h2 : 0 ≤ i % W := Int.emod_nonneg _ (by omega)
  unfold byRow
  by_cases c : i / W < y ∨ (i / W = y ∧ i % W < W)
  · rw [if_pos c, if_pos (by omega)]
  · rw [if_neg c, if_neg (by omega)]
theorem byRow_set (x0 : 0 ≤ x) (x1 : x < W) : upd (byRow W q z y x) (y * W + x) (q (y * W + x)) i = byRow W q z y (x + 1) i := by
  have a := idx_mod (y := y) x0 x1
  have b := idx_div (y := y) x0 x1
  unfold upd byRow
  by_cases e : i = y * W + x
  · subst e
    rw [if_pos rfl, a, b, if_pos (.inr ⟨rfl, by omega⟩)]
  · rw [if_neg e]
    have hne : i % W = x → i / W ≠ y := fun h3 h4 => e (by
      have := Int.emod_add_mul_ediv i W
      rw [h3, h4, Int.mul_comm] at this; omega)
    by_cases c : i / W < y ∨ (i / W = y ∧ i % W < x)
    · rw [if_pos c, if_pos (by omega)]
    · rw [if_neg c, if_neg (by omega)]
theorem byRow_skip (x0 : 0 ≤ x) (x1 : x < W) (hq : q (y * W + x) = z (y * W + x)) : byRow W q z y x i = byRow W q z y (x + 1) i := by
  have a := idx_mod (y := y) x0 x1
  have b := idx_div (y := y) x0 x1
  unfold byRow
  by_cases e : i = y * W + x
  · subst e
    rw [a, b, if_neg (by omega), if_pos (.inr ⟨rfl, by omega⟩), hq]
  · have hne : i % W = x → i / W ≠ y := fun h3 h4 => e (by
      have := Int.emod_add_mul_ediv i W
      rw [h3, h4, Int.mul_comm] at this; omega)
    by_cases c : i / W < y ∨ (i / W = y ∧ i % W < x)
    · rw [if_pos c, if_pos (by omega)]
    · rw [if_neg c, if_neg (by omega)]
end
end Go.Proofs.Ytoonkpjddfiopaa
