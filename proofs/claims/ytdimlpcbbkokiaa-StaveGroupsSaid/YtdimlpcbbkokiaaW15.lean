/- Walks: the reference's checks, New, Ink and Set. -/
import Derived.Test.YtdimlpcbbkokiaaQ1
import Derived.Laws.AppendOwn
namespace Go.Proofs.Ytdimlpcbbkokiaa
open Go.RowKit
set_option linter.unusedVariables false

def fitsB (W H : Int) : Bool := decide (0 ≤ W ∧ W ≤ 640 ∧ 0 ≤ H ∧ H ≤ 640)
theorem fitsB_iff {W H : Int} : fitsB W H = true ↔ 0 ≤ W ∧ W ≤ 640 ∧ 0 ≤ H ∧ H ≤ 640 := by simp [fitsB]
set_option maxHeartbeats 400000 in
theorem fits_any (W H : Int) (w : World) : Calls Try.prog 66 #[.int .i64 W, .int .i64 H] w fun e w' => e = .returned (.bool (fitsB W H)) ∧ w = w' := by
  by_cases h : 0 ≤ W ∧ W ≤ 640 ∧ 0 ≤ H ∧ H ≤ 640
  · rw [fitsB_iff.2 h]
    obtain ⟨h1, h2, h3, h4⟩ := h
    go_enter Try.func66, Try.ntmps66
    go_wp2
    go_ret
    exact ⟨rfl, rfl⟩
  · have h' : fitsB W H = false := Bool.eq_false_iff.2 fun e => h (fitsB_iff.1 e)
    rw [h']
    by_cases a : 0 ≤ W
    · by_cases b : W ≤ 640
      · by_cases c : 0 ≤ H
        · have d : ¬ H ≤ 640 := fun d => h ⟨a, b, c, d⟩
          clear h h'
          go_enter Try.func66, Try.ntmps66
          go_wp2
          go_ret
          exact ⟨rfl, rfl⟩
        · clear h h'
          go_enter Try.func66, Try.ntmps66
          go_wp2
          go_ret
          exact ⟨rfl, rfl⟩
      · clear h h'
        go_enter Try.func66, Try.ntmps66
        go_wp2
        go_ret
        exact ⟨rfl, rfl⟩
    · clear h h'
      go_enter Try.func66, Try.ntmps66
      go_wp2
      go_ret
      exact ⟨rfl, rfl⟩

theorem chk_nofit {W H : Int} {n : Nat} {p : Int → Int} (h : fitsB W H = false) : chk W H n p = 2 := by
  have : sidesB W H n = false := Bool.eq_false_iff.2 fun e => by
    obtain ⟨a, b, c, d, _⟩ := sidesB_iff.1 e
    rw [fitsB_iff.2 ⟨a, b, c, d⟩] at h; cases h
  unfold chk; rw [this]; rfl
theorem chk_size {W H : Int} {n : Nat} {p : Int → Int} (h : (n : Int) ≠ W * H) : chk W H n p = 2 := by
  have : sidesB W H n = false := Bool.eq_false_iff.2 fun e => h (sidesB_iff.1 e).2.2.2.2
  unfold chk; rw [this]; rfl
theorem sides_mk {W H : Int} {n : Nat} (h : fitsB W H = true) (hn : (n : Int) = W * H) : sidesB W H n = true := by
  obtain ⟨a, b, c, d⟩ := fitsB_iff.1 h; exact sidesB_iff.2 ⟨a, b, c, d, hn⟩
theorem chk_pix {W H : Int} {n : Nat} {p : Int → Int} (h : sidesB W H n = true) {i : Int} (h0 : 0 ≤ i) (hi : i < n) (hp : ¬ p i ≤ 1) : chk W H n p = 3 := by
  have : pixB n p = false := Bool.eq_false_iff.2 fun e => hp (by simpa using allN_iff.1 e i h0 hi)
  unfold chk; rw [h, this]; rfl

set_option maxHeartbeats 1000000 in
theorem rcheck_any (W H : Int) (A : Option Addr) (n c : Nat) (p : Int → Int) (w : World) (hA : ArrB w w.heap.size A n p) (hn : n ≤ maxLen) (hB : IsB p) :
    Calls Try.prog 20 #[.agg #[.int .i64 W, .int .i64 H, .slice A n c]] w fun e w' => e = .returned (.int .i64 (chk W H n p)) ∧ Below w.heap.size w w' := by
  unfold maxLen at hn
  have FT := Lib.hid (fits_any W H)
  have K0 := Blk.new w 24 #[.int .i64 W, .int .i64 H, .slice A n c]
  cases hf : fitsB W H
  · rw [chk_nofit hf]
    rw [hf] at FT
    clear hf
    go_enter Try.func20, Try.ntmps20
    go_wp2_with (go_at_call 66; refine (FT.out _).mono ?_; rintro e w' ⟨rfl, rfl⟩)
    go_ret
    exact ⟨rfl, by (repeat (first | exact Below.refl _ _ | assumption | refine Below.drew ?_ | refine below_drewN ?_ _ | refine Below.alloc ?_ (by first | omega | (simp; done) | (simp; omega)) _ | refine Below.setCell ?_ (by first | omega | (simp; done) | (simp; omega)) _ | refine below_setRow ?_ (by first | omega | (simp; done) | (simp; omega)) _ ))⟩
  · obtain ⟨h1, h2, h3, h4⟩ := fitsB_iff.1 hf
    obtain ⟨m1, m2⟩ := area_bd h1 h2 h3 h4
    rw [hf] at FT
    have m3 : IntKind.i64.wrap (W * H) = W * H := IntWalk.i64_in _ (by omega)
    by_cases hs : (n : Int) = W * H
    · have hS := Lib.hid (sides_mk hf hs)
      have hb : ((n : Int) != W * H) = false := by simp [hs]
      have HS := Lib.hid hs
      clear hf hs
      go_enter Try.func20, Try.ntmps20
      go_wp2_with (go_at_call 66; refine (FT.out _).mono ?_; rintro e w' ⟨rfl, rfl⟩)
      go_loop [3] (fun s => ∃ i : Int, 0 ≤ i ∧ i ≤ n ∧ s = .int .i64 i ∧ ∀ j : Int, 0 ≤ j → j < i → p j ≤ 1) (fun s => n - (intOf s).toNat)
      case atStart => exact ⟨0, by omega, by omega, rfl, fun j a b => by omega⟩
      case round =>
        obtain ⟨i, h0, hi, rfl, hall⟩ := hrel
        have HALL := Lib.hid hall; clear hall
        by_cases hlt : i < n
        · have hA' := hA.to (w' := w.alloc (.cells #[.int .i64 W, .int .i64 H, .slice A n c] 24)) (by (repeat (first | exact Below.refl _ _ | assumption | refine Below.drew ?_ | refine below_drewN ?_ _ | refine Below.alloc ?_ (by first | omega | (simp; done) | (simp; omega)) _ | refine Below.setCell ?_ (by first | omega | (simp; done) | (simp; omega)) _ | refine below_setRow ?_ (by first | omega | (simp; done) | (simp; omega)) _ )))
          obtain ⟨b, off, rfl, hbB, hcell⟩ := ArrB.at_ hA' h0 hlt
          obtain ⟨pb1, pb2⟩ := hB i
          by_cases e0 : p i = 0
          · have hb0 : (p i != 0) = false := by simp [e0]
            have E0 := Lib.hid e0; clear e0
            go_wp2
            go_round
            case rel => exact ⟨i + 1, by omega, by omega, by go_num, fun j a b => if e : j = i then by rw [e, E0.out]; omega else HALL.out j a (by omega)⟩
            case measure => simp [intOf]; omega
          · have hb0 : (p i != 0) = true := by simp [e0]
            by_cases e1 : p i = 1
            · have hb1 : (p i != 1) = false := by simp [e1]
              have E1 := Lib.hid e1; clear e1
              have E0 := Lib.hid e0; clear e0
              go_wp2
              go_round
              case rel => exact ⟨i + 1, by omega, by omega, by go_num, fun j a b => if e : j = i then by rw [e, E1.out]; omega else HALL.out j a (by omega)⟩
              case measure => simp [intOf]; omega
            · have hb1 : (p i != 1) = true := by simp [e1]
              have hr : Hid (chk W H n p = 3) := by show _ = _; exact chk_pix hS.out h0 hlt (by omega)
              have E1 := Lib.hid e1; clear e1
              have E0 := Lib.hid e0; clear e0
              go_wp2
              go_ret
              exact ⟨ret_int hr.out.symm, by (repeat (first | exact Below.refl _ _ | assumption | refine Below.drew ?_ | refine below_drewN ?_ _ | refine Below.alloc ?_ (by first | omega | (simp; done) | (simp; omega)) _ | refine Below.setCell ?_ (by first | omega | (simp; done) | (simp; omega)) _ | refine below_setRow ?_ (by first | omega | (simp; done) | (simp; omega)) _ ))⟩
        · have hr : Hid (chk W H n p = 0) := by
            show _ = _; unfold chk; rw [hS.out, show pixB n p = true from allN_iff.2 fun j a b => by simpa using HALL.out j a (by omega)]; rfl
          go_wp2
          go_ret
          exact ⟨ret_int hr.out.symm, by (repeat (first | exact Below.refl _ _ | assumption | refine Below.drew ?_ | refine below_drewN ?_ _ | refine Below.alloc ?_ (by first | omega | (simp; done) | (simp; omega)) _ | refine Below.setCell ?_ (by first | omega | (simp; done) | (simp; omega)) _ | refine below_setRow ?_ (by first | omega | (simp; done) | (simp; omega)) _ ))⟩
    · rw [chk_size hs]
      have hb : ((n : Int) != W * H) = true := by simp [hs]
      have HS := Lib.hid hs
      clear hf hs
      go_enter Try.func20, Try.ntmps20
      go_wp2_with (go_at_call 66; refine (FT.out _).mono ?_; rintro e w' ⟨rfl, rfl⟩)
      go_ret
      exact ⟨rfl, by (repeat (first | exact Below.refl _ _ | assumption | refine Below.drew ?_ | refine below_drewN ?_ _ | refine Below.alloc ?_ (by first | omega | (simp; done) | (simp; omega)) _ | refine Below.setCell ?_ (by first | omega | (simp; done) | (simp; omega)) _ | refine below_setRow ?_ (by first | omega | (simp; done) | (simp; omega)) _ ))⟩

set_option maxHeartbeats 400000 in
theorem rnew_any (W H : Int) (N : Nat) (w : World) (h1 : 0 ≤ W) (h2 : W ≤ 640) (h3 : 0 ≤ H) (h4 : H ≤ 640) (hN : (N : Int) = W * H) :
    Calls Try.prog 69 #[.int .i64 W, .int .i64 H] w (New w fun v w' => OutN w w' W H N (fun _ => 0) v) := by
  obtain ⟨m1, m2⟩ := area_bd h1 h2 h3 h4
  have hmk := makeB (W * H) m1 (by omega)
  have e : (W * H).toNat = N := by omega
  rw [e] at hmk
  have HN := Lib.hid hN
  clear hN e
  go_enter Try.func69, Try.ntmps69
  go_wp2
  refine bodyPost_ret (v := .agg #[.int .i64 W, .int .i64 H, .slice (some ⟨w.heap.size + 1, 0, none⟩) N N]) (by simp [results, Try.results69, go_sem]) rfl ?_
  exact ⟨_, rfl, OutN.mk (by omega) (Blk.new' (by simp) _ _), by (repeat (first | exact Below.refl _ _ | assumption | refine Below.drew ?_ | refine below_drewN ?_ _ | refine Below.alloc ?_ (by first | omega | (simp; done) | (simp; omega)) _ | refine Below.setCell ?_ (by first | omega | (simp; done) | (simp; omega)) _ | refine below_setRow ?_ (by first | omega | (simp; done) | (simp; omega)) _ ))⟩

set_option maxHeartbeats 1000000 in
theorem rink_any (W H : Int) (A : Option Addr) (n c : Nat) (p : Int → Int) (x y : Int) (w : World) (hA : ArrB w w.heap.size A n p) (hW : W ≤ 640) (hH : H ≤ 640) (hn : (n : Int) = W * H) :
    Calls Try.prog 108 #[.agg #[.int .i64 W, .int .i64 H, .slice A n c], .int .i64 x, .int .i64 y] w fun e w' => e = .returned (.bool (inkB W H p x y)) ∧ Below w.heap.size w w' := by
  by_cases a : 0 ≤ x
  · by_cases b : x < W
    · by_cases c' : 0 ≤ y
      · by_cases d : y < H
        · obtain ⟨i1, i2, i3⟩ := idx_lt a b c' d
          rw [Int.mul_comm H W] at i2
          have i4 : y * W + x < n := by omega
          have j6 := (area_bd (by omega : 0 ≤ W) hW (by omega : 0 ≤ H) hH).2
          have v1 : IntKind.i64.wrap (y * W) = y * W := IntWalk.i64_in _ (by omega)
          have v2 : IntKind.i64.wrap (y * W + x) = y * W + x := IntWalk.i64_in _ (by omega)
          obtain ⟨b', off, rfl, hbB, hcell⟩ := ArrB.at_ (hA.to (w' := w.alloc (.cells #[.int .i64 W, .int .i64 H, .slice A n c] 24)) (by (repeat (first | exact Below.refl _ _ | assumption | refine Below.drew ?_ | refine below_drewN ?_ _ | refine Below.alloc ?_ (by first | omega | (simp; done) | (simp; omega)) _ | refine Below.setCell ?_ (by first | omega | (simp; done) | (simp; omega)) _ | refine below_setRow ?_ (by first | omega | (simp; done) | (simp; omega)) _ )))) i1 i4
          by_cases e : p (y * W + x) = 1
          · have hr : inkB W H p x y = true := inkB_iff.2 ⟨a, b, c', d, e⟩
            rw [hr]
            have hb : (p (y * W + x) == 1) = true := by simp [e]
            have E := Lib.hid e; clear e hr
            go_enter Try.func108, Try.ntmps108
            go_wp2
            go_ret
            exact ⟨rfl, by (repeat (first | exact Below.refl _ _ | assumption | refine Below.drew ?_ | refine below_drewN ?_ _ | refine Below.alloc ?_ (by first | omega | (simp; done) | (simp; omega)) _ | refine Below.setCell ?_ (by first | omega | (simp; done) | (simp; omega)) _ | refine below_setRow ?_ (by first | omega | (simp; done) | (simp; omega)) _ ))⟩
          · have hr : inkB W H p x y = false := Bool.eq_false_iff.2 fun h => e (inkB_iff.1 h).2.2.2.2
            rw [hr]
            have hb : (p (y * W + x) == 1) = false := by simp [e]
            have E := Lib.hid e; clear e hr
            go_enter Try.func108, Try.ntmps108
            go_wp2
            go_ret
            exact ⟨rfl, by (repeat (first | exact Below.refl _ _ | assumption | refine Below.drew ?_ | refine below_drewN ?_ _ | refine Below.alloc ?_ (by first | omega | (simp; done) | (simp; omega)) _ | refine Below.setCell ?_ (by first | omega | (simp; done) | (simp; omega)) _ | refine below_setRow ?_ (by first | omega | (simp; done) | (simp; omega)) _ ))⟩
        · have hr : inkB W H p x y = false := Bool.eq_false_iff.2 fun e => d (inkB_iff.1 e).2.2.2.1
          rw [hr]
          go_enter Try.func108, Try.ntmps108
          go_wp2
          go_ret
          exact ⟨rfl, by (repeat (first | exact Below.refl _ _ | assumption | refine Below.drew ?_ | refine below_drewN ?_ _ | refine Below.alloc ?_ (by first | omega | (simp; done) | (simp; omega)) _ | refine Below.setCell ?_ (by first | omega | (simp; done) | (simp; omega)) _ | refine below_setRow ?_ (by first | omega | (simp; done) | (simp; omega)) _ ))⟩
      · have hr : inkB W H p x y = false := Bool.eq_false_iff.2 fun e => c' (inkB_iff.1 e).2.2.1
        rw [hr]
        go_enter Try.func108, Try.ntmps108
        go_wp2
        go_ret
        exact ⟨rfl, by (repeat (first | exact Below.refl _ _ | assumption | refine Below.drew ?_ | refine below_drewN ?_ _ | refine Below.alloc ?_ (by first | omega | (simp; done) | (simp; omega)) _ | refine Below.setCell ?_ (by first | omega | (simp; done) | (simp; omega)) _ | refine below_setRow ?_ (by first | omega | (simp; done) | (simp; omega)) _ ))⟩
    · have hr : inkB W H p x y = false := Bool.eq_false_iff.2 fun e => b (inkB_iff.1 e).2.1
      rw [hr]
      go_enter Try.func108, Try.ntmps108
      go_wp2
      go_ret
      exact ⟨rfl, by (repeat (first | exact Below.refl _ _ | assumption | refine Below.drew ?_ | refine below_drewN ?_ _ | refine Below.alloc ?_ (by first | omega | (simp; done) | (simp; omega)) _ | refine Below.setCell ?_ (by first | omega | (simp; done) | (simp; omega)) _ | refine below_setRow ?_ (by first | omega | (simp; done) | (simp; omega)) _ ))⟩
  · have hr : inkB W H p x y = false := Bool.eq_false_iff.2 fun e => a (inkB_iff.1 e).1
    rw [hr]
    go_enter Try.func108, Try.ntmps108
    go_wp2
    go_ret
    exact ⟨rfl, by (repeat (first | exact Below.refl _ _ | assumption | refine Below.drew ?_ | refine below_drewN ?_ _ | refine Below.alloc ?_ (by first | omega | (simp; done) | (simp; omega)) _ | refine Below.setCell ?_ (by first | omega | (simp; done) | (simp; omega)) _ | refine below_setRow ?_ (by first | omega | (simp; done) | (simp; omega)) _ ))⟩

set_option maxHeartbeats 400000 in
theorem rset_any (W H : Int) (g n c t : Nat) (q : Int → Int) (x y : Int) (w : World) (hA : Blk w g t (u8s n q)) (h1 : 0 ≤ x) (h2 : x < W) (h3 : 0 ≤ y) (h4 : y < H) (hW : W ≤ 640) (hH : H ≤ 640) (hn : (n : Int) = W * H) :
    Calls Try.prog 71 #[.agg #[.int .i64 W, .int .i64 H, .slice (some ⟨g, 0, none⟩) n c], .int .i64 x, .int .i64 y] w fun e w' => e = .returned (.tuple #[]) ∧ Blk w' g t (u8s n (upd q (y * W + x) 1)) ∧ w.grownBy w' (some g) := by
  obtain ⟨i1, i2, i3⟩ := idx_lt h1 h2 h3 h4
  rw [Int.mul_comm H W] at i2
  have i4 : y * W + x < n := by omega
  have j6 := (area_bd (by omega : 0 ≤ W) hW (by omega : 0 ≤ H) hH).2
  have v1 : IntKind.i64.wrap (y * W) = y * W := IntWalk.i64_in _ (by omega)
  have v2 : IntKind.i64.wrap (y * W + x) = y * W + x := IntWalk.i64_in _ (by omega)
  have hr := (hA.alloc (.cells #[.int .i64 W, .int .i64 H, .slice (some ⟨g, 0, none⟩) n c] 24)).u8at i1 i4
  have hf := (hA.alloc (.cells #[.int .i64 W, .int .i64 H, .slice (some ⟨g, 0, none⟩) n c] 24)).frozen (y * W + x).toNat
  have US := Lib.hid ((hA.u8set _ i1 1).alloc (.cells #[.int .i64 W, .int .i64 H, .slice (some ⟨g, 0, none⟩) n c] 24))
  have gl := hA.lt
  go_enter Try.func71, Try.ntmps71
  go_wp2
  go_end0
  refine ⟨rfl, US.out, rfl, rfl, rfl, by simp, fun k hk hne => ?_⟩
  rw [Below.heap_alloc _ _ k (by simpa using hk), heap_setCell_other _ _ _ _ (by intro e; exact hne (by rw [e]))]
end Go.Proofs.Ytdimlpcbbkokiaa
