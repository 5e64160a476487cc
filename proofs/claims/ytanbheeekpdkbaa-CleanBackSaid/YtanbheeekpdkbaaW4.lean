/- Walk of clean.moved: what an image becomes when its columns are moved. -/
import Derived.Test.YtanbheeekpdkbaaW3
import Derived.StillTailTactics
import Derived.BigRegion
import Derived.Deep.WholeRow
namespace Go.Proofs.Ytanbheeekpdkbaa
open Go.RowKit
set_option linter.unusedVariables false

def movE (W H : Int) (n : Nat) (p : Int → Int) (k way : Int) : Int :=
  if chk W H n p ≠ 0 then chk W H n p else if k < -3 ∨ 3 < k then 1 else if H + way * grt W k < 0 ∨ 640 < H + way * grt W k then 2 else 0
def movQ (W H : Int) (p : Int → Int) (k way : Int) : Int → Int := fun i =>
  if 0 ≤ i / W - way * dropI W k (i % W) ∧ i / W - way * dropI W k (i % W) < H then p ((i / W - way * dropI W k (i % W)) * W + i % W) else 0
theorem chk_ok {W H : Int} {n : Nat} {p : Int → Int} (h : chk W H n p = 0) : 0 ≤ W ∧ W ≤ 640 ∧ 0 ≤ H ∧ H ≤ 640 ∧ (n : Int) = W * H ∧ ∀ i : Int, 0 ≤ i → i < n → p i ≤ 1 := by
  unfold chk at h
  split at h
  · rename_i hs
    split at h
    · rename_i hp
      obtain ⟨a, b, c, d, e⟩ := sidesB_iff.1 hs
      exact ⟨a, b, c, d, e, fun i h0 h1 => by simpa using allN_iff.1 hp i h0 h1⟩
    · omega
  · omega
theorem movE_ok {W H : Int} {n : Nat} {p : Int → Int} {k way : Int} (h : movE W H n p k way = 0) :
    chk W H n p = 0 ∧ -3 ≤ k ∧ k ≤ 3 ∧ 0 ≤ H + way * grt W k ∧ H + way * grt W k ≤ 640 := by
  unfold movE at h
  split at h
  · rename_i h1; exact absurd h h1
  · rename_i h1
    split at h
    · omega
    · split at h
      · omega
      · refine ⟨?_, by omega, by omega, by omega, by omega⟩
        exact Decidable.not_not.1 h1

/-- what has been moved before the pixel (x, y) -/
def movP (W : Int) (p : Int → Int) (k way y x : Int) : Int → Int := fun i =>
  if 0 ≤ i / W - way * dropI W k (i % W) ∧ (i / W - way * dropI W k (i % W) < y ∨ i / W - way * dropI W k (i % W) = y ∧ i % W < x) then p ((i / W - way * dropI W k (i % W)) * W + i % W) else 0
theorem emod_nn {i W : Int} (h0 : 0 ≤ i) (hW : 0 ≤ W) : 0 ≤ i % W := by
  by_cases e : W = 0
  · subst e; simpa using h0
  · exact Int.emod_nonneg _ e
theorem movP_start {W : Int} (p : Int → Int) (k way : Int) {i : Int} (h0 : 0 ≤ i) (hW : 0 ≤ W) : movP W p k way 0 0 i = 0 := by
  have := emod_nn h0 hW
  unfold movP; rw [if_neg]; omega
theorem movP_in {W : Int} {p : Int → Int} {k way y x t : Int} (hx0 : 0 ≤ x) (hx : x < W) (hy : 0 ≤ y) (ht : t = y + way * dropI W k x) (i : Int) :
    upd (movP W p k way y x) (t * W + x) (p (y * W + x)) i = movP W p k way y (x + 1) i := by
  unfold upd
  by_cases e : i = t * W + x
  · rw [if_pos e]
    unfold movP
    rw [e, idx_div hx0 hx, idx_mod hx0 hx]
    have hs : t - way * dropI W k x = y := by omega
    rw [hs, if_pos (by omega)]
  · rw [if_neg e]
    unfold movP
    have hX : ¬ (i / W - way * dropI W k (i % W) = y ∧ i % W = x) := by
      rintro ⟨h1, h2⟩
      rw [h2] at h1
      have h3 : i / W = t := by omega
      have h4 := Int.emod_add_mul_ediv i W
      rw [h2, h3, Int.mul_comm] at h4
      omega
    generalize i / W - way * dropI W k (i % W) = s at *
    generalize hq : p (s * W + i % W) = v
    clear hq
    generalize i % W = X at *
    by_cases c1 : 0 ≤ s ∧ (s < y ∨ s = y ∧ X < x)
    · rw [if_pos c1, if_pos (by omega)]
    · rw [if_neg c1, if_neg (by omega)]
theorem movP_out {W h : Int} {p : Int → Int} {k way y x t : Int} (hx0 : 0 ≤ x) (hx : x < W) (ht : t = y + way * dropI W k x) (ho : ¬ (0 ≤ t ∧ t < h)) {i : Int} (h0 : 0 ≤ i) (hi : i < W * h) :
    movP W p k way y x i = movP W p k way y (x + 1) i := by
  unfold movP
  have hX : ¬ (i / W - way * dropI W k (i % W) = y ∧ i % W = x) := by
    rintro ⟨h1, h2⟩
    rw [h2] at h1
    have h3 : 0 ≤ i / W := Int.ediv_nonneg h0 (by omega)
    have h4 : i / W < h := Int.ediv_lt_of_lt_mul (by omega) (by rw [Int.mul_comm]; exact hi)
    omega
  generalize i / W - way * dropI W k (i % W) = s at *
  generalize hq : p (s * W + i % W) = v
  clear hq
  generalize i % W = X at *
  by_cases c1 : 0 ≤ s ∧ (s < y ∨ s = y ∧ X < x)
  · rw [if_pos c1, if_pos (by omega)]
  · rw [if_neg c1, if_neg (by omega)]
theorem movP_row {W h : Int} {p : Int → Int} {k way y i : Int} (hW : 0 ≤ W) (h0 : 0 ≤ i) (hi : i < W * h) : movP W p k way y W i = movP W p k way (y + 1) 0 i := by
  unfold movP
  have hp : 0 < W := by
    rcases Int.lt_or_le 0 W with h | h
    · exact h
    · have : W = 0 := by omega
      subst this; simp at hi; omega
  have h1 := Int.emod_lt_of_pos i hp
  have h2 := Int.emod_nonneg i (show W ≠ 0 by omega)
  generalize i / W - way * dropI W k (i % W) = s at *
  generalize hq : p (s * W + i % W) = v
  clear hq
  generalize i % W = X at *
  by_cases c1 : 0 ≤ s ∧ (s < y ∨ s = y ∧ X < W)
  · rw [if_pos c1, if_pos (by omega)]
  · rw [if_neg c1, if_neg (by omega)]
theorem movP_end {W H h : Int} {p : Int → Int} {k way i : Int} (hW : 0 ≤ W) (h0 : 0 ≤ i) (hi : i < W * h) : movP W p k way H 0 i = movQ W H p k way i := by
  unfold movP movQ
  have h2 := emod_nn h0 hW
  generalize i / W - way * dropI W k (i % W) = s at *
  generalize hq : p (s * W + i % W) = v
  clear hq
  generalize i % W = X at *
  by_cases c1 : 0 ≤ s ∧ s < H
  · rw [if_pos c1, if_pos (by omega)]
  · rw [if_neg c1, if_neg (by omega)]
structure MovR (w wr : World) (W H h : Int) (N : Nat) (A : Option Addr) (n c g B10 B12 : Nat) (D : Array Value) (p : Int → Int) (k way y x : Int) : Prop where
  bl : Below w.heap.size w wr
  k3 : Blk wr w.heap.size 25 #[.int .i64 W, .int .i64 H, .slice A n c]
  k6 : Blk wr (w.heap.size + 1) 25 #[.int .i64 0, .int .i64 0, .slice none 0 0]
  k10 : Blk wr B10 25 #[.int .i64 W, .int .i64 h, .slice (some ⟨g, 0, none⟩) N N]
  k12 : Blk wr B12 78 D
  kg : Blk wr g 5 (u8s N (movP W p k way y x))

set_option maxRecDepth 100000 in
set_option maxHeartbeats 1000000 in
theorem moved_ok (W H : Int) (A : Option Addr) (n c : Nat) (p : Int → Int) (k way : Int) (w : World) (hA : ArrB w w.heap.size A n p) (hn : n ≤ maxLen) (hB : IsB p)
    (hw : way = 1 ∨ way = -1) (hE : movE W H n p k way = 0) :
    Calls Try.prog 48 #[.agg #[.int .i64 W, .int .i64 H, .slice A n c], .int .i64 k, .int .i64 way] w
      (New w fun v w' => ∃ g, v = .tuple #[g, .int .i64 0] ∧ OutImg w w' W (H + way * grt W k) (movQ W H p k way) g) := by
  obtain ⟨hc, hk1, hk2, hh1, hh2⟩ := movE_ok hE
  obtain ⟨hW1, hW2, hH1, hH2, hnn, -⟩ := chk_ok hc
  have HC := Lib.hid hc
  have HN := Lib.hid hnn
  clear hE hc hnn
  have hg := grt_bd hW1 hW2 hk1 hk2
  obtain ⟨hg1, hg2⟩ := hg
  have hwg : -29 ≤ way * grt W k ∧ way * grt W k ≤ 29 := by rcases hw with rfl | rfl <;> omega
  obtain ⟨hwg1, hwg2⟩ := hwg
  go_enter Try.func48, Try.ntmps48
  go_wp2_with fail
  refine (check_any W H A n c p _ (hA.to (by (repeat (first | exact Below.refl _ _ | assumption | refine Below.drew ?_ | refine below_drewN ?_ _ | refine Below.alloc ?_ (by first | omega | (simp; done) | (simp; omega)) _ | refine Below.setCell ?_ (by first | omega | (simp; done) | (simp; omega)) _ | refine below_setRow ?_ (by first | omega | (simp; done) | (simp; omega)) _ )))) hn).mono ?_
  rintro e w1 ⟨rfl, hb1⟩
  rw [HC.out]
  have k3 : Blk w1 w.heap.size 25 #[.int .i64 W, .int .i64 H, .slice A n c] := ((Blk.new _ _ _).alloc _).below' hb1
  have k6 : Blk w1 (w.heap.size + 1) 25 #[.int .i64 0, .int .i64 0, .slice none 0 0] := (Blk.new' (by simp) _ _).below' hb1
  have z1 : w.heap.size + 2 ≤ w1.heap.size := by simpa using hb1.size
  have b1 : Below w.heap.size w w1 := below_call (by (repeat (first | exact Below.refl _ _ | assumption | refine Below.drew ?_ | refine below_drewN ?_ _ | refine Below.alloc ?_ (by first | omega | (simp; done) | (simp; omega)) _ | refine Below.setCell ?_ (by first | omega | (simp; done) | (simp; omega)) _ | refine below_setRow ?_ (by first | omega | (simp; done) | (simp; omega)) _ ))) (by simp; omega) hb1
  clear hb1
  obtain ⟨p1, p2, p3⟩ := k3.cells3
  go_wp2_with fail
  go_quiet ((go_at_call 74; exact qcallN (greatest_any _ _ _ hW1 hW2 hk1 hk2)))
  replace k3 := k3.drewN nq
  replace k6 := k6.drewN nq
  replace b1 := below_drewN b1 nq
  replace z1 : w.heap.size + 2 ≤ (w1.drewN nq).heap.size := z1
  have p1 := p1; have p2 := p2; have p3 := p3
  clear p1 p2 p3
  generalize hh : H + way * grt W k = h at *
  have HH := Lib.hid hh; clear hh
  generalize w1.drewN nq = w2 at *
  obtain ⟨p1, p2, p3⟩ := k3.cells3
  go_wp2_with fail
  refine (new_ok W h _ hW1 hW2 hh1 hh2).mono ?_
  rintro e w3 ⟨_, rfl, ⟨_, rfl, ⟨g, rfl, hg, kg⟩⟩, hb3⟩
  replace k3 := k3.below' hb3
  replace k6 := k6.below' hb3
  replace b1 := below_call b1 (by omega) hb3
  have z3 : w2.heap.size ≤ w3.heap.size := hb3.size
  have z4 := kg.lt
  clear hb3 p1 p2 p3
  obtain ⟨p1, p2, p3⟩ := k3.cells3
  have zz1 : w.heap.size < w3.heap.size := by omega
  go_wp2_with fail
  refine (drops_any W k _ hW1 hW2 hk1 hk2).mono ?_
  rintro e w4 ⟨_, rfl, rfl, hb4⟩
  replace k3 := (k3.alloc _).below' hb4
  replace k6 := (k6.alloc _).below' hb4
  have k10 := (Blk.new _ _ _).below' hb4
  replace kg := (kg.alloc _).below' hb4
  replace b1 : Below w.heap.size w w4 := below_call (by (repeat (first | exact Below.refl _ _ | assumption | refine Below.drew ?_ | refine below_drewN ?_ _ | refine Below.alloc ?_ (by first | omega | (simp; done) | (simp; omega)) _ | refine Below.setCell ?_ (by first | omega | (simp; done) | (simp; omega)) _ | refine below_setRow ?_ (by first | omega | (simp; done) | (simp; omega)) _ ))) (by simp; omega) hb4
  have z5 : w3.heap.size < w4.heap.size := by have := hb4.size; simp at this; omega
  clear hb4 p1 p2 p3
  obtain ⟨p1, p2, p3⟩ := k3.cells3
  generalize hD : i64s 640 (fun x => if x < W then dropI W k x else 0) = D at *
  have hsz : D.size = 640 := by rw [← hD, i64s_size]
  have hone : D.all (·.oneCell') = true := by rw [← hD]; exact i64s_one _ _
  have HSZ := Lib.hid hsz; have HONE := Lib.hid hone; have HD := Lib.hid hD
  clear hsz hone hD
  have hz := zero63'
  have z6 : w.heap.size < w4.heap.size := by omega
  go_wp2_with (refine wpList_store_row rfl 78 (.tmp 12) (.tmp 52) rfl _ D rfl rfl 78 _ (heap_alloc_new _ _) (by rw [info63, HSZ.out]) (by rw [HSZ.out, zeros640, i64s_size]) HONE.out ?_; rw [World.setRow_alloc_new])
  have hN : ((W * h).toNat : Int) = W * h := Int.toNat_of_nonneg (area_bd hW1 hW2 hh1 hh2).1
  generalize hNe : (W * h).toNat = N at *
  have HNE := Lib.hid hNe; have HNN := Lib.hid hN; clear hN hNe
  have m : MovR w (w4.alloc (.cells D 78)) W H h N A n c g w3.heap.size w4.heap.size D p k way 0 0 :=
    ⟨by (repeat (first | exact Below.refl _ _ | assumption | refine Below.drew ?_ | refine below_drewN ?_ _ | refine Below.alloc ?_ (by first | omega | (simp; done) | (simp; omega)) _ | refine Below.setCell ?_ (by first | omega | (simp; done) | (simp; omega)) _ | refine below_setRow ?_ (by first | omega | (simp; done) | (simp; omega)) _ )), k3.alloc _, k6.alloc _, k10.alloc _, Blk.new _ _ _, (kg.alloc _).u8conv fun j h0 _ => (movP_start _ _ _ h0 hW1).symm⟩
  have hg0 : w.heap.size + 2 ≤ g := by omega
  clear k3 k6 k10 kg b1 p1 p2 p3 z1 z3 zz1 hz
  generalize w4.alloc (.cells D 78) = w5 at *
  go_loopw [55] (fun i wr => ∃ y : Int, 0 ≤ y ∧ y ≤ H ∧ i = .int .i64 y ∧ MovR w wr W H h N A n c g w3.heap.size w4.heap.size D p k way y 0) (fun i _ => (H - intOf i).toNat)
  case atStart => exact ⟨0, by omega, by omega, rfl, m⟩
  case round =>
    obtain ⟨y, hy0, hy, rfl, m1⟩ := hrel
    clear m
    obtain ⟨wo, rfl⟩ : ∃ wo : World, wo = wr := ⟨_, rfl⟩
    obtain ⟨p1, p2, p3⟩ := m1.k3.cells3
    by_cases hyH : y < H
    · go_wp2
      go_loopw [60] (fun i wr => ∃ x : Int, 0 ≤ x ∧ x ≤ W ∧ i = .int .i64 x ∧ MovR w wr W H h N A n c g w3.heap.size w4.heap.size D p k way y x) (fun i _ => (W - intOf i).toNat)
      case atStart => exact ⟨0, by omega, by omega, rfl, m1⟩
      case round =>
        obtain ⟨x, hx0, hx, rfl, m2⟩ := hrel
        clear m1 p1 p2 p3
        obtain ⟨p1, p2, p3⟩ := m2.k3.cells3
        by_cases hxW : x < W
        · have hd := drop_bd (W := W) (k := k) (x := x) hW2 hk1 hk2 hx0 hxW
          obtain ⟨hd1, hd2⟩ := hd
          have hwd : -29 ≤ way * dropI W k x ∧ way * dropI W k x ≤ 29 := by rcases hw with rfl | rfl <;> omega
          obtain ⟨hwd1, hwd2⟩ := hwd
          have p12 : wr.cell? ⟨w4.heap.size, x.toNat, none⟩ = some (.int .i64 (dropI W k x)) := by
            have := m2.k12.cell x.toNat
            rw [← HD.out, i64s_at hx0 (by omega), if_pos hxW] at this
            exact this
          by_cases ht : 0 ≤ y + way * dropI W k x ∧ y + way * dropI W k x < h
          · obtain ⟨i1, i2, i3⟩ := idx_lt hx0 hxW ht.1 ht.2
            obtain ⟨j1, j2, j3⟩ := idx_lt hx0 hxW hy0 hyH
            rw [Int.mul_comm h W] at i2
            have j4 : y * W + x < n := by have := HN.out; rw [Int.mul_comm H W] at j2; omega
            obtain ⟨q1, q2, q3⟩ := m2.k10.cells3
            have j5 : W * h ≤ 409600 := (area_bd hW1 hW2 hh1 hh2).2
            have j6 := (area_bd hW1 hW2 hH1 hH2).2
            rw [Int.mul_comm W H] at j6
            obtain ⟨b, off, rfl, hbB, hcell⟩ := ArrB.at_ (ArrB.below hA m2.bl) j1 j4
            have i4 : (y + way * dropI W k x) * W + x < (N : Int) := by have := HNN.out; omega
            have ho := m2.kg.u8at i1 i4
            have v1 : IntKind.i64.wrap (y * W) = y * W := IntWalk.i64_in _ (by omega)
            have v2 : IntKind.i64.wrap (y * W + x) = y * W + x := IntWalk.i64_in _ (by omega)
            have v3 : IntKind.i64.wrap ((y + way * dropI W k x) * W) = (y + way * dropI W k x) * W := IntWalk.i64_in _ (by omega)
            have v4 : IntKind.i64.wrap ((y + way * dropI W k x) * W + x) = (y + way * dropI W k x) * W + x := IntWalk.i64_in _ (by omega)
            have hf := m2.kg.frozen ((y + way * dropI W k x) * W + x).toNat
            have ML := Lib.hid (m2.kg.u8set _ i1 (p (y * W + x)))
            go_wp2
            go_still_tail 19, (by kernel_rfl)
            change wpList _ _ _ _ _ wr.drew
            clear v1 v2 v3 v4
            go_wp2
            go_roundw
            case rel =>
              exact ⟨x + 1, by omega, by omega, by go_num, by have := m2.bl; (repeat (first | exact Below.refl _ _ | assumption | refine Below.drew ?_ | refine below_drewN ?_ _ | refine Below.alloc ?_ (by first | omega | (simp; done) | (simp; omega)) _ | refine Below.setCell ?_ (by first | omega | (simp; done) | (simp; omega)) _ | refine below_setRow ?_ (by first | omega | (simp; done) | (simp; omega)) _ )), m2.k3.far (by simp; omega) _, m2.k6.far (by simp; omega) _, m2.k10.far (by simp; omega) _, m2.k12.far (by simp; omega) _,
                Blk.u8conv ML.out fun i _ _ => movP_in hx0 hxW hy0 rfl i⟩
            case measure => simp [intOf]; omega
          · go_wp2
            all_goals
              go_roundw
              case rel => exact ⟨x + 1, by omega, by omega, by go_num, m2.bl, m2.k3, m2.k6, m2.k10, m2.k12, m2.kg.u8conv fun i h0 hi => movP_out (h := h) hx0 hxW rfl ht h0 (by have := HNN.out; omega)⟩
              case measure => simp [intOf]; omega
        · obtain rfl : x = W := by omega
          go_wp2
          go_roundw
          case rel => exact ⟨y + 1, by omega, by omega, by go_num, m2.bl, m2.k3, m2.k6, m2.k10, m2.k12, m2.kg.u8conv fun i h0 hi => movP_row (h := h) hW1 h0 (by have := HNN.out; omega)⟩
          case measure => simp [intOf]; omega
    · obtain rfl : y = H := by omega
      obtain ⟨q1, q2, q3⟩ := m1.k10.cells3
      obtain ⟨r1, r2, r3⟩ := m1.k6.cells3
      obtain ⟨f1, f2, f3⟩ := m1.k6.frozen3
      go_wp2
      refine bodyPost_ret (v := .tuple #[.agg #[.int .i64 W, .int .i64 h, .slice (some ⟨g, 0, none⟩) N N], .int .i64 0]) (by simp [results, Try.results48, go_sem, r1, r2, r3]) rfl ?_
      refine ⟨_, rfl, ⟨_, rfl, ?_⟩, by have := m1.bl; (repeat (first | exact Below.refl _ _ | assumption | refine Below.drew ?_ | refine below_drewN ?_ _ | refine Below.alloc ?_ (by first | omega | (simp; done) | (simp; omega)) _ | refine Below.setCell ?_ (by first | omega | (simp; done) | (simp; omega)) _ | refine below_setRow ?_ (by first | omega | (simp; done) | (simp; omega)) _ ))⟩
      rw [HH.out, ← HNE.out]
      refine OutImg.mk (by omega) ?_
      rw [HNE.out]
      exact (((m1.kg.u8conv fun i h0 hi => movP_end (h := h) hW1 h0 (by have := HNN.out; omega)).far (by simp; omega) _).far (by simp; omega) _).far (by simp; omega) _

set_option maxHeartbeats 400000 in
theorem moved_bad (W H : Int) (A : Option Addr) (n c : Nat) (p : Int → Int) (k way : Int) (w : World) (hA : ArrB w w.heap.size A n p) (hn : n ≤ maxLen)
    (hw : way = 1 ∨ way = -1) (hE : movE W H n p k way ≠ 0) :
    Calls Try.prog 48 #[.agg #[.int .i64 W, .int .i64 H, .slice A n c], .int .i64 k, .int .i64 way] w
      fun e w' => e = .returned (.tuple #[noImg, .int .i64 (movE W H n p k way)]) ∧ Below w.heap.size w w' := by
  by_cases hc : chk W H n p = 0
  · obtain ⟨hW1, hW2, hH1, hH2, -, -⟩ := chk_ok hc
    by_cases hk : k < -3 ∨ 3 < k
    · have HR : Hid (movE W H n p k way = 1) := by show _ = _; unfold movE; rw [hc]; simp [hk]
      have HC := Lib.hid hc; clear hc hE
      rw [HR.out]
      go_enter Try.func48, Try.ntmps48
      go_wp2_with fail
      refine (check_any W H A n c p _ (hA.to (by (repeat (first | exact Below.refl _ _ | assumption | refine Below.drew ?_ | refine below_drewN ?_ _ | refine Below.alloc ?_ (by first | omega | (simp; done) | (simp; omega)) _ | refine Below.setCell ?_ (by first | omega | (simp; done) | (simp; omega)) _ | refine below_setRow ?_ (by first | omega | (simp; done) | (simp; omega)) _ )))) hn).mono ?_
      rintro e w1 ⟨rfl, hb1⟩
      rw [HC.out]
      have k6 : Blk w1 (w.heap.size + 1) 25 #[.int .i64 0, .int .i64 0, .slice none 0 0] := (Blk.new' (by simp) _ _).below' hb1
      have b1 : Below w.heap.size w w1 := below_call (by (repeat (first | exact Below.refl _ _ | assumption | refine Below.drew ?_ | refine below_drewN ?_ _ | refine Below.alloc ?_ (by first | omega | (simp; done) | (simp; omega)) _ | refine Below.setCell ?_ (by first | omega | (simp; done) | (simp; omega)) _ | refine below_setRow ?_ (by first | omega | (simp; done) | (simp; omega)) _ ))) (by simp; omega) hb1
      obtain ⟨r1, r2, r3⟩ := k6.cells3
      obtain ⟨f1, f2, f3⟩ := k6.frozen3
      go_wp2_with fail
      all_goals
        refine bodyPost_ret (v := .tuple #[noImg, .int .i64 1]) (by simp [results, Try.results48, go_sem, noImg, r1, r2, r3]) rfl ?_
        exact ⟨rfl, by (repeat (first | exact Below.refl _ _ | assumption | refine Below.drew ?_ | refine below_drewN ?_ _ | refine Below.alloc ?_ (by first | omega | (simp; done) | (simp; omega)) _ | refine Below.setCell ?_ (by first | omega | (simp; done) | (simp; omega)) _ | refine below_setRow ?_ (by first | omega | (simp; done) | (simp; omega)) _ ))⟩
    · have hk1 : -3 ≤ k := by omega
      have hk2 : k ≤ 3 := by omega
      obtain ⟨hg1, hg2⟩ := grt_bd hW1 hW2 hk1 hk2
      have hwg : -29 ≤ way * grt W k ∧ way * grt W k ≤ 29 := by rcases hw with rfl | rfl <;> omega
      obtain ⟨hwg1, hwg2⟩ := hwg
      by_cases hh : H + way * grt W k < 0 ∨ 640 < H + way * grt W k
      · have HR : Hid (movE W H n p k way = 2) := by show _ = _; unfold movE; rw [hc, if_neg (by omega), if_neg hk, if_pos hh]
        have HC := Lib.hid hc; clear hc hE hk
        have HE : newE W (H + way * grt W k) ≠ 0 := newE_bad.2 (by omega)
        rw [HR.out]
        go_enter Try.func48, Try.ntmps48
        go_wp2_with fail
        refine (check_any W H A n c p _ (hA.to (by (repeat (first | exact Below.refl _ _ | assumption | refine Below.drew ?_ | refine below_drewN ?_ _ | refine Below.alloc ?_ (by first | omega | (simp; done) | (simp; omega)) _ | refine Below.setCell ?_ (by first | omega | (simp; done) | (simp; omega)) _ | refine below_setRow ?_ (by first | omega | (simp; done) | (simp; omega)) _ )))) hn).mono ?_
        rintro e w1 ⟨rfl, hb1⟩
        rw [HC.out]
        have k3 : Blk w1 w.heap.size 25 #[.int .i64 W, .int .i64 H, .slice A n c] := ((Blk.new _ _ _).alloc _).below' hb1
        have k6 : Blk w1 (w.heap.size + 1) 25 #[.int .i64 0, .int .i64 0, .slice none 0 0] := (Blk.new' (by simp) _ _).below' hb1
        have b1 : Below w.heap.size w w1 := below_call (by (repeat (first | exact Below.refl _ _ | assumption | refine Below.drew ?_ | refine below_drewN ?_ _ | refine Below.alloc ?_ (by first | omega | (simp; done) | (simp; omega)) _ | refine Below.setCell ?_ (by first | omega | (simp; done) | (simp; omega)) _ | refine below_setRow ?_ (by first | omega | (simp; done) | (simp; omega)) _ ))) (by simp; omega) hb1
        have z1 : w.heap.size + 2 ≤ w1.heap.size := by simpa using hb1.size
        clear hb1
        obtain ⟨p1, p2, p3⟩ := k3.cells3
        go_wp2_with fail
        go_quiet ((go_at_call 74; exact qcallN (greatest_any _ _ _ hW1 hW2 hk1 hk2)))
        replace k3 := k3.drewN nq
        replace k6 := k6.drewN nq
        replace b1 := below_drewN b1 nq
        replace z1 : w.heap.size + 2 ≤ (w1.drewN nq).heap.size := z1
        clear p1 p2 p3
        generalize H + way * grt W k = h at *
        generalize w1.drewN nq = w2 at *
        obtain ⟨p1, p2, p3⟩ := k3.cells3
        go_wp2_with fail
        refine (new_bad W h _ HE).mono ?_
        rintro e w3 ⟨rfl, hb3⟩
        unfold noImg
        replace k6 := k6.below' hb3
        replace b1 := below_call b1 (by omega) hb3
        have z3 : w.heap.size + 1 < w3.heap.size := by have := hb3.size; omega
        clear hb3 p1 p2 p3
        obtain ⟨r1, r2, r3⟩ := k6.cells3
        obtain ⟨f1, f2, f3⟩ := k6.frozen3
        go_wp2_with fail
        refine bodyPost_ret (v := .tuple #[noImg, .int .i64 2]) (by simp [results, Try.results48, go_sem, noImg, r1, r2, r3, z3]) rfl ?_
        exact ⟨rfl, by (repeat (first | exact Below.refl _ _ | assumption | refine Below.drew ?_ | refine below_drewN ?_ _ | refine Below.alloc ?_ (by first | omega | (simp; done) | (simp; omega)) _ | refine Below.setCell ?_ (by first | omega | (simp; done) | (simp; omega)) _ | refine below_setRow ?_ (by first | omega | (simp; done) | (simp; omega)) _ ))⟩
      · exfalso; apply hE; unfold movE; rw [hc, if_neg (by omega), if_neg hk, if_neg hh]
  · have HR : Hid (movE W H n p k way = chk W H n p) := by show _ = _; unfold movE; rw [if_pos hc]
    rw [HR.out]
    have CA := fun w' hA' => check_any W H A n c p w' hA' hn
    generalize chk W H n p = z at *
    clear hE HR
    have CA := Lib.hid CA
    go_enter Try.func48, Try.ntmps48
    go_wp2_with fail
    refine (CA.out _ (hA.to (by (repeat (first | exact Below.refl _ _ | assumption | refine Below.drew ?_ | refine below_drewN ?_ _ | refine Below.alloc ?_ (by first | omega | (simp; done) | (simp; omega)) _ | refine Below.setCell ?_ (by first | omega | (simp; done) | (simp; omega)) _ | refine below_setRow ?_ (by first | omega | (simp; done) | (simp; omega)) _ ))))).mono ?_
    rintro e w1 ⟨rfl, hb1⟩
    have k6 : Blk w1 (w.heap.size + 1) 25 #[.int .i64 0, .int .i64 0, .slice none 0 0] := (Blk.new' (by simp) _ _).below' hb1
    have b1 : Below w.heap.size w w1 := below_call (by (repeat (first | exact Below.refl _ _ | assumption | refine Below.drew ?_ | refine below_drewN ?_ _ | refine Below.alloc ?_ (by first | omega | (simp; done) | (simp; omega)) _ | refine Below.setCell ?_ (by first | omega | (simp; done) | (simp; omega)) _ | refine below_setRow ?_ (by first | omega | (simp; done) | (simp; omega)) _ ))) (by simp; omega) hb1
    obtain ⟨r1, r2, r3⟩ := k6.cells3
    obtain ⟨f1, f2, f3⟩ := k6.frozen3
    go_wp2_with fail
    refine bodyPost_ret (v := .tuple #[noImg, .int .i64 z]) (by simp [results, Try.results48, go_sem, noImg, r1, r2, r3]) rfl ?_
    exact ⟨rfl, by (repeat (first | exact Below.refl _ _ | assumption | refine Below.drew ?_ | refine below_drewN ?_ _ | refine Below.alloc ?_ (by first | omega | (simp; done) | (simp; omega)) _ | refine Below.setCell ?_ (by first | omega | (simp; done) | (simp; omega)) _ | refine below_setRow ?_ (by first | omega | (simp; done) | (simp; omega)) _ ))⟩
end Go.Proofs.Ytanbheeekpdkbaa
