/- Walks: the profile of an image; its full rows. -/
import Derived.Test.YtdimlpcbbkokiaaW5
import Derived.RegionTactic
import Derived.Deep.DeepCutAuto
import Derived.Deep.Cut
namespace Go.Proofs.Ytdimlpcbbkokiaa
open Go.RowKit
set_option linter.unusedVariables false

def rowS (W : Int) (n : Nat) (p : Int → Int) (y : Int) : Int := sumN n fun j => if j / W = y then p j else 0
def colS (W : Int) (n : Nat) (p : Int → Int) (x : Int) : Int := sumN n fun j => if j % W = x then p j else 0

theorem rowS_bd {W : Int} {n : Nat} {p : Int → Int} (hB : IsB p) (h : ∀ i : Int, 0 ≤ i → i < n → p i ≤ 1) (y : Int) : 0 ≤ rowS W n p y ∧ rowS W n p y ≤ n := by
  have := sumN_bd (n := n) (f := fun j => if j / W = y then p j else 0) (m := 1) (fun i a b => by
    have := hB i; have := h i a b
    show 0 ≤ (if i / W = y then p i else 0) ∧ (if i / W = y then p i else 0) ≤ 1
    split <;> omega)
  unfold rowS; omega
theorem colS_bd {W : Int} {n : Nat} {p : Int → Int} (hB : IsB p) (h : ∀ i : Int, 0 ≤ i → i < n → p i ≤ 1) (y : Int) : 0 ≤ colS W n p y ∧ colS W n p y ≤ n := by
  have := sumN_bd (n := n) (f := fun j => if j % W = y then p j else 0) (m := 1) (fun i a b => by
    have := hB i; have := h i a b
    show 0 ≤ (if i % W = y then p i else 0) ∧ (if i % W = y then p i else 0) ≤ 1
    split <;> omega)
  unfold colS; omega
theorem rowS_step {W : Int} {k : Nat} {p : Int → Int} (y : Int) : upd (rowS W k p) (k / W) (rowS W k p (k / W) + p k) y = rowS W (k + 1) p y := by
  show (if y = k / W then _ else _) = sumN (k + 1) _
  rw [sumN]
  by_cases e : y = k / W
  · subst e; rw [if_pos rfl, if_pos rfl]; rfl
  · rw [if_neg e, if_neg (fun h => e h.symm)]; simp [rowS]
theorem colS_step {W : Int} {k : Nat} {p : Int → Int} (y : Int) : upd (colS W k p) (k % W) (colS W k p (k % W) + p k) y = colS W (k + 1) p y := by
  show (if y = k % W then _ else _) = sumN (k + 1) _
  rw [sumN]
  by_cases e : y = k % W
  · subst e; rw [if_pos rfl, if_pos rfl]; rfl
  · rw [if_neg e, if_neg (fun h => e h.symm)]; simp [colS]

set_option maxRecDepth 100000 in
set_option maxHeartbeats 1000000 in
theorem profile_ok (W H : Int) (A : Option Addr) (n c : Nat) (p : Int → Int) (w : World) (hA : ArrB w w.heap.size A n p) (hn : n ≤ maxLen) (hB : IsB p) (hE : chk W H n p = 0) :
    Calls Try.prog 26 #[.agg #[.int .i64 W, .int .i64 H, .slice A n c]] w
      (New w fun v w' => ∃ g1 g2, v = .tuple #[.slice (some ⟨g1, 0, none⟩) H.toNat H.toNat, .slice (some ⟨g2, 0, none⟩) W.toNat W.toNat, .int .i64 0] ∧ w.heap.size ≤ g1 ∧ w.heap.size ≤ g2 ∧ g1 ≠ g2 ∧
        Blk w' g1 3 (i64s H.toNat (rowS W n p)) ∧ Blk w' g2 3 (i64s W.toNat (colS W n p))) := by
  obtain ⟨hW1, hW2, hH1, hH2, hnn, hp⟩ := chk_ok hE
  have HC := Lib.hid hE
  have hn4 : n ≤ 409600 := by have := (area_bd hW1 hW2 hH1 hH2).2; omega
  have HN := Lib.hid hnn
  clear hE hnn
  have hmk1 := makeI H hH1 (by omega)
  have hmk2 := makeI W hW1 (by omega)
  go_enter Try.func26, Try.ntmps26
  go_wp2_with fail
  refine (check_any W H A n c p _ (hA.to (by (repeat (first | exact Below.refl _ _ | assumption | refine Below.drew ?_ | refine below_drewN ?_ _ | refine Below.alloc ?_ (by first | omega | (simp; done) | (simp; omega)) _ | refine Below.setCell ?_ (by first | omega | (simp; done) | (simp; omega)) _ | refine below_setRow ?_ (by first | omega | (simp; done) | (simp; omega)) _ )))) hn).mono ?_
  rintro e w1 ⟨rfl, hb1⟩
  rw [HC.out]
  have k1 : Blk w1 w.heap.size 24 #[.int .i64 W, .int .i64 H, .slice A n c] := (Blk.new _ _ _).below' hb1
  have z1 : w.heap.size < w1.heap.size := by have := hb1.size; simp at this; omega
  have b1 : Below w.heap.size w w1 := below_call (by (repeat (first | exact Below.refl _ _ | assumption | refine Below.drew ?_ | refine below_drewN ?_ _ | refine Below.alloc ?_ (by first | omega | (simp; done) | (simp; omega)) _ | refine Below.setCell ?_ (by first | omega | (simp; done) | (simp; omega)) _ | refine below_setRow ?_ (by first | omega | (simp; done) | (simp; omega)) _ ))) (by simp; try omega) hb1
  obtain ⟨p1, p2, p3⟩ := k1.cells3
  clear hb1
  go_upto_region 4 with fail
  go_cut [2, 3] (fun a b wx => ∃ g1 g2, a = .slice (some ⟨g1, 0, none⟩) H.toNat H.toNat ∧ b = .slice (some ⟨g2, 0, none⟩) W.toNat W.toNat ∧ g1 ≠ g2 ∧ w1.heap.size ≤ g1 ∧ w1.heap.size ≤ g2 ∧
    Blk wx g1 3 (i64s H.toNat (fun _ => 0)) ∧ Blk wx g2 3 (i64s W.toNat (fun _ => 0)) ∧ Below w1.heap.size w1 wx)
  case first =>
    go_region
    · go_wp2_with fail
      go_meet
      exact ⟨w1.heap.size, w1.heap.size + 1, rfl, rfl, by omega, by omega, by omega, ((Blk.new _ _ _).alloc _).drew, (Blk.new' (by simp) _ _).drew, by (repeat (first | exact Below.refl _ _ | assumption | refine Below.drew ?_ | refine below_drewN ?_ _ | refine Below.alloc ?_ (by first | omega | (simp; done) | (simp; omega)) _ | refine Below.setCell ?_ (by first | omega | (simp; done) | (simp; omega)) _ | refine below_setRow ?_ (by first | omega | (simp; done) | (simp; omega)) _ ))⟩
    · go_wp2_with fail
      go_meet
      exact ⟨w1.heap.size + 1, w1.heap.size, rfl, rfl, by omega, by omega, by omega, (Blk.new' (by simp) _ _).drew, ((Blk.new _ _ _).alloc _).drew, by (repeat (first | exact Below.refl _ _ | assumption | refine Below.drew ?_ | refine below_drewN ?_ _ | refine Below.alloc ?_ (by first | omega | (simp; done) | (simp; omega)) _ | refine Below.setCell ?_ (by first | omega | (simp; done) | (simp; omega)) _ | refine below_setRow ?_ (by first | omega | (simp; done) | (simp; omega)) _ ))⟩
  case rest =>
    obtain ⟨g1, g2, rfl, rfl, hne, hg1, hg2, kg1, kg2, hb2⟩ := hcut
    have k1 := k1.below' hb2
    have b1 := below_call b1 (by omega) hb2
    clear hb2 p1 p2 p3 hmk1 hmk2
    obtain ⟨p1, p2, p3⟩ := k1.cells3
    go_wp2
    go_loopw [22] (fun s wr => ∃ i : Nat, i ≤ n ∧ s = .int .i64 i ∧ Below w.heap.size w wr ∧ Blk wr w.heap.size 24 #[.int .i64 W, .int .i64 H, .slice A n c] ∧
      Blk wr g1 3 (i64s H.toNat (rowS W i p)) ∧ Blk wr g2 3 (i64s W.toNat (colS W i p))) (fun s _ => n - (intOf s).toNat)
    case atStart => exact ⟨0, by omega, rfl, b1, k1, kg1, kg2⟩
    case round =>
      obtain ⟨i, hi, rfl, b2, k2, kr, kc⟩ := hrel
      clear p1 p2 p3 k1 b1 kg1 kg2
      obtain ⟨p1, p2, p3⟩ := k2.cells3
      by_cases hlt : i < n
      · have hi0 : (0 : Int) ≤ i := by omega
        have hiN : (i : Int) < n := by omega
        have hWp : 0 < W := by
          rcases Int.lt_or_le 0 W with h | h
          · exact h
          · have e : W = 0 := by omega
            have := HN.out; rw [e] at this; simp at this; omega
        have hW0 : ¬ W = 0 := by omega
        obtain ⟨_, _, hx0, hx, hy0, hy, -, rfl, rfl⟩ := idx_of hi0 hWp (H := H) (by have := HN.out; rw [Int.mul_comm] at this; omega)
        have SR := Lib.hid (fun y => rowS_step (W := W) (k := i) (p := p) y)
        have SC := Lib.hid (fun y => colS_step (W := W) (k := i) (p := p) y)
        have hr := kr.i64at hy0 (by omega)
        have hc := kc.i64at hx0 (by omega)
        have fr := kr.frozen (↑i / W).toNat
        have fc := kc.frozen (↑i % W).toNat
        obtain ⟨br1, br2⟩ := rowS_bd (W := W) (n := i) hB (fun j a b => hp j a (by omega)) (↑i / W)
        obtain ⟨bc1, bc2⟩ := colS_bd (W := W) (n := i) hB (fun j a b => hp j a (by omega)) (↑i % W)
        obtain ⟨pb1, pb2⟩ := hB i
        obtain ⟨b, off, rfl, hbB, hcell⟩ := ArrB.at_ (ArrB.below hA b2) hi0 hiN
        rw [Int.toNat_natCast] at hcell
        have UR := Lib.hid (kr.i64set _ hy0 (rowS W i p (↑i / W) + p i))
        have hp1 := hp i hi0 hiN
        go_wp2
        go_roundw
        case rel =>
          refine ⟨i + 1, by omega, by go_num, by (repeat (first | exact Below.refl _ _ | assumption | refine Below.drew ?_ | refine below_drewN ?_ _ | refine Below.alloc ?_ (by first | omega | (simp; done) | (simp; omega)) _ | refine Below.setCell ?_ (by first | omega | (simp; done) | (simp; omega)) _ | refine below_setRow ?_ (by first | omega | (simp; done) | (simp; omega)) _ )), (k2.far (by simp; omega) _).far (by simp; omega) _, ?_, ?_⟩
          · exact (UR.out.far (by simpa using hne) _).i64conv fun y _ _ => SR.out y
          · exact ((kc.far (by simpa using hne.symm) _).i64set _ hx0 _).i64conv fun y _ _ => SC.out y
        case measure => simp [intOf]; omega
      · obtain rfl : i = n := by omega
        go_wp2
        go_ret3
        exact ⟨_, rfl, ⟨g1, g2, rfl, by omega, by omega, hne, kr, kc⟩, b2⟩

set_option maxHeartbeats 400000 in
theorem profile_bad (W H : Int) (A : Option Addr) (n c : Nat) (p : Int → Int) (z : Int) (w : World) (hA : ArrB w w.heap.size A n p) (hn : n ≤ maxLen) (hE : chk W H n p = z) (hz : z ≠ 0) :
    Calls Try.prog 26 #[.agg #[.int .i64 W, .int .i64 H, .slice A n c]] w
      fun e w' => e = .returned (.tuple #[.slice none 0 0, .slice none 0 0, .int .i64 z]) ∧ Below w.heap.size w w' := by
  have CA := fun w' hA' => check_any W H A n c p w' hA' hn
  rw [hE] at CA
  clear hE
  have CA := Lib.hid CA
  go_enter Try.func26, Try.ntmps26
  go_wp2_with fail
  refine (CA.out _ (hA.to (by (repeat (first | exact Below.refl _ _ | assumption | refine Below.drew ?_ | refine below_drewN ?_ _ | refine Below.alloc ?_ (by first | omega | (simp; done) | (simp; omega)) _ | refine Below.setCell ?_ (by first | omega | (simp; done) | (simp; omega)) _ | refine below_setRow ?_ (by first | omega | (simp; done) | (simp; omega)) _ ))))).mono ?_
  rintro e w1 ⟨rfl, hb1⟩
  have b1 : Below w.heap.size w w1 := below_call (by (repeat (first | exact Below.refl _ _ | assumption | refine Below.drew ?_ | refine below_drewN ?_ _ | refine Below.alloc ?_ (by first | omega | (simp; done) | (simp; omega)) _ | refine Below.setCell ?_ (by first | omega | (simp; done) | (simp; omega)) _ | refine below_setRow ?_ (by first | omega | (simp; done) | (simp; omega)) _ ))) (by simp; try omega) hb1
  go_wp2_with fail
  go_ret3
  exact ⟨rfl, b1⟩

/-- how many of the first m rows are full -/
def fullP (W : Int) (n : Nat) (p : Int → Int) (m : Nat) : Int := if 0 < W then sumN m (fun y => if rowS W n p y = W then 1 else 0) else 0
def fullS (W H : Int) (n : Nat) (p : Int → Int) : Int := fullP W n p H.toNat
theorem fullP_bd (W : Int) (n m : Nat) (p : Int → Int) : 0 ≤ fullP W n p m ∧ fullP W n p m ≤ m := by
  have := sumN_bd (n := m) (f := fun y => if rowS W n p y = W then 1 else 0) (m := 1) (fun i a b => by
    show 0 ≤ (if rowS W n p i = W then (1 : Int) else 0) ∧ (if rowS W n p i = W then (1 : Int) else 0) ≤ 1
    split <;> omega)
  unfold fullP
  split <;> omega
theorem fullP_yes {W : Int} {n m : Nat} {p : Int → Int} (h : 0 < W) (e : rowS W n p m = W) : fullP W n p (m + 1) = fullP W n p m + 1 := by
  unfold fullP; rw [if_pos h, if_pos h, sumN, if_pos e]
theorem fullP_no {W : Int} {n m : Nat} {p : Int → Int} (h : ¬ (0 < W ∧ rowS W n p m = W)) : fullP W n p (m + 1) = fullP W n p m := by
  unfold fullP
  by_cases hW : 0 < W
  · rw [if_pos hW, if_pos hW, sumN, if_neg (fun e => h ⟨hW, e⟩)]; simp
  · rw [if_neg hW, if_neg hW]

end Go.Proofs.Ytdimlpcbbkokiaa
