/- Walks: Skew and Unskew; the profile of an image; its full rows. -/
import Derived.Test.YtanbheeekpdkbaaW4
namespace Go.Proofs.Ytanbheeekpdkbaa
open Go.RowKit
set_option linter.unusedVariables false

set_option maxHeartbeats 400000 in
theorem skew_ok (W H h : Int) (A : Option Addr) (n c : Nat) (p : Int → Int) (k : Int) (w : World) (hA : ArrB w w.heap.size A n p) (hn : n ≤ maxLen) (hB : IsB p) (hE : movE W H n p k 1 = 0) (hh : h = H + grt W k) :
    Calls Try.prog 12 #[.agg #[.int .i64 W, .int .i64 H, .slice A n c], .int .i64 k] w
      (New w fun v w' => ∃ g, v = .tuple #[g, .int .i64 0] ∧ OutImg w w' W h (movQ W H p k 1) g) := by
  have M := fun w' hA' => moved_ok W H A n c p k 1 w' hA' hn hB (.inl rfl) hE
  rw [show H + 1 * grt W k = h by omega] at M
  clear hE hh
  have M := Lib.hid M
  go_enter Try.func12, Try.ntmps12
  go_wp2_with fail
  refine (M.out _ (hA.to (by (repeat (first | exact Below.refl _ _ | assumption | refine Below.drew ?_ | refine below_drewN ?_ _ | refine Below.alloc ?_ (by first | omega | (simp; done) | (simp; omega)) _ | refine Below.setCell ?_ (by first | omega | (simp; done) | (simp; omega)) _ | refine below_setRow ?_ (by first | omega | (simp; done) | (simp; omega)) _ ))))).mono ?_
  rintro e w1 ⟨_, rfl, ⟨_, rfl, ⟨g, rfl, hg, kg⟩⟩, hb1⟩
  have k6 : Blk w1 (w.heap.size + 1) 25 #[.int .i64 0, .int .i64 0, .slice none 0 0] := (Blk.new' (by simp) _ _).below' hb1
  have b1 : Below w.heap.size w w1 := below_call (by (repeat (first | exact Below.refl _ _ | assumption | refine Below.drew ?_ | refine below_drewN ?_ _ | refine Below.alloc ?_ (by first | omega | (simp; done) | (simp; omega)) _ | refine Below.setCell ?_ (by first | omega | (simp; done) | (simp; omega)) _ | refine below_setRow ?_ (by first | omega | (simp; done) | (simp; omega)) _ ))) (by simp; omega) hb1
  obtain ⟨r1, r2, r3⟩ := k6.cells3
  obtain ⟨f1, f2, f3⟩ := k6.frozen3
  simp only [World.size_alloc] at hg
  go_wp2_with fail
  refine bodyPost_ret (v := .tuple #[.agg #[.int .i64 W, .int .i64 h, .slice (some ⟨g, 0, none⟩) (W * h).toNat (W * h).toNat], .int .i64 0]) (by simp [results, Try.results12, go_sem, r1, r2, r3]) rfl ?_
  exact ⟨_, rfl, ⟨_, rfl, OutImg.mk (by omega) (((kg.far (by simp; omega) _).far (by simp; omega) _).far (by simp; omega) _)⟩, by (repeat (first | exact Below.refl _ _ | assumption | refine Below.drew ?_ | refine below_drewN ?_ _ | refine Below.alloc ?_ (by first | omega | (simp; done) | (simp; omega)) _ | refine Below.setCell ?_ (by first | omega | (simp; done) | (simp; omega)) _ | refine below_setRow ?_ (by first | omega | (simp; done) | (simp; omega)) _ ))⟩

set_option maxHeartbeats 400000 in
theorem unskew_ok (W H h : Int) (A : Option Addr) (n c : Nat) (p : Int → Int) (k : Int) (w : World) (hA : ArrB w w.heap.size A n p) (hn : n ≤ maxLen) (hB : IsB p) (hE : movE W H n p k (-1) = 0) (hh : h = H - grt W k) :
    Calls Try.prog 14 #[.agg #[.int .i64 W, .int .i64 H, .slice A n c], .int .i64 k] w
      (New w fun v w' => ∃ g, v = .tuple #[g, .int .i64 0] ∧ OutImg w w' W h (movQ W H p k (-1)) g) := by
  have M := fun w' hA' => moved_ok W H A n c p k (-1) w' hA' hn hB (.inr rfl) hE
  rw [show H + -1 * grt W k = h by omega] at M
  clear hE hh
  have M := Lib.hid M
  go_enter Try.func14, Try.ntmps14
  go_wp2_with fail
  refine (M.out _ (hA.to (by (repeat (first | exact Below.refl _ _ | assumption | refine Below.drew ?_ | refine below_drewN ?_ _ | refine Below.alloc ?_ (by first | omega | (simp; done) | (simp; omega)) _ | refine Below.setCell ?_ (by first | omega | (simp; done) | (simp; omega)) _ | refine below_setRow ?_ (by first | omega | (simp; done) | (simp; omega)) _ ))))).mono ?_
  rintro e w1 ⟨_, rfl, ⟨_, rfl, ⟨g, rfl, hg, kg⟩⟩, hb1⟩
  have k6 : Blk w1 (w.heap.size + 1) 25 #[.int .i64 0, .int .i64 0, .slice none 0 0] := (Blk.new' (by simp) _ _).below' hb1
  have b1 : Below w.heap.size w w1 := below_call (by (repeat (first | exact Below.refl _ _ | assumption | refine Below.drew ?_ | refine below_drewN ?_ _ | refine Below.alloc ?_ (by first | omega | (simp; done) | (simp; omega)) _ | refine Below.setCell ?_ (by first | omega | (simp; done) | (simp; omega)) _ | refine below_setRow ?_ (by first | omega | (simp; done) | (simp; omega)) _ ))) (by simp; omega) hb1
  obtain ⟨r1, r2, r3⟩ := k6.cells3
  obtain ⟨f1, f2, f3⟩ := k6.frozen3
  simp only [World.size_alloc] at hg
  go_wp2_with fail
  refine bodyPost_ret (v := .tuple #[.agg #[.int .i64 W, .int .i64 h, .slice (some ⟨g, 0, none⟩) (W * h).toNat (W * h).toNat], .int .i64 0]) (by simp [results, Try.results14, go_sem, r1, r2, r3]) rfl ?_
  exact ⟨_, rfl, ⟨_, rfl, OutImg.mk (by omega) (((kg.far (by simp; omega) _).far (by simp; omega) _).far (by simp; omega) _)⟩, by (repeat (first | exact Below.refl _ _ | assumption | refine Below.drew ?_ | refine below_drewN ?_ _ | refine Below.alloc ?_ (by first | omega | (simp; done) | (simp; omega)) _ | refine Below.setCell ?_ (by first | omega | (simp; done) | (simp; omega)) _ | refine below_setRow ?_ (by first | omega | (simp; done) | (simp; omega)) _ ))⟩

set_option maxHeartbeats 400000 in
theorem skew_bad (W H : Int) (A : Option Addr) (n c : Nat) (p : Int → Int) (k z : Int) (w : World) (hA : ArrB w w.heap.size A n p) (hn : n ≤ maxLen) (hE : movE W H n p k 1 = z) (hz : z ≠ 0) :
    Calls Try.prog 12 #[.agg #[.int .i64 W, .int .i64 H, .slice A n c], .int .i64 k] w
      fun e w' => e = .returned (.tuple #[noImg, .int .i64 z]) ∧ Below w.heap.size w w' := by
  have M := fun w' hA' => moved_bad W H A n c p k 1 w' hA' hn (.inl rfl) (by rw [hE]; exact hz)
  rw [hE] at M
  clear hE hz
  have M := Lib.hid M
  go_enter Try.func12, Try.ntmps12
  go_wp2_with fail
  refine (M.out _ (hA.to (by (repeat (first | exact Below.refl _ _ | assumption | refine Below.drew ?_ | refine below_drewN ?_ _ | refine Below.alloc ?_ (by first | omega | (simp; done) | (simp; omega)) _ | refine Below.setCell ?_ (by first | omega | (simp; done) | (simp; omega)) _ | refine below_setRow ?_ (by first | omega | (simp; done) | (simp; omega)) _ ))))).mono ?_
  rintro e w1 ⟨rfl, hb1⟩
  unfold noImg
  have k6 : Blk w1 (w.heap.size + 1) 25 #[.int .i64 0, .int .i64 0, .slice none 0 0] := (Blk.new' (by simp) _ _).below' hb1
  have b1 : Below w.heap.size w w1 := below_call (by (repeat (first | exact Below.refl _ _ | assumption | refine Below.drew ?_ | refine below_drewN ?_ _ | refine Below.alloc ?_ (by first | omega | (simp; done) | (simp; omega)) _ | refine Below.setCell ?_ (by first | omega | (simp; done) | (simp; omega)) _ | refine below_setRow ?_ (by first | omega | (simp; done) | (simp; omega)) _ ))) (by simp; omega) hb1
  obtain ⟨r1, r2, r3⟩ := k6.cells3
  obtain ⟨f1, f2, f3⟩ := k6.frozen3
  go_wp2_with fail
  refine bodyPost_ret (v := .tuple #[noImg, .int .i64 z]) (by simp [results, Try.results12, go_sem, noImg, r1, r2, r3]) rfl ?_
  exact ⟨rfl, by (repeat (first | exact Below.refl _ _ | assumption | refine Below.drew ?_ | refine below_drewN ?_ _ | refine Below.alloc ?_ (by first | omega | (simp; done) | (simp; omega)) _ | refine Below.setCell ?_ (by first | omega | (simp; done) | (simp; omega)) _ | refine below_setRow ?_ (by first | omega | (simp; done) | (simp; omega)) _ ))⟩

set_option maxHeartbeats 400000 in
theorem unskew_bad (W H : Int) (A : Option Addr) (n c : Nat) (p : Int → Int) (k z : Int) (w : World) (hA : ArrB w w.heap.size A n p) (hn : n ≤ maxLen) (hE : movE W H n p k (-1) = z) (hz : z ≠ 0) :
    Calls Try.prog 14 #[.agg #[.int .i64 W, .int .i64 H, .slice A n c], .int .i64 k] w
      fun e w' => e = .returned (.tuple #[noImg, .int .i64 z]) ∧ Below w.heap.size w w' := by
  have M := fun w' hA' => moved_bad W H A n c p k (-1) w' hA' hn (.inr rfl) (by rw [hE]; exact hz)
  rw [hE] at M
  clear hE hz
  have M := Lib.hid M
  go_enter Try.func14, Try.ntmps14
  go_wp2_with fail
  refine (M.out _ (hA.to (by (repeat (first | exact Below.refl _ _ | assumption | refine Below.drew ?_ | refine below_drewN ?_ _ | refine Below.alloc ?_ (by first | omega | (simp; done) | (simp; omega)) _ | refine Below.setCell ?_ (by first | omega | (simp; done) | (simp; omega)) _ | refine below_setRow ?_ (by first | omega | (simp; done) | (simp; omega)) _ ))))).mono ?_
  rintro e w1 ⟨rfl, hb1⟩
  unfold noImg
  have k6 : Blk w1 (w.heap.size + 1) 25 #[.int .i64 0, .int .i64 0, .slice none 0 0] := (Blk.new' (by simp) _ _).below' hb1
  have b1 : Below w.heap.size w w1 := below_call (by (repeat (first | exact Below.refl _ _ | assumption | refine Below.drew ?_ | refine below_drewN ?_ _ | refine Below.alloc ?_ (by first | omega | (simp; done) | (simp; omega)) _ | refine Below.setCell ?_ (by first | omega | (simp; done) | (simp; omega)) _ | refine below_setRow ?_ (by first | omega | (simp; done) | (simp; omega)) _ ))) (by simp; omega) hb1
  obtain ⟨r1, r2, r3⟩ := k6.cells3
  obtain ⟨f1, f2, f3⟩ := k6.frozen3
  go_wp2_with fail
  refine bodyPost_ret (v := .tuple #[noImg, .int .i64 z]) (by simp [results, Try.results14, go_sem, noImg, r1, r2, r3]) rfl ?_
  exact ⟨rfl, by (repeat (first | exact Below.refl _ _ | assumption | refine Below.drew ?_ | refine below_drewN ?_ _ | refine Below.alloc ?_ (by first | omega | (simp; done) | (simp; omega)) _ | refine Below.setCell ?_ (by first | omega | (simp; done) | (simp; omega)) _ | refine below_setRow ?_ (by first | omega | (simp; done) | (simp; omega)) _ ))⟩
end Go.Proofs.Ytanbheeekpdkbaa
