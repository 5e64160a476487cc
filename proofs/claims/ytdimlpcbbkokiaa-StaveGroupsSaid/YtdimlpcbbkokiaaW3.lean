/- Walks: new images; the drops of the columns. -/
import Derived.Test.YtdimlpcbbkokiaaW2
namespace Go.Proofs.Ytdimlpcbbkokiaa
open Go.RowKit
set_option linter.unusedVariables false

theorem infoU8 : (Try.prog.info? 5).map (fun i => (i.zero, i.size, i.bytes)) = some (some (.int .u8 0), 1, 1) := by kernel_rfl
theorem infoInt : (Try.prog.info? 3).map (fun i => (i.zero, i.size, i.bytes)) = some (some (.int .i64 0), 1, 8) := by kernel_rfl
theorem makeB (n : Int) (h0 : 0 ≤ n) (h : n ≤ 140737488355328) (w : World) : (Instr.makeSlice 22 (.int .i64 n) (.int .i64 n)).run Try.prog w =
    .ok (.slice (some ⟨w.heap.size, 0, none⟩) n.toNat n.toNat) (w.alloc (.cells (u8s n.toNat (fun _ => 0)) 5)) := by
  obtain ⟨i, hi, hz, hs, hb⟩ := info_parts infoU8
  have := run_make (P := Try.prog) w 22 5 i _ Try.underlying22 hi hz .i64 .i64 n n h0 (Int.le_refl _) (by rw [hb]; omega) (by omega)
  rw [this, hs]
  have e : madeCells (Value.int .u8 0).cells (n.toNat * 1) = u8s n.toNat (fun _ => 0) := by
    rw [← u8s_zero]
    apply Array.ext_getElem?
    intro j
    simp only [madeCells, Value.cells, Nat.mul_one]
    by_cases hj : j < n.toNat <;> simp [hj, Nat.mod_one]
  rw [e]
theorem makeI (n : Int) (h0 : 0 ≤ n) (h : n ≤ 17592186044416) (w : World) : (Instr.makeSlice 25 (.int .i64 n) (.int .i64 n)).run Try.prog w =
    .ok (.slice (some ⟨w.heap.size, 0, none⟩) n.toNat n.toNat) (w.alloc (.cells (i64s n.toNat (fun _ => 0)) 3)) := by
  obtain ⟨i, hi, hz, hs, hb⟩ := info_parts infoInt
  have := run_make (P := Try.prog) w 25 3 i _ Try.underlying25 hi hz .i64 .i64 n n h0 (Int.le_refl _) (by rw [hb]; omega) (by omega)
  rw [this, hs]
  have e : madeCells (Value.int .i64 0).cells (n.toNat * 1) = i64s n.toNat (fun _ => 0) := by
    rw [← i64s_zero]
    apply Array.ext_getElem?
    intro j
    simp only [madeCells, Value.cells, Nat.mul_one]
    by_cases hj : j < n.toNat <;> simp [hj, Nat.mod_one]
  rw [e]

def New (w : World) (R : Value → World → Prop) (e : Ending) (w' : World) : Prop := ∃ v, e = .returned v ∧ R v w' ∧ Below w.heap.size w w'

set_option maxHeartbeats 400000 in
theorem blank_any (W H : Int) (w : World) (h1 : 0 ≤ W) (h2 : W ≤ 640) (h3 : 0 ≤ H) (h4 : H ≤ 640) :
    Calls Try.prog 109 #[.int .i64 W, .int .i64 H] w (New w fun v w' => OutImg w w' W H (fun _ => 0) v) := by
  obtain ⟨m1, m2⟩ := area_bd h1 h2 h3 h4
  have hmk := makeB (W * H) m1 (by omega)
  go_enter Try.func109, Try.ntmps109
  go_wp2
  refine bodyPost_ret (v := .agg #[.int .i64 W, .int .i64 H, .slice (some ⟨w.heap.size + 1, 0, none⟩) (W * H).toNat (W * H).toNat]) (by simp [results, Try.results109, go_sem]) rfl ?_
  exact ⟨_, rfl, OutImg.mk (by omega) (Blk.new' (by simp) _ _), by (repeat (first | exact Below.refl _ _ | assumption | refine Below.drew ?_ | refine below_drewN ?_ _ | refine Below.alloc ?_ (by first | omega | (simp; done) | (simp; omega)) _ | refine Below.setCell ?_ (by first | omega | (simp; done) | (simp; omega)) _ | refine below_setRow ?_ (by first | omega | (simp; done) | (simp; omega)) _ ))⟩

def newE (W H : Int) : Int := if W < 0 ∨ 640 < W ∨ H < 0 ∨ 640 < H then 2 else 0
theorem newE_bad {W H : Int} : newE W H ≠ 0 ↔ (W < 0 ∨ 640 < W ∨ H < 0 ∨ 640 < H) := by unfold newE; split <;> simp_all
theorem newE_ok {W H : Int} : newE W H = 0 ↔ (0 ≤ W ∧ W ≤ 640 ∧ 0 ≤ H ∧ H ≤ 640) := by unfold newE; split <;> simp_all <;> omega

set_option maxHeartbeats 400000 in
theorem new_ok (W H : Int) (w : World) (h1 : 0 ≤ W) (h2 : W ≤ 640) (h3 : 0 ≤ H) (h4 : H ≤ 640) :
    Calls Try.prog 84 #[.int .i64 W, .int .i64 H] w (New w fun v w' => ∃ g, v = .tuple #[g, .int .i64 0] ∧ OutImg w w' W H (fun _ => 0) g) := by
  go_enter Try.func84, Try.ntmps84
  go_wp2_with (go_at_call 109; refine (blank_any W H _ h1 h2 h3 h4).mono ?_; rintro e w1 ⟨_, rfl, ⟨g, rfl, hg, hb⟩, hbl⟩; have hc := (Blk.new w 24 #[.int .i64 0, .int .i64 0, .slice none 0 0]).below' hbl; obtain ⟨c1, c2, c3⟩ := hc.cells3; obtain ⟨d1, d2, d3⟩ := hc.frozen3)
  refine bodyPost_ret (v := .tuple #[.agg #[.int .i64 W, .int .i64 H, .slice (some ⟨g, 0, none⟩) (W * H).toNat (W * H).toNat], .int .i64 0]) (by simp [results, Try.results84, go_sem, c1, c2, c3]) rfl ?_
  rw [World.size_alloc] at hg
  refine ⟨_, rfl, ⟨_, rfl, OutImg.mk (by omega) (((hb.far (by simp; omega) _).far (by simp; omega) _).far (by simp; omega) _)⟩, ?_⟩
  have hbl' : Below w.heap.size w w1 := below_call (by (repeat (first | exact Below.refl _ _ | assumption | refine Below.drew ?_ | refine below_drewN ?_ _ | refine Below.alloc ?_ (by first | omega | (simp; done) | (simp; omega)) _ | refine Below.setCell ?_ (by first | omega | (simp; done) | (simp; omega)) _ | refine below_setRow ?_ (by first | omega | (simp; done) | (simp; omega)) _ ))) (by simp) hbl
  (repeat (first | exact Below.refl _ _ | assumption | refine Below.drew ?_ | refine below_drewN ?_ _ | refine Below.alloc ?_ (by first | omega | (simp; done) | (simp; omega)) _ | refine Below.setCell ?_ (by first | omega | (simp; done) | (simp; omega)) _ | refine below_setRow ?_ (by first | omega | (simp; done) | (simp; omega)) _ ))
set_option maxHeartbeats 400000 in
theorem new_bad (W H : Int) (w : World) (h : newE W H ≠ 0) :
    Calls Try.prog 84 #[.int .i64 W, .int .i64 H] w fun e w' => e = .returned (.tuple #[noImg, .int .i64 2]) ∧ Below w.heap.size w w' := by
  rw [newE_bad] at h
  go_enter Try.func84, Try.ntmps84
  go_wp2_with fail
  all_goals
    refine bodyPost_ret (v := .tuple #[noImg, .int .i64 2]) (by simp [results, Try.results84, go_sem, noImg]) rfl ?_
    exact ⟨rfl, by (repeat (first | exact Below.refl _ _ | assumption | refine Below.drew ?_ | refine below_drewN ?_ _ | refine Below.alloc ?_ (by first | omega | (simp; done) | (simp; omega)) _ | refine Below.setCell ?_ (by first | omega | (simp; done) | (simp; omega)) _ | refine below_setRow ?_ (by first | omega | (simp; done) | (simp; omega)) _ ))⟩

/-- the drop of a column -/
def dropI (w k x : Int) : Int := (if k < 0 then (w - 1 - x) * (-k) else x * k) / 64
def grt (W k : Int) : Int := (if W ≤ 1 then 0 else W - 1) * (if k < 0 then -k else k) / 64

theorem mul_bd {a b m n : Int} (h0 : 0 ≤ a) (h1 : a ≤ m) (k0 : 0 ≤ b) (k1 : b ≤ n) : 0 ≤ a * b ∧ a * b ≤ m * n :=
  ⟨Int.mul_nonneg h0 k0, Int.mul_le_mul h1 k1 k0 (by omega)⟩
theorem grt_bd {W k : Int} (h1 : 0 ≤ W) (h2 : W ≤ 640) (h3 : -3 ≤ k) (h4 : k ≤ 3) : 0 ≤ grt W k ∧ grt W k ≤ 29 := by
  unfold grt
  have := mul_bd (a := if W ≤ 1 then 0 else W - 1) (b := if k < 0 then -k else k) (m := 639) (n := 3) (by split <;> omega) (by split <;> omega) (by split <;> omega) (by split <;> omega)
  omega
theorem drop_bd {W k x : Int} (h2 : W ≤ 640) (h3 : -3 ≤ k) (h4 : k ≤ 3) (h5 : 0 ≤ x) (h6 : x < W) : 0 ≤ dropI W k x ∧ dropI W k x ≤ 29 := by
  unfold dropI
  split
  · have := mul_bd (a := W - 1 - x) (b := -k) (m := 639) (n := 3) (by omega) (by omega) (by omega) (by omega)
    omega
  · have := mul_bd (a := x) (b := k) (m := 639) (n := 3) (by omega) (by omega) (by omega) (by omega)
    omega

def zeros640 : Array Value := i64s 640 (fun _ => 0)
theorem upd_drop (W k x j : Int) : upd (fun j => if j < x then dropI W k j else 0) x (dropI W k x) j = if j < x + 1 then dropI W k j else 0 := by
  show (if j = x then _ else (if j < x then _ else _)) = _
  by_cases e : j = x
  · subst e; rw [if_pos rfl, if_pos (by omega)]
  · by_cases e' : j < x
    · rw [if_neg e, if_pos e', if_pos (by omega)]
    · rw [if_neg e, if_neg e', if_neg (by omega)]

end Go.Proofs.Ytdimlpcbbkokiaa
