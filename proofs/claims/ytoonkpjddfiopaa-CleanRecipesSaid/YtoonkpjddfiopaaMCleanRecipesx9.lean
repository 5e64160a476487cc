/- Texts of mine in build order: I7, C14. Conditions: each theorem's own. -/
import Derived.Test.YtoonkpjddfiopaaMCleanRecipesx8
import Derived.BigQuiet
import Derived.Deep.QuietTactic
import Derived.Deep.DeepCutAuto
import Derived.Deep.Cut
import Derived.Deep.CutBlock
/- Walk: the reference's near. -/
namespace Go.Proofs.Ytoonkpjddfiopaa
open Go.RowKit
set_option linter.unusedVariables false
attribute [local go_sem] Oper.semAt_some
/-- neighbours, by the differences of their columns and rows -/
def nearB (x y : Int) (e : Bool) : Bool := !(decide (x < -1) || decide (1 < x) || decide (y < -1) || decide (1 < y)) && (e || decide (x = 0) || decide (y = 0))
set_option maxRecDepth 100000 in
set_option maxHeartbeats 4000000 in
theorem near_any (a1 a2 b1 b2 : Int) (e : Bool) (w : World) (h1 : -1000000 ≤ a1 ∧ a1 ≤ 1000000) (h2 : -1000000 ≤ a2 ∧ a2 ≤ 1000000) (h3 : -1000000 ≤ b1 ∧ b1 ≤ 1000000) (h4 : -1000000 ≤ b2 ∧ b2 ≤ 1000000) :
    Calls Try.prog 74 #[.agg #[.int .i64 a1, .int .i64 a2], .agg #[.int .i64 b1, .int .i64 b2], .bool e] w fun ee w' => ee = .returned (.bool (nearB (a1 - b1) (a2 - b2) e)) ∧ Below w.heap.size w w' := by
  obtain ⟨x, hx⟩ : ∃ x, a1 - b1 = x := ⟨_, rfl⟩
  obtain ⟨y, hy⟩ : ∃ y, a2 - b2 = y := ⟨_, rfl⟩
  have v1 : IntKind.i64.wrap (a1 - b1) = x := (IntWalk.i64_in _ (by omega)).trans hx
  have v2 : IntKind.i64.wrap (a2 - b2) = y := (IntWalk.i64_in _ (by omega)).trans hy
  rw [hx, hy]
  have k1 : Blk ((w.alloc (.cells #[.int .i64 a1, .int .i64 a2] 97)).alloc (.cells #[.int .i64 b1, .int .i64 b2] 97)) w.heap.size 97 #[.int .i64 a1, .int .i64 a2] := (Blk.new _ _ _).alloc _
  have k2 : Blk ((w.alloc (.cells #[.int .i64 a1, .int .i64 a2] 97)).alloc (.cells #[.int .i64 b1, .int .i64 b2] 97)) (w.heap.size + 1) 97 #[.int .i64 b1, .int .i64 b2] := Blk.new' (by simp) _ _
  have b0 : Below w.heap.size w ((w.alloc (.cells #[.int .i64 a1, .int .i64 a2] 97)).alloc (.cells #[.int .i64 b1, .int .i64 b2] 97)) := by (repeat (first | exact Below.refl _ _ | assumption | refine Below.drew ?_ | refine below_drewN ?_ _ | refine Below.alloc ?_ (by first | omega | (simp; done) | (simp; omega)) _ | refine Below.setCell ?_ (by first | omega | (simp; done) | (simp; omega)) _ | refine below_setRow ?_ (by first | omega | (simp; done) | (simp; omega)) _ ))
  clear hx hy h1 h2 h3 h4
  go_enter Try.func74, Try.ntmps74
  go_wp2_with fail
  obtain ⟨p1, p2⟩ := k1.cells2
  obtain ⟨p3, p4⟩ := k2.cells2
  generalize (w.alloc (.cells #[.int .i64 a1, .int .i64 a2] 97)).alloc (.cells #[.int .i64 b1, .int .i64 b2] 97) = w1 at *
  go_quiet (fail)
  clear p1 p2 p3 p4 k1 k2 v1 v2
  by_cases c1 : x < -1
  · have hr : nearB x y e = false := by simp [nearB, c1]
    go_wp2_with fail
    go_ret
    exact ⟨by first | rfl | (rw [hr]; rfl), below_drewN b0 _⟩
  · by_cases c2 : 1 < x
    · have hr : nearB x y e = false := by simp [nearB, c2]
      go_wp2_with fail
      go_ret
      exact ⟨by first | rfl | (rw [hr]; rfl), below_drewN b0 _⟩
    · by_cases c3 : y < -1
      · have hr : nearB x y e = false := by simp [nearB, c3]
        go_wp2_with fail
        go_ret
        exact ⟨by first | rfl | (rw [hr]; rfl), below_drewN b0 _⟩
      · by_cases c4 : 1 < y
        · have hr : nearB x y e = false := by simp [nearB, c4]
          go_wp2_with fail
          go_ret
          exact ⟨by first | rfl | (rw [hr]; rfl), below_drewN b0 _⟩
        · cases e with
          | true =>
            have hr : nearB x y true = true := by simp [nearB, c1, c2, c3, c4]
            go_wp2_with fail
            go_ret
            exact ⟨by first | rfl | (rw [hr]; rfl), below_drewN b0 _⟩
          | false =>
            by_cases x0 : x = 0
            · subst x0
              have hr : nearB 0 y false = true := by simp [nearB, c3, c4]
              go_wp2_with fail
              go_ret
              exact ⟨by first | rfl | (rw [hr]; rfl), below_drewN b0 _⟩
            · have hx0 : (x == 0) = false := by simp [x0]
              by_cases y0 : y = 0
              · subst y0
                have hr : nearB x 0 false = true := by simp [nearB, c1, c2]
                go_wp2_with fail
                go_ret
                exact ⟨by first | rfl | (rw [hr]; rfl), below_drewN b0 _⟩
              · have hy0 : (y == 0) = false := by simp [y0]
                have hr : nearB x y false = false := by simp [nearB, x0, y0]
                go_wp2_with fail
                go_ret
                exact ⟨by first | rfl | (rw [hr]; rfl), below_drewN b0 _⟩
/-- nearby, and not the same: neighbours of the grid -/
theorem near_adj {W i j : Nat} {e : Bool} (hne : i ≠ j) : nearB (((i % W : Nat) : Int) - ((j % W : Nat) : Int)) (((i / W : Nat) : Int) - ((j / W : Nat) : Int)) e = true ↔ AdjN W e i j := by
  unfold nearB AdjN
  push_cast
  simp only [Bool.and_eq_true, Bool.not_eq_true', Bool.or_eq_false_iff, Bool.or_eq_true, decide_eq_true_eq, decide_eq_false_iff_not]
  generalize (i : Int) % (W : Int) = a
  generalize (j : Int) % (W : Int) = b
  generalize (i : Int) / (W : Int) = c
  generalize (j : Int) / (W : Int) = d
  constructor
  · rintro ⟨⟨⟨⟨h1, h2⟩, h3⟩, h4⟩, h5⟩
    refine ⟨hne, by omega, by omega, by omega, by omega, ?_⟩
    rcases h5 with (h5 | h5) | h5
    · exact .inl h5
    · exact .inr (.inl (by omega))
    · exact .inr (.inr (by omega))
  · rintro ⟨-, h1, h2, h3, h4, h5⟩
    refine ⟨⟨⟨⟨by omega, by omega⟩, by omega⟩, by omega⟩, ?_⟩
    rcases h5 with h5 | h5 | h5
    · exact .inl (.inl h5)
    · exact .inl (.inr (by omega))
    · exact .inr (by omega)
end Go.Proofs.Ytoonkpjddfiopaa

/- Plain: a pass over all pairs of neighbours. No program in sight. -/
namespace Go.Proofs.Ytoonkpjddfiopaa
set_option linter.unusedVariables false
/-- the pairs of S are in order -/
def Pd (n W : Nat) (e : Bool) (p num : Int → Int) (S : Nat → Nat → Prop) : Prop := ∀ i j : Nat, InkN n p i → InkN n p j → AdjN W e i j → S i j → num i ≤ num j
structure Pass (n W : Nat) (e : Bool) (p num0 : Int → Int) (b : Bool) (num : Int → Int) (S : Nat → Nat → Prop) : Prop where
  nu : NumI n (InkN n p) (AdjN W e) num
  le : sumN n num ≤ sumN n num0
  lt : b = true → sumN n num < sumN n num0
  sm : b = false → num = num0 ∧ Pd n W e p num0 S
section
variable {n W : Nat} {e : Bool} {p num0 num : Int → Int} {b : Bool} {S S' : Nat → Nat → Prop}
theorem Pass.start (h : NumI n (InkN n p) (AdjN W e) num0) : Pass n W e p num0 false num0 (fun _ _ => False) := ⟨h, Int.le_refl _, fun h => (by cases h), fun _ => ⟨rfl, fun _ _ _ _ _ h => h.elim⟩⟩
theorem Pass.conv (h : Pass n W e p num0 b num S) (hS : ∀ i j, InkN n p i → InkN n p j → AdjN W e i j → S' i j → S i j) : Pass n W e p num0 b num S' :=
  ⟨h.nu, h.le, h.lt, fun hb => ⟨(h.sm hb).1, fun i j hi hj ha hs => (h.sm hb).2 i j hi hj ha (hS i j hi hj ha hs)⟩⟩
theorem Pass.keep (h : Pass n W e p num0 b num S) {i0 j0 : Nat} (hk : num i0 ≤ num j0) (hS : ∀ i j, InkN n p i → InkN n p j → AdjN W e i j → S' i j → S i j ∨ (i = i0 ∧ j = j0)) : Pass n W e p num0 b num S' :=
  ⟨h.nu, h.le, h.lt, fun hb => ⟨(h.sm hb).1, fun i j hi hj ha hs => by
    rcases hS i j hi hj ha hs with h1 | ⟨rfl, rfl⟩
    · exact (h.sm hb).2 i j hi hj ha h1
    · rw [← (h.sm hb).1]; exact hk⟩⟩
theorem Pass.step (h : Pass n W e p num0 b num S) {i0 j0 : Nat} (hi : InkN n p i0) (hj : InkN n p j0) (ha : AdjN W e i0 j0) (hl : num j0 < num i0) : Pass n W e p num0 true (upd num i0 (num j0)) S' := by
  have hs : sumN n (upd num i0 (num j0)) < sumN n num := by
    rw [sumN_upd, if_pos hi.1]; omega
  have := h.le
  exact ⟨h.nu.step hi hj ha hj.1 hl, by omega, fun _ => by omega, fun h => by cases h⟩
def Sx (W y x : Nat) : Nat → Nat → Prop := fun i _ => i / W < y ∨ (i / W = y ∧ i % W < x)
def Sv (W y x : Nat) (v : Int) : Nat → Nat → Prop := fun i j => Sx W y x i j ∨ (i = y * W + x ∧ ((j / W : Nat) : Int) < v)
def Su (W y x : Nat) (v u : Int) : Nat → Nat → Prop := fun i j => Sv W y x v i j ∨ (i = y * W + x ∧ ((j / W : Nat) : Int) = v ∧ ((j % W : Nat) : Int) < u)
theorem place_div {x y : Nat} (hx : x < W) : (y * W + x) / W = y ∧ (y * W + x) % W = x := by
  have h0 : 0 < W := by omega
  refine ⟨?_, ?_⟩
  · rw [Nat.add_comm, Nat.add_mul_div_right _ _ h0, Nat.div_eq_of_lt hx, Nat.zero_add]
  · rw [Nat.add_comm, Nat.add_mul_mod_self_right, Nat.mod_eq_of_lt hx]
theorem adj_row {x y j : Nat} (hx : x < W) (h : AdjN W e (y * W + x) j) : (y : Int) - 1 ≤ ((j / W : Nat) : Int) ∧ ((j / W : Nat) : Int) ≤ y + 1 ∧ (x : Int) - 1 ≤ ((j % W : Nat) : Int) ∧ ((j % W : Nat) : Int) ≤ x + 1 := by
  obtain ⟨-, h1, h2, h3, h4, -⟩ := h
  obtain ⟨d1, d2⟩ := place_div (y := y) hx
  have e1 : ((y * W + x : Nat) : Int) % (W : Int) = x := by rw [← Int.natCast_emod, d2]
  have e2 : ((y * W + x : Nat) : Int) / (W : Int) = y := by rw [← Int.natCast_ediv, d1]
  push_cast at h1 h2 h3 h4 e1 e2 ⊢
  rw [e1] at h1 h2
  rw [e2] at h3 h4
  omega
variable {x y : Nat} {v u : Int}
theorem Pass.v0 (hx : x < W) (h : Pass n W e p num0 b num (Sx W y x)) : Pass n W e p num0 b num (Sv W y x ((y : Int) - 1)) := h.conv fun i j _ _ ha hs => by
  rcases hs with hs | ⟨rfl, hs⟩
  · exact hs
  · have := adj_row hx ha; omega
theorem Pass.u0 (hx : x < W) (h : Pass n W e p num0 b num (Sv W y x v)) : Pass n W e p num0 b num (Su W y x v ((x : Int) - 1)) := h.conv fun i j _ _ ha hs => by
  rcases hs with hs | ⟨rfl, _, hs⟩
  · exact hs
  · have := adj_row hx ha; omega
theorem Pass.ve (hx : x < W) (h : Pass n W e p num0 b num (Su W y x v ((x : Int) + 2))) : Pass n W e p num0 b num (Sv W y x (v + 1)) := h.conv fun i j _ _ ha hs => by
  rcases hs with hs | ⟨rfl, hs⟩
  · exact .inl (.inl hs)
  · have := adj_row hx ha
    by_cases c : ((j / W : Nat) : Int) = v
    · exact .inr ⟨rfl, c, by omega⟩
    · exact .inl (.inr ⟨rfl, by omega⟩)
theorem sx_succ (hx : x < W) {i j : Nat} (h : Sx W y (x + 1) i j) : Sx W y x i j ∨ i = y * W + x := by
  rcases h with h | ⟨h1, h2⟩
  · exact .inl (.inl h)
  · by_cases c : i % W = x
    · right
      have := Nat.div_add_mod i W
      rw [h1, c, Nat.mul_comm] at this
      exact this.symm
    · exact .inl (.inr ⟨h1, by omega⟩)
theorem Pass.xe (hx : x < W) (h : Pass n W e p num0 b num (Sv W y x ((y : Int) + 2))) : Pass n W e p num0 b num (Sx W y (x + 1)) := h.conv fun i j _ _ ha hs => by
  rcases sx_succ hx hs with hs | rfl
  · exact .inl hs
  · have := adj_row hx ha
    exact .inr ⟨rfl, by omega⟩
theorem Pass.xno (hx : x < W) (hi : ¬ InkN n p (y * W + x)) (h : Pass n W e p num0 b num (Sx W y x)) : Pass n W e p num0 b num (Sx W y (x + 1)) := h.conv fun i j hii _ ha hs => by
  rcases sx_succ hx hs with hs | rfl
  · exact hs
  · exact absurd hii hi
theorem Pass.row (hW : 0 < W) (h : Pass n W e p num0 b num (Sx W y W)) : Pass n W e p num0 b num (Sx W (y + 1) 0) := h.conv fun i j _ _ _ hs => by
  rcases hs with hs | ⟨-, hs⟩
  · by_cases c : i / W = y
    · exact .inr ⟨c, Nat.mod_lt _ hW⟩
    · exact .inl (by omega)
  · exact absurd hs (Nat.not_lt_zero _)
theorem Pass.first (h : NumI n (InkN n p) (AdjN W e) num0) : Pass n W e p num0 false num0 (Sx W 0 0) := (Pass.start h).conv fun i j _ _ _ hs => by
  rcases hs with hs | ⟨-, hs⟩ <;> exact absurd hs (Nat.not_lt_zero _)
/-- a pair that is no pair of neighbours with ink -/
theorem Pass.uno (hno : ∀ j : Nat, InkN n p j → AdjN W e (y * W + x) j → ((j / W : Nat) : Int) = v → ((j % W : Nat) : Int) = u → False) (h : Pass n W e p num0 b num (Su W y x v u)) : Pass n W e p num0 b num (Su W y x v (u + 1)) := h.conv fun i j _ hj ha hs => by
  rcases hs with hs | ⟨rfl, h1, h2⟩
  · exact .inl hs
  · by_cases c : ((j % W : Nat) : Int) = u
    · exact (hno j hj ha h1 c).elim
    · exact .inr ⟨rfl, h1, by omega⟩
theorem Pass.ukeep {j0 : Nat} (h1 : ((j0 / W : Nat) : Int) = v) (h2 : ((j0 % W : Nat) : Int) = u) (hk : num ((y * W + x : Nat) : Int) ≤ num j0) (h : Pass n W e p num0 b num (Su W y x v u)) : Pass n W e p num0 b num (Su W y x v (u + 1)) := h.keep hk fun i j _ _ _ hs => by
  rcases hs with hs | ⟨rfl, h3, h4⟩
  · exact .inl (.inl hs)
  · by_cases c : ((j % W : Nat) : Int) = u
    · right
      have ej : j = j0 := by
        have a1 : j / W = j0 / W := by omega
        have a2 : j % W = j0 % W := by omega
        rw [← Nat.div_add_mod j W, ← Nat.div_add_mod j0 W, a1, a2]
      exact ⟨rfl, ej⟩
    · exact .inl (.inr ⟨rfl, h3, by omega⟩)
/-- a pass without a change: all neighbours have the same number -/
theorem Pass.fixed {H : Nat} (hn : n = W * H) (h : Pass n W e p num0 false num (Sx W H 0)) : num = num0 ∧ ∀ i j : Nat, InkN n p i → InkN n p j → AdjN W e i j → num i ≤ num j := by
  obtain ⟨h1, h2⟩ := h.sm rfl
  refine ⟨h1, fun i j hi hj ha => ?_⟩
  rw [h1]
  exact h2 i j hi hj ha (.inl (Nat.div_lt_of_lt_mul (hn ▸ hi.1)))
end
end Go.Proofs.Ytoonkpjddfiopaa
