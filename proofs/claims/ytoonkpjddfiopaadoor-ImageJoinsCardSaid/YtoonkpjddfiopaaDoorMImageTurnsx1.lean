/- Texts of mine in build order: C17, J16, C21, J17. Conditions: each theorem's own. -/
import Derived.Test.YtoonkpjddfiopaaDoorMImageSetsx8
import Derived.Test.YtoonkpjddfiopaaDoorMImageSpecksx1
import Derived.Test.YtoonkpjddfiopaaDoorMImageThinsx1
/- Plain: the amount of ink and the least rectangle of a picture that is turned. No program in sight. -/
namespace Go.Proofs.YtoonkpjddfiopaaDoor
set_option linter.unusedVariables false
/-- the sum over a grid, row by row -/
def sum2 (W H : Nat) (g : Int → Int → Int) : Int := sumN H fun y => sumN W fun x => g x y
theorem sumN_add' (a b : Nat) (f : Int → Int) : sumN (a + b) f = sumN a f + sumN b (fun i => f (a + i)) := by
  induction b with
  | zero => simp [sumN]
  | succ b ih => rw [← Nat.add_assoc, sumN, sumN, ih, Int.natCast_add]; omega
theorem sumN_plus' {n : Nat} (f g : Int → Int) : sumN n (fun i => f i + g i) = sumN n f + sumN n g := by
  induction n with
  | zero => rfl
  | succ n ih => simp only [sumN, ih]; omega
theorem sumN_grid (W H : Nat) (p : Int → Int) : sumN (H * W) p = sum2 W H fun x y => p (y * W + x) := by
  unfold sum2
  induction H with
  | zero => simp [sumN]
  | succ H ih =>
    rw [Nat.add_mul, Nat.one_mul, sumN_add', ih, sumN]
    simp only [Int.natCast_mul]
theorem sumN_none (n : Nat) : sumN n (fun _ => 0) = 0 := by
  induction n with
  | zero => rfl
  | succ n ih => rw [sumN, ih]; rfl
theorem sum2_swap (W H : Nat) (g : Int → Int → Int) : sum2 W H g = sum2 H W fun x y => g y x := by
  unfold sum2
  induction H with
  | zero => simp only [sumN]; exact (sumN_none W).symm
  | succ H ih => simp only [sumN, sumN_plus']; rw [ih]
theorem sumN_front (n : Nat) (f : Int → Int) : sumN (n + 1) f = f 0 + sumN n fun i => f (i + 1) := by
  induction n with
  | zero => simp [sumN]
  | succ n ih => rw [sumN, ih, sumN, Int.natCast_add]; simp only [Int.natCast_one]; omega
theorem sumN_rev (n : Nat) (f : Int → Int) : (sumN n fun i => f (n - 1 - i)) = sumN n f := by
  induction n with
  | zero => rfl
  | succ n ih =>
    rw [sumN_front, sumN, ← ih, Int.add_comm]
    congr 1
    · refine sumN_congr fun i _ _ => ?_
      congr 1; push_cast; omega
    · congr 1; push_cast; omega
/-- the amount of ink -/
def inkF (W H : Nat) (f : Int → Int → Bool) : Int := sum2 W H fun x y => if f x y then 1 else 0
theorem ink_rot (W H : Nat) (f : Int → Int → Bool) : inkF H W (rotF H f) = inkF W H f := by
  unfold inkF rotF
  rw [sum2_swap W H]
  unfold sum2
  exact sumN_congr fun y _ _ => sumN_rev H fun x => if f y x then 1 else 0
theorem ink_mir (W H : Nat) (f : Int → Int → Bool) : inkF W H (mirF W f) = inkF W H f := by
  unfold inkF mirF sum2
  exact sumN_congr fun y _ _ => sumN_rev W fun x => if f x y then 1 else 0
theorem sdN (W H k : Nat) : sdW (W : Int) H k = ((if k % 2 = 0 then W else H : Nat) : Int) := by unfold sdW; split <;> rfl
theorem ink_rotK (W H : Nat) (f : Int → Int → Bool) (k : Nat) : inkF (if k % 2 = 0 then W else H) (if k % 2 = 0 then H else W) (rotK W H f k) = inkF W H f := by
  induction k with
  | zero => rfl
  | succ k ih =>
    rw [← ih, rotK]
    rcases Nat.mod_two_eq_zero_or_one k with h | h
    · rw [if_neg (by omega), if_neg (by omega), if_pos h, if_pos h, if_pos h]; exact ink_rot _ _ _
    · rw [if_pos (by omega), if_pos (by omega), if_neg (by omega), if_neg (by omega), if_neg (by omega)]; exact ink_rot _ _ _
theorem ink_turn (W H : Nat) (f : Int → Int → Bool) (k : Nat) : inkF (if k % 2 = 0 then W else H) (if k % 2 = 0 then H else W) (turnF W H f k) = inkF W H f := by
  unfold turnF
  have := ink_rotK W H (if 4 ≤ k then mirF W f else f) (k % 4)
  rw [show k % 4 % 2 = k % 2 by omega] at this
  rw [this]
  split
  · exact ink_mir _ _ _
  · rfl
/-- some rectangle of these sides, touched from all four sides, holds all ink -/
def SizeF (W H : Int) (f : Int → Int → Bool) (w h : Int) : Prop :=
  ((∀ x y, 0 ≤ x → x < W → 0 ≤ y → y < H → f x y = false) ∧ w = 0 ∧ h = 0) ∨
  ∃ a b, (∀ x y, 0 ≤ x → x < W → 0 ≤ y → y < H → f x y = true → a ≤ x ∧ x ≤ a + w - 1 ∧ b ≤ y ∧ y ≤ b + h - 1) ∧
    (∃ x y, (0 ≤ x ∧ x < W ∧ 0 ≤ y ∧ y < H ∧ f x y = true) ∧ x = a) ∧ (∃ x y, (0 ≤ x ∧ x < W ∧ 0 ≤ y ∧ y < H ∧ f x y = true) ∧ x = a + w - 1) ∧
    (∃ x y, (0 ≤ x ∧ x < W ∧ 0 ≤ y ∧ y < H ∧ f x y = true) ∧ y = b) ∧ ∃ x y, (0 ≤ x ∧ x < W ∧ 0 ≤ y ∧ y < H ∧ f x y = true) ∧ y = b + h - 1
theorem SizeF.uniq {W H w h w' h' : Int} {f : Int → Int → Bool} (p : SizeF W H f w h) (q : SizeF W H f w' h') : w = w' ∧ h = h' := by
  rcases p with ⟨p, rfl, rfl⟩ | ⟨a, b, pa, ⟨x1, y1, ⟨i1, j1, k1, l1, m1⟩, e1⟩, ⟨x2, y2, ⟨i2, j2, k2, l2, m2⟩, e2⟩, ⟨x3, y3, ⟨i3, j3, k3, l3, m3⟩, e3⟩, x4, y4, ⟨i4, j4, k4, l4, m4⟩, e4⟩
  · rcases q with ⟨-, rfl, rfl⟩ | ⟨a', b', -, ⟨x1, y1, ⟨i1, j1, k1, l1, m1⟩, -⟩, -⟩
    · exact ⟨rfl, rfl⟩
    · rw [p x1 y1 i1 j1 k1 l1] at m1; cases m1
  · rcases q with ⟨q, rfl, rfl⟩ | ⟨a', b', qa, ⟨u1, v1, ⟨r1, s1, t1, c1, d1⟩, g1⟩, ⟨u2, v2, ⟨r2, s2, t2, c2, d2⟩, g2⟩, ⟨u3, v3, ⟨r3, s3, t3, c3, d3⟩, g3⟩, u4, v4, ⟨r4, s4, t4, c4, d4⟩, g4⟩
    · rw [q x1 y1 i1 j1 k1 l1] at m1; cases m1
    · have A1 := qa x1 y1 i1 j1 k1 l1 m1; have A2 := qa x2 y2 i2 j2 k2 l2 m2; have A3 := qa x3 y3 i3 j3 k3 l3 m3; have A4 := qa x4 y4 i4 j4 k4 l4 m4
      have B1 := pa u1 v1 r1 s1 t1 c1 d1; have B2 := pa u2 v2 r2 s2 t2 c2 d2; have B3 := pa u3 v3 r3 s3 t3 c3 d3; have B4 := pa u4 v4 r4 s4 t4 c4 d4
      constructor <;> omega
theorem SizeF.rot {W H w h : Int} {f : Int → Int → Bool} (p : SizeF W H f w h) : SizeF H W (rotF H f) h w := by
  rcases p with ⟨p, rfl, rfl⟩ | ⟨a, b, pa, ⟨x1, y1, ⟨i1, j1, k1, l1, m1⟩, e1⟩, ⟨x2, y2, ⟨i2, j2, k2, l2, m2⟩, e2⟩, ⟨x3, y3, ⟨i3, j3, k3, l3, m3⟩, e3⟩, x4, y4, ⟨i4, j4, k4, l4, m4⟩, e4⟩
  · exact .inl ⟨fun x y x0 x1 y0 y1 => p _ _ y0 y1 (by omega) (by omega), rfl, rfl⟩
  · have q : ∀ x y, f x y = true → rotF H f (H - 1 - y) x = true := fun x y e => by unfold rotF; rw [show H - 1 - (H - 1 - y) = y by omega]; exact e
    refine .inr ⟨H - b - h, a, fun x y x0 x1 y0 y1 e => ?_, ⟨H - 1 - y4, x4, ⟨by omega, by omega, by omega, by omega, q _ _ m4⟩, by omega⟩, ⟨H - 1 - y3, x3, ⟨by omega, by omega, by omega, by omega, q _ _ m3⟩, by omega⟩, ⟨H - 1 - y1, x1, ⟨by omega, by omega, by omega, by omega, q _ _ m1⟩, by omega⟩, H - 1 - y2, x2, ⟨by omega, by omega, by omega, by omega, q _ _ m2⟩, by omega⟩
    have := pa y (H - 1 - x) y0 y1 (by omega) (by omega) e
    omega
theorem SizeF.mir {W H w h : Int} {f : Int → Int → Bool} (p : SizeF W H f w h) : SizeF W H (mirF W f) w h := by
  rcases p with ⟨p, rfl, rfl⟩ | ⟨a, b, pa, ⟨x1, y1, ⟨i1, j1, k1, l1, m1⟩, e1⟩, ⟨x2, y2, ⟨i2, j2, k2, l2, m2⟩, e2⟩, ⟨x3, y3, ⟨i3, j3, k3, l3, m3⟩, e3⟩, x4, y4, ⟨i4, j4, k4, l4, m4⟩, e4⟩
  · exact .inl ⟨fun x y x0 x1 y0 y1 => p _ _ (by omega) (by omega) y0 y1, rfl, rfl⟩
  · have q : ∀ x y, f x y = true → mirF W f (W - 1 - x) y = true := fun x y e => by unfold mirF; rw [show W - 1 - (W - 1 - x) = x by omega]; exact e
    refine .inr ⟨W - a - w, b, fun x y x0 x1 y0 y1 e => ?_, ⟨W - 1 - x2, y2, ⟨by omega, by omega, by omega, by omega, q _ _ m2⟩, by omega⟩, ⟨W - 1 - x1, y1, ⟨by omega, by omega, by omega, by omega, q _ _ m1⟩, by omega⟩, ⟨W - 1 - x3, y3, ⟨by omega, by omega, by omega, by omega, q _ _ m3⟩, by omega⟩, W - 1 - x4, y4, ⟨by omega, by omega, by omega, by omega, q _ _ m4⟩, by omega⟩
    have := pa (W - 1 - x) y (by omega) (by omega) y0 y1 e
    omega
theorem SizeF.turn {W H w h : Int} {f : Int → Int → Bool} (p : SizeF W H f w h) (k : Nat) : SizeF (sdW W H k) (sdW H W k) (turnF W H f k) (sdW w h k) (sdW h w k) := by
  have R : ∀ (g : Int → Int → Bool), SizeF W H g w h → ∀ k, SizeF (sdW W H k) (sdW H W k) (rotK W H g k) (sdW w h k) (sdW h w k) := fun g hg k => by
    induction k with
    | zero => exact hg
    | succ k ih =>
      have := ih.rot
      have s : ∀ a b : Int, sdW a b (k + 1) = sdW b a k := fun a b => by
        unfold sdW
        rcases Nat.mod_two_eq_zero_or_one k with h | h
        · rw [if_neg (by omega), if_pos h]
        · rw [if_pos (by omega), if_neg (by omega)]
      rw [s, s, s, s]
      exact this
  have m : ∀ a b : Int, sdW a b (k % 4) = sdW a b k := fun a b => by unfold sdW; rw [show k % 4 % 2 = k % 2 by omega]
  unfold turnF
  have := R (if 4 ≤ k then mirF W f else f) (by split; exact p.mir; exact p) (k % 4)
  rw [m, m, m, m] at this
  exact this
/-- the rectangle around the ink of a picture that is laid row by row -/
theorem IsBox.size {W H : Nat} {f : Int → Int → Bool} {l : List Nat} {b : Int × Int × Int × Int} (hb : IsBox W l b)
    (hl : ∀ i : Nat, i ∈ l ↔ i < W * H ∧ f ((i % W : Nat) : Int) ((i / W : Nat) : Int) = true) : SizeF W H f b.2.2.1 b.2.2.2 := by
  have at_ : ∀ x y : Int, 0 ≤ x → x < W → 0 ≤ y → y < H → f x y = true → ∃ i ∈ l, ((i % W : Nat) : Int) = x ∧ ((i / W : Nat) : Int) = y := fun x y x0 x1 y0 y1 e => by
    obtain ⟨x, rfl⟩ := Int.eq_ofNat_of_zero_le x0
    obtain ⟨y, rfl⟩ := Int.eq_ofNat_of_zero_le y0
    have hx : x < W := by omega
    have hy : y < H := by omega
    have e1 : (y * W + x) % W = x := by rw [Nat.add_comm, Nat.add_mul_mod_self_right, Nat.mod_eq_of_lt hx]
    have e2 : (y * W + x) / W = y := by rw [Nat.add_comm, Nat.add_mul_div_right _ _ (by omega), Nat.div_eq_of_lt hx]; omega
    refine ⟨y * W + x, (hl _).2 ⟨?_, by rw [e1, e2]; exact e⟩, by rw [e1], by rw [e2]⟩
    have := Nat.mul_le_mul_right W (show y + 1 ≤ H by omega)
    rw [Nat.add_mul] at this; rw [Nat.mul_comm W H]; omega
  have in_ : ∀ i ∈ l, (0 ≤ ((i % W : Nat) : Int) ∧ ((i % W : Nat) : Int) < W ∧ 0 ≤ ((i / W : Nat) : Int) ∧ ((i / W : Nat) : Int) < H ∧ f ((i % W : Nat) : Int) ((i / W : Nat) : Int) = true) := fun i hi => by
    obtain ⟨h1, h2⟩ := (hl i).1 hi
    have hW : 0 < W := by rcases Nat.eq_zero_or_pos W with e | e; (subst e; simp at h1); exact e
    have := Nat.mod_lt i hW
    have := Nat.div_lt_of_lt_mul h1
    exact ⟨Int.natCast_nonneg _, by omega, Int.natCast_nonneg _, by omega, h2⟩
  rcases hb with ⟨rfl, rfl⟩ | ⟨-, h2, ⟨i1, m1, e1⟩, ⟨i2, m2, e2⟩, ⟨i3, m3, e3⟩, i4, m4, e4⟩
  · refine .inl ⟨fun x y x0 x1 y0 y1 => ?_, rfl, rfl⟩
    rw [← Bool.not_eq_true]
    intro e
    obtain ⟨i, hi, -⟩ := at_ x y x0 x1 y0 y1 e
    simp at hi
  · refine .inr ⟨b.1, b.2.1, fun x y x0 x1 y0 y1 e => ?_, ⟨_, _, in_ i1 m1, e1⟩, ⟨_, _, in_ i2 m2, e2⟩, ⟨_, _, in_ i3 m3, e3⟩, _, _, in_ i4 m4, e4⟩
    obtain ⟨i, hi, a1, a2⟩ := at_ x y x0 x1 y0 y1 e
    rw [← a1, ← a2]; exact h2 i hi
theorem SizeF.pos {W H w h : Int} {f : Int → Int → Bool} (p : SizeF W H f w h) : (0 < w ↔ 0 < h) ∧ 0 ≤ w ∧ 0 ≤ h ∧ w ≤ max W 0 ∧ h ≤ max H 0 ∧ (0 < w ↔ ∃ x y, 0 ≤ x ∧ x < W ∧ 0 ≤ y ∧ y < H ∧ f x y = true) := by
  rcases p with ⟨p, rfl, rfl⟩ | ⟨a, b, pa, ⟨x1, y1, ⟨i1, j1, k1, l1, m1⟩, e1⟩, ⟨x2, y2, ⟨i2, j2, k2, l2, m2⟩, e2⟩, ⟨x3, y3, ⟨i3, j3, k3, l3, m3⟩, e3⟩, x4, y4, ⟨i4, j4, k4, l4, m4⟩, e4⟩
  · refine ⟨by omega, by omega, by omega, by omega, by omega, fun h => by omega, ?_⟩
    rintro ⟨x, y, x0, x1, y0, y1, e⟩
    rw [p x y x0 x1 y0 y1] at e; cases e
  · have A1 := pa x1 y1 i1 j1 k1 l1 m1
    exact ⟨by omega, by omega, by omega, by omega, by omega, fun _ => ⟨x1, y1, i1, j1, k1, l1, m1⟩, fun _ => by omega⟩
theorem sumN_pos {n : Nat} {f : Int → Int} (h : ∀ i : Int, 0 ≤ i → i < n → f i = 0 ∨ f i = 1) : 0 ≤ sumN n f ∧ (0 < sumN n f ↔ ∃ i : Int, 0 ≤ i ∧ i < n ∧ f i = 1) := by
  induction n with
  | zero => exact ⟨by simp [sumN], by simp [sumN], fun ⟨i, a, b, _⟩ => by simp at b; omega⟩
  | succ n ih =>
    obtain ⟨ih0, ih⟩ := ih fun i a b => h i a (by omega)
    rw [sumN]
    rcases h n (by omega) (by omega) with e | e
    · rw [e]
      refine ⟨by omega, fun p => ?_, fun ⟨i, a, b, c⟩ => ?_⟩
      · obtain ⟨i, a, b, c⟩ := ih.1 (by omega); exact ⟨i, a, by omega, c⟩
      · have : i ≠ n := fun e' => by subst e'; omega
        have := ih.2 ⟨i, a, by omega, c⟩
        omega
    · rw [e]
      exact ⟨by omega, fun _ => ⟨n, by omega, by omega, e⟩, fun _ => by omega⟩
end Go.Proofs.YtoonkpjddfiopaaDoor

/- Walks: image.Box, product. Written by gen/j16.py. -/
namespace Go.Proofs.YtoonkpjddfiopaaDoor
open Go.RowKit Go.Shelf
set_option linter.unusedVariables false
attribute [local go_sem] Oper.semAt_some

theorem inkL_yes {p : Int → Int} {k : Nat} (h : p k = 1) : inkL (k + 1) p = inkL k p ++ [k] := by
  unfold inkL; rw [List.range_succ, List.filter_append]; congr 1; simp [List.filter, h]
theorem inkL_no {p : Int → Int} {k : Nat} (h : p k ≠ 1) : inkL (k + 1) p = inkL k p := by
  unfold inkL; rw [List.range_succ, List.filter_append]; simp [List.filter, h]
theorem inkL_len (p : Int → Int) (k : Nat) : (inkL k p).length ≤ k := by
  unfold inkL
  exact Nat.le_trans (List.length_filter_le _ _) (by simp)
set_option maxRecDepth 100000 in
set_option maxHeartbeats 4000000 in
theorem ibox_any (W H : Nat) (A : Option Addr) (n c : Nat) (p : Int → Int) (w : World) (hA : ArrB w w.heap.size A n p) (hW : W ≤ 640) (hH : H ≤ 640) (hn : n = W * H) (hp : ∀ i : Int, 0 ≤ i → i < n → p i = 0 ∨ p i = 1) :
    Calls Tryd.prog 43 #[.agg #[.int .i64 W, .int .i64 H, .slice A n c]] w fun e w' => ∃ b, e = .returned (.tuple #[boxV b, .int .i64 0]) ∧ IsBox W (inkL n p) b ∧ Below w.heap.size w w' := by
  have hn9 : n ≤ 409600 := by rw [hn]; exact Nat.mul_le_mul hW hH
  have hnI : (n : Int) = (W : Int) * H := by rw [hn]; push_cast; rfl
  have hE : chk W H n p = 0 := chk_mk (by omega) (by omega) (by omega) (by omega) hnI fun i a b => by have := hp i a b; omega
  have CK := Lib.hid fun w' hA' => check_any W H A n c p w' hA' (by unfold maxLen; omega)
  rw [hE] at CK
  have BX := Lib.hid fun A' (l : List Nat) (c' : Nat) w' (hA' : EArr w' w'.heap.size 2 (encP W) A' l) (hs : ∀ i ∈ l, i < 1000000) (hl : l.length ≤ 1000000) => box_any W A' l c' w' hA' hs hl
  have HP := Lib.hid hp
  have HN := Lib.hid hn
  have HA := Lib.hid hA
  obtain ⟨r0, hr0, hrz0, hrz1, hrz2⟩ := info_parts info_Pt
  clear hE hp hA hn hnI
  go_enter Tryd.func43, Tryd.ntmps43
  go_wp2_with fail
  have k1 := (Blk.new w 24 #[.int .i64 W, .int .i64 H, .slice A n c]).alloc (.cells #[.int .i64 0, .int .i64 0, .int .i64 0, .int .i64 0] 44)
  have k2 : Blk ((w.alloc (.cells #[.int .i64 W, .int .i64 H, .slice A n c] 24)).alloc (.cells #[.int .i64 0, .int .i64 0, .int .i64 0, .int .i64 0] 44)) (w.heap.size + 1) 44 #[.int .i64 0, .int .i64 0, .int .i64 0, .int .i64 0] := Blk.new' (by simp) _ _
  have b1 : Below w.heap.size w ((w.alloc (.cells #[.int .i64 W, .int .i64 H, .slice A n c] 24)).alloc (.cells #[.int .i64 0, .int .i64 0, .int .i64 0, .int .i64 0] 44)) := by (repeat (first | exact Below.refl _ _ | assumption | refine Below.drew ?_ | refine below_drewN ?_ _ | refine Below.alloc ?_ (by first | omega | (simp; done) | (simp; omega)) _ | refine Below.setCell ?_ (by first | omega | (simp; done) | (simp; omega)) _ | refine below_setRow ?_ (by first | omega | (simp; done) | (simp; omega)) _ ))
  generalize (w.alloc (.cells #[.int .i64 W, .int .i64 H, .slice A n c] 24)).alloc (.cells #[.int .i64 0, .int .i64 0, .int .i64 0, .int .i64 0] 44) = w1 at *
  refine (CK.out w1 (HA.out.to b1)).mono ?_
  rintro ee w2 ⟨rfl, hb2⟩
  have m1 := k1.below' hb2
  have m2 := k2.below' hb2
  have b2 := below_call b1 b1.size hb2
  have hA2 := Lib.hid (HA.out.to b2)
  obtain ⟨p1, p2, p3⟩ := m1.cells3
  have KI := Lib.hid m1
  have KR := Lib.hid m2
  have g1 := m1.lt
  have g2 := m2.lt
  clear k1 k2 b1 hb2 CK HA m1 m2
  obtain ⟨gl, hgl⟩ : ∃ g, w2.heap.size = g := ⟨_, rfl⟩
  have B2 := Lib.hid b2
  clear b2
  go_wp2_with fail
  go_loopw [5, 17] (fun v s wr => ∃ k : Nat, k ≤ n ∧ s = .int .i64 k ∧ Below gl w2 wr ∧ ERow wr gl 51 2 (encP W) v (inkL k p)) (fun _ s _ => n - (intOf s).toNat)
  case atStart => exact ⟨0, by omega, rfl, hgl ▸ Below.refl _ _, ERow.nil _ _ _ _ _⟩
  case round =>
    obtain ⟨k, hk, rfl, hb, hR⟩ := hrel
    have hb' : Below w2.heap.size w2 wr := hgl ▸ hb
    have m1 := KI.out.below' hb'
    obtain ⟨q1, q2, q3⟩ := m1.cells3
    have zr : gl ≤ wr.heap.size := by have := hb'.size; omega
    by_cases kl : (k : Int) < n
    · have hA3 := hA2.out.to hb'
      obtain ⟨bA, off, rfl, hbA, hcell⟩ := ArrB.at_ hA3 (i := (k : Int)) (by omega) kl
      rw [Int.toNat_natCast] at hcell
      have HR := Lib.hid hR
      clear hR hA3
      have hpk := HP.out k (by omega) kl
      have HB := Lib.hid hb
      obtain ⟨v9, hv9⟩ : ∃ v9, p k = v9 := ⟨_, rfl⟩
      rw [hv9] at hcell
      have HV := Lib.hid hv9
      rw [hv9] at hpk
      clear hv9 hb hb' p1 p2 p3
      by_cases h1 : v9 = 1
      · subst h1
        have hW0 : 0 < W := by
          rcases Nat.eq_zero_or_pos W with h | h
          · have := HN.out; rw [h, Nat.zero_mul] at this; omega
          · exact h
        obtain ⟨X, hX⟩ : ∃ X : Int, ((k % W : Nat) : Int) = X := ⟨_, rfl⟩
        obtain ⟨Y, hY⟩ : ∃ Y : Int, ((k / W : Nat) : Int) = Y := ⟨_, rfl⟩
        have t1 : (k : Int).tmod W = X := by rw [← hX]; exact (Int.ofNat_tmod k W).symm
        have t2 : (k : Int).tdiv W = Y := by rw [← hY]; exact (Int.ofNat_tdiv k W).symm
        have Yb : Y ≤ 1000000 := by rw [← hY]; have := Nat.div_le_self k W; omega
        have Y0 : 0 ≤ Y := by rw [← hY]; exact Int.natCast_nonneg _
        have t3 : IntKind.i64.wrap Y = Y := IntWalk.i64_in _ (by omega)
        have wz : ¬ (W : Int) = 0 := by omega
        have wz' : ((W : Int) == 0) = false := by simp; omega
        have wz2 : ¬ W = 0 := by omega
        have HX := Lib.hid hX; have HY := Lib.hid hY
        have KW := Lib.hid (fun (w' : World) (h : Below wr.heap.size wr w') => (m1.below' h).cells3.1)
        have LL := inkL_len p k
        obtain ⟨L, hL⟩ : ∃ L, (inkL k p).length = L := ⟨_, rfl⟩
        rw [hL] at LL
        have HL := Lib.hid hL
        clear hX hY hL
        go_upto_region 9 with fail
        refine wp_region_held_drew (S := fun w' => w'.cell? ⟨w.heap.size, 0, none⟩ = some (.int .i64 W)) (by kernel_rfl) (KW.out _ (Below.refl _ _).drew) (fun hHeld => ?_)
        refine wpAnyH_take (i := 0) (oi := _) (v := ?_) (by simp only [List.getElem?_toArray, List.getElem?_cons_zero]; exact rfl) (by kernel_rfl) (by kernel_rfl) (by kernel_rfl) (by exact fun _ _ _ h => h) (Or.inl ⟨by rfl, ?_⟩) (by assumption) ?_
        rotate_left 1
        · intro w hSw
          (try dsimp only at hSw)
          go_simp
          try with_reducible rfl
        try simp only [Act.put, List.setIfInBounds_toArray, List.set_cons_zero, List.set_cons_succ]
        refine wpAnyH_take (i := 1) (oi := _) (v := ?_) (by simp only [List.getElem?_toArray, List.getElem?_cons_zero, List.getElem?_cons_succ]; exact rfl) (by kernel_rfl) (by kernel_rfl) (by kernel_rfl) (by exact fun _ _ _ h => h) (Or.inl ⟨by rfl, ?_⟩) (by assumption) ?_
        rotate_left 1
        · intro w hSw
          (try dsimp only at hSw)
          go_simp
          try with_reducible rfl
        try simp only [Act.put, List.setIfInBounds_toArray, List.set_cons_zero, List.set_cons_succ]
        refine wpAnyH_take (i := 2) (oi := _) (v := ?_) (by simp only [List.getElem?_toArray, List.getElem?_cons_zero, List.getElem?_cons_succ]; exact rfl) (by kernel_rfl) (by kernel_rfl) (by kernel_rfl) (by exact fun _ _ _ h => h) (Or.inl ⟨by rfl, ?_⟩) (by assumption) ?_
        rotate_left 1
        · intro w hSw
          (try dsimp only at hSw)
          go_simp
          try with_reducible rfl
        try simp only [Act.put, List.setIfInBounds_toArray, List.set_cons_zero, List.set_cons_succ]
        refine wpAnyH_take (i := 3) (oi := _) (v := ?_) (by simp only [List.getElem?_toArray, List.getElem?_cons_zero, List.getElem?_cons_succ]; exact rfl) (by kernel_rfl) (by kernel_rfl) (by kernel_rfl) (by exact fun _ _ _ h => h) (Or.inl ⟨by rfl, ?_⟩) (by assumption) ?_
        rotate_left 1
        · intro w hSw
          (try dsimp only at hSw)
          go_simp
          try with_reducible rfl
        try simp only [Act.put, List.setIfInBounds_toArray, List.set_cons_zero, List.set_cons_succ]
        refine wpAnyH_take (i := 4) (oi := _) (v := ?_) (by simp only [List.getElem?_toArray, List.getElem?_cons_zero, List.getElem?_cons_succ]; exact rfl) (by kernel_rfl) (by kernel_rfl) (by kernel_rfl) (by exact fun _ _ _ h => h) (Or.inl ⟨by rfl, ?_⟩) (by assumption) ?_
        rotate_left 1
        · intro w hSw
          (try dsimp only at hSw)
          go_simp
          try with_reducible rfl
        try simp only [Act.put, List.setIfInBounds_toArray, List.set_cons_zero, List.set_cons_succ]
        refine wpAnyH_take (i := 5) (oi := _) (v := ?_) (by simp only [List.getElem?_toArray, List.getElem?_cons_zero, List.getElem?_cons_succ]; exact rfl) (by kernel_rfl) (by kernel_rfl) (by kernel_rfl) (by exact fun _ _ _ h => h) (Or.inl ⟨by rfl, ?_⟩) (by assumption) ?_
        rotate_left 1
        · intro w hSw
          (try dsimp only at hSw)
          go_simp
          try with_reducible rfl
        try simp only [Act.put, List.setIfInBounds_toArray, List.set_cons_zero, List.set_cons_succ]
        refine wpAnyH_take (i := 6) (oi := _) (v := ?_) (by simp only [List.getElem?_toArray, List.getElem?_cons_zero, List.getElem?_cons_succ]; exact rfl) (by kernel_rfl) (by kernel_rfl) (by kernel_rfl) (by exact fun _ _ _ h => h) (Or.inl ⟨by rfl, ?_⟩) (by assumption) ?_
        rotate_left 1
        · intro w hSw
          (try dsimp only at hSw)
          go_simp
          try with_reducible rfl
        try simp only [Act.put, List.setIfInBounds_toArray, List.set_cons_zero, List.set_cons_succ]
        refine wpAnyH_take (i := 7) (oi := _) (v := ?_) (by simp only [List.getElem?_toArray, List.getElem?_cons_zero, List.getElem?_cons_succ]; exact rfl) (by kernel_rfl) (by kernel_rfl) (by kernel_rfl) (by exact fun _ _ _ h => h) (Or.inl ⟨by rfl, ?_⟩) (by assumption) ?_
        rotate_left 1
        · intro w hSw
          (try dsimp only at hSw)
          go_simp
          try with_reducible rfl
        try simp only [Act.put, List.setIfInBounds_toArray, List.set_cons_zero, List.set_cons_succ]
        refine wpAnyH_take (i := 8) (oi := _) (v := ?_) (by simp only [List.getElem?_toArray, List.getElem?_cons_zero, List.getElem?_cons_succ]; exact rfl) (by kernel_rfl) (by kernel_rfl) (by kernel_rfl) (by exact fun _ _ _ h => h) (Or.inl ⟨by rfl, ?_⟩) (by assumption) ?_
        rotate_left 1
        · intro w hSw
          (try dsimp only at hSw)
          go_simp
          try with_reducible rfl
        try simp only [Act.put, List.setIfInBounds_toArray, List.set_cons_zero, List.set_cons_succ]
        refine wpAnyH_take (i := 9) (oi := _) (v := ?_) (by simp only [List.getElem?_toArray, List.getElem?_cons_zero, List.getElem?_cons_succ]; exact rfl) (by kernel_rfl) (by kernel_rfl) (by kernel_rfl) (by exact fun _ _ _ h => h) (Or.inl ⟨by rfl, ?_⟩) (by assumption) ?_
        rotate_left 1
        · intro w hSw
          (try dsimp only at hSw)
          go_simp
          try with_reducible rfl
        try simp only [Act.put, List.setIfInBounds_toArray, List.set_cons_zero, List.set_cons_succ]
        refine wpAnyH_ready (rs := [10]) (by kernel_rfl) (by simp) ?_
        refine AllReadyH.cons (o := _) (by simp only [List.getElem?_toArray, List.getElem?_cons_zero, List.getElem?_cons_succ]; exact rfl) (fun K' hK => ?_) AllReadyH.nil
        go_simp
        refine hK.out _ _ (KW.out _ (by (repeat (first | exact Below.refl _ _ | assumption | refine Below.drew ?_ | refine below_drewN ?_ _ | refine Below.alloc ?_ (by first | omega | (simp; done) | (simp; omega)) _ | refine Below.setCell ?_ (by first | omega | (simp; done) | (simp; omega)) _ | refine below_setRow ?_ (by first | omega | (simp; done) | (simp; omega)) _ )))) (fun hHeld => ?_)
        clear hK K'
        try simp only [Act.put, List.setIfInBounds_toArray, List.set_cons_zero, List.set_cons_succ]
        refine wpAnyH_ready (rs := [11]) (by kernel_rfl) (by simp) ?_
        refine AllReadyH.cons (o := _) (by simp only [List.getElem?_toArray, List.getElem?_cons_zero, List.getElem?_cons_succ]; exact rfl) (fun K' hK => ?_) AllReadyH.nil
        refine step_append_lies _ (by rfl) _ _ _ (by rfl) gl 51 r0 (.agg #[.int .i64 0, .int .i64 0]) 2 16 Tryd.underlying45 hr0 hrz0 hrz1 hrz2 rfl (by omega) _ L _ (by rfl) (show World.ownsRow (wr.alloc (.cells #[.int .i64 X, .int .i64 Y] 51)).drew gl 51 2 _ L _ from (by have h := ERow.below HR.out (show Below wr.heap.size wr (wr.alloc (.cells #[.int .i64 X, .int .i64 Y] 51)).drew from ((Below.refl _ _).alloc (Nat.le_refl _) _).drew); unfold ERow at h; rw [HL.out] at h; exact h)) ⟨wr.heap.size, 0, none⟩ 1 1 [.int .i64 X, .int .i64 Y] (by rfl) (by rfl) (World.news_of_block (cs := #[.int .i64 X, .int .i64 Y]) (t := 51) (fr := (0, 0)) (heap_alloc_new wr _)) (by simp [Value.oneCell']) (by omega) (by unfold maxLen; omega) (by omega) (by show gl ≤ (wr.alloc (.cells #[.int .i64 X, .int .i64 Y] 51)).heap.size; rw [World.size_alloc]; omega) ((wr.alloc (.cells #[.int .i64 X, .int .i64 Y] 51)).heap.size) rfl ?_
        intro gg cap w7 hown1 hgrow hat hlt1
        have bn : Below wr.heap.size wr (wr.alloc (.cells #[.int .i64 X, .int .i64 Y] 51)) := (Below.refl _ _).alloc (Nat.le_refl _) _
        have RN := HR.out.below bn
        have hgrow' : (wr.alloc (.cells #[.int .i64 X, .int .i64 Y] 51)).grownBy w7 _ := ⟨hgrow.os, hgrow.tape, hgrow.output, hgrow.size, hgrow.block⟩
        have m7 := (m1.below' bn).grown hgrow' (ERow.neB RN (m1.below' bn) (by decide))
        have b7 : Below gl w2 w7 := (HB.out.trans (bn.mono zr)).grown hgrow' (by rw [World.size_alloc]; omega) (fun j hj => (own_ge HR.out hj).1)
        refine hK.out _ _ m7.cells3.1 (fun hHeld => ?_)
        clear hK K'
        try simp only [Act.put, List.setIfInBounds_toArray, List.set_cons_zero, List.set_cons_succ]
        refine wpAnyH_take (i := 12) (oi := _) (v := ?_) (by simp only [List.getElem?_toArray, List.getElem?_cons_zero, List.getElem?_cons_succ]; exact rfl) (by kernel_rfl) (by kernel_rfl) (by kernel_rfl) (by exact fun _ _ _ h => h) (Or.inl ⟨by rfl, ?_⟩) (by assumption) ?_
        rotate_left 1
        · intro w hSw
          (try dsimp only at hSw)
          go_simp
          try with_reducible rfl
        try simp only [Act.put, List.setIfInBounds_toArray, List.set_cons_zero, List.set_cons_succ]
        refine wpAnyH_done (by kernel_rfl) ?_ _
        go_wp2_with fail
        go_roundw
        case rel =>
          refine ⟨k + 1, by omega, by go_num, b7, ?_⟩
          unfold ERow
          rw [inkL_yes HV.out, flatE_snoc, List.length_append, HL.out]
          show World.ownsRow _ _ _ _ _ _ (_ ++ [Value.int .i64 _, .int .i64 _])
          rw [HX.out, HY.out]
          exact hown1
        case measure => simp [intOf]; omega
      · have h0 : v9 = 0 := by omega
        subst h0
        have HE : Hid (inkL (k + 1) p = inkL k p) := Lib.hid (inkL_no (by rw [HV.out]; omega))
        go_wp2_with fail
        go_roundw
        case rel => exact ⟨k + 1, by omega, by go_num, HB.out, by rw [HE.out]; exact HR.out⟩
        case measure => simp [intOf]; omega
    · obtain rfl : k = n := by omega
      have m2 := KR.out.below' hb'
      have hs : ∀ i ∈ inkL k p, i < 1000000 := fun i hi => by have := (mem_inkL.1 hi).1; omega
      have hll : (inkL k p).length ≤ 1000000 := by have := inkL_len p k; omega
      obtain ⟨A', c', rfl, hcL, hE⟩ := hR.arr (encP_len W)
      have hb9 : Below w.heap.size w wr := B2.out.trans (hb'.mono B2.out.size)
      have BO := Lib.hid (BX.out A' _ c' wr hE hs hll)
      clear hR hE hs hll BX p1 p2 p3
      obtain ⟨L, hL⟩ : ∃ L, inkL k p = L := ⟨_, rfl⟩
      rw [hL] at BO hcL ⊢
      obtain ⟨LN, hLN⟩ : ∃ N, L.length = N := ⟨_, rfl⟩
      rw [hLN] at BO hcL ⊢
      have HLL := Lib.hid hL
      clear hL hLN
      go_wp2_with fail
      refine BO.out.mono ?_
      rintro ee w4 ⟨⟨b1, b2, b3, b4⟩, rfl, hbox, hb4⟩
      have m3 := m2.below' hb4
      have b9 := below_call hb9 hb9.size hb4
      have f1 := m3.frozen 0; have f2 := m3.frozen 1; have f3 := m3.frozen 2; have f4 := m3.frozen 3
      have hcr := m3.cell
      have g5 := hcr 0; have g6 := hcr 1; have g7 := hcr 2; have g8 := hcr 3
      change _ = some _ at g5 g6 g7 g8
      have k9 := (((m3.set_ 0 (.int .i64 b1)).set_ 1 (.int .i64 b2)).set_ 2 (.int .i64 b3)).set_ 3 (.int .i64 b4)
      have e0 := k9.cell 0; have e1 := k9.cell 1; have e2 := k9.cell 2; have e3 := k9.cell 3
      change _ = some (Value.int .i64 b1) at e0
      change _ = some (Value.int .i64 b2) at e1
      change _ = some (Value.int .i64 b3) at e2
      change _ = some (Value.int .i64 b4) at e3
      clear hcr m2 hb'
      simp only [boxV]
      go_wp2_with fail
      refine bodyPost_ret (v := .tuple #[.agg #[.int .i64 b1, .int .i64 b2, .int .i64 b3, .int .i64 b4], .int .i64 0]) (by simp [results, Tryd.results43, go_sem, e0, e1, e2, e3]) rfl ?_
      exact ⟨(b1, b2, b3, b4), rfl, HLL.out ▸ hbox, by (repeat (first | exact Below.refl _ _ | assumption | refine Below.drew ?_ | refine below_drewN ?_ _ | refine Below.alloc ?_ (by first | omega | (simp; done) | (simp; omega)) _ | refine Below.setCell ?_ (by first | omega | (simp; done) | (simp; omega)) _ | refine below_setRow ?_ (by first | omega | (simp; done) | (simp; omega)) _ ))⟩

set_option maxHeartbeats 4000000 in
theorem product_any (a b : Nat) (ha : a < 8) (hb : b < 8) (w : World) : Calls Tryd.prog 65 #[.int .i64 a, .int .i64 b] w fun e w' => e = .returned (.int .i64 (prodT a b : Nat)) ∧ Below w.heap.size w w' := by
  have ca : a = 0 ∨ a = 1 ∨ a = 2 ∨ a = 3 ∨ a = 4 ∨ a = 5 ∨ a = 6 ∨ a = 7 := by omega
  have cb : b = 0 ∨ b = 1 ∨ b = 2 ∨ b = 3 ∨ b = 4 ∨ b = 5 ∨ b = 6 ∨ b = 7 := by omega
  rcases ca with rfl | rfl | rfl | rfl | rfl | rfl | rfl | rfl <;> rcases cb with rfl | rfl | rfl | rfl | rfl | rfl | rfl | rfl
  all_goals
    clear ha hb
    go_enter Tryd.func65, Tryd.ntmps65
    go_wp2_with fail
    go_ret
    exact ⟨rfl, Below.refl _ _⟩
end Go.Proofs.YtoonkpjddfiopaaDoor

/- Plain: images that are turned: two turns, home again, the ink, the rectangle. -/
namespace Go.Proofs.YtoonkpjddfiopaaDoor
set_option linter.unusedVariables false
section
variable {W H : Int} {f g : Int → Int → Bool}
theorem rotF_congr (h : ∀ x y, 0 ≤ x → x < W → 0 ≤ y → y < H → f x y = g x y) : ∀ x y, 0 ≤ x → x < H → 0 ≤ y → y < W → rotF H f x y = rotF H g x y := fun x y x0 x1 y0 y1 => h _ _ y0 y1 (by omega) (by omega)
theorem mirF_congr (h : ∀ x y, 0 ≤ x → x < W → 0 ≤ y → y < H → f x y = g x y) : ∀ x y, 0 ≤ x → x < W → 0 ≤ y → y < H → mirF W f x y = mirF W g x y := fun x y x0 x1 y0 y1 => h _ _ (by omega) (by omega) y0 y1
theorem rotK_congr (h : ∀ x y, 0 ≤ x → x < W → 0 ≤ y → y < H → f x y = g x y) : ∀ k x y, 0 ≤ x → x < sdW W H k → 0 ≤ y → y < sdW H W k → rotK W H f k x y = rotK W H g k x y
  | 0, x, y, x0, x1, y0, y1 => h x y x0 x1 y0 y1
  | k + 1, x, y, x0, x1, y0, y1 => by
    have ih := rotK_congr h k
    rw [rotK, rotK]
    have e : (if k % 2 = 0 then H else W) = sdW H W k := rfl
    rw [e]
    rw [sdW_succ] at x1 y1
    exact rotF_congr ih x y x0 x1 y0 y1
theorem turnF_congr (h : ∀ x y, 0 ≤ x → x < W → 0 ≤ y → y < H → f x y = g x y) (k : Nat) : ∀ x y, 0 ≤ x → x < sdW W H k → 0 ≤ y → y < sdW H W k → turnF W H f k x y = turnF W H g k x y := fun x y x0 x1 y0 y1 => by
  unfold turnF
  refine rotK_congr (fun x y a b c d => ?_) (k % 4) x y x0 (by rw [sdW_mod]; exact x1) y0 (by rw [sdW_mod]; exact y1)
  split
  · exact mirF_congr h x y a b c d
  · exact h x y a b c d
end
theorem bit_pix {W x y : Int} {f : Int → Int → Bool} (x0 : 0 ≤ x) (x1 : x < W) : bitF W (byPix W (qF f)) x y = f x y := by
  unfold bitF; rw [byPix_at x0 x1]; unfold qF
  cases f x y <;> simp
theorem tu_01 (W H : Int) (p : Int → Int) (k : Nat) (i : Int) : tuQ W H p k i = 0 ∨ tuQ W H p k i = 1 := by unfold tuQ byPix qF; split <;> simp
section
variable {W H N : Nat} {p : Int → Int}
theorem sd_area (hN : N = W * H) (k : Nat) : (N : Int) = sdW W H k * sdW H W k := by
  unfold sdW; split
  · rw [hN]; push_cast; rfl
  · rw [hN, Int.mul_comm]; push_cast; rfl
theorem pix_in {W' H' : Int} {i : Int} (hN : (N : Int) = W' * H') (h1 : 0 ≤ W') (h2 : 0 ≤ H') (i0 : 0 ≤ i) (i1 : i < N) : 0 ≤ i % W' ∧ i % W' < W' ∧ 0 ≤ i / W' ∧ i / W' < H' := by
  have hW : 0 < W' := by
    rcases Int.lt_or_eq_of_le h1 with h | h
    · exact h
    · rw [← h] at hN; simp at hN; omega
  exact ⟨Int.emod_nonneg _ (by omega), Int.emod_lt_of_pos _ hW, Int.ediv_nonneg i0 (by omega), Int.ediv_lt_of_lt_mul hW (by rw [Int.mul_comm, ← hN]; exact i1)⟩
theorem sd_nn (k : Nat) : 0 ≤ sdW (W : Int) H k ∧ 0 ≤ sdW (H : Int) W k := by unfold sdW; split <;> omega
theorem tu_two (hN : N = W * H) {a b : Nat} (ha : a < 8) (hb : b < 8) {i : Int} (i0 : 0 ≤ i) (i1 : i < N) :
    tuQ (sdW W H a) (sdW H W a) (tuQ W H p a) b i = tuQ W H p (prodT a b) i := by
  have e1 := sdW_prod (W : Int) H ha hb
  have e2 := sdW_prod (H : Int) W ha hb
  have hp := pix_in (sd_area hN (prodT a b)) (sd_nn _).1 (sd_nn _).2 i0 i1
  rw [← e1, ← e2] at hp
  unfold tuQ
  rw [← e1]
  unfold byPix
  generalize i % sdW (sdW (W : Int) H a) (sdW H W a) b = x at *
  generalize i / sdW (sdW (W : Int) H a) (sdW H W a) b = y at *
  unfold qF
  have := turnF_congr (W := sdW W H a) (H := sdW H W a) (f := bitF (sdW W H a) (byPix (sdW W H a) (qF (turnF W H (bitF W p) a)))) (g := turnF W H (bitF W p) a) (fun x y x0 x1 _ _ => bit_pix x0 x1) b x y hp.1 hp.2.1 hp.2.2.1 hp.2.2.2
  rw [turn_prod _ _ _ ha hb] at this
  show (if turnF _ _ (bitF (sdW W H a) (byPix (sdW W H a) (qF (turnF W H (bitF W p) a)))) b x y = true then (1 : Int) else 0) = _
  rw [this]
theorem tu_zero (hN : N = W * H) (h01 : ∀ i, p i = 0 ∨ p i = 1) {i : Int} (i0 : 0 ≤ i) (i1 : i < N) : tuQ W H p 0 i = p i := by
  have hp := pix_in (sd_area (W := W) (H := H) hN 0) (sd_nn _).1 (sd_nn _).2 i0 i1
  change 0 ≤ i % (W : Int) ∧ _ at hp
  show qF (turnF W H (bitF W p) 0) (i % (W : Int)) (i / (W : Int)) = _
  rw [turn_zero]
  have e : i / (W : Int) * W + i % W = i := by have := Int.emod_add_mul_ediv i W; rw [Int.mul_comm] at this; omega
  unfold qF bitF
  rw [e]
  rcases h01 i with h | h <;> simp [h]
theorem ink_sum (h01 : ∀ i, p i = 0 ∨ p i = 1) (W H : Nat) : inkF W H (bitF W p) = sumN (H * W) p := by
  rw [sumN_grid]
  unfold inkF sum2
  refine sumN_congr fun y _ _ => sumN_congr fun x _ _ => ?_
  unfold bitF
  rcases h01 (y * W + x) with h | h <;> simp [h]
theorem tu_count (hN : N = W * H) (h01 : ∀ i, p i = 0 ∨ p i = 1) (k : Nat) : sumN N (tuQ W H p k) = sumN N p := by
  obtain ⟨W1, hW1⟩ : ∃ W1, (if k % 2 = 0 then W else H) = W1 := ⟨_, rfl⟩
  obtain ⟨H1, hH1⟩ : ∃ H1, (if k % 2 = 0 then H else W) = H1 := ⟨_, rfl⟩
  have e1 : N = H1 * W1 := by rw [← hW1, ← hH1, hN]; split; exact Nat.mul_comm _ _; rfl
  have es : sdW (W : Int) H k = (W1 : Int) := by rw [sdN, hW1]
  have h := ink_turn W H (bitF W p) k
  rw [hW1, hH1, ink_sum h01, Nat.mul_comm H W, ← hN] at h
  rw [← h, e1, sumN_grid]
  unfold inkF sum2 tuQ
  rw [es]
  exact sumN_congr fun y _ _ => sumN_congr fun x x0 x1 => byPix_at x0 x1
theorem ink_at (hN : N = W * H) (i : Nat) : i ∈ inkL N p ↔ i < W * H ∧ bitF W p ((i % W : Nat) : Int) ((i / W : Nat) : Int) = true := by
  rw [mem_inkL, hN]
  unfold bitF
  have e : ((i / W : Nat) : Int) * W + ((i % W : Nat) : Int) = i := by
    have := Nat.mod_add_div i W
    rw [Nat.mul_comm] at this
    have h2 : (((i / W * W + i % W : Nat)) : Int) = i := by omega
    rw [← h2]; push_cast; rfl
  rw [e, decide_eq_true_iff]
theorem tu_box (hN : N = W * H) (k : Nat) {W1 : Nat} (hW1 : sdW (W : Int) H k = W1) {H1 : Nat} (hH1 : sdW (H : Int) W k = H1) {r s : Int × Int × Int × Int} (hr : IsBox W (inkL N p) r) (hs : IsBox W1 (inkL N (tuQ W H p k)) s) :
    s.2.2.1 = sdW r.2.2.1 r.2.2.2 k ∧ s.2.2.2 = sdW r.2.2.2 r.2.2.1 k := by
  have h1 := (hr.size (H := H) (f := bitF W p) fun i => ink_at hN i).turn k
  have hN1 : N = W1 * H1 := by have := sd_area (W := W) (H := H) hN k; rw [hW1, hH1] at this; omega
  have h2 := hs.size (H := H1) (f := bitF W1 (tuQ W H p k)) fun i => ink_at hN1 i
  rw [hW1, hH1] at h1
  have e : ∀ x y : Int, 0 ≤ x → x < W1 → bitF W1 (tuQ W H p k) x y = turnF W H (bitF W p) k x y := fun x y x0 x1 => by
    unfold tuQ; rw [hW1]; exact bit_pix x0 x1
  have h3 : SizeF W1 H1 (turnF W H (bitF W p) k) s.2.2.1 s.2.2.2 := by
    rcases h2 with ⟨h, h'⟩ | ⟨a, b, h, ⟨x1, y1, ⟨i1, j1, k1, l1, m1⟩, e1⟩, ⟨x2, y2, ⟨i2, j2, k2, l2, m2⟩, e2⟩, ⟨x3, y3, ⟨i3, j3, k3, l3, m3⟩, e3⟩, x4, y4, ⟨i4, j4, k4, l4, m4⟩, e4⟩
    · exact .inl ⟨fun x y x0 x1 y0 y1 => by rw [← e x y x0 x1]; exact h x y x0 x1 y0 y1, h'⟩
    · refine .inr ⟨a, b, fun x y x0 x1 y0 y1 => by rw [← e x y x0 x1]; exact h x y x0 x1 y0 y1, ⟨x1, y1, ⟨i1, j1, k1, l1, by rw [← e x1 y1 i1 j1]; exact m1⟩, e1⟩, ⟨x2, y2, ⟨i2, j2, k2, l2, by rw [← e x2 y2 i2 j2]; exact m2⟩, e2⟩, ⟨x3, y3, ⟨i3, j3, k3, l3, by rw [← e x3 y3 i3 j3]; exact m3⟩, e3⟩, x4, y4, ⟨i4, j4, k4, l4, by rw [← e x4 y4 i4 j4]; exact m4⟩, e4⟩
  exact h3.uniq h1
theorem tu_some (hN : N = W * H) (h01 : ∀ i, p i = 0 ∨ p i = 1) {r : Int × Int × Int × Int} (hr : IsBox W (inkL N p) r) : (0 < r.2.2.1 ↔ 0 < r.2.2.2) ∧ (0 < r.2.2.1 ↔ 0 < sumN N p) ∧ 0 ≤ sumN N p := by
  have h1 := (hr.size (H := H) (f := bitF W p) fun i => ink_at hN i).pos
  have h2 := sumN_pos (n := N) (f := p) fun i _ _ => h01 i
  refine ⟨h1.1, ?_, h2.1⟩
  rw [h1.2.2.2.2.2, h2.2]
  constructor
  · rintro ⟨x, y, x0, x1, y0, y1, e⟩
    unfold bitF at e
    rw [decide_eq_true_iff] at e
    have := idx_lt x0 x1 y0 y1
    refine ⟨_, this.1, ?_, e⟩
    rw [hN]; push_cast; rw [Int.mul_comm (W : Int) H]; exact this.2.1
  · rintro ⟨i, i0, i1, e⟩
    have hp := pix_in (W' := W) (H' := H) (by rw [hN]; push_cast; rfl) (by omega) (by omega) i0 i1
    refine ⟨_, _, hp.1, hp.2.1, hp.2.2.1, hp.2.2.2, ?_⟩
    unfold bitF
    have e2 : i / (W : Int) * W + i % W = i := by have := Int.emod_add_mul_ediv i W; rw [Int.mul_comm] at this; omega
    rw [e2, e]; rfl
end
end Go.Proofs.YtoonkpjddfiopaaDoor

/- Walk of the law ImageTurns. -/
namespace Go.Proofs.YtoonkpjddfiopaaDoor
open Go.RowKit
set_option linter.unusedVariables false

set_option maxRecDepth 100000 in
set_option maxHeartbeats 4000000 in
theorem imageTurns_any (s ka kb : Int) (A : Option Addr) (n c : Nat) (r : Int → Int) (w : World) (hA : ArrB w w.heap.size A n r) (hn : n ≤ maxLen) (hr : IsB r) (hs : 0 ≤ s ∧ s ≤ 65535) (hka : 0 ≤ ka ∧ ka ≤ 255) (hkb : 0 ≤ kb ∧ kb ≤ 255) :
    Calls Tryd.prog 10 #[.int .u16 s, .slice A n c, .int .u8 ka, .int .u8 kb] w fun e w' => e = .returned (.bool true) ∧ Below w.heap.size w w' := by
  obtain ⟨hs0, hs1⟩ := hs
  obtain ⟨W, hW⟩ : ∃ W : Nat, s % 41 = W := ⟨(s % 41).toNat, by omega⟩
  obtain ⟨H, hH⟩ : ∃ H : Nat, s / 41 % 31 = H := ⟨(s / 41 % 31).toNat, by omega⟩
  have W1 : W ≤ 40 := by omega
  have H1 : H ≤ 30 := by omega
  obtain ⟨N, hN⟩ : ∃ N : Nat, N = W * H := ⟨_, rfl⟩
  have hN9 : N ≤ 1200 := by rw [hN]; exact Nat.mul_le_mul W1 H1
  have hNI : (N : Int) = (W : Int) * H := by rw [hN]; push_cast; rfl
  have hnm : N ≤ maxLen := by unfold maxLen; omega
  obtain ⟨a, ha⟩ : ∃ a : Nat, ka.tmod 8 = a := ⟨(ka % 8).toNat, by rw [Int.tmod_eq_emod_of_nonneg hka.1]; omega⟩
  obtain ⟨b, hb⟩ : ∃ b : Nat, kb.tmod 8 = b := ⟨(kb % 8).toNat, by rw [Int.tmod_eq_emod_of_nonneg hkb.1]; omega⟩
  have a8 : a < 8 := by have := Int.tmod_eq_emod_of_nonneg (b := 8) hka.1; omega
  have b8 : b < 8 := by have := Int.tmod_eq_emod_of_nonneg (b := 8) hkb.1; omega
  have ua : IntKind.u8.wrap (a : Int) = a := IntWalk.u8_in _ (by omega)
  have va : IntKind.i64.wrap (a : Int) = a := IntWalk.i64_in _ (by omega)
  have ub : IntKind.u8.wrap (b : Int) = b := IntWalk.u8_in _ (by omega)
  have vb : IntKind.i64.wrap (b : Int) = b := IntWalk.i64_in _ (by omega)
  obtain ⟨p, hp⟩ : ∃ p, bitQ n r = p := ⟨_, rfl⟩
  have p01 : ∀ i, p i = 0 ∨ p i = 1 := fun i => by rw [← hp]; exact bit01 n r i
  have MA := Lib.hid fun w' h' => made_any s W H A n c r w' h' hn hr hs0 hs1 hW hH N hNI
  rw [hp] at MA
  obtain ⟨X1, hX1⟩ : ∃ X : Nat, sdW (W : Int) H a = X := ⟨(sdW (W : Int) H a).toNat, by have := (sd_nn (W := W) (H := H) a).1; omega⟩
  obtain ⟨Y1, hY1⟩ : ∃ X : Nat, sdW (H : Int) W a = X := ⟨(sdW (H : Int) W a).toNat, by have := (sd_nn (W := W) (H := H) a).2; omega⟩
  have X1b : X1 ≤ 40 := by have : X1 = W ∨ X1 = H := by { unfold sdW at hX1; split at hX1 <;> omega }
                           omega
  have Y1b : Y1 ≤ 40 := by have : Y1 = W ∨ Y1 = H := by { unfold sdW at hY1; split at hY1 <;> omega }
                           omega
  have hN1 : N = X1 * Y1 := by have := sd_area (W := W) (H := H) hN a; rw [hX1, hY1] at this; exact_mod_cast this
  have hNI1 : (N : Int) = (X1 : Int) * Y1 := by rw [hN1]; push_cast; rfl
  obtain ⟨P, hP⟩ : ∃ P, prodT a b = P := ⟨_, rfl⟩
  have P8 : P < 8 := by rw [← hP]; exact prodT_lt a8 b8
  obtain ⟨X2, hX2⟩ : ∃ X, sdW (W : Int) H P = X := ⟨_, rfl⟩
  obtain ⟨Y2, hY2⟩ : ∃ X, sdW (H : Int) W P = X := ⟨_, rfl⟩
  have eX : sdW (X1 : Int) Y1 b = X2 := by rw [← hX1, ← hY1, sdW_prod _ _ a8 b8, hP, hX2]
  have eY : sdW (Y1 : Int) X1 b = Y2 := by rw [← hX1, ← hY1, sdW_prod _ _ a8 b8, hP, hY2]
  have hB8 : backT a < 8 := by unfold backT; split <;> omega
  have eW : sdW (X1 : Int) Y1 (backT a) = W := by rw [← hX1, ← hY1, sdW_prod _ _ a8 hB8, prod_back a8]; rfl
  have eH : sdW (Y1 : Int) X1 (backT a) = H := by rw [← hX1, ← hY1, sdW_prod _ _ a8 hB8, prod_back a8]; rfl
  obtain ⟨q1, hq1⟩ : ∃ q, tuQ W H p a = q := ⟨_, rfl⟩
  have q01 : ∀ i, q1 i = 0 ∨ q1 i = 1 := fun i => by rw [← hq1]; exact tu_01 _ _ _ _ i
  have ck : ∀ f : Int → Int, (∀ i, f i = 0 ∨ f i = 1) → chk W H N f = 0 := fun f h => chk_mk (by omega) (by omega) (by omega) (by omega) hNI fun i _ _ => by rcases h i with e | e <;> omega
  have ck1 : chk X1 Y1 N q1 = 0 := chk_mk (by omega) (by omega) (by omega) (by omega) hNI1 fun i _ _ => by rcases q01 i with e | e <;> omega
  have T1 := Lib.hid fun A' c' w' h1 => turn_ok W H a A' N c' p w' h1 hnm (isB_01 p01) (ck p p01) a8
  have T2 := Lib.hid fun A' c' w' h1 => turn_ok X1 Y1 b A' N c' q1 w' h1 hnm (isB_01 q01) ck1 b8
  have T3 := Lib.hid fun A' c' w' h1 => turn_ok W H P A' N c' p w' h1 hnm (isB_01 p01) (ck p p01) P8
  obtain ⟨K, hK⟩ : ∃ K, backT a = K := ⟨_, rfl⟩
  have T4 := Lib.hid fun A' c' w' h1 => turn_ok X1 Y1 K A' N c' q1 w' h1 hnm (isB_01 q01) ck1 (hK ▸ hB8)
  have PR := Lib.hid fun w' => product_any a b a8 b8 w'
  rw [hK] at eW eH
  rw [hP] at PR
  rw [hX1, hY1, hq1] at T1
  rw [eX, eY] at T2
  rw [hX2, hY2] at T3
  rw [eW, eH] at T4
  obtain ⟨q2, hq2⟩ : ∃ q, tuQ X1 Y1 q1 b = q := ⟨_, rfl⟩
  obtain ⟨q3, hq3⟩ : ∃ q, tuQ W H p P = q := ⟨_, rfl⟩
  obtain ⟨q4, hq4⟩ : ∃ q, tuQ X1 Y1 q1 K = q := ⟨_, rfl⟩
  have EQ : Hid (∀ i : Int, 0 ≤ i → i < N → q2 i = q3 i) := fun i i0 i1 => by rw [← hq2, ← hq3, ← hq1, ← hX1, ← hY1, ← hP]; exact tu_two hN a8 b8 i0 i1
  have EQ4 : Hid (∀ i : Int, 0 ≤ i → i < N → q4 i = p i) := fun i i0 i1 => by rw [← hq4, ← hq1, ← hX1, ← hY1, ← hK, tu_two hN a8 hB8 i0 i1, prod_back a8]; exact tu_zero hN p01 i0 i1
  rw [hq2] at T2; rw [hq3] at T3; rw [hq4] at T4
  have CT := Lib.hid fun (g : Nat) w' h1 => count_some W H g 0 N N p w' h1 hnm (ck p p01) (fun i _ _ => p01 i)
  have CX := Lib.hid fun (g : Nat) w' h1 => count_some X1 Y1 g 0 N N q1 w' h1 hnm ck1 (fun i _ _ => q01 i)
  have es : sumN N q1 = sumN N p := by rw [← hq1]; exact tu_count hN p01 a
  rw [es] at CX
  obtain ⟨M, hM⟩ : ∃ M, sumN N p = M := ⟨_, rfl⟩
  rw [hM] at CT CX
  have BT := Lib.hid fun A' c' w' h1 => ibox_any W H A' N c' p w' h1 (by omega) (by omega) hN fun i _ _ => p01 i
  have BX := Lib.hid fun A' c' w' h1 => ibox_any X1 Y1 A' N c' q1 w' h1 (by omega) (by omega) hN1 fun i _ _ => q01 i
  have BB := Lib.hid fun (r s : Int × Int × Int × Int) (hr : IsBox W (inkL N p) r) (hs : IsBox X1 (inkL N q1) s) => tu_box hN a hX1 hY1 hr (by rw [hq1]; exact hs)
  have BS := Lib.hid fun (r : Int × Int × Int × Int) (hr : IsBox W (inkL N p) r) => tu_some hN p01 hr
  rw [hM] at BS
  have HA := Lib.hid hA
  have S1 := Lib.hid fun A' B' c' d' w' h1 h2 => sameInk_true X2 Y2 A' B' N c' d' q2 q3 w' h1 h2 hnm EQ.out
  have S2 := Lib.hid fun A' B' c' d' w' h1 h2 => sameInk_true W H A' B' N c' d' q4 p w' h1 h2 hnm EQ4.out
  have KB : Hid (K = backT a) := Lib.hid hK.symm
  clear hA hn hr hs0 hs1 hW hH hN hNI hp p01 ck W1 H1 hN9 hX1 hY1 X1b Y1b hN1 hNI1 hP P8 hX2 hY2 eX eY hB8 eW eH hq1 q01 ck1 hK hq2 hq3 hq4 es hM EQ EQ4 hka hkb
  have K0 := Kp.nil w
  have b0 := Below.refl w.heap.size w
  go_enter Tryd.func10, Tryd.ntmps10
  go_wp2_with fail
  refine (MA.out _ HA.out).mono ?_
  rintro e v1 ⟨_, rfl, ⟨gva, rfl, hgva, kva⟩, hb1⟩
  have K1a := (K0.below hb1).addA (kva.arrB kva.lt)
  have b1a := below_call b0 b0.size hb1
  have z1 := b1a.size
  have b1 : Below w.heap.size w (v1.alloc (.cells #[.int .i64 W, .int .i64 H, .slice (some ⟨gva, 0, none⟩) N N] 24)) := by (repeat (first | exact Below.refl _ _ | assumption | refine Below.drew ?_ | refine below_drewN ?_ _ | refine Below.alloc ?_ (by first | omega | (simp; done) | (simp; omega)) _ | refine Below.setCell ?_ (by first | omega | (simp; done) | (simp; omega)) _ | refine below_setRow ?_ (by first | omega | (simp; done) | (simp; omega)) _ ))
  have K1 := K1a.new 24 #[.int .i64 W, .int .i64 H, .slice (some ⟨gva, 0, none⟩) N N]
  clear K0 b0 K1a b1a hb1  z1 MA hgva kva
  obtain ⟨p1, p2, p3⟩ := (K1.b 0 rfl).cells3
  go_wp2_with fail
  generalize v1.alloc (.cells #[.int .i64 W, .int .i64 H, .slice (some ⟨gva, 0, none⟩) N N] 24) = w1 at *
  refine (T1.out _ _ _ (K1.a 0 rfl)).mono ?_
  rintro e v2 ⟨_, rfl, ⟨gvx, rfl, hgvx, kvx⟩, hb2⟩
  have K2a := (K1.below hb2).addA (kvx.arrB kvx.lt)
  have b2a := below_call b1 b1.size hb2
  have z2 := b2a.size
  have b2 : Below w.heap.size w (v2.alloc (.cells #[.int .i64 X1, .int .i64 Y1, .slice (some ⟨gvx, 0, none⟩) N N] 24)) := by (repeat (first | exact Below.refl _ _ | assumption | refine Below.drew ?_ | refine below_drewN ?_ _ | refine Below.alloc ?_ (by first | omega | (simp; done) | (simp; omega)) _ | refine Below.setCell ?_ (by first | omega | (simp; done) | (simp; omega)) _ | refine below_setRow ?_ (by first | omega | (simp; done) | (simp; omega)) _ ))
  have K2 := K2a.new 24 #[.int .i64 X1, .int .i64 Y1, .slice (some ⟨gvx, 0, none⟩) N N]
  clear K1 b1 K2a b2a hb2 p1 p2 p3 z2 T1 hgvx kvx
  obtain ⟨p1, p2, p3⟩ := (K2.b 0 rfl).cells3
  go_wp2_with fail
  generalize v2.alloc (.cells #[.int .i64 X1, .int .i64 Y1, .slice (some ⟨gvx, 0, none⟩) N N] 24) = w2 at *
  refine (T2.out _ _ _ (K2.a 0 rfl)).mono ?_
  rintro e v3 ⟨_, rfl, ⟨gvy, rfl, hgvy, kvy⟩, hb3⟩
  have K3a := (K2.below hb3).addA (kvy.arrB kvy.lt)
  have b3a := below_call b2 b2.size hb3
  have z3 := b3a.size
  have b3 : Below w.heap.size w (v3.alloc (.cells #[.int .i64 X2, .int .i64 Y2, .slice (some ⟨gvy, 0, none⟩) N N] 24)) := by (repeat (first | exact Below.refl _ _ | assumption | refine Below.drew ?_ | refine below_drewN ?_ _ | refine Below.alloc ?_ (by first | omega | (simp; done) | (simp; omega)) _ | refine Below.setCell ?_ (by first | omega | (simp; done) | (simp; omega)) _ | refine below_setRow ?_ (by first | omega | (simp; done) | (simp; omega)) _ ))
  have K3 := K3a.new 24 #[.int .i64 X2, .int .i64 Y2, .slice (some ⟨gvy, 0, none⟩) N N]
  clear K2 b2 K3a b3a hb3 p1 p2 p3 z3 T2 hgvy kvy
  obtain ⟨p1, p2, p3⟩ := (K3.b 2 rfl).cells3
  go_upto_region 5 with fail
  generalize v3.alloc (.cells #[.int .i64 X2, .int .i64 Y2, .slice (some ⟨gvy, 0, none⟩) N N] 24) = w3 at *
  have KS := Lib.hid fun (w' : World) (h : Below w3.heap.size w3 w') => ((K3.b 2 rfl).below' h).cells3
  go_cut [16, 17] (fun t16 t17 wx => ∃ gb gvz, t16 = .pointer (some ⟨gb, 0, none⟩) ∧ t17 = .int .i64 0 ∧ Below w3.heap.size w3 wx ∧ Blk wx gb 24 #[.int .i64 X2, .int .i64 Y2, .slice (some ⟨gvz, 0, none⟩) N N] ∧ ArrB wx wx.heap.size (some ⟨gvz, 0, none⟩) N q3)
  case first =>
    have bw : Below w3.heap.size w3 w3.drew := (Below.refl _ _).drew
    refine wp_region_held_drew (S := fun w' => w'.cell? ⟨v1.heap.size, 0, none⟩ = some (.int .i64 W) ∧ w'.cell? ⟨v1.heap.size, 1, none⟩ = some (.int .i64 H) ∧ w'.cell? ⟨v1.heap.size, 2, none⟩ = some (.slice (some ⟨gva, 0, none⟩) N N)) (by kernel_rfl) (KS.out _ (Below.refl _ _).drew) (fun hHeld => ?_)
    refine wpAnyH_take (i := 0) (oi := _) (v := ?_) (by simp only [List.getElem?_toArray, List.getElem?_cons_zero]; exact rfl) (by kernel_rfl) (by kernel_rfl) (by kernel_rfl) (by exact fun _ _ _ h => h) (Or.inl ⟨by rfl, ?_⟩) (by assumption) ?_
    rotate_left 1
    · intro w hSw
      (try dsimp only at hSw)
      go_simp
      try with_reducible rfl
    try simp only [Act.put, List.setIfInBounds_toArray, List.set_cons_zero, List.set_cons_succ]
    refine wpAnyH_take (i := 1) (oi := _) (v := ?_) (by simp only [List.getElem?_toArray, List.getElem?_cons_zero, List.getElem?_cons_succ]; exact rfl) (by kernel_rfl) (by kernel_rfl) (by kernel_rfl) (by exact fun _ _ _ h => h) (Or.inl ⟨by rfl, ?_⟩) (by assumption) ?_
    rotate_left 1
    · intro w hSw
      (try dsimp only at hSw)
      go_simp
      try with_reducible rfl
    try simp only [Act.put, List.setIfInBounds_toArray, List.set_cons_zero, List.set_cons_succ]
    refine wpAnyH_take (i := 2) (oi := _) (v := ?_) (by simp only [List.getElem?_toArray, List.getElem?_cons_zero, List.getElem?_cons_succ]; exact rfl) (by kernel_rfl) (by kernel_rfl) (by kernel_rfl) (by exact fun _ _ _ h => h) (Or.inl ⟨by rfl, ?_⟩) (by assumption) ?_
    rotate_left 1
    · intro w hSw
      (try dsimp only at hSw)
      go_simp
      try with_reducible rfl
    try simp only [Act.put, List.setIfInBounds_toArray, List.set_cons_zero, List.set_cons_succ]
    refine wpAnyH_ready (rs := [3, 8]) (by kernel_rfl) (by simp) ?_
    refine (AllReadyH.cons (o := _) (by simp only [List.getElem?_toArray, List.getElem?_cons_zero, List.getElem?_cons_succ]; exact rfl) (fun K' hK => ?_) (AllReadyH.cons (o := _) (by simp only [List.getElem?_toArray, List.getElem?_cons_zero, List.getElem?_cons_succ]; exact rfl) (fun K' hK => ?_) AllReadyH.nil))
    · go_simp
      refine (PR.out _).mono ?_
      rintro ee x7 ⟨rfl, hb7⟩
      have c7 := below_call bw bw.size hb7
      refine hK.out _ _ (KS.out _ c7) (fun hHeld => ?_)
      clear hK K'
      try simp only [Act.put, List.setIfInBounds_toArray, List.set_cons_zero, List.set_cons_succ]
      refine wpAnyH_ready (rs := [4, 8]) (by kernel_rfl) (by simp) ?_
      refine (AllReadyH.cons (o := _) (by simp only [List.getElem?_toArray, List.getElem?_cons_zero, List.getElem?_cons_succ]; exact rfl) (fun K' hK => ?_) (AllReadyH.cons (o := _) (by simp only [List.getElem?_toArray, List.getElem?_cons_zero, List.getElem?_cons_succ]; exact rfl) (fun K' hK => ?_) AllReadyH.nil))
      · go_simp
        refine (T3.out _ _ _ ((K3.below c7).a 2 rfl)).mono ?_
        rintro ee x8 ⟨_, rfl, ⟨gvz, rfl, hgvz, kvz⟩, hb8⟩
        have c8 := below_call c7 c7.size hb8
        refine hK.out _ _ (KS.out _ c8) (fun hHeld => ?_)
        clear hK K'
        try simp only [Act.put, List.setIfInBounds_toArray, List.set_cons_zero, List.set_cons_succ]
        have kz := kvz
        have zk := kvz.lt
        refine wpAnyH_take (i := 5) (oi := _) (v := ?_) (by simp only [List.getElem?_toArray, List.getElem?_cons_zero, List.getElem?_cons_succ]; exact rfl) (by kernel_rfl) (by kernel_rfl) (by kernel_rfl) (by exact fun _ _ _ h => h) (Or.inl ⟨by rfl, ?_⟩) (by assumption) ?_
        rotate_left 1
        · intro w hSw
          (try dsimp only at hSw)
          go_simp
          try with_reducible rfl
        try simp only [Act.put, List.setIfInBounds_toArray, List.set_cons_zero, List.set_cons_succ]
        refine wpAnyH_take (i := 6) (oi := _) (v := ?_) (by simp only [List.getElem?_toArray, List.getElem?_cons_zero, List.getElem?_cons_succ]; exact rfl) (by kernel_rfl) (by kernel_rfl) (by kernel_rfl) (by exact fun _ _ _ h => h) (Or.inl ⟨by rfl, ?_⟩) (by assumption) ?_
        rotate_left 1
        · intro w hSw
          (try dsimp only at hSw)
          go_simp
          try with_reducible rfl
        try simp only [Act.put, List.setIfInBounds_toArray, List.set_cons_zero, List.set_cons_succ]
        refine wpAnyH_take (i := 7) (oi := _) (v := ?_) (by simp only [List.getElem?_toArray, List.getElem?_cons_zero, List.getElem?_cons_succ]; exact rfl) (by kernel_rfl) (by kernel_rfl) (by kernel_rfl) (by exact fun _ _ _ h => h) (Or.inl ⟨by rfl, ?_⟩) (by assumption) ?_
        rotate_left 1
        · intro w hSw
          (try dsimp only at hSw)
          go_simp
          try with_reducible rfl
        try simp only [Act.put, List.setIfInBounds_toArray, List.set_cons_zero, List.set_cons_succ]
        refine wpAnyH_ready (rs := [8]) (by kernel_rfl) (by simp) ?_
        refine (AllReadyH.cons (o := _) (by simp only [List.getElem?_toArray, List.getElem?_cons_zero, List.getElem?_cons_succ]; exact rfl) (fun K' hK => ?_) AllReadyH.nil)
        · go_simp
          have c9 : Below w3.heap.size w3 (x8.alloc (.cells #[.int .i64 0, .int .i64 0, .slice none 0 0] 24)) := c8.alloc c8.size _
          have d9 := Blk.new x8 24 #[Value.int .i64 0, .int .i64 0, .slice none 0 0]
          replace kz := kz.alloc (.cells #[.int .i64 0, .int .i64 0, .slice none 0 0] 24)
          have s9 := c8.size
          refine hK.out _ _ (KS.out _ c9) (fun hHeld => ?_)
          clear hK K'
          try simp only [Act.put, List.setIfInBounds_toArray, List.set_cons_zero, List.set_cons_succ]
          generalize x8.alloc (.cells #[.int .i64 0, .int .i64 0, .slice none 0 0] 24) = x9 at *
          have zal := d9.lt
          obtain ⟨f1, f2, f3⟩ := d9.frozen3
          obtain ⟨c1, c2, c3⟩ := d9.cells3
          refine wpAnyH_ready (rs := [9]) (by kernel_rfl) (by simp) ?_
          refine (AllReadyH.cons (o := _) (by simp only [List.getElem?_toArray, List.getElem?_cons_zero, List.getElem?_cons_succ]; exact rfl) (fun K' hK => ?_) AllReadyH.nil)
          · go_simp
            have e1 := (d9.fill3 (a := .int .i64 X2) (b := .int .i64 Y2) (c := .slice (some ⟨gvz, 0, none⟩) N N))
            have zg := kz.lt
            have zz : w3.heap.size ≤ x8.heap.size := by omega
            have bE : Below w3.heap.size w3 (((x9.setCell ⟨x8.heap.size, 0, none⟩ (.int .i64 X2)).setCell ⟨x8.heap.size, 1, none⟩ (.int .i64 Y2)).setCell ⟨x8.heap.size, 2, none⟩ (.slice (some ⟨gvz, 0, none⟩) N N)) := ((c9.setCell (p := ⟨x8.heap.size, 0, none⟩) zz _).setCell (p := ⟨x8.heap.size, 1, none⟩) zz _).setCell (p := ⟨x8.heap.size, 2, none⟩) zz _
            refine hK.out _ _ (KS.out _ bE) (fun hHeld => ?_)
            clear hK K'
            try simp only [Act.put, List.setIfInBounds_toArray, List.set_cons_zero, List.set_cons_succ]
            refine wpAnyH_take (i := 10) (oi := _) (v := ?_) (by simp only [List.getElem?_toArray, List.getElem?_cons_zero, List.getElem?_cons_succ]; exact rfl) (by kernel_rfl) (by kernel_rfl) (by kernel_rfl) (by exact fun _ _ _ h => h) (Or.inl ⟨by rfl, ?_⟩) (by assumption) ?_
            rotate_left 1
            · intro w hSw
              (try dsimp only at hSw)
              go_simp
              try with_reducible rfl
            try simp only [Act.put, List.setIfInBounds_toArray, List.set_cons_zero, List.set_cons_succ]
            refine wpAnyH_done (by kernel_rfl) ?_ _
            go_wp2_with fail
            go_meet
            refine ⟨_, gvz, rfl, rfl, bE, e1, ?_⟩
            have hne : gvz ≠ x8.heap.size := by omega
            have KE := ((kz.far (p := ⟨x8.heap.size, 0, none⟩) hne (.int .i64 X2)).far (p := ⟨x8.heap.size, 1, none⟩) hne (.int .i64 Y2)).far (p := ⟨x8.heap.size, 2, none⟩) hne (.slice (some ⟨gvz, 0, none⟩) N N)
            exact KE.arrB KE.lt
      · go_simp
        have c10 : Below w3.heap.size w3 (x7.alloc (.cells #[.int .i64 0, .int .i64 0, .slice none 0 0] 24)) := c7.alloc c7.size _
        have d10 := Blk.new x7 24 #[Value.int .i64 0, .int .i64 0, .slice none 0 0]
        have s10 := c7.size
        refine hK.out _ _ (KS.out _ c10) (fun hHeld => ?_)
        clear hK K'
        try simp only [Act.put, List.setIfInBounds_toArray, List.set_cons_zero, List.set_cons_succ]
        generalize x7.alloc (.cells #[.int .i64 0, .int .i64 0, .slice none 0 0] 24) = x10 at *
        refine wpAnyH_ready (rs := [4]) (by kernel_rfl) (by simp) ?_
        refine (AllReadyH.cons (o := _) (by simp only [List.getElem?_toArray, List.getElem?_cons_zero, List.getElem?_cons_succ]; exact rfl) (fun K' hK => ?_) AllReadyH.nil)
        · go_simp
          have l11 := d10.lt
          refine (T3.out _ _ _ ((K3.below c10).a 2 rfl)).mono ?_
          rintro ee x11 ⟨_, rfl, ⟨gvz, rfl, hgvz, kvz⟩, hb11⟩
          have c11 := below_call c10 c10.size hb11
          have d11 := d10.below' hb11
          refine hK.out _ _ (KS.out _ c11) (fun hHeld => ?_)
          clear hK K'
          try simp only [Act.put, List.setIfInBounds_toArray, List.set_cons_zero, List.set_cons_succ]
          have kz := kvz
          have zk := kvz.lt
          refine wpAnyH_take (i := 5) (oi := _) (v := ?_) (by simp only [List.getElem?_toArray, List.getElem?_cons_zero, List.getElem?_cons_succ]; exact rfl) (by kernel_rfl) (by kernel_rfl) (by kernel_rfl) (by exact fun _ _ _ h => h) (Or.inl ⟨by rfl, ?_⟩) (by assumption) ?_
          rotate_left 1
          · intro w hSw
            (try dsimp only at hSw)
            go_simp
            try with_reducible rfl
          try simp only [Act.put, List.setIfInBounds_toArray, List.set_cons_zero, List.set_cons_succ]
          refine wpAnyH_take (i := 6) (oi := _) (v := ?_) (by simp only [List.getElem?_toArray, List.getElem?_cons_zero, List.getElem?_cons_succ]; exact rfl) (by kernel_rfl) (by kernel_rfl) (by kernel_rfl) (by exact fun _ _ _ h => h) (Or.inl ⟨by rfl, ?_⟩) (by assumption) ?_
          rotate_left 1
          · intro w hSw
            (try dsimp only at hSw)
            go_simp
            try with_reducible rfl
          try simp only [Act.put, List.setIfInBounds_toArray, List.set_cons_zero, List.set_cons_succ]
          refine wpAnyH_take (i := 7) (oi := _) (v := ?_) (by simp only [List.getElem?_toArray, List.getElem?_cons_zero, List.getElem?_cons_succ]; exact rfl) (by kernel_rfl) (by kernel_rfl) (by kernel_rfl) (by exact fun _ _ _ h => h) (Or.inl ⟨by rfl, ?_⟩) (by assumption) ?_
          rotate_left 1
          · intro w hSw
            (try dsimp only at hSw)
            go_simp
            try with_reducible rfl
          try simp only [Act.put, List.setIfInBounds_toArray, List.set_cons_zero, List.set_cons_succ]
          have zal := d11.lt
          obtain ⟨f1, f2, f3⟩ := d11.frozen3
          obtain ⟨c1, c2, c3⟩ := d11.cells3
          refine wpAnyH_ready (rs := [9]) (by kernel_rfl) (by simp) ?_
          refine (AllReadyH.cons (o := _) (by simp only [List.getElem?_toArray, List.getElem?_cons_zero, List.getElem?_cons_succ]; exact rfl) (fun K' hK => ?_) AllReadyH.nil)
          · go_simp
            have e1 := (d11.fill3 (a := .int .i64 X2) (b := .int .i64 Y2) (c := .slice (some ⟨gvz, 0, none⟩) N N))
            have zg := kz.lt
            have zz : w3.heap.size ≤ x7.heap.size := by omega
            have bE : Below w3.heap.size w3 (((x11.setCell ⟨x7.heap.size, 0, none⟩ (.int .i64 X2)).setCell ⟨x7.heap.size, 1, none⟩ (.int .i64 Y2)).setCell ⟨x7.heap.size, 2, none⟩ (.slice (some ⟨gvz, 0, none⟩) N N)) := ((c11.setCell (p := ⟨x7.heap.size, 0, none⟩) zz _).setCell (p := ⟨x7.heap.size, 1, none⟩) zz _).setCell (p := ⟨x7.heap.size, 2, none⟩) zz _
            refine hK.out _ _ (KS.out _ bE) (fun hHeld => ?_)
            clear hK K'
            try simp only [Act.put, List.setIfInBounds_toArray, List.set_cons_zero, List.set_cons_succ]
            refine wpAnyH_take (i := 10) (oi := _) (v := ?_) (by simp only [List.getElem?_toArray, List.getElem?_cons_zero, List.getElem?_cons_succ]; exact rfl) (by kernel_rfl) (by kernel_rfl) (by kernel_rfl) (by exact fun _ _ _ h => h) (Or.inl ⟨by rfl, ?_⟩) (by assumption) ?_
            rotate_left 1
            · intro w hSw
              (try dsimp only at hSw)
              go_simp
              try with_reducible rfl
            try simp only [Act.put, List.setIfInBounds_toArray, List.set_cons_zero, List.set_cons_succ]
            refine wpAnyH_done (by kernel_rfl) ?_ _
            go_wp2_with fail
            go_meet
            refine ⟨_, gvz, rfl, rfl, bE, e1, ?_⟩
            have hne : gvz ≠ x7.heap.size := by omega
            have KE := ((kz.far (p := ⟨x7.heap.size, 0, none⟩) hne (.int .i64 X2)).far (p := ⟨x7.heap.size, 1, none⟩) hne (.int .i64 Y2)).far (p := ⟨x7.heap.size, 2, none⟩) hne (.slice (some ⟨gvz, 0, none⟩) N N)
            exact KE.arrB KE.lt
    · go_simp
      have c12 : Below w3.heap.size w3 ((w3.alloc (.cells #[.int .i64 0, .int .i64 0, .slice none 0 0] 24)).drew) := bw.alloc bw.size _
      have d12 : Blk ((w3.alloc (.cells #[.int .i64 0, .int .i64 0, .slice none 0 0] 24)).drew) w3.heap.size 24 #[Value.int .i64 0, .int .i64 0, .slice none 0 0] := (Blk.new w3 _ _).drew
      have s12 := bw.size
      refine hK.out _ _ (KS.out _ c12) (fun hHeld => ?_)
      clear hK K'
      try simp only [Act.put, List.setIfInBounds_toArray, List.set_cons_zero, List.set_cons_succ]
      generalize (w3.alloc (.cells #[.int .i64 0, .int .i64 0, .slice none 0 0] 24)).drew = x12 at *
      refine wpAnyH_ready (rs := [3]) (by kernel_rfl) (by simp) ?_
      refine (AllReadyH.cons (o := _) (by simp only [List.getElem?_toArray, List.getElem?_cons_zero, List.getElem?_cons_succ]; exact rfl) (fun K' hK => ?_) AllReadyH.nil)
      · go_simp
        have l13 := d12.lt
        refine (PR.out _).mono ?_
        rintro ee x13 ⟨rfl, hb13⟩
        have c13 := below_call c12 c12.size hb13
        have d13 := d12.below' hb13
        refine hK.out _ _ (KS.out _ c13) (fun hHeld => ?_)
        clear hK K'
        try simp only [Act.put, List.setIfInBounds_toArray, List.set_cons_zero, List.set_cons_succ]
        refine wpAnyH_ready (rs := [4]) (by kernel_rfl) (by simp) ?_
        refine (AllReadyH.cons (o := _) (by simp only [List.getElem?_toArray, List.getElem?_cons_zero, List.getElem?_cons_succ]; exact rfl) (fun K' hK => ?_) AllReadyH.nil)
        · go_simp
          have l14 := d13.lt
          refine (T3.out _ _ _ ((K3.below c13).a 2 rfl)).mono ?_
          rintro ee x14 ⟨_, rfl, ⟨gvz, rfl, hgvz, kvz⟩, hb14⟩
          have c14 := below_call c13 c13.size hb14
          have d14 := d13.below' hb14
          refine hK.out _ _ (KS.out _ c14) (fun hHeld => ?_)
          clear hK K'
          try simp only [Act.put, List.setIfInBounds_toArray, List.set_cons_zero, List.set_cons_succ]
          have kz := kvz
          have zk := kvz.lt
          refine wpAnyH_take (i := 5) (oi := _) (v := ?_) (by simp only [List.getElem?_toArray, List.getElem?_cons_zero, List.getElem?_cons_succ]; exact rfl) (by kernel_rfl) (by kernel_rfl) (by kernel_rfl) (by exact fun _ _ _ h => h) (Or.inl ⟨by rfl, ?_⟩) (by assumption) ?_
          rotate_left 1
          · intro w hSw
            (try dsimp only at hSw)
            go_simp
            try with_reducible rfl
          try simp only [Act.put, List.setIfInBounds_toArray, List.set_cons_zero, List.set_cons_succ]
          refine wpAnyH_take (i := 6) (oi := _) (v := ?_) (by simp only [List.getElem?_toArray, List.getElem?_cons_zero, List.getElem?_cons_succ]; exact rfl) (by kernel_rfl) (by kernel_rfl) (by kernel_rfl) (by exact fun _ _ _ h => h) (Or.inl ⟨by rfl, ?_⟩) (by assumption) ?_
          rotate_left 1
          · intro w hSw
            (try dsimp only at hSw)
            go_simp
            try with_reducible rfl
          try simp only [Act.put, List.setIfInBounds_toArray, List.set_cons_zero, List.set_cons_succ]
          refine wpAnyH_take (i := 7) (oi := _) (v := ?_) (by simp only [List.getElem?_toArray, List.getElem?_cons_zero, List.getElem?_cons_succ]; exact rfl) (by kernel_rfl) (by kernel_rfl) (by kernel_rfl) (by exact fun _ _ _ h => h) (Or.inl ⟨by rfl, ?_⟩) (by assumption) ?_
          rotate_left 1
          · intro w hSw
            (try dsimp only at hSw)
            go_simp
            try with_reducible rfl
          try simp only [Act.put, List.setIfInBounds_toArray, List.set_cons_zero, List.set_cons_succ]
          have zal := d14.lt
          obtain ⟨f1, f2, f3⟩ := d14.frozen3
          obtain ⟨c1, c2, c3⟩ := d14.cells3
          refine wpAnyH_ready (rs := [9]) (by kernel_rfl) (by simp) ?_
          refine (AllReadyH.cons (o := _) (by simp only [List.getElem?_toArray, List.getElem?_cons_zero, List.getElem?_cons_succ]; exact rfl) (fun K' hK => ?_) AllReadyH.nil)
          · go_simp
            have e1 := (d14.fill3 (a := .int .i64 X2) (b := .int .i64 Y2) (c := .slice (some ⟨gvz, 0, none⟩) N N))
            have zg := kz.lt
            have zz : w3.heap.size ≤ w3.heap.size := by omega
            have bE : Below w3.heap.size w3 (((x14.setCell ⟨w3.heap.size, 0, none⟩ (.int .i64 X2)).setCell ⟨w3.heap.size, 1, none⟩ (.int .i64 Y2)).setCell ⟨w3.heap.size, 2, none⟩ (.slice (some ⟨gvz, 0, none⟩) N N)) := ((c14.setCell (p := ⟨w3.heap.size, 0, none⟩) zz _).setCell (p := ⟨w3.heap.size, 1, none⟩) zz _).setCell (p := ⟨w3.heap.size, 2, none⟩) zz _
            refine hK.out _ _ (KS.out _ bE) (fun hHeld => ?_)
            clear hK K'
            try simp only [Act.put, List.setIfInBounds_toArray, List.set_cons_zero, List.set_cons_succ]
            refine wpAnyH_take (i := 10) (oi := _) (v := ?_) (by simp only [List.getElem?_toArray, List.getElem?_cons_zero, List.getElem?_cons_succ]; exact rfl) (by kernel_rfl) (by kernel_rfl) (by kernel_rfl) (by exact fun _ _ _ h => h) (Or.inl ⟨by rfl, ?_⟩) (by assumption) ?_
            rotate_left 1
            · intro w hSw
              (try dsimp only at hSw)
              go_simp
              try with_reducible rfl
            try simp only [Act.put, List.setIfInBounds_toArray, List.set_cons_zero, List.set_cons_succ]
            refine wpAnyH_done (by kernel_rfl) ?_ _
            go_wp2_with fail
            go_meet
            refine ⟨_, gvz, rfl, rfl, bE, e1, ?_⟩
            have hne : gvz ≠ w3.heap.size := by omega
            have KE := ((kz.far (p := ⟨w3.heap.size, 0, none⟩) hne (.int .i64 X2)).far (p := ⟨w3.heap.size, 1, none⟩) hne (.int .i64 Y2)).far (p := ⟨w3.heap.size, 2, none⟩) hne (.slice (some ⟨gvz, 0, none⟩) N N)
            exact KE.arrB KE.lt
  case rest =>
  obtain ⟨gb, gvz, rfl, rfl, hbc, kb, az⟩ := hcut
  have K4 := ((K3.below hbc).addA az).addB kb
  have b4 := below_call b3 b3.size hbc
  generalize wc = w4 at *
  clear K3 b3 hbc az kb KS T3 PR p1 p2 p3
  obtain ⟨p1, p2, p3⟩ := (K4.b 1 rfl).cells3
  obtain ⟨r1, r2, r3⟩ := (K4.b 0 rfl).cells3
  go_wp2_with fail
  refine (S1.out _ _ _ _ _ (K4.a 1 rfl) (K4.a 0 rfl)).mono ?_
  rintro e v5 ⟨rfl, hb5⟩
  have K5 := K4.below hb5
  have b5 := below_call b4 b4.size hb5
  clear K4 b4 hb5 p1 p2 p3 r1 r2 r3 S1
  have hK9 := KB.out
  unfold backT at hK9
  rcases (show (a : Int) < 4 ∨ ¬ (a : Int) < 4 by omega) with a4 | a4
  rotate_left 1
  · rw [if_neg (by omega)] at hK9
    replace hK9 := hK9.symm
    subst hK9
    obtain ⟨p1, p2, p3⟩ := (K5.b 2 rfl).cells3
    go_wp2_with fail
    refine (T4.out _ _ _ (K5.a 2 rfl)).mono ?_
    rintro e v6 ⟨_, rfl, ⟨gvh, rfl, hgvh, kvh⟩, hb6⟩
    have K6a := (K5.below hb6).addA (kvh.arrB kvh.lt)
    have b6a := below_call b5 b5.size hb6
    have z6 := b6a.size
    have b6 : Below w.heap.size w (v6.alloc (.cells #[.int .i64 W, .int .i64 H, .slice (some ⟨gvh, 0, none⟩) N N] 24)) := by (repeat (first | exact Below.refl _ _ | assumption | refine Below.drew ?_ | refine below_drewN ?_ _ | refine Below.alloc ?_ (by first | omega | (simp; done) | (simp; omega)) _ | refine Below.setCell ?_ (by first | omega | (simp; done) | (simp; omega)) _ | refine below_setRow ?_ (by first | omega | (simp; done) | (simp; omega)) _ ))
    have K6 := K6a.new 24 #[.int .i64 W, .int .i64 H, .slice (some ⟨gvh, 0, none⟩) N N]
    clear K5 b5 K6a b6a hb6 p1 p2 p3 z6 T4 hgvh kvh
    obtain ⟨p1, p2, p3⟩ := (K6.b 4 rfl).cells3
    go_wp2_with fail
    generalize v6.alloc (.cells #[.int .i64 W, .int .i64 H, .slice (some ⟨gvh, 0, none⟩) N N] 24) = w6 at *
    refine (CT.out _ _ (K6.a 4 rfl)).mono ?_
    rintro e v7 ⟨rfl, hb7⟩
    have K7 := K6.below hb7
    have b7 := below_call b6 b6.size hb7
    clear K6 b6 hb7 p1 p2 p3 CT
    obtain ⟨p1, p2, p3⟩ := (K7.b 3 rfl).cells3
    go_wp2_with fail
    refine (CX.out _ _ (K7.a 3 rfl)).mono ?_
    rintro e v8 ⟨rfl, hb8⟩
    have K8 := K7.below hb8
    have b8 := below_call b7 b7.size hb8
    clear K7 b7 hb8 p1 p2 p3 CX
    obtain ⟨p1, p2, p3⟩ := (K8.b 0 rfl).cells3
    obtain ⟨r1, r2, r3⟩ := (K8.b 4 rfl).cells3
    go_wp2_with fail
    refine (S2.out _ _ _ _ _ (K8.a 0 rfl) (K8.a 4 rfl)).mono ?_
    rintro e v9 ⟨rfl, hb9⟩
    have K9 := K8.below hb9
    have b9 := below_call b8 b8.size hb9
    clear K8 b8 hb9 p1 p2 p3 r1 r2 r3 S2
    obtain ⟨p1, p2, p3⟩ := (K9.b 4 rfl).cells3
    go_wp2_with fail
    refine (BT.out _ _ _ (K9.a 4 rfl)).mono ?_
    rintro e v10 ⟨⟨m1, m2, m3, m4⟩, rfl, hbxm, hb10⟩
    simp only [boxV]
    have K10 := (K9.below hb10).new 44 #[.int .i64 m1, .int .i64 m2, .int .i64 m3, .int .i64 m4]
    have b10a := below_call b9 b9.size hb10
    have b10 : Below w.heap.size w (v10.alloc (.cells #[.int .i64 m1, .int .i64 m2, .int .i64 m3, .int .i64 m4] 44)) := b10a.alloc b10a.size _
    clear K9 b9 b10a hb10 p1 p2 p3
    obtain ⟨p1, p2, p3⟩ := (K10.b 4 rfl).cells3
    go_wp2_with fail
    generalize v10.alloc (.cells #[.int .i64 m1, .int .i64 m2, .int .i64 m3, .int .i64 m4] 44) = w10 at *
    refine (BX.out _ _ _ (K10.a 3 rfl)).mono ?_
    rintro e v11 ⟨⟨k1, k2, k3, k4⟩, rfl, hbxk, hb11⟩
    simp only [boxV]
    have K11 := (K10.below hb11).new 44 #[.int .i64 k1, .int .i64 k2, .int .i64 k3, .int .i64 k4]
    have b11a := below_call b10 b10.size hb11
    have b11 : Below w.heap.size w (v11.alloc (.cells #[.int .i64 k1, .int .i64 k2, .int .i64 k3, .int .i64 k4] 44)) := b11a.alloc b11a.size _
    clear K10 b10 b11a hb11 p1 p2 p3
    have hcm := (K11.b 1 rfl).cell
    have cm0 := hcm 0; change _ = some (Value.int .i64 m1) at cm0
    have cm1 := hcm 1; change _ = some (Value.int .i64 m2) at cm1
    have cm2 := hcm 2; change _ = some (Value.int .i64 m3) at cm2
    have cm3 := hcm 3; change _ = some (Value.int .i64 m4) at cm3
    clear hcm
    have hck := (K11.b 0 rfl).cell
    have ck0 := hck 0; change _ = some (Value.int .i64 k1) at ck0
    have ck1 := hck 1; change _ = some (Value.int .i64 k2) at ck1
    have ck2 := hck 2; change _ = some (Value.int .i64 k3) at ck2
    have ck3 := hck 3; change _ = some (Value.int .i64 k4) at ck3
    clear hck
    obtain ⟨e3, e4⟩ := BB.out _ _ hbxm hbxk
    obtain ⟨f1, f2, f3⟩ := BS.out _ hbxm
    change k3 = sdW m3 m4 a at e3
    change k4 = sdW m4 m3 a at e4
    change 0 < m3 ↔ 0 < m4 at f1
    change 0 < m3 ↔ 0 < M at f2
    unfold sdW at e3 e4
    rcases Nat.mod_two_eq_zero_or_one a with ev | ev
    · rw [if_pos ev] at e3 e4
      subst e3 e4
      have t2 : (a : Int).tmod 2 = 0 := by rw [Int.tmod_eq_emod_of_nonneg (by omega)]; omega
      rcases (show (0 < k3 ∧ 0 < M) ∨ (¬ 0 < k3 ∧ ¬ 0 < M) by omega) with ⟨z1, z2⟩ | ⟨z1, z2⟩
      all_goals
        go_wp2_with fail
        refine (awake1_any _).mono ?_
        rintro e v13 ⟨rfl, hb13⟩
        have b13 := below_call b11 b11.size hb13
        go_wp2
        go_ret
        exact ⟨rfl, b13⟩
    · rw [if_neg (by omega)] at e3 e4
      subst e3 e4
      have t2 : (a : Int).tmod 2 = 1 := by rw [Int.tmod_eq_emod_of_nonneg (by omega)]; omega
      rcases (show (0 < k4 ∧ 0 < k3 ∧ 0 < M) ∨ (¬ 0 < k4 ∧ ¬ 0 < k3 ∧ ¬ 0 < M) by omega) with ⟨z1, z3, z2⟩ | ⟨z1, z3, z2⟩
      all_goals
        go_wp2_with fail
        refine (awake1_any _).mono ?_
        rintro e v13 ⟨rfl, hb13⟩
        have b13 := below_call b11 b11.size hb13
        go_wp2
        go_ret
        exact ⟨rfl, b13⟩
  have v4 : IntKind.i64.wrap (4 - (a : Int)) = 4 - (a : Int) := IntWalk.i64_in _ (by omega)
  have t4 : (4 - (a : Int)).tmod 4 = (K : Int) := by rw [Int.tmod_eq_emod_of_nonneg (by omega)]; rw [if_pos (by omega)] at hK9; omega
  clear hK9
  obtain ⟨p1, p2, p3⟩ := (K5.b 2 rfl).cells3
  go_wp2_with fail
  refine (T4.out _ _ _ (K5.a 2 rfl)).mono ?_
  rintro e v6 ⟨_, rfl, ⟨gvh, rfl, hgvh, kvh⟩, hb6⟩
  have K6a := (K5.below hb6).addA (kvh.arrB kvh.lt)
  have b6a := below_call b5 b5.size hb6
  have z6 := b6a.size
  have b6 : Below w.heap.size w (v6.alloc (.cells #[.int .i64 W, .int .i64 H, .slice (some ⟨gvh, 0, none⟩) N N] 24)) := by (repeat (first | exact Below.refl _ _ | assumption | refine Below.drew ?_ | refine below_drewN ?_ _ | refine Below.alloc ?_ (by first | omega | (simp; done) | (simp; omega)) _ | refine Below.setCell ?_ (by first | omega | (simp; done) | (simp; omega)) _ | refine below_setRow ?_ (by first | omega | (simp; done) | (simp; omega)) _ ))
  have K6 := K6a.new 24 #[.int .i64 W, .int .i64 H, .slice (some ⟨gvh, 0, none⟩) N N]
  clear K5 b5 K6a b6a hb6 p1 p2 p3 z6 T4 hgvh kvh
  obtain ⟨p1, p2, p3⟩ := (K6.b 4 rfl).cells3
  go_wp2_with fail
  generalize v6.alloc (.cells #[.int .i64 W, .int .i64 H, .slice (some ⟨gvh, 0, none⟩) N N] 24) = w6 at *
  refine (CT.out _ _ (K6.a 4 rfl)).mono ?_
  rintro e v7 ⟨rfl, hb7⟩
  have K7 := K6.below hb7
  have b7 := below_call b6 b6.size hb7
  clear K6 b6 hb7 p1 p2 p3 CT
  obtain ⟨p1, p2, p3⟩ := (K7.b 3 rfl).cells3
  go_wp2_with fail
  refine (CX.out _ _ (K7.a 3 rfl)).mono ?_
  rintro e v8 ⟨rfl, hb8⟩
  have K8 := K7.below hb8
  have b8 := below_call b7 b7.size hb8
  clear K7 b7 hb8 p1 p2 p3 CX
  obtain ⟨p1, p2, p3⟩ := (K8.b 0 rfl).cells3
  obtain ⟨r1, r2, r3⟩ := (K8.b 4 rfl).cells3
  go_wp2_with fail
  refine (S2.out _ _ _ _ _ (K8.a 0 rfl) (K8.a 4 rfl)).mono ?_
  rintro e v9 ⟨rfl, hb9⟩
  have K9 := K8.below hb9
  have b9 := below_call b8 b8.size hb9
  clear K8 b8 hb9 p1 p2 p3 r1 r2 r3 S2
  obtain ⟨p1, p2, p3⟩ := (K9.b 4 rfl).cells3
  go_wp2_with fail
  refine (BT.out _ _ _ (K9.a 4 rfl)).mono ?_
  rintro e v10 ⟨⟨m1, m2, m3, m4⟩, rfl, hbxm, hb10⟩
  simp only [boxV]
  have K10 := (K9.below hb10).new 44 #[.int .i64 m1, .int .i64 m2, .int .i64 m3, .int .i64 m4]
  have b10a := below_call b9 b9.size hb10
  have b10 : Below w.heap.size w (v10.alloc (.cells #[.int .i64 m1, .int .i64 m2, .int .i64 m3, .int .i64 m4] 44)) := b10a.alloc b10a.size _
  clear K9 b9 b10a hb10 p1 p2 p3
  obtain ⟨p1, p2, p3⟩ := (K10.b 4 rfl).cells3
  go_wp2_with fail
  generalize v10.alloc (.cells #[.int .i64 m1, .int .i64 m2, .int .i64 m3, .int .i64 m4] 44) = w10 at *
  refine (BX.out _ _ _ (K10.a 3 rfl)).mono ?_
  rintro e v11 ⟨⟨k1, k2, k3, k4⟩, rfl, hbxk, hb11⟩
  simp only [boxV]
  have K11 := (K10.below hb11).new 44 #[.int .i64 k1, .int .i64 k2, .int .i64 k3, .int .i64 k4]
  have b11a := below_call b10 b10.size hb11
  have b11 : Below w.heap.size w (v11.alloc (.cells #[.int .i64 k1, .int .i64 k2, .int .i64 k3, .int .i64 k4] 44)) := b11a.alloc b11a.size _
  clear K10 b10 b11a hb11 p1 p2 p3
  have hcm := (K11.b 1 rfl).cell
  have cm0 := hcm 0; change _ = some (Value.int .i64 m1) at cm0
  have cm1 := hcm 1; change _ = some (Value.int .i64 m2) at cm1
  have cm2 := hcm 2; change _ = some (Value.int .i64 m3) at cm2
  have cm3 := hcm 3; change _ = some (Value.int .i64 m4) at cm3
  clear hcm
  have hck := (K11.b 0 rfl).cell
  have ck0 := hck 0; change _ = some (Value.int .i64 k1) at ck0
  have ck1 := hck 1; change _ = some (Value.int .i64 k2) at ck1
  have ck2 := hck 2; change _ = some (Value.int .i64 k3) at ck2
  have ck3 := hck 3; change _ = some (Value.int .i64 k4) at ck3
  clear hck
  obtain ⟨e3, e4⟩ := BB.out _ _ hbxm hbxk
  obtain ⟨f1, f2, f3⟩ := BS.out _ hbxm
  change k3 = sdW m3 m4 a at e3
  change k4 = sdW m4 m3 a at e4
  change 0 < m3 ↔ 0 < m4 at f1
  change 0 < m3 ↔ 0 < M at f2
  unfold sdW at e3 e4
  rcases Nat.mod_two_eq_zero_or_one a with ev | ev
  · rw [if_pos ev] at e3 e4
    subst e3 e4
    have t2 : (a : Int).tmod 2 = 0 := by rw [Int.tmod_eq_emod_of_nonneg (by omega)]; omega
    rcases (show (0 < k3 ∧ 0 < M) ∨ (¬ 0 < k3 ∧ ¬ 0 < M) by omega) with ⟨z1, z2⟩ | ⟨z1, z2⟩
    all_goals
      go_wp2_with fail
      refine (awake1_any _).mono ?_
      rintro e v13 ⟨rfl, hb13⟩
      have b13 := below_call b11 b11.size hb13
      go_wp2
      go_ret
      exact ⟨rfl, b13⟩
  · rw [if_neg (by omega)] at e3 e4
    subst e3 e4
    have t2 : (a : Int).tmod 2 = 1 := by rw [Int.tmod_eq_emod_of_nonneg (by omega)]; omega
    rcases (show (0 < k4 ∧ 0 < k3 ∧ 0 < M) ∨ (¬ 0 < k4 ∧ ¬ 0 < k3 ∧ ¬ 0 < M) by omega) with ⟨z1, z3, z2⟩ | ⟨z1, z3, z2⟩
    all_goals
      go_wp2_with fail
      refine (awake1_any _).mono ?_
      rintro e v13 ⟨rfl, hb13⟩
      have b13 := below_call b11 b11.size hb13
      go_wp2
      go_ret
      exact ⟨rfl, b13⟩
end Go.Proofs.YtoonkpjddfiopaaDoor
