/- Plain laws: a skew and back is the image again; the sums of the columns stay; the drops of neighbouring columns. No program in sight. -/
import Derived.Test.YtanbheeekpdkbaaQ2
namespace Go.Proofs.Ytanbheeekpdkbaa
open Go.RowKit
set_option linter.unusedVariables false

theorem drop_le_grt {W k x : Int} (h3 : -3 ≤ k) (h4 : k ≤ 3) (h5 : 0 ≤ x) (h6 : x < W) : dropI W k x ≤ grt W k := by
  unfold dropI grt
  rcases (by omega : k = -3 ∨ k = -2 ∨ k = -1 ∨ k = 0 ∨ k = 1 ∨ k = 2 ∨ k = 3) with rfl | rfl | rfl | rfl | rfl | rfl | rfl <;> (simp only [reduceIte, Int.reduceNeg, Int.reduceLT, Int.neg_neg]; split <;> omega)
theorem drop_step {W k x : Int} (h3 : -3 ≤ k) (h4 : k ≤ 3) : (dropI W k x - dropI W k (x - 1) ≤ 1 ∧ dropI W k (x - 1) - dropI W k x ≤ 1) ∧ (0 < k → dropI W k (x - 1) ≤ dropI W k x) ∧ (k < 0 → dropI W k x ≤ dropI W k (x - 1)) ∧ (k = 0 → dropI W k x = 0) := by
  unfold dropI
  rcases (by omega : k = -3 ∨ k = -2 ∨ k = -1 ∨ k = 0 ∨ k = 1 ∨ k = 2 ∨ k = 3) with rfl | rfl | rfl | rfl | rfl | rfl | rfl <;> (simp only [reduceIte, Int.reduceNeg, Int.reduceLT, Int.neg_neg]; refine ⟨⟨?_, ?_⟩, fun _ => ?_, fun _ => ?_, fun _ => ?_⟩ <;> first | omega | contradiction)

theorem sumN_add (a b : Nat) (f : Int → Int) : sumN (a + b) f = sumN a f + sumN b (fun i => f (a + i)) := by
  induction b with
  | zero => simp [sumN]
  | succ b ih => rw [← Nat.add_assoc, sumN, sumN, ih, Int.natCast_add]; omega
theorem sumN_zero {n : Nat} {f : Int → Int} (h : ∀ i : Int, 0 ≤ i → i < n → f i = 0) : sumN n f = 0 := by
  rw [sumN_congr (g := fun _ => 0) h]
  induction n with
  | zero => rfl
  | succ n ih => rw [sumN, ih (fun i a b => h i a (by omega))]; rfl
theorem sumN_single {n : Nat} {f : Int → Int} {x : Int} (h0 : 0 ≤ x) (h : x < n) : sumN n (fun j => if j = x then f j else 0) = f x := by
  induction n with
  | zero => omega
  | succ n ih =>
    rw [sumN]
    by_cases e : x = n
    · subst e; rw [if_pos rfl, sumN_zero (fun i a b => if_neg (by omega))]; omega
    · rw [if_neg (by omega), ih (by omega)]; omega
theorem colS_rows {W : Nat} {p : Int → Int} {x : Int} (h0 : 0 ≤ x) (hx : x < W) (H : Nat) : colS W (H * W) p x = sumN H (fun y => p (y * W + x)) := by
  induction H with
  | zero => simp [colS, sumN]
  | succ H ih =>
    rw [sumN, ← ih, Nat.add_mul, Nat.one_mul]
    unfold colS
    rw [sumN_add]
    congr 1
    rw [← sumN_single (f := fun j => p (H * W + j)) h0 hx]
    refine sumN_congr fun j a b => ?_
    rw [Int.natCast_mul, idx_mod a b]
theorem sumN_shift {h H d : Nat} {f : Int → Int} (hd : d + H ≤ h) : sumN h (fun t => if 0 ≤ t - (d : Int) ∧ t - (d : Int) < H then f (t - d) else 0) = sumN H f := by
  obtain ⟨r, rfl⟩ : ∃ r, h = d + H + r := ⟨h - (d + H), by omega⟩
  rw [sumN_add, sumN_add, sumN_zero (n := d) (fun i a b => if_neg (by omega)), sumN_zero (n := r) (fun i a b => if_neg (by omega)), sumN_congr (n := H) (g := f) (fun i a b => by
    show (if _ then _ else _) = _
    rw [if_pos (by omega)]; congr 1; omega)]
  omega
theorem mov_at {W H h : Int} {p : Int → Int} {k way : Int} {x y : Int} (hx0 : 0 ≤ x) (hx : x < W) : movQ W H p k way (y * W + x) = if 0 ≤ y - way * dropI W k x ∧ y - way * dropI W k x < H then p ((y - way * dropI W k x) * W + x) else 0 := by
  unfold movQ; rw [idx_div hx0 hx, idx_mod hx0 hx]
theorem colS_mov {W H h : Int} {n m : Nat} {p : Int → Int} {k : Int} (hn : (n : Int) = W * H) (hm : (m : Int) = W * h) (hH : 0 ≤ H) (h3 : -3 ≤ k) (h4 : k ≤ 3) (hW2 : W ≤ 640) (hh : h = H + grt W k) {x : Int} (h0 : 0 ≤ x) (hx : x < W) :
    colS W m (movQ W H p k 1) x = colS W n p x := by
  have g1 := drop_le_grt (W := W) h3 h4 h0 hx
  obtain ⟨g2, _⟩ := drop_bd hW2 h3 h4 h0 hx
  obtain ⟨Wn, rfl⟩ : ∃ Wn : Nat, W = Wn := ⟨W.toNat, by omega⟩
  obtain ⟨Hn, rfl⟩ : ∃ Hn : Nat, H = Hn := ⟨H.toNat, by omega⟩
  obtain ⟨hN, rfl⟩ : ∃ hN : Nat, h = hN := ⟨h.toNat, by omega⟩
  have e1 : n = Hn * Wn := by rw [Int.mul_comm, ← Int.natCast_mul] at hn; omega
  have e2 : m = hN * Wn := by rw [Int.mul_comm, ← Int.natCast_mul] at hm; omega
  rw [e1, e2, colS_rows h0 hx, colS_rows h0 hx]
  obtain ⟨d, hd⟩ : ∃ d : Nat, dropI Wn k x = d := ⟨(dropI Wn k x).toNat, by omega⟩
  rw [← sumN_shift (h := hN) (d := d) (f := fun y => p (y * Wn + x)) (by omega)]
  refine sumN_congr fun i a b => ?_
  rw [mov_at (h := 0) h0 hx, Int.one_mul, hd]
theorem mov_back {W H h : Int} {n : Nat} {p : Int → Int} {k : Int} (hn : (n : Int) = W * H) (hW : 0 ≤ W) (h3 : -3 ≤ k) (h4 : k ≤ 3) (hW2 : W ≤ 640) (hh : h = H + grt W k) {i : Int} (h0 : 0 ≤ i) (hi : i < n) :
    movQ W h (movQ W H p k 1) k (-1) i = p i := by
  have hW' : 0 < W := by
    rcases Int.lt_or_le 0 W with h | h
    · exact h
    · obtain rfl : W = 0 := by omega
      simp at hn; omega
  obtain ⟨x, y, x0, x1, y0, y1, rfl, _, _⟩ := idx_of (H := H) h0 hW' (by rw [Int.mul_comm]; omega)
  have g1 := drop_le_grt (W := W) h3 h4 x0 x1
  obtain ⟨g2, _⟩ := drop_bd hW2 h3 h4 x0 x1
  rw [mov_at (h := 0) x0 x1, if_pos (by omega), mov_at (h := 0) x0 x1, if_pos (by omega)]
  rw [show y - -1 * dropI W k x - 1 * dropI W k x = y by omega]
end Go.Proofs.Ytanbheeekpdkbaa
