/- Texts of mine in build order: Lib, W1, W2, W3, W4, W5, W6, W7. Conditions: each theorem's own. -/
import Derived.WalkKit
import Derived.WalkSpells
import Derived.WalkLawsBesides
import Derived.Lib.Hide
import Derived.Deep.Draws
import Derived.Laws.Rows
import Derived.Laws.Tables
import Derived.Test.YtoonkpjddfiopaaRows
import Derived.BigQuiet
import Derived.Deep.QuietTactic
import Derived.StillTailTactics
import Derived.BigRegion
import Derived.Deep.WholeRow
import Derived.RegionTactic
import Derived.Deep.DeepCutAuto
import Derived.Deep.Cut
/- Plain lemmas on memory and on numbers, for all walks of this seat: whole blocks, arrays as functions of an index, sums and counts. No program in sight. -/
namespace Go.Proofs.Ytoonkpjddfiopaa
open Go.RowKit
set_option linter.unusedVariables false

/-! ### whole blocks: block g is just these cells of element type t, and none of them is frozen -/
def Blk (w : World) (g : Nat) (t : TypeId) (cs : Array Value) : Prop := w.heap[g]? = some (.cells cs t (0, 0))
section
variable {w w' : World} {g : Nat} {t : TypeId} {cs : Array Value}
theorem Blk.lt (h : Blk w g t cs) : g < w.heap.size := (Array.getElem?_eq_some_iff.1 h).1
theorem Blk.cell (h : Blk w g t cs) (i : Nat) : w.cell? ⟨g, i, none⟩ = cs[i]? := cell_of_row w g i cs t (0, 0) h
theorem Blk.frozen (h : Blk w g t cs) (i : Nat) : w.frozen? ⟨g, i, none⟩ = false := frozen_of_row w g i cs t h
/-- what leaves the heap alone at g leaves the block alone -/
theorem Blk.move (h : Blk w g t cs) (e : w'.heap[g]? = w.heap[g]?) : Blk w' g t cs := e.trans h
theorem Blk.new (w : World) (t : TypeId) (cs : Array Value) : Blk (w.alloc (.cells cs t)) w.heap.size t cs := heap_alloc_new w _
theorem Blk.new' {w : World} {n : Nat} (hn : w.heap.size = n) (t : TypeId) (cs : Array Value) : Blk (w.alloc (.cells cs t)) n t cs := hn ▸ heap_alloc_new w _
theorem Blk.drew (h : Blk w g t cs) : Blk w.drew g t cs := h.move rfl
theorem Blk.drewN (h : Blk w g t cs) (n : Nat) : Blk (w.drewN n) g t cs := h.move rfl
theorem Blk.alloc (h : Blk w g t cs) (o : Obj) : Blk (w.alloc o) g t cs := h.move (Below.heap_alloc w o g h.lt)
theorem Blk.set_ (h : Blk w g t cs) (i : Nat) (u : Value) : Blk (w.setCell ⟨g, i, none⟩ u) g t (cs.setIfInBounds i u) := heap_setCell_same w g i cs t u h
theorem Blk.far (h : Blk w g t cs) {p : Addr} (hp : g ≠ p.block) (u : Value) : Blk (w.setCell p u) g t cs := h.move (heap_setCell_other w p g u hp)
theorem Blk.setRow (h : Blk w g t cs) (cs' : Array Value) : Blk (w.setRow g cs') g t cs' := setRow_heap w g cs cs' t (0, 0) h
theorem Blk.farRow (h : Blk w g t cs) {g' : Nat} (hg : g ≠ g') (cs' : Array Value) : Blk (w.setRow g' cs') g t cs := h.move (setRow_other w g' g cs' hg)
theorem Blk.below {B : Nat} (h : Blk w g t cs) (hb : Below B w w') (hg : g < B) : Blk w' g t cs := h.move (hb.block g hg)
theorem Blk.below' (h : Blk w g t cs) (hb : Below w.heap.size w w') : Blk w' g t cs := h.below hb h.lt
theorem Blk.grown {row : Option Nat} (h : Blk w g t cs) (hb : w.grownBy w' row) (hg : some g ≠ row) : Blk w' g t cs := h.move (hb.block g h.lt hg)
end
theorem below_drewN {B : Nat} {a w : World} (h : Below B a w) (n : Nat) : Below B a (w.drewN n) := h.trans ⟨rfl, rfl, rfl, Nat.le_refl _, fun _ _ => rfl⟩
theorem below_setRow {B : Nat} {a w : World} (h : Below B a w) {g : Nat} (hg : B ≤ g) (cs : Array Value) : Below B a (w.setRow g cs) :=
  h.trans ⟨rfl, rfl, rfl, by simp, fun k hk => setRow_other w g k cs (by omega)⟩
/-- behind a callee that has left all of its caller's memory alone -/
theorem below_call {B : Nat} {a w w' : World} (h : Below B a w) (hB : B ≤ w.heap.size) (hc : Below w.heap.size w w') : Below B a w' := h.trans (hc.mono hB)

/-! ### cells as a function of their index -/
def cellsF (n : Nat) (f : Int → Value) : Array Value := ((List.range n).map fun (j : Nat) => f (j : Int)).toArray
theorem cellsF_size (n f) : (cellsF n f).size = n := by simp [cellsF]
theorem cellsF_get {n f i} (h : i < n) : (cellsF n f)[i]? = some (f i) := by simp [cellsF, h]
theorem cellsF_none {n f i} (h : n ≤ i) : (cellsF n f)[i]? = none := by simp [cellsF]; omega
theorem cellsF_at {n : Nat} {f : Int → Value} {i : Int} (h0 : 0 ≤ i) (h : i < n) : (cellsF n f)[i.toNat]? = some (f i) := by
  rw [cellsF_get (by omega), Int.toNat_of_nonneg h0]
theorem cellsF_congr {n : Nat} {f g : Int → Value} (h : ∀ j : Int, 0 ≤ j → j < n → f j = g j) : cellsF n f = cellsF n g := by
  unfold cellsF; congr 1; exact List.map_congr_left (fun j hj => h j (by omega) (by have := List.mem_range.1 hj; omega))
theorem cellsF_set (n f) (i : Int) (h0 : 0 ≤ i) (v) : (cellsF n f).setIfInBounds i.toNat v = cellsF n (fun j => if j = i then v else f j) := by
  apply Array.ext_getElem?
  intro j
  rw [Array.getElem?_setIfInBounds, cellsF_size]
  by_cases hj : j < n
  · rw [cellsF_get hj]
    by_cases e : i.toNat = j
    · have e' : (j : Int) = i := by omega
      subst e; rw [if_pos rfl, if_pos hj, cellsF_get hj, if_pos e']
    · have e' : ¬ (j : Int) = i := by omega
      rw [if_neg e, cellsF_get hj, if_neg e']
  · rw [cellsF_none (by omega)]
    by_cases e : i.toNat = j
    · rw [if_pos e, if_neg (by omega), cellsF_none (by omega)]
    · rw [if_neg e, cellsF_none (by omega)]
theorem cellsF_one (n : Nat) (f : Int → Value) (h : ∀ j : Int, 0 ≤ j → j < n → (f j).oneCell' = true) : (cellsF n f).all (·.oneCell') = true := by
  rw [Array.all_eq_true_iff_forall_mem]
  intro v hv
  simp [cellsF] at hv
  obtain ⟨j, hj, rfl⟩ := hv
  exact h j (by omega) (by omega)
theorem cellsF_eq {n : Nat} {cs : Array Value} {f : Int → Value} (hs : cs.size = n) (h : ∀ j : Nat, j < n → cs[j]? = some (f j)) : cs = cellsF n f := by
  apply Array.ext_getElem?
  intro j
  by_cases hj : j < n
  · rw [h j hj, cellsF_get hj]
  · rw [cellsF_none (by omega)]; simp; omega
theorem replicate_cellsF (n : Nat) (v : Value) : Array.replicate n v = cellsF n (fun _ => v) :=
  cellsF_eq (by simp) fun j hj => by simp [hj]
/-- a block of bytes, a block of ints -/
def u8s (n : Nat) (q : Int → Int) : Array Value := cellsF n fun j => .int .u8 (q j)
def i64s (n : Nat) (q : Int → Int) : Array Value := cellsF n fun j => .int .i64 (q j)
theorem u8s_size (n q) : (u8s n q).size = n := cellsF_size _ _
theorem i64s_size (n q) : (i64s n q).size = n := cellsF_size _ _
theorem u8s_at {n : Nat} {q : Int → Int} {i : Int} (h0 : 0 ≤ i) (h : i < n) : (u8s n q)[i.toNat]? = some (.int .u8 (q i)) := cellsF_at h0 h
theorem i64s_at {n : Nat} {q : Int → Int} {i : Int} (h0 : 0 ≤ i) (h : i < n) : (i64s n q)[i.toNat]? = some (.int .i64 (q i)) := cellsF_at h0 h
theorem u8s_congr {n : Nat} {q r : Int → Int} (h : ∀ j : Int, 0 ≤ j → j < n → q j = r j) : u8s n q = u8s n r := cellsF_congr fun j a b => by rw [h j a b]
theorem i64s_congr {n : Nat} {q r : Int → Int} (h : ∀ j : Int, 0 ≤ j → j < n → q j = r j) : i64s n q = i64s n r := cellsF_congr fun j a b => by rw [h j a b]
theorem u8s_set (n q) (i : Int) (h0 : 0 ≤ i) (v : Int) : (u8s n q).setIfInBounds i.toNat (.int .u8 v) = u8s n (fun j => if j = i then v else q j) := by
  unfold u8s; rw [cellsF_set n _ i h0]; congr 1; funext j; show _ = Value.int _ (if j = i then v else q j); split <;> rfl
theorem i64s_set (n q) (i : Int) (h0 : 0 ≤ i) (v : Int) : (i64s n q).setIfInBounds i.toNat (.int .i64 v) = i64s n (fun j => if j = i then v else q j) := by
  unfold i64s; rw [cellsF_set n _ i h0]; congr 1; funext j; show _ = Value.int _ (if j = i then v else q j); split <;> rfl
theorem u8s_one (n q) : (u8s n q).all (·.oneCell') = true := cellsF_one _ _ fun _ _ _ => rfl
theorem i64s_one (n q) : (i64s n q).all (·.oneCell') = true := cellsF_one _ _ fun _ _ _ => rfl
theorem u8s_zero (n : Nat) : Array.replicate n (Value.int .u8 0) = u8s n (fun _ => 0) := replicate_cellsF _ _
theorem i64s_zero (n : Nat) : Array.replicate n (Value.int .i64 0) = i64s n (fun _ => 0) := replicate_cellsF _ _
def upd (q : Int → Int) (i v : Int) : Int → Int := fun j => if j = i then v else q j
theorem Blk.u8set {w : World} {g t n : Nat} {q : Int → Int} (h : Blk w g t (u8s n q)) (i : Int) (h0 : 0 ≤ i) (v : Int) : Blk (w.setCell ⟨g, i.toNat, none⟩ (.int .u8 v)) g t (u8s n (upd q i v)) := by
  have := h.set_ i.toNat (.int .u8 v); rwa [u8s_set _ _ _ h0] at this
theorem Blk.i64set {w : World} {g t n : Nat} {q : Int → Int} (h : Blk w g t (i64s n q)) (i : Int) (h0 : 0 ≤ i) (v : Int) : Blk (w.setCell ⟨g, i.toNat, none⟩ (.int .i64 v)) g t (i64s n (upd q i v)) := by
  have := h.set_ i.toNat (.int .i64 v); rwa [i64s_set _ _ _ h0] at this
theorem Blk.u8at {w : World} {g t n : Nat} {q : Int → Int} (h : Blk w g t (u8s n q)) {i : Int} (h0 : 0 ≤ i) (hi : i < n) : w.cell? ⟨g, i.toNat, none⟩ = some (.int .u8 (q i)) := by rw [h.cell, u8s_at h0 hi]
theorem Blk.i64at {w : World} {g t n : Nat} {q : Int → Int} (h : Blk w g t (i64s n q)) {i : Int} (h0 : 0 ≤ i) (hi : i < n) : w.cell? ⟨g, i.toNat, none⟩ = some (.int .i64 (q i)) := by rw [h.cell, i64s_at h0 hi]

theorem Blk.u8conv {w : World} {g t n : Nat} {q r : Int → Int} (h : Blk w g t (u8s n q)) (he : ∀ j : Int, 0 ≤ j → j < n → q j = r j) : Blk w g t (u8s n r) := u8s_congr he ▸ h
theorem Blk.i64conv {w : World} {g t n : Nat} {q r : Int → Int} (h : Blk w g t (i64s n q)) (he : ∀ j : Int, 0 ≤ j → j < n → q j = r j) : Blk w g t (i64s n r) := i64s_congr he ▸ h
theorem upd_at (q : Int → Int) (i v : Int) : upd q i v i = v := by simp [upd]
theorem upd_ne {q : Int → Int} {i v j : Int} (h : j ≠ i) : upd q i v j = q j := by simp [upd, h]

/-! ### a slice that reads as a function of the index -/
def Arr (w : World) (B : Nat) (A : Option Addr) (n : Nat) (f : Int → Value) : Prop :=
  0 < n → ∃ b off, A = some ⟨b, off, none⟩ ∧ b < B ∧ ∀ i : Int, 0 ≤ i → i < n → w.cell? ⟨b, off + i.toNat, none⟩ = some (f i)
def ArrB (w : World) (B : Nat) (A : Option Addr) (n : Nat) (q : Int → Int) : Prop := Arr w B A n fun j => .int .u8 (q j)
def ArrI (w : World) (B : Nat) (A : Option Addr) (n : Nat) (q : Int → Int) : Prop := Arr w B A n fun j => .int .i64 (q j)
section
variable {w w' : World} {B B' n : Nat} {A : Option Addr} {f : Int → Value} {q : Int → Int}
theorem Arr.nil : Arr w B A 0 f := fun h => absurd h (by omega)
theorem Arr.keep (h : Arr w B A n f) (hk : ∀ p : Addr, p.block < B → w'.cell? p = w.cell? p) (hB : B ≤ B') : Arr w' B' A n f := fun hn => by
  obtain ⟨b, off, e, hb, hc⟩ := h hn
  exact ⟨b, off, e, by omega, fun i h0 hi => (hk _ hb).trans (hc i h0 hi)⟩
theorem Arr.more (h : Arr w B A n f) (hB : B ≤ B') : Arr w B' A n f := h.keep (fun _ _ => rfl) hB
theorem Arr.below (h : Arr w B A n f) (hb : Below B w w') : Arr w' B A n f := h.keep (fun _ hp => hb.cell hp) (Nat.le_refl _)
theorem Arr.drewN (h : Arr w B A n f) (k : Nat) : Arr (w.drewN k) B A n f := h
theorem Arr.congr {g : Int → Value} (h : Arr w B A n f) (he : ∀ i : Int, 0 ≤ i → i < n → f i = g i) : Arr w B A n g := fun hn => by
  obtain ⟨b, off, e, hb, hc⟩ := h hn
  exact ⟨b, off, e, hb, fun i h0 hi => by rw [hc i h0 hi, he i h0 hi]⟩
theorem Arr.at_ (h : Arr w B A n f) {i : Int} (h0 : 0 ≤ i) (hi : i < n) : ∃ b off, A = some ⟨b, off, none⟩ ∧ b < B ∧ w.cell? ⟨b, off + i.toNat, none⟩ = some (f i) := by
  obtain ⟨b, off, e, hb, hc⟩ := h (by omega)
  exact ⟨b, off, e, hb, hc i h0 hi⟩
theorem Blk.arr {g t : Nat} (h : Blk w g t (cellsF n f)) (hB : g < B) : Arr w B (some ⟨g, 0, none⟩) n f := fun _ =>
  ⟨g, 0, rfl, hB, fun i h0 hi => by rw [h.cell, Nat.zero_add, cellsF_at h0 hi]⟩
theorem Blk.arrB {g t : Nat} (h : Blk w g t (u8s n q)) (hB : g < B) : ArrB w B (some ⟨g, 0, none⟩) n q := Blk.arr h hB
theorem Blk.arrI {g t : Nat} (h : Blk w g t (i64s n q)) (hB : g < B) : ArrI w B (some ⟨g, 0, none⟩) n q := Blk.arr h hB
theorem ArrB.nil : ArrB w B A 0 q := Arr.nil
theorem ArrB.more (h : ArrB w B A n q) (hB : B ≤ B') : ArrB w B' A n q := Arr.more h hB
theorem ArrB.below (h : ArrB w B A n q) (hb : Below B w w') : ArrB w' B A n q := Arr.below h hb
theorem ArrB.to (h : ArrB w w.heap.size A n q) (hb : Below w.heap.size w w') : ArrB w' w'.heap.size A n q := Arr.more (Arr.below h hb) hb.size
theorem ArrB.at_ (h : ArrB w B A n q) {i : Int} (h0 : 0 ≤ i) (hi : i < n) : ∃ b off, A = some ⟨b, off, none⟩ ∧ b < B ∧ w.cell? ⟨b, off + i.toNat, none⟩ = some (.int .u8 (q i)) := Arr.at_ h h0 hi
theorem ArrB.congr {r : Int → Int} (h : ArrB w B A n q) (he : ∀ i : Int, 0 ≤ i → i < n → q i = r i) : ArrB w B A n r := Arr.congr h fun i a b => by rw [he i a b]
theorem ArrI.nil : ArrI w B A 0 q := Arr.nil
theorem ArrI.more (h : ArrI w B A n q) (hB : B ≤ B') : ArrI w B' A n q := Arr.more h hB
theorem ArrI.below (h : ArrI w B A n q) (hb : Below B w w') : ArrI w' B A n q := Arr.below h hb
theorem ArrI.to (h : ArrI w w.heap.size A n q) (hb : Below w.heap.size w w') : ArrI w' w'.heap.size A n q := Arr.more (Arr.below h hb) hb.size
theorem ArrI.at_ (h : ArrI w B A n q) {i : Int} (h0 : 0 ≤ i) (hi : i < n) : ∃ b off, A = some ⟨b, off, none⟩ ∧ b < B ∧ w.cell? ⟨b, off + i.toNat, none⟩ = some (.int .i64 (q i)) := Arr.at_ h h0 hi
theorem ArrI.congr {r : Int → Int} (h : ArrI w B A n q) (he : ∀ i : Int, 0 ≤ i → i < n → q i = r i) : ArrI w B A n r := Arr.congr h fun i a b => by rw [he i a b]
end
/-- bytes -/
def IsB (q : Int → Int) : Prop := ∀ i, 0 ≤ q i ∧ q i ≤ 255
/-- pixels -/
def Is01 (q : Int → Int) : Prop := ∀ i, q i = 0 ∨ q i = 1

/-! ### endings -/
theorem ret_int {k : IntKind} {a b : Int} (h : a = b) : Ending.returned (.int k a) = .returned (.int k b) := by rw [h]
theorem ret_bool {a b : Bool} (h : a = b) : Ending.returned (.bool a) = .returned (.bool b) := by rw [h]

/-! ### sums, counts, all -/
def sumN : Nat → (Int → Int) → Int
  | 0, _ => 0
  | n + 1, f => sumN n f + f n
def allN : Nat → (Int → Bool) → Bool
  | 0, _ => true
  | n + 1, f => allN n f && f n
theorem allN_iff {n : Nat} {f : Int → Bool} : allN n f = true ↔ ∀ i : Int, 0 ≤ i → i < n → f i = true := by
  induction n with
  | zero => simp [allN]; intro i h1 h2; omega
  | succ n ih =>
    rw [allN, Bool.and_eq_true, ih]
    constructor
    · rintro ⟨h1, h2⟩ i h0 hi
      by_cases e : i = n
      · subst e; exact h2
      · exact h1 i h0 (by omega)
    · intro h
      exact ⟨fun i h0 hi => h i h0 (by omega), h n (by omega) (by omega)⟩
theorem sumN_congr {n : Nat} {f g : Int → Int} (h : ∀ i : Int, 0 ≤ i → i < n → f i = g i) : sumN n f = sumN n g := by
  induction n with
  | zero => rfl
  | succ n ih => rw [sumN, sumN, ih (fun i a b => h i a (by omega)), h n (by omega) (by omega)]
theorem sumN_bd {n : Nat} {f : Int → Int} {m : Int} (h : ∀ i : Int, 0 ≤ i → i < n → 0 ≤ f i ∧ f i ≤ m) : 0 ≤ sumN n f ∧ sumN n f ≤ n * m := by
  induction n with
  | zero => simp [sumN]
  | succ n ih =>
    have h1 := ih (fun i a b => h i a (by omega))
    have h2 := h n (by omega) (by omega)
    have e : ((n + 1 : Nat) : Int) * m = n * m + m := by rw [Int.natCast_add, Int.add_mul]; simp
    rw [sumN, e]
    omega

/-! ### places in a grid -/
theorem idx_lt {x y W H : Int} (hx0 : 0 ≤ x) (hx : x < W) (hy0 : 0 ≤ y) (hy : y < H) : 0 ≤ y * W + x ∧ y * W + x < H * W ∧ 0 ≤ y * W := by
  have h1 : 0 ≤ y * W := Int.mul_nonneg hy0 (by omega)
  have h2 : (y + 1) * W ≤ H * W := Int.mul_le_mul_of_nonneg_right (by omega) (by omega)
  rw [Int.add_mul] at h2
  omega
theorem idx_div {x y W : Int} (hx0 : 0 ≤ x) (hx : x < W) : (y * W + x) / W = y := by
  rw [Int.add_comm, Int.mul_comm, Int.add_mul_ediv_left _ _ (by omega), Int.ediv_eq_zero_of_lt hx0 hx]; omega
theorem idx_mod {x y W : Int} (hx0 : 0 ≤ x) (hx : x < W) : (y * W + x) % W = x := by
  rw [Int.add_comm, Int.mul_comm, Int.add_mul_emod_self_left, Int.emod_eq_of_lt hx0 hx]
theorem idx_of {k W H : Int} (h0 : 0 ≤ k) (hW : 0 < W) (h : k < H * W) : ∃ x y, 0 ≤ x ∧ x < W ∧ 0 ≤ y ∧ y < H ∧ k = y * W + x ∧ y = k / W ∧ x = k % W := by
  refine ⟨k % W, k / W, Int.emod_nonneg _ (by omega), Int.emod_lt_of_pos _ hW, Int.ediv_nonneg h0 (by omega), Int.ediv_lt_of_lt_mul hW h, ?_, rfl, rfl⟩
  have := Int.emod_add_mul_ediv k W
  rw [Int.mul_comm (k / W)]; omega
theorem idx_inj {x y u v W : Int} (hx0 : 0 ≤ x) (hx : x < W) (hu0 : 0 ≤ u) (hu : u < W) (h : y * W + x = v * W + u) : x = u ∧ y = v := by
  have a := idx_mod (y := y) hx0 hx
  have b := idx_mod (y := v) hu0 hu
  have c := idx_div (y := y) hx0 hx
  have d := idx_div (y := v) hu0 hu
  rw [h] at a c
  exact ⟨a.symm.trans b, c.symm.trans d⟩
end Go.Proofs.Ytoonkpjddfiopaa
namespace Go.Proofs.Ytoonkpjddfiopaa
open Go.RowKit
theorem Blk.cells3 {w : World} {g : Nat} {t : TypeId} {a b c : Value} (h : Blk w g t #[a, b, c]) : w.cell? ⟨g, 0, none⟩ = some a ∧ w.cell? ⟨g, 1, none⟩ = some b ∧ w.cell? ⟨g, 2, none⟩ = some c :=
  ⟨by rw [h.cell]; rfl, by rw [h.cell]; rfl, by rw [h.cell]; rfl⟩
theorem Blk.frozen3 {w : World} {g : Nat} {t : TypeId} {a b c : Value} (h : Blk w g t #[a, b, c]) : w.frozen? ⟨g, 0, none⟩ = false ∧ w.frozen? ⟨g, 1, none⟩ = false ∧ w.frozen? ⟨g, 2, none⟩ = false :=
  ⟨h.frozen _, h.frozen _, h.frozen _⟩
theorem Blk.cells1 {w : World} {g : Nat} {t : TypeId} {a : Value} (h : Blk w g t #[a]) : w.cell? ⟨g, 0, none⟩ = some a := by rw [h.cell]; rfl
/-- a value of type Ink or Grey over fresh memory -/
def OutImg (w w' : World) (W H : Int) (q : Int → Int) (v : Value) : Prop :=
  ∃ g, v = .agg #[.int .i64 W, .int .i64 H, .slice (some ⟨g, 0, none⟩) (W * H).toNat (W * H).toNat] ∧ w.heap.size ≤ g ∧ Blk w' g 5 (u8s (W * H).toNat q)
theorem OutImg.mk {w w' : World} {W H : Int} {q : Int → Int} {g : Nat} (h : w.heap.size ≤ g) (hb : Blk w' g 5 (u8s (W * H).toNat q)) :
    OutImg w w' W H q (.agg #[.int .i64 W, .int .i64 H, .slice (some ⟨g, 0, none⟩) (W * H).toNat (W * H).toNat]) := ⟨g, rfl, h, hb⟩
/-- the image that is returned with an error -/
def noImg : Value := .agg #[.int .i64 0, .int .i64 0, .slice none 0 0]
theorem area_bd {W H : Int} (h1 : 0 ≤ W) (h2 : W ≤ 640) (h3 : 0 ≤ H) (h4 : H ≤ 640) : 0 ≤ W * H ∧ W * H ≤ 409600 :=
  ⟨Int.mul_nonneg h1 h3, Int.le_trans (Int.mul_le_mul h2 h4 h3 (by omega)) (by omega)⟩
end Go.Proofs.Ytoonkpjddfiopaa
namespace Go.Proofs.Ytoonkpjddfiopaa
theorem qcall {P : Program} {f : FuncId} {args : Array Value} {w : World} {v : Value}
    (h : Calls P f args w fun e w' => e = .returned v ∧ w = w') : Calls P f args w fun e w'' => e = .returned v ∧ ∃ m, w'' = w.drewN m :=
  h.mono fun _ _ ⟨he, hm⟩ => ⟨he, 0, hm ▸ rfl⟩
theorem qcallN {P : Program} {f : FuncId} {args : Array Value} {w : World} {n : Nat} {v : Value}
    (h : Calls P f args (w.drewN n) fun e w' => e = .returned v ∧ w.drewN n = w') : Calls P f args (w.drewN n) fun e w'' => e = .returned v ∧ ∃ m, w'' = w.drewN m :=
  h.mono fun _ _ ⟨he, hm⟩ => ⟨he, n, hm.symm⟩
theorem qcallA {P : Program} {f : FuncId} {args : Array Value} {w : World} {a n : Nat} {v : Value}
    (h : Calls P f args (w.drewN (a + n)) fun e w' => e = .returned v ∧ w.drewN (a + n) = w') : Calls P f args (w.drewN (a + n)) fun e w'' => e = .returned v ∧ ∃ m, w'' = w.drewN (a + m) :=
  h.mono fun _ _ ⟨he, hm⟩ => ⟨he, n, hm.symm⟩
end Go.Proofs.Ytoonkpjddfiopaa

namespace Go.Proofs.Ytoonkpjddfiopaa
open Go.RowKit
/-- an image over fresh memory, of N pixels -/
def OutN (w w' : World) (W H : Int) (N : Nat) (q : Int → Int) (v : Value) : Prop :=
  ∃ g, v = .agg #[.int .i64 W, .int .i64 H, .slice (some ⟨g, 0, none⟩) N N] ∧ w.heap.size ≤ g ∧ Blk w' g 5 (u8s N q)
theorem OutN.mk {w w' : World} {W H : Int} {N : Nat} {q : Int → Int} {g : Nat} (h : w.heap.size ≤ g) (hb : Blk w' g 5 (u8s N q)) :
    OutN w w' W H N q (.agg #[.int .i64 W, .int .i64 H, .slice (some ⟨g, 0, none⟩) N N]) := ⟨g, rfl, h, hb⟩
/-- a list of numbers as a function of the index -/
def lit (l : List Int) : Int → Int := fun i => l.getD i.toNat 0
theorem isB_lit {l : List Int} (h : l.all (fun x => decide (0 ≤ x ∧ x ≤ 255)) = true) : IsB (lit l) := by
  intro i
  unfold lit
  rw [List.getD_eq_getElem?_getD]
  by_cases hi : i.toNat < l.length
  · rw [List.getElem?_eq_getElem hi]
    have := List.all_eq_true.1 h _ (List.getElem_mem hi)
    simpa using this
  · rw [List.getElem?_eq_none (by omega)]; simp
theorem u8s_lit {l : List Int} : (l.map (Value.int .u8)).toArray = u8s l.length (lit l) :=
  cellsF_eq (by simp) fun j hj => by simp [lit, hj]
theorem i64s_lit {l : List Int} : (l.map (Value.int .i64)).toArray = i64s l.length (lit l) :=
  cellsF_eq (by simp) fun j hj => by simp [lit, hj]
end Go.Proofs.Ytoonkpjddfiopaa

/- Walks of the small functions of package image that every statement reaches: what each returns, and that it leaves the memory of its caller alone. -/
namespace Go.Proofs.Ytoonkpjddfiopaa
open Go.RowKit
set_option linter.unusedVariables false

def sidesB (W H n : Int) : Bool := decide (0 ≤ W ∧ W ≤ 640 ∧ 0 ≤ H ∧ H ≤ 640 ∧ n = W * H)
theorem sidesB_iff {W H n : Int} : sidesB W H n = true ↔ 0 ≤ W ∧ W ≤ 640 ∧ 0 ≤ H ∧ H ≤ 640 ∧ n = W * H := by simp [sidesB]

set_option maxHeartbeats 400000 in
theorem sides_any (W H n : Int) (w : World) :
    Calls Try.prog 40 #[.int .i64 W, .int .i64 H, .int .i64 n] w fun e w' => e = .returned (.bool (sidesB W H n)) ∧ w = w' := by
  by_cases h : 0 ≤ W ∧ W ≤ 640 ∧ 0 ≤ H ∧ H ≤ 640
  · obtain ⟨h1, h2, h3, h4⟩ := h
    have hm : 0 ≤ W * H ∧ W * H ≤ 409600 := ⟨Int.mul_nonneg h1 h3, Int.le_trans (Int.mul_le_mul h2 h4 h3 (by omega)) (by omega)⟩
    obtain ⟨m1, m2⟩ := hm
    go_enter Try.func40, Try.ntmps40
    go_wp2
    go_ret
    exact ⟨by simp [sidesB, h1, h2, h3, h4]; rfl, rfl⟩
  · have h' : sidesB W H n = false := by simp [sidesB]; intro a b c d; exact absurd ⟨a, b, c, d⟩ h
    rw [h']
    by_cases a : 0 ≤ W
    · by_cases b : W ≤ 640
      · by_cases c : 0 ≤ H
        · have d : ¬ H ≤ 640 := fun d => h ⟨a, b, c, d⟩
          clear h h'
          go_enter Try.func40, Try.ntmps40
          go_wp2
          go_ret
          exact ⟨rfl, rfl⟩
        · clear h h'
          go_enter Try.func40, Try.ntmps40
          go_wp2
          go_ret
          exact ⟨rfl, rfl⟩
      · clear h h'
        go_enter Try.func40, Try.ntmps40
        go_wp2
        go_ret
        exact ⟨rfl, rfl⟩
    · clear h h'
      go_enter Try.func40, Try.ntmps40
      go_wp2
      go_ret
      exact ⟨rfl, rfl⟩

/-- the first index at which f holds; -1 if there is none -/
def idxF (f : Int → Bool) : Nat → Int
  | 0 => -1
  | n + 1 => if 0 ≤ idxF f n then idxF f n else if f n then n else -1
theorem idxF_none {f : Int → Bool} {n : Nat} (h : ∀ i : Int, 0 ≤ i → i < n → f i = false) : idxF f n = -1 := by
  induction n with
  | zero => rfl
  | succ n ih => rw [idxF, ih (fun i a b => h i a (by omega)), h n (by omega) (by omega)]; simp
theorem idxF_some {f : Int → Bool} {n k : Nat} (h : ∀ i : Int, 0 ≤ i → i < k → f i = false) (hk : f k = true) (hn : k < n) : idxF f n = k := by
  induction n with
  | zero => omega
  | succ n ih =>
    rw [idxF]
    by_cases e : k = n
    · subst e; rw [idxF_none h, hk]; simp
    · rw [ih (by omega)]; simp
theorem idxF_iff {f : Int → Bool} {n : Nat} : (0 ≤ idxF f n) ↔ ∃ i : Int, 0 ≤ i ∧ i < n ∧ f i = true := by
  induction n with
  | zero => simp [idxF]; intro i h1 h2; omega
  | succ n ih =>
    rw [idxF]
    by_cases h : 0 ≤ idxF f n
    · rw [if_pos h]
      simp only [h, true_iff]
      obtain ⟨i, a, b, c⟩ := ih.1 h
      exact ⟨i, a, by omega, c⟩
    · rw [if_neg h]
      by_cases c : f n = true
      · simp only [c, if_true]
        exact ⟨fun _ => ⟨n, by omega, by omega, c⟩, fun _ => by omega⟩
      · simp only [c]
        constructor
        · intro x; simp at x
        · rintro ⟨i, a, b, d⟩
          exfalso
          by_cases e : i = n
          · subst e; exact c d
          · exact h (ih.2 ⟨i, a, by omega, d⟩)

set_option maxHeartbeats 400000 in
theorem idxFuncB (fid : Nat) (hent : ∀ args w, (callFunc fid args).run Try.prog w = .ok (.enter fid args) w) (f : Int → Bool) (hf : ∀ v W, Calls Try.prog fid #[.int .u8 v] W fun e W' => e = .returned (.bool (f v)) ∧ W = W')
    (A : Option Addr) (n c : Nat) (p : Int → Int) (w : World) (hA : ArrB w w.heap.size A n p) (hn : n ≤ maxLen) :
    Calls Try.prog 76 #[.slice A n c, .func (.func fid) #[] #[]] w fun e w' => e = .returned (.int .i64 (idxF (fun i => f (p i)) n)) ∧ w = w' := by
  unfold maxLen at hn
  have HF := Lib.hid hf; clear hf
  go_enter Try.func76, Try.ntmps76
  go_wp2
  go_loop [8] (fun i => ∃ k : Int, 0 ≤ k ∧ k ≤ n ∧ i = .int .i64 k ∧ ∀ j : Int, 0 ≤ j → j < k → f (p j) = false) (fun i => n - (intOf i).toNat)
  case atStart => exact ⟨0, by omega, by omega, rfl, fun j a b => by omega⟩
  case round =>
    obtain ⟨k, h0, hk, rfl, hno⟩ := hrel
    have HN := Lib.hid hno; clear hno
    by_cases hlt : k < n
    · obtain ⟨b, off, rfl, hb, hc⟩ := hA.at_ h0 hlt
      cases hfk : f (p k)
      · have HK := Lib.hid hfk; clear hfk
        go_wp2_with fail
        refine (HF.out _ _).mono ?_
        rintro e w' ⟨rfl, rfl⟩
        rw [HK.out]
        go_wp2
        go_round
        case rel =>
          refine ⟨k + 1, by omega, by omega, by go_num, fun j a b => ?_⟩
          by_cases e : j = k
          · rw [e]; exact HK.out
          · exact HN.out j a (by omega)
        case measure => simp [intOf]; omega
      · have HK := Lib.hid hfk; clear hfk
        go_wp2_with fail
        refine (HF.out _ _).mono ?_
        rintro e w' ⟨rfl, rfl⟩
        rw [HK.out]
        go_wp2
        go_ret
        refine ⟨ret_int ?_, rfl⟩
        obtain ⟨k', rfl⟩ := Int.eq_ofNat_of_zero_le h0
        rw [idxF_some HN.out HK.out (by omega)]
    · go_wp2
      go_ret
      refine ⟨ret_int ?_, rfl⟩
      rw [idxF_none fun i a b => HN.out i a (by omega)]
end Go.Proofs.Ytoonkpjddfiopaa

/- Walks: the checks of an image, new images, the drops of the columns. -/
namespace Go.Proofs.Ytoonkpjddfiopaa
open Go.RowKit
set_option linter.unusedVariables false

theorem enter49 (args : Array Value) (w : World) : (callFunc 68 args).run Try.prog w = .ok (.enter 68 args) w := by kernel_rfl

theorem check1_any (v : Int) (w : World) : Calls Try.prog 68 #[.int .u8 v] w fun e w' => e = .returned (.bool (decide (1 < v))) ∧ w = w' := by
  go_enter Try.func68, Try.ntmps68
  go_wp2
  go_ret
  exact ⟨rfl, rfl⟩

def pixB (n : Nat) (p : Int → Int) : Bool := allN n fun i => decide (p i ≤ 1)
theorem pixB_idx (n : Nat) (p : Int → Int) : decide (0 ≤ idxF (fun i => decide (1 < p i)) n) = !pixB n p := by
  rw [Bool.eq_iff_iff, decide_eq_true_iff, idxF_iff, Bool.not_eq_true', ← Bool.not_eq_true, pixB, allN_iff]
  constructor
  · rintro ⟨i, a, b, c⟩ h
    have := h i a b
    simp at c this; omega
  · intro h
    refine Classical.byContradiction fun hno => h fun i a b => ?_
    simp only [decide_eq_true_iff]
    refine Classical.byContradiction fun hc => hno ⟨i, a, b, by simp; omega⟩

theorem containsB (fid : Nat) (hent : ∀ args w, (callFunc fid args).run Try.prog w = .ok (.enter fid args) w) (f : Int → Bool) (hf : ∀ v W, Calls Try.prog fid #[.int .u8 v] W fun e W' => e = .returned (.bool (f v)) ∧ W = W')
    (A : Option Addr) (n c : Nat) (p : Int → Int) (w : World) (hA : ArrB w w.heap.size A n p) (hn : n ≤ maxLen) :
    Calls Try.prog 67 #[.slice A n c, .func (.func fid) #[] #[]] w fun e w' => e = .returned (.bool (decide (0 ≤ idxF (fun i => f (p i)) n))) ∧ w = w' := by
  go_enter Try.func67, Try.ntmps67
  go_wp2_with (go_at_call 76; refine (idxFuncB fid hent f hf A n c p _ hA hn).mono ?_; rintro e w' ⟨rfl, rfl⟩)
  go_ret
  exact ⟨rfl, rfl⟩

def chk (W H : Int) (n : Nat) (p : Int → Int) : Int := if sidesB W H n then (if pixB n p then 0 else 3) else 2

set_option maxHeartbeats 400000 in
theorem check_any (W H : Int) (A : Option Addr) (n c : Nat) (p : Int → Int) (w : World) (hA : ArrB w w.heap.size A n p) (hn : n ≤ maxLen) :
    Calls Try.prog 37 #[.agg #[.int .i64 W, .int .i64 H, .slice A n c]] w fun e w' => e = .returned (.int .i64 (chk W H n p)) ∧ Below w.heap.size w w' := by
  have HB : Below w.heap.size w (w.alloc (.cells #[.int .i64 W, .int .i64 H, .slice A n c] 29)) := by (repeat (first | exact Below.refl _ _ | assumption | refine Below.drew ?_ | refine below_drewN ?_ _ | refine Below.alloc ?_ (by first | omega | (simp; done) | (simp; omega)) _ | refine Below.setCell ?_ (by first | omega | (simp; done) | (simp; omega)) _ | refine below_setRow ?_ (by first | omega | (simp; done) | (simp; omega)) _ ))
  cases hs : sidesB W H n
  · have hr : Hid (chk W H n p = 2) := by show _ = _; unfold chk; rw [hs]; rfl
    have hs' := Lib.hid hs; clear hs
    go_enter Try.func37, Try.ntmps37
    go_wp2_with (go_at_call 40; refine (sides_any _ _ _ _).mono ?_; rintro e w' ⟨rfl, rfl⟩; rw [hs'.out])
    go_ret
    exact ⟨ret_int hr.out.symm, HB⟩
  · have hs' := Lib.hid hs; clear hs
    cases hq : pixB n p
    · have hr : Hid (chk W H n p = 3) := by show _ = _; unfold chk; rw [hs'.out, hq]; rfl
      have hq' : Hid (decide (0 ≤ idxF (fun i => decide (1 < p i)) n) = true) := by show _ = _; rw [pixB_idx, hq]; rfl
      clear hq
      go_enter Try.func37, Try.ntmps37
      go_wp2_with (first
        | (go_at_call 40; refine (sides_any _ _ _ _).mono ?_; rintro e w' ⟨rfl, rfl⟩; rw [hs'.out])
        | (go_at_call 67; refine (containsB 68 enter49 _ check1_any A n c p _ (hA.to HB) hn).mono ?_; rintro e w' ⟨rfl, rfl⟩; rw [hq'.out]))
      go_ret
      exact ⟨ret_int hr.out.symm, HB⟩
    · have hr : Hid (chk W H n p = 0) := by show _ = _; unfold chk; rw [hs'.out, hq]; rfl
      have hq' : Hid (decide (0 ≤ idxF (fun i => decide (1 < p i)) n) = false) := by show _ = _; rw [pixB_idx, hq]; rfl
      clear hq
      go_enter Try.func37, Try.ntmps37
      go_wp2_with (first
        | (go_at_call 40; refine (sides_any _ _ _ _).mono ?_; rintro e w' ⟨rfl, rfl⟩; rw [hs'.out])
        | (go_at_call 67; refine (containsB 68 enter49 _ check1_any A n c p _ (hA.to HB) hn).mono ?_; rintro e w' ⟨rfl, rfl⟩; rw [hq'.out]))
      go_ret
      exact ⟨ret_int hr.out.symm, HB⟩

theorem checkGrey_any (W H : Int) (A : Option Addr) (n c : Nat) (w : World) :
    Calls Try.prog 22 #[.agg #[.int .i64 W, .int .i64 H, .slice A n c]] w fun e w' => e = .returned (.int .i64 (if sidesB W H n then 0 else 2)) ∧ Below w.heap.size w w' := by
  cases hs : sidesB W H n
  · have hs' := Lib.hid hs; clear hs
    go_enter Try.func22, Try.ntmps22
    go_wp2_with (go_at_call 40; refine (sides_any _ _ _ _).mono ?_; rintro e w' ⟨rfl, rfl⟩; rw [hs'.out])
    go_ret
    exact ⟨rfl, by (repeat (first | exact Below.refl _ _ | assumption | refine Below.drew ?_ | refine below_drewN ?_ _ | refine Below.alloc ?_ (by first | omega | (simp; done) | (simp; omega)) _ | refine Below.setCell ?_ (by first | omega | (simp; done) | (simp; omega)) _ | refine below_setRow ?_ (by first | omega | (simp; done) | (simp; omega)) _ ))⟩
  · have hs' := Lib.hid hs; clear hs
    go_enter Try.func22, Try.ntmps22
    go_wp2_with (go_at_call 40; refine (sides_any _ _ _ _).mono ?_; rintro e w' ⟨rfl, rfl⟩; rw [hs'.out])
    go_ret
    exact ⟨rfl, by (repeat (first | exact Below.refl _ _ | assumption | refine Below.drew ?_ | refine below_drewN ?_ _ | refine Below.alloc ?_ (by first | omega | (simp; done) | (simp; omega)) _ | refine Below.setCell ?_ (by first | omega | (simp; done) | (simp; omega)) _ | refine below_setRow ?_ (by first | omega | (simp; done) | (simp; omega)) _ ))⟩
end Go.Proofs.Ytoonkpjddfiopaa

/- Walks: new images; the drops of the columns. -/
namespace Go.Proofs.Ytoonkpjddfiopaa
open Go.RowKit
set_option linter.unusedVariables false

theorem infoU8 : (Try.prog.info? 5).map (fun i => (i.zero, i.size, i.bytes)) = some (some (.int .u8 0), 1, 1) := by kernel_rfl
theorem infoInt : (Try.prog.info? 3).map (fun i => (i.zero, i.size, i.bytes)) = some (some (.int .i64 0), 1, 8) := by kernel_rfl
theorem makeB (n : Int) (h0 : 0 ≤ n) (h : n ≤ 140737488355328) (w : World) : (Instr.makeSlice 22 (.int .i64 n) (.int .i64 n)).run Try.prog w =
    .ok (.slice (some ⟨w.heap.size, 0, none⟩) n.toNat n.toNat) (w.alloc (.cells (u8s n.toNat (fun _ => 0)) 5)) := by
  obtain ⟨i, hi, hz, hs, hb⟩ := info_parts infoU8
  have := run_make (P := Try.prog) w 22 5 i _ Try.underlying22 hi hz .i64 .i64 n n h0 (Int.le_refl _) (by rw [hb]; omega) (by omega)
  rw [this, hs]
  have e : madeCells (Value.int .u8 0).cells (n.toNat * 1) = u8s n.toNat (fun _ => 0) := by
    rw [← u8s_zero]
    apply Array.ext_getElem?
    intro j
    simp only [madeCells, Value.cells, Nat.mul_one]
    by_cases hj : j < n.toNat <;> simp [hj, Nat.mod_one]
  rw [e]
theorem makeI (n : Int) (h0 : 0 ≤ n) (h : n ≤ 17592186044416) (w : World) : (Instr.makeSlice 53 (.int .i64 n) (.int .i64 n)).run Try.prog w =
    .ok (.slice (some ⟨w.heap.size, 0, none⟩) n.toNat n.toNat) (w.alloc (.cells (i64s n.toNat (fun _ => 0)) 3)) := by
  obtain ⟨i, hi, hz, hs, hb⟩ := info_parts infoInt
  have := run_make (P := Try.prog) w 53 3 i _ Try.underlying53 hi hz .i64 .i64 n n h0 (Int.le_refl _) (by rw [hb]; omega) (by omega)
  rw [this, hs]
  have e : madeCells (Value.int .i64 0).cells (n.toNat * 1) = i64s n.toNat (fun _ => 0) := by
    rw [← i64s_zero]
    apply Array.ext_getElem?
    intro j
    simp only [madeCells, Value.cells, Nat.mul_one]
    by_cases hj : j < n.toNat <;> simp [hj, Nat.mod_one]
  rw [e]

def New (w : World) (R : Value → World → Prop) (e : Ending) (w' : World) : Prop := ∃ v, e = .returned v ∧ R v w' ∧ Below w.heap.size w w'

set_option maxHeartbeats 400000 in
theorem blank_any (W H : Int) (w : World) (h1 : 0 ≤ W) (h2 : W ≤ 640) (h3 : 0 ≤ H) (h4 : H ≤ 640) :
    Calls Try.prog 73 #[.int .i64 W, .int .i64 H] w (New w fun v w' => OutImg w w' W H (fun _ => 0) v) := by
  obtain ⟨m1, m2⟩ := area_bd h1 h2 h3 h4
  have hmk := makeB (W * H) m1 (by omega)
  go_enter Try.func73, Try.ntmps73
  go_wp2
  refine bodyPost_ret (v := .agg #[.int .i64 W, .int .i64 H, .slice (some ⟨w.heap.size + 1, 0, none⟩) (W * H).toNat (W * H).toNat]) (by simp [results, Try.results73, go_sem]) rfl ?_
  exact ⟨_, rfl, OutImg.mk (by omega) (Blk.new' (by simp) _ _), by (repeat (first | exact Below.refl _ _ | assumption | refine Below.drew ?_ | refine below_drewN ?_ _ | refine Below.alloc ?_ (by first | omega | (simp; done) | (simp; omega)) _ | refine Below.setCell ?_ (by first | omega | (simp; done) | (simp; omega)) _ | refine below_setRow ?_ (by first | omega | (simp; done) | (simp; omega)) _ ))⟩

def newE (W H : Int) : Int := if W < 0 ∨ 640 < W ∨ H < 0 ∨ 640 < H then 2 else 0
theorem newE_bad {W H : Int} : newE W H ≠ 0 ↔ (W < 0 ∨ 640 < W ∨ H < 0 ∨ 640 < H) := by unfold newE; split <;> simp_all
theorem newE_ok {W H : Int} : newE W H = 0 ↔ (0 ≤ W ∧ W ≤ 640 ∧ 0 ≤ H ∧ H ≤ 640) := by unfold newE; split <;> simp_all <;> omega

set_option maxHeartbeats 400000 in
theorem new_ok (W H : Int) (w : World) (h1 : 0 ≤ W) (h2 : W ≤ 640) (h3 : 0 ≤ H) (h4 : H ≤ 640) :
    Calls Try.prog 65 #[.int .i64 W, .int .i64 H] w (New w fun v w' => ∃ g, v = .tuple #[g, .int .i64 0] ∧ OutImg w w' W H (fun _ => 0) g) := by
  go_enter Try.func65, Try.ntmps65
  go_wp2_with (go_at_call 73; refine (blank_any W H _ h1 h2 h3 h4).mono ?_; rintro e w1 ⟨_, rfl, ⟨g, rfl, hg, hb⟩, hbl⟩; have hc := (Blk.new w 29 #[.int .i64 0, .int .i64 0, .slice none 0 0]).below' hbl; obtain ⟨c1, c2, c3⟩ := hc.cells3; obtain ⟨d1, d2, d3⟩ := hc.frozen3)
  refine bodyPost_ret (v := .tuple #[.agg #[.int .i64 W, .int .i64 H, .slice (some ⟨g, 0, none⟩) (W * H).toNat (W * H).toNat], .int .i64 0]) (by simp [results, Try.results65, go_sem, c1, c2, c3]) rfl ?_
  rw [World.size_alloc] at hg
  refine ⟨_, rfl, ⟨_, rfl, OutImg.mk (by omega) (((hb.far (by simp; omega) _).far (by simp; omega) _).far (by simp; omega) _)⟩, ?_⟩
  have hbl' : Below w.heap.size w w1 := below_call (by (repeat (first | exact Below.refl _ _ | assumption | refine Below.drew ?_ | refine below_drewN ?_ _ | refine Below.alloc ?_ (by first | omega | (simp; done) | (simp; omega)) _ | refine Below.setCell ?_ (by first | omega | (simp; done) | (simp; omega)) _ | refine below_setRow ?_ (by first | omega | (simp; done) | (simp; omega)) _ ))) (by simp) hbl
  (repeat (first | exact Below.refl _ _ | assumption | refine Below.drew ?_ | refine below_drewN ?_ _ | refine Below.alloc ?_ (by first | omega | (simp; done) | (simp; omega)) _ | refine Below.setCell ?_ (by first | omega | (simp; done) | (simp; omega)) _ | refine below_setRow ?_ (by first | omega | (simp; done) | (simp; omega)) _ ))
set_option maxHeartbeats 400000 in
theorem new_bad (W H : Int) (w : World) (h : newE W H ≠ 0) :
    Calls Try.prog 65 #[.int .i64 W, .int .i64 H] w fun e w' => e = .returned (.tuple #[noImg, .int .i64 2]) ∧ Below w.heap.size w w' := by
  rw [newE_bad] at h
  go_enter Try.func65, Try.ntmps65
  go_wp2_with fail
  all_goals
    refine bodyPost_ret (v := .tuple #[noImg, .int .i64 2]) (by simp [results, Try.results65, go_sem, noImg]) rfl ?_
    exact ⟨rfl, by (repeat (first | exact Below.refl _ _ | assumption | refine Below.drew ?_ | refine below_drewN ?_ _ | refine Below.alloc ?_ (by first | omega | (simp; done) | (simp; omega)) _ | refine Below.setCell ?_ (by first | omega | (simp; done) | (simp; omega)) _ | refine below_setRow ?_ (by first | omega | (simp; done) | (simp; omega)) _ ))⟩

/-- the drop of a column -/
def dropI (w k x : Int) : Int := (if k < 0 then (w - 1 - x) * (-k) else x * k) / 64
def grt (W k : Int) : Int := (if W ≤ 1 then 0 else W - 1) * (if k < 0 then -k else k) / 64

theorem mul_bd {a b m n : Int} (h0 : 0 ≤ a) (h1 : a ≤ m) (k0 : 0 ≤ b) (k1 : b ≤ n) : 0 ≤ a * b ∧ a * b ≤ m * n :=
  ⟨Int.mul_nonneg h0 k0, Int.mul_le_mul h1 k1 k0 (by omega)⟩
theorem grt_bd {W k : Int} (h1 : 0 ≤ W) (h2 : W ≤ 640) (h3 : -3 ≤ k) (h4 : k ≤ 3) : 0 ≤ grt W k ∧ grt W k ≤ 29 := by
  unfold grt
  have := mul_bd (a := if W ≤ 1 then 0 else W - 1) (b := if k < 0 then -k else k) (m := 639) (n := 3) (by split <;> omega) (by split <;> omega) (by split <;> omega) (by split <;> omega)
  omega
theorem drop_bd {W k x : Int} (h2 : W ≤ 640) (h3 : -3 ≤ k) (h4 : k ≤ 3) (h5 : 0 ≤ x) (h6 : x < W) : 0 ≤ dropI W k x ∧ dropI W k x ≤ 29 := by
  unfold dropI
  split
  · have := mul_bd (a := W - 1 - x) (b := -k) (m := 639) (n := 3) (by omega) (by omega) (by omega) (by omega)
    omega
  · have := mul_bd (a := x) (b := k) (m := 639) (n := 3) (by omega) (by omega) (by omega) (by omega)
    omega

set_option maxHeartbeats 400000 in
theorem greatest_any (W k : Int) (w : World) (h1 : 0 ≤ W) (h2 : W ≤ 640) (h3 : -3 ≤ k) (h4 : k ≤ 3) :
    Calls Try.prog 64 #[.int .i64 W, .int .i64 k] w fun e w' => e = .returned (.int .i64 (grt W k)) ∧ w = w' := by
  by_cases hW : W ≤ 1
  · have hr : Hid (grt W k = 0) := by show _ = _; unfold grt; rw [if_pos hW]; simp
    go_enter Try.func64, Try.ntmps64
    go_wp2
    all_goals
      go_ret
      refine ⟨ret_int ?_, rfl⟩
      rw [hr.out]
      try rw [show W - 1 = 0 by omega]
      simp [wrap64]
  · by_cases hk : k < 0
    · have hr : Hid (grt W k = (W - 1) * -k / 64) := by show _ = _; unfold grt; rw [if_neg hW, if_pos hk]
      obtain ⟨a1, a2⟩ := mul_bd (a := W - 1) (b := -k) (m := 639) (n := 3) (by omega) (by omega) (by omega) (by omega)
      go_enter Try.func64, Try.ntmps64
      go_wp2
      go_ret
      exact ⟨ret_int hr.out.symm, rfl⟩
    · have hr : Hid (grt W k = (W - 1) * k / 64) := by show _ = _; unfold grt; rw [if_neg hW, if_neg hk]
      obtain ⟨a1, a2⟩ := mul_bd (a := W - 1) (b := k) (m := 639) (n := 3) (by omega) (by omega) (by omega) (by omega)
      go_enter Try.func64, Try.ntmps64
      go_wp2
      go_ret
      exact ⟨ret_int hr.out.symm, rfl⟩

theorem zero63 (w : World) : (zeroValue 100).run Try.prog w = .ok (.agg (Array.replicate 640 (.int .i64 0))) w := by kernel_rfl
theorem info63 : (Try.prog.info? 100).map (·.size) = some 640 := by kernel_rfl
def zeros640 : Array Value := i64s 640 (fun _ => 0)
theorem zero63' (w : World) : (zeroValue 100).run Try.prog w = .ok (.agg zeros640) w := by rw [zero63, i64s_zero]; rfl

theorem upd_drop (W k x j : Int) : upd (fun j => if j < x then dropI W k j else 0) x (dropI W k x) j = if j < x + 1 then dropI W k j else 0 := by
  show (if j = x then _ else (if j < x then _ else _)) = _
  by_cases e : j = x
  · subst e; rw [if_pos rfl, if_pos (by omega)]
  · by_cases e' : j < x
    · rw [if_neg e, if_pos e', if_pos (by omega)]
    · rw [if_neg e, if_neg e', if_neg (by omega)]

set_option maxHeartbeats 400000 in
theorem drops_any (W k : Int) (w : World) (h1 : 0 ≤ W) (h2 : W ≤ 640) (h3 : -3 ≤ k) (h4 : k ≤ 3) :
    Calls Try.prog 66 #[.int .i64 W, .int .i64 k] w (New w fun v _ => v = .agg (i64s 640 (fun x => if x < W then dropI W k x else 0))) := by
  have hz := zero63'
  go_enter Try.func66, Try.ntmps66
  go_wp2
  go_loopw [9] (fun i wr => ∃ x : Int, 0 ≤ x ∧ x ≤ W ∧ i = .int .i64 x ∧ Below w.heap.size w wr ∧ Blk wr w.heap.size 100 zeros640 ∧ Blk wr (w.heap.size + 1) 100 (i64s 640 (fun j => if j < x then dropI W k j else 0))) (fun i _ => (W - intOf i).toNat)
  case atStart =>
    refine ⟨0, by omega, by omega, rfl, by (repeat (first | exact Below.refl _ _ | assumption | refine Below.drew ?_ | refine below_drewN ?_ _ | refine Below.alloc ?_ (by first | omega | (simp; done) | (simp; omega)) _ | refine Below.setCell ?_ (by first | omega | (simp; done) | (simp; omega)) _ | refine below_setRow ?_ (by first | omega | (simp; done) | (simp; omega)) _ )), (Blk.new _ _ _).alloc _, ?_⟩
    have := Blk.new' (w := w.alloc (.cells zeros640 100)) (World.size_alloc _ _) 100 zeros640
    refine this.i64conv fun j h0 _ => ?_
    rw [if_neg (by omega)]
  case round =>
    obtain ⟨x, hx0, hx, rfl, hb, hb0, hb1⟩ := hrel
    by_cases hlt : x < W
    · have hc := hb1.i64at hx0 (by omega)
      have hf := hb1.frozen x.toNat
      have step : ∀ v, v = dropI W k x → Blk (wr.setCell ⟨w.heap.size + 1, x.toNat, none⟩ (.int .i64 v)) (w.heap.size + 1) 100 (i64s 640 (fun j => if j < x + 1 then dropI W k j else 0)) := by
        rintro v rfl
        exact (hb1.i64set x hx0 (dropI W k x)).i64conv fun j _ _ => upd_drop W k x j
      by_cases hk : k < 0
      · obtain ⟨a1, a2⟩ := mul_bd (a := W - 1 - x) (b := -k) (m := 639) (n := 3) (by omega) (by omega) (by omega) (by omega)
        go_wp2
        go_roundw
        case rel => exact ⟨x + 1, by omega, by omega, by go_num, by (repeat (first | exact Below.refl _ _ | assumption | refine Below.drew ?_ | refine below_drewN ?_ _ | refine Below.alloc ?_ (by first | omega | (simp; done) | (simp; omega)) _ | refine Below.setCell ?_ (by first | omega | (simp; done) | (simp; omega)) _ | refine below_setRow ?_ (by first | omega | (simp; done) | (simp; omega)) _ )), hb0.far (by simp) _, step _ (by simp [dropI, hk])⟩
        case measure => simp [intOf]; omega
      · obtain ⟨a1, a2⟩ := mul_bd (a := x) (b := k) (m := 639) (n := 3) (by omega) (by omega) (by omega) (by omega)
        go_wp2
        go_roundw
        case rel => exact ⟨x + 1, by omega, by omega, by go_num, by (repeat (first | exact Below.refl _ _ | assumption | refine Below.drew ?_ | refine below_drewN ?_ _ | refine Below.alloc ?_ (by first | omega | (simp; done) | (simp; omega)) _ | refine Below.setCell ?_ (by first | omega | (simp; done) | (simp; omega)) _ | refine below_setRow ?_ (by first | omega | (simp; done) | (simp; omega)) _ )), hb0.far (by simp) _, step _ (by simp [dropI, hk])⟩
        case measure => simp [intOf]; omega
    · obtain rfl : x = W := by omega
      have hb1' := hb1
      generalize hA : i64s 640 (fun j => if j < x then dropI x k j else 0) = A at *
      have hsz : A.size = 640 := by rw [← hA, i64s_size]
      have hone : A.all (·.oneCell') = true := by rw [← hA]; exact i64s_one _ _
      have HSZ := Lib.hid hsz; have HONE := Lib.hid hone; have HA := Lib.hid hA
      clear hsz hone hA hb1
      go_wp2_with (first
        | (refine wpList_load_row rfl 100 (.tmp 5) rfl (w.heap.size + 1) rfl 100 _ (0, 0) _ hb1' Try.underlying100 rfl (by rw [info63, HSZ.out]) ?_)
        | (refine wpList_store_row rfl 100 (.tmp 4) (.tmp 29) rfl w.heap.size A rfl rfl 100 _ hb0 (by rw [info63, HSZ.out]) (by rw [HSZ.out, zeros640, i64s_size]) HONE.out ?_))
      refine bodyPost_ret (v := .agg A) (results_cell_row rfl _ _ w.heap.size 100 A (0, 0) _ rfl (hb0.setRow A) Try.underlying100 rfl (by rw [info63, HSZ.out])) rfl ?_
      exact ⟨_, rfl, by rw [← HA.out], by (repeat (first | exact Below.refl _ _ | assumption | refine Below.drew ?_ | refine below_drewN ?_ _ | refine Below.alloc ?_ (by first | omega | (simp; done) | (simp; omega)) _ | refine Below.setCell ?_ (by first | omega | (simp; done) | (simp; omega)) _ | refine below_setRow ?_ (by first | omega | (simp; done) | (simp; omega)) _ ))⟩
end Go.Proofs.Ytoonkpjddfiopaa

/- Walk of clean.moved: what an image becomes when its columns are moved. -/
namespace Go.Proofs.Ytoonkpjddfiopaa
open Go.RowKit
set_option linter.unusedVariables false

def movE (W H : Int) (n : Nat) (p : Int → Int) (k way : Int) : Int :=
  if chk W H n p ≠ 0 then chk W H n p else if k < -3 ∨ 3 < k then 1 else if H + way * grt W k < 0 ∨ 640 < H + way * grt W k then 2 else 0
def movQ (W H : Int) (p : Int → Int) (k way : Int) : Int → Int := fun i =>
  if 0 ≤ i / W - way * dropI W k (i % W) ∧ i / W - way * dropI W k (i % W) < H then p ((i / W - way * dropI W k (i % W)) * W + i % W) else 0
theorem chk_ok {W H : Int} {n : Nat} {p : Int → Int} (h : chk W H n p = 0) : 0 ≤ W ∧ W ≤ 640 ∧ 0 ≤ H ∧ H ≤ 640 ∧ (n : Int) = W * H ∧ ∀ i : Int, 0 ≤ i → i < n → p i ≤ 1 := by
  unfold chk at h
  split at h
  · rename_i hs
    split at h
    · rename_i hp
      obtain ⟨a, b, c, d, e⟩ := sidesB_iff.1 hs
      exact ⟨a, b, c, d, e, fun i h0 h1 => by simpa using allN_iff.1 hp i h0 h1⟩
    · omega
  · omega
theorem movE_ok {W H : Int} {n : Nat} {p : Int → Int} {k way : Int} (h : movE W H n p k way = 0) :
    chk W H n p = 0 ∧ -3 ≤ k ∧ k ≤ 3 ∧ 0 ≤ H + way * grt W k ∧ H + way * grt W k ≤ 640 := by
  unfold movE at h
  split at h
  · rename_i h1; exact absurd h h1
  · rename_i h1
    split at h
    · omega
    · split at h
      · omega
      · refine ⟨?_, by omega, by omega, by omega, by omega⟩
        exact Decidable.not_not.1 h1

/-- what has been moved before the pixel (x, y) -/
def movP (W : Int) (p : Int → Int) (k way y x : Int) : Int → Int := fun i =>
  if 0 ≤ i / W - way * dropI W k (i % W) ∧ (i / W - way * dropI W k (i % W) < y ∨ i / W - way * dropI W k (i % W) = y ∧ i % W < x) then p ((i / W - way * dropI W k (i % W)) * W + i % W) else 0
theorem emod_nn {i W : Int} (h0 : 0 ≤ i) (hW : 0 ≤ W) : 0 ≤ i % W := by
  by_cases e : W = 0
  · subst e; simpa using h0
  · exact Int.emod_nonneg _ e
theorem movP_start {W : Int} (p : Int → Int) (k way : Int) {i : Int} (h0 : 0 ≤ i) (hW : 0 ≤ W) : movP W p k way 0 0 i = 0 := by
  have := emod_nn h0 hW
  unfold movP; rw [if_neg]; omega
theorem movP_in {W : Int} {p : Int → Int} {k way y x t : Int} (hx0 : 0 ≤ x) (hx : x < W) (hy : 0 ≤ y) (ht : t = y + way * dropI W k x) (i : Int) :
    upd (movP W p k way y x) (t * W + x) (p (y * W + x)) i = movP W p k way y (x + 1) i := by
  unfold upd
  by_cases e : i = t * W + x
  · rw [if_pos e]
    unfold movP
    rw [e, idx_div hx0 hx, idx_mod hx0 hx]
    have hs : t - way * dropI W k x = y := by omega
    rw [hs, if_pos (by omega)]
  · rw [if_neg e]
    unfold movP
    have hX : ¬ (i / W - way * dropI W k (i % W) = y ∧ i % W = x) := by
      rintro ⟨h1, h2⟩
      rw [h2] at h1
      have h3 : i / W = t := by omega
      have h4 := Int.emod_add_mul_ediv i W
      rw [h2, h3, Int.mul_comm] at h4
      omega
    generalize i / W - way * dropI W k (i % W) = s at *
    generalize hq : p (s * W + i % W) = v
    clear hq
    generalize i % W = X at *
    by_cases c1 : 0 ≤ s ∧ (s < y ∨ s = y ∧ X < x)
    · rw [if_pos c1, if_pos (by omega)]
    · rw [if_neg c1, if_neg (by omega)]
theorem movP_out {W h : Int} {p : Int → Int} {k way y x t : Int} (hx0 : 0 ≤ x) (hx : x < W) (ht : t = y + way * dropI W k x) (ho : ¬ (0 ≤ t ∧ t < h)) {i : Int} (h0 : 0 ≤ i) (hi : i < W * h) :
    movP W p k way y x i = movP W p k way y (x + 1) i := by
  unfold movP
  have hX : ¬ (i / W - way * dropI W k (i % W) = y ∧ i % W = x) := by
    rintro ⟨h1, h2⟩
    rw [h2] at h1
    have h3 : 0 ≤ i / W := Int.ediv_nonneg h0 (by omega)
    have h4 : i / W < h := Int.ediv_lt_of_lt_mul (by omega) (by rw [Int.mul_comm]; exact hi)
    omega
  generalize i / W - way * dropI W k (i % W) = s at *
  generalize hq : p (s * W + i % W) = v
  clear hq
  generalize i % W = X at *
  by_cases c1 : 0 ≤ s ∧ (s < y ∨ s = y ∧ X < x)
  · rw [if_pos c1, if_pos (by omega)]
  · rw [if_neg c1, if_neg (by omega)]
theorem movP_row {W h : Int} {p : Int → Int} {k way y i : Int} (hW : 0 ≤ W) (h0 : 0 ≤ i) (hi : i < W * h) : movP W p k way y W i = movP W p k way (y + 1) 0 i := by
  unfold movP
  have hp : 0 < W := by
    rcases Int.lt_or_le 0 W with h | h
    · exact h
    · have : W = 0 := by omega
      subst this; simp at hi; omega
  have h1 := Int.emod_lt_of_pos i hp
  have h2 := Int.emod_nonneg i (show W ≠ 0 by omega)
  generalize i / W - way * dropI W k (i % W) = s at *
  generalize hq : p (s * W + i % W) = v
  clear hq
  generalize i % W = X at *
  by_cases c1 : 0 ≤ s ∧ (s < y ∨ s = y ∧ X < W)
  · rw [if_pos c1, if_pos (by omega)]
  · rw [if_neg c1, if_neg (by omega)]
theorem movP_end {W H h : Int} {p : Int → Int} {k way i : Int} (hW : 0 ≤ W) (h0 : 0 ≤ i) (hi : i < W * h) : movP W p k way H 0 i = movQ W H p k way i := by
  unfold movP movQ
  have h2 := emod_nn h0 hW
  generalize i / W - way * dropI W k (i % W) = s at *
  generalize hq : p (s * W + i % W) = v
  clear hq
  generalize i % W = X at *
  by_cases c1 : 0 ≤ s ∧ s < H
  · rw [if_pos c1, if_pos (by omega)]
  · rw [if_neg c1, if_neg (by omega)]
structure MovR (w wr : World) (W H h : Int) (N : Nat) (A : Option Addr) (n c g B10 B12 : Nat) (D : Array Value) (p : Int → Int) (k way y x : Int) : Prop where
  bl : Below w.heap.size w wr
  k3 : Blk wr w.heap.size 29 #[.int .i64 W, .int .i64 H, .slice A n c]
  k6 : Blk wr (w.heap.size + 1) 29 #[.int .i64 0, .int .i64 0, .slice none 0 0]
  k10 : Blk wr B10 29 #[.int .i64 W, .int .i64 h, .slice (some ⟨g, 0, none⟩) N N]
  k12 : Blk wr B12 100 D
  kg : Blk wr g 5 (u8s N (movP W p k way y x))

set_option maxRecDepth 100000 in
set_option maxHeartbeats 1000000 in
theorem moved_ok (W H : Int) (A : Option Addr) (n c : Nat) (p : Int → Int) (k way : Int) (w : World) (hA : ArrB w w.heap.size A n p) (hn : n ≤ maxLen) (hB : IsB p)
    (hw : way = 1 ∨ way = -1) (hE : movE W H n p k way = 0) :
    Calls Try.prog 34 #[.agg #[.int .i64 W, .int .i64 H, .slice A n c], .int .i64 k, .int .i64 way] w
      (New w fun v w' => ∃ g, v = .tuple #[g, .int .i64 0] ∧ OutImg w w' W (H + way * grt W k) (movQ W H p k way) g) := by
  obtain ⟨hc, hk1, hk2, hh1, hh2⟩ := movE_ok hE
  obtain ⟨hW1, hW2, hH1, hH2, hnn, -⟩ := chk_ok hc
  have HC := Lib.hid hc
  have HN := Lib.hid hnn
  clear hE hc hnn
  have hg := grt_bd hW1 hW2 hk1 hk2
  obtain ⟨hg1, hg2⟩ := hg
  have hwg : -29 ≤ way * grt W k ∧ way * grt W k ≤ 29 := by rcases hw with rfl | rfl <;> omega
  obtain ⟨hwg1, hwg2⟩ := hwg
  go_enter Try.func34, Try.ntmps34
  go_wp2_with fail
  refine (check_any W H A n c p _ (hA.to (by (repeat (first | exact Below.refl _ _ | assumption | refine Below.drew ?_ | refine below_drewN ?_ _ | refine Below.alloc ?_ (by first | omega | (simp; done) | (simp; omega)) _ | refine Below.setCell ?_ (by first | omega | (simp; done) | (simp; omega)) _ | refine below_setRow ?_ (by first | omega | (simp; done) | (simp; omega)) _ )))) hn).mono ?_
  rintro e w1 ⟨rfl, hb1⟩
  rw [HC.out]
  have k3 : Blk w1 w.heap.size 29 #[.int .i64 W, .int .i64 H, .slice A n c] := ((Blk.new _ _ _).alloc _).below' hb1
  have k6 : Blk w1 (w.heap.size + 1) 29 #[.int .i64 0, .int .i64 0, .slice none 0 0] := (Blk.new' (by simp) _ _).below' hb1
  have z1 : w.heap.size + 2 ≤ w1.heap.size := by simpa using hb1.size
  have b1 : Below w.heap.size w w1 := below_call (by (repeat (first | exact Below.refl _ _ | assumption | refine Below.drew ?_ | refine below_drewN ?_ _ | refine Below.alloc ?_ (by first | omega | (simp; done) | (simp; omega)) _ | refine Below.setCell ?_ (by first | omega | (simp; done) | (simp; omega)) _ | refine below_setRow ?_ (by first | omega | (simp; done) | (simp; omega)) _ ))) (by simp; omega) hb1
  clear hb1
  obtain ⟨p1, p2, p3⟩ := k3.cells3
  go_wp2_with fail
  go_quiet ((go_at_call 64; exact qcallN (greatest_any _ _ _ hW1 hW2 hk1 hk2)))
  replace k3 := k3.drewN nq
  replace k6 := k6.drewN nq
  replace b1 := below_drewN b1 nq
  replace z1 : w.heap.size + 2 ≤ (w1.drewN nq).heap.size := z1
  have p1 := p1; have p2 := p2; have p3 := p3
  clear p1 p2 p3
  generalize hh : H + way * grt W k = h at *
  have HH := Lib.hid hh; clear hh
  generalize w1.drewN nq = w2 at *
  obtain ⟨p1, p2, p3⟩ := k3.cells3
  go_wp2_with fail
  refine (new_ok W h _ hW1 hW2 hh1 hh2).mono ?_
  rintro e w3 ⟨_, rfl, ⟨_, rfl, ⟨g, rfl, hg, kg⟩⟩, hb3⟩
  replace k3 := k3.below' hb3
  replace k6 := k6.below' hb3
  replace b1 := below_call b1 (by omega) hb3
  have z3 : w2.heap.size ≤ w3.heap.size := hb3.size
  have z4 := kg.lt
  clear hb3 p1 p2 p3
  obtain ⟨p1, p2, p3⟩ := k3.cells3
  have zz1 : w.heap.size < w3.heap.size := by omega
  go_wp2_with fail
  refine (drops_any W k _ hW1 hW2 hk1 hk2).mono ?_
  rintro e w4 ⟨_, rfl, rfl, hb4⟩
  replace k3 := (k3.alloc _).below' hb4
  replace k6 := (k6.alloc _).below' hb4
  have k10 := (Blk.new _ _ _).below' hb4
  replace kg := (kg.alloc _).below' hb4
  replace b1 : Below w.heap.size w w4 := below_call (by (repeat (first | exact Below.refl _ _ | assumption | refine Below.drew ?_ | refine below_drewN ?_ _ | refine Below.alloc ?_ (by first | omega | (simp; done) | (simp; omega)) _ | refine Below.setCell ?_ (by first | omega | (simp; done) | (simp; omega)) _ | refine below_setRow ?_ (by first | omega | (simp; done) | (simp; omega)) _ ))) (by simp; omega) hb4
  have z5 : w3.heap.size < w4.heap.size := by have := hb4.size; simp at this; omega
  clear hb4 p1 p2 p3
  obtain ⟨p1, p2, p3⟩ := k3.cells3
  generalize hD : i64s 640 (fun x => if x < W then dropI W k x else 0) = D at *
  have hsz : D.size = 640 := by rw [← hD, i64s_size]
  have hone : D.all (·.oneCell') = true := by rw [← hD]; exact i64s_one _ _
  have HSZ := Lib.hid hsz; have HONE := Lib.hid hone; have HD := Lib.hid hD
  clear hsz hone hD
  have hz := zero63'
  have z6 : w.heap.size < w4.heap.size := by omega
  go_wp2_with (refine wpList_store_row rfl 100 (.tmp 12) (.tmp 52) rfl _ D rfl rfl 100 _ (heap_alloc_new _ _) (by rw [info63, HSZ.out]) (by rw [HSZ.out, zeros640, i64s_size]) HONE.out ?_; rw [World.setRow_alloc_new])
  have hN : ((W * h).toNat : Int) = W * h := Int.toNat_of_nonneg (area_bd hW1 hW2 hh1 hh2).1
  generalize hNe : (W * h).toNat = N at *
  have HNE := Lib.hid hNe; have HNN := Lib.hid hN; clear hN hNe
  have m : MovR w (w4.alloc (.cells D 100)) W H h N A n c g w3.heap.size w4.heap.size D p k way 0 0 :=
    ⟨by (repeat (first | exact Below.refl _ _ | assumption | refine Below.drew ?_ | refine below_drewN ?_ _ | refine Below.alloc ?_ (by first | omega | (simp; done) | (simp; omega)) _ | refine Below.setCell ?_ (by first | omega | (simp; done) | (simp; omega)) _ | refine below_setRow ?_ (by first | omega | (simp; done) | (simp; omega)) _ )), k3.alloc _, k6.alloc _, k10.alloc _, Blk.new _ _ _, (kg.alloc _).u8conv fun j h0 _ => (movP_start _ _ _ h0 hW1).symm⟩
  have hg0 : w.heap.size + 2 ≤ g := by omega
  clear k3 k6 k10 kg b1 p1 p2 p3 z1 z3 zz1 hz
  generalize w4.alloc (.cells D 100) = w5 at *
  go_loopw [55] (fun i wr => ∃ y : Int, 0 ≤ y ∧ y ≤ H ∧ i = .int .i64 y ∧ MovR w wr W H h N A n c g w3.heap.size w4.heap.size D p k way y 0) (fun i _ => (H - intOf i).toNat)
  case atStart => exact ⟨0, by omega, by omega, rfl, m⟩
  case round =>
    obtain ⟨y, hy0, hy, rfl, m1⟩ := hrel
    clear m
    obtain ⟨wo, rfl⟩ : ∃ wo : World, wo = wr := ⟨_, rfl⟩
    obtain ⟨p1, p2, p3⟩ := m1.k3.cells3
    by_cases hyH : y < H
    · go_wp2
      go_loopw [60] (fun i wr => ∃ x : Int, 0 ≤ x ∧ x ≤ W ∧ i = .int .i64 x ∧ MovR w wr W H h N A n c g w3.heap.size w4.heap.size D p k way y x) (fun i _ => (W - intOf i).toNat)
      case atStart => exact ⟨0, by omega, by omega, rfl, m1⟩
      case round =>
        obtain ⟨x, hx0, hx, rfl, m2⟩ := hrel
        clear m1 p1 p2 p3
        obtain ⟨p1, p2, p3⟩ := m2.k3.cells3
        by_cases hxW : x < W
        · have hd := drop_bd (W := W) (k := k) (x := x) hW2 hk1 hk2 hx0 hxW
          obtain ⟨hd1, hd2⟩ := hd
          have hwd : -29 ≤ way * dropI W k x ∧ way * dropI W k x ≤ 29 := by rcases hw with rfl | rfl <;> omega
          obtain ⟨hwd1, hwd2⟩ := hwd
          have p12 : wr.cell? ⟨w4.heap.size, x.toNat, none⟩ = some (.int .i64 (dropI W k x)) := by
            have := m2.k12.cell x.toNat
            rw [← HD.out, i64s_at hx0 (by omega), if_pos hxW] at this
            exact this
          by_cases ht : 0 ≤ y + way * dropI W k x ∧ y + way * dropI W k x < h
          · obtain ⟨i1, i2, i3⟩ := idx_lt hx0 hxW ht.1 ht.2
            obtain ⟨j1, j2, j3⟩ := idx_lt hx0 hxW hy0 hyH
            rw [Int.mul_comm h W] at i2
            have j4 : y * W + x < n := by have := HN.out; rw [Int.mul_comm H W] at j2; omega
            obtain ⟨q1, q2, q3⟩ := m2.k10.cells3
            have j5 : W * h ≤ 409600 := (area_bd hW1 hW2 hh1 hh2).2
            have j6 := (area_bd hW1 hW2 hH1 hH2).2
            rw [Int.mul_comm W H] at j6
            obtain ⟨b, off, rfl, hbB, hcell⟩ := ArrB.at_ (ArrB.below hA m2.bl) j1 j4
            have i4 : (y + way * dropI W k x) * W + x < (N : Int) := by have := HNN.out; omega
            have ho := m2.kg.u8at i1 i4
            have v1 : IntKind.i64.wrap (y * W) = y * W := IntWalk.i64_in _ (by omega)
            have v2 : IntKind.i64.wrap (y * W + x) = y * W + x := IntWalk.i64_in _ (by omega)
            have v3 : IntKind.i64.wrap ((y + way * dropI W k x) * W) = (y + way * dropI W k x) * W := IntWalk.i64_in _ (by omega)
            have v4 : IntKind.i64.wrap ((y + way * dropI W k x) * W + x) = (y + way * dropI W k x) * W + x := IntWalk.i64_in _ (by omega)
            have hf := m2.kg.frozen ((y + way * dropI W k x) * W + x).toNat
            have ML := Lib.hid (m2.kg.u8set _ i1 (p (y * W + x)))
            go_wp2
            go_still_tail 19, (by kernel_rfl)
            change wpList _ _ _ _ _ wr.drew
            clear v1 v2 v3 v4
            go_wp2
            go_roundw
            case rel =>
              exact ⟨x + 1, by omega, by omega, by go_num, by have := m2.bl; (repeat (first | exact Below.refl _ _ | assumption | refine Below.drew ?_ | refine below_drewN ?_ _ | refine Below.alloc ?_ (by first | omega | (simp; done) | (simp; omega)) _ | refine Below.setCell ?_ (by first | omega | (simp; done) | (simp; omega)) _ | refine below_setRow ?_ (by first | omega | (simp; done) | (simp; omega)) _ )), m2.k3.far (by simp; omega) _, m2.k6.far (by simp; omega) _, m2.k10.far (by simp; omega) _, m2.k12.far (by simp; omega) _,
                Blk.u8conv ML.out fun i _ _ => movP_in hx0 hxW hy0 rfl i⟩
            case measure => simp [intOf]; omega
          · go_wp2
            all_goals
              go_roundw
              case rel => exact ⟨x + 1, by omega, by omega, by go_num, m2.bl, m2.k3, m2.k6, m2.k10, m2.k12, m2.kg.u8conv fun i h0 hi => movP_out (h := h) hx0 hxW rfl ht h0 (by have := HNN.out; omega)⟩
              case measure => simp [intOf]; omega
        · obtain rfl : x = W := by omega
          go_wp2
          go_roundw
          case rel => exact ⟨y + 1, by omega, by omega, by go_num, m2.bl, m2.k3, m2.k6, m2.k10, m2.k12, m2.kg.u8conv fun i h0 hi => movP_row (h := h) hW1 h0 (by have := HNN.out; omega)⟩
          case measure => simp [intOf]; omega
    · obtain rfl : y = H := by omega
      obtain ⟨q1, q2, q3⟩ := m1.k10.cells3
      obtain ⟨r1, r2, r3⟩ := m1.k6.cells3
      obtain ⟨f1, f2, f3⟩ := m1.k6.frozen3
      go_wp2
      refine bodyPost_ret (v := .tuple #[.agg #[.int .i64 W, .int .i64 h, .slice (some ⟨g, 0, none⟩) N N], .int .i64 0]) (by simp [results, Try.results34, go_sem, r1, r2, r3]) rfl ?_
      refine ⟨_, rfl, ⟨_, rfl, ?_⟩, by have := m1.bl; (repeat (first | exact Below.refl _ _ | assumption | refine Below.drew ?_ | refine below_drewN ?_ _ | refine Below.alloc ?_ (by first | omega | (simp; done) | (simp; omega)) _ | refine Below.setCell ?_ (by first | omega | (simp; done) | (simp; omega)) _ | refine below_setRow ?_ (by first | omega | (simp; done) | (simp; omega)) _ ))⟩
      rw [HH.out, ← HNE.out]
      refine OutImg.mk (by omega) ?_
      rw [HNE.out]
      exact (((m1.kg.u8conv fun i h0 hi => movP_end (h := h) hW1 h0 (by have := HNN.out; omega)).far (by simp; omega) _).far (by simp; omega) _).far (by simp; omega) _

set_option maxHeartbeats 400000 in
theorem moved_bad (W H : Int) (A : Option Addr) (n c : Nat) (p : Int → Int) (k way : Int) (w : World) (hA : ArrB w w.heap.size A n p) (hn : n ≤ maxLen)
    (hw : way = 1 ∨ way = -1) (hE : movE W H n p k way ≠ 0) :
    Calls Try.prog 34 #[.agg #[.int .i64 W, .int .i64 H, .slice A n c], .int .i64 k, .int .i64 way] w
      fun e w' => e = .returned (.tuple #[noImg, .int .i64 (movE W H n p k way)]) ∧ Below w.heap.size w w' := by
  by_cases hc : chk W H n p = 0
  · obtain ⟨hW1, hW2, hH1, hH2, -, -⟩ := chk_ok hc
    by_cases hk : k < -3 ∨ 3 < k
    · have HR : Hid (movE W H n p k way = 1) := by show _ = _; unfold movE; rw [hc]; simp [hk]
      have HC := Lib.hid hc; clear hc hE
      rw [HR.out]
      go_enter Try.func34, Try.ntmps34
      go_wp2_with fail
      refine (check_any W H A n c p _ (hA.to (by (repeat (first | exact Below.refl _ _ | assumption | refine Below.drew ?_ | refine below_drewN ?_ _ | refine Below.alloc ?_ (by first | omega | (simp; done) | (simp; omega)) _ | refine Below.setCell ?_ (by first | omega | (simp; done) | (simp; omega)) _ | refine below_setRow ?_ (by first | omega | (simp; done) | (simp; omega)) _ )))) hn).mono ?_
      rintro e w1 ⟨rfl, hb1⟩
      rw [HC.out]
      have k6 : Blk w1 (w.heap.size + 1) 29 #[.int .i64 0, .int .i64 0, .slice none 0 0] := (Blk.new' (by simp) _ _).below' hb1
      have b1 : Below w.heap.size w w1 := below_call (by (repeat (first | exact Below.refl _ _ | assumption | refine Below.drew ?_ | refine below_drewN ?_ _ | refine Below.alloc ?_ (by first | omega | (simp; done) | (simp; omega)) _ | refine Below.setCell ?_ (by first | omega | (simp; done) | (simp; omega)) _ | refine below_setRow ?_ (by first | omega | (simp; done) | (simp; omega)) _ ))) (by simp; omega) hb1
      obtain ⟨r1, r2, r3⟩ := k6.cells3
      obtain ⟨f1, f2, f3⟩ := k6.frozen3
      go_wp2_with fail
      all_goals
        refine bodyPost_ret (v := .tuple #[noImg, .int .i64 1]) (by simp [results, Try.results34, go_sem, noImg, r1, r2, r3]) rfl ?_
        exact ⟨rfl, by (repeat (first | exact Below.refl _ _ | assumption | refine Below.drew ?_ | refine below_drewN ?_ _ | refine Below.alloc ?_ (by first | omega | (simp; done) | (simp; omega)) _ | refine Below.setCell ?_ (by first | omega | (simp; done) | (simp; omega)) _ | refine below_setRow ?_ (by first | omega | (simp; done) | (simp; omega)) _ ))⟩
    · have hk1 : -3 ≤ k := by omega
      have hk2 : k ≤ 3 := by omega
      obtain ⟨hg1, hg2⟩ := grt_bd hW1 hW2 hk1 hk2
      have hwg : -29 ≤ way * grt W k ∧ way * grt W k ≤ 29 := by rcases hw with rfl | rfl <;> omega
      obtain ⟨hwg1, hwg2⟩ := hwg
      by_cases hh : H + way * grt W k < 0 ∨ 640 < H + way * grt W k
      · have HR : Hid (movE W H n p k way = 2) := by show _ = _; unfold movE; rw [hc, if_neg (by omega), if_neg hk, if_pos hh]
        have HC := Lib.hid hc; clear hc hE hk
        have HE : newE W (H + way * grt W k) ≠ 0 := newE_bad.2 (by omega)
        rw [HR.out]
        go_enter Try.func34, Try.ntmps34
        go_wp2_with fail
        refine (check_any W H A n c p _ (hA.to (by (repeat (first | exact Below.refl _ _ | assumption | refine Below.drew ?_ | refine below_drewN ?_ _ | refine Below.alloc ?_ (by first | omega | (simp; done) | (simp; omega)) _ | refine Below.setCell ?_ (by first | omega | (simp; done) | (simp; omega)) _ | refine below_setRow ?_ (by first | omega | (simp; done) | (simp; omega)) _ )))) hn).mono ?_
        rintro e w1 ⟨rfl, hb1⟩
        rw [HC.out]
        have k3 : Blk w1 w.heap.size 29 #[.int .i64 W, .int .i64 H, .slice A n c] := ((Blk.new _ _ _).alloc _).below' hb1
        have k6 : Blk w1 (w.heap.size + 1) 29 #[.int .i64 0, .int .i64 0, .slice none 0 0] := (Blk.new' (by simp) _ _).below' hb1
        have b1 : Below w.heap.size w w1 := below_call (by (repeat (first | exact Below.refl _ _ | assumption | refine Below.drew ?_ | refine below_drewN ?_ _ | refine Below.alloc ?_ (by first | omega | (simp; done) | (simp; omega)) _ | refine Below.setCell ?_ (by first | omega | (simp; done) | (simp; omega)) _ | refine below_setRow ?_ (by first | omega | (simp; done) | (simp; omega)) _ ))) (by simp; omega) hb1
        have z1 : w.heap.size + 2 ≤ w1.heap.size := by simpa using hb1.size
        clear hb1
        obtain ⟨p1, p2, p3⟩ := k3.cells3
        go_wp2_with fail
        go_quiet ((go_at_call 64; exact qcallN (greatest_any _ _ _ hW1 hW2 hk1 hk2)))
        replace k3 := k3.drewN nq
        replace k6 := k6.drewN nq
        replace b1 := below_drewN b1 nq
        replace z1 : w.heap.size + 2 ≤ (w1.drewN nq).heap.size := z1
        clear p1 p2 p3
        generalize H + way * grt W k = h at *
        generalize w1.drewN nq = w2 at *
        obtain ⟨p1, p2, p3⟩ := k3.cells3
        go_wp2_with fail
        refine (new_bad W h _ HE).mono ?_
        rintro e w3 ⟨rfl, hb3⟩
        unfold noImg
        replace k6 := k6.below' hb3
        replace b1 := below_call b1 (by omega) hb3
        have z3 : w.heap.size + 1 < w3.heap.size := by have := hb3.size; omega
        clear hb3 p1 p2 p3
        obtain ⟨r1, r2, r3⟩ := k6.cells3
        obtain ⟨f1, f2, f3⟩ := k6.frozen3
        go_wp2_with fail
        refine bodyPost_ret (v := .tuple #[noImg, .int .i64 2]) (by simp [results, Try.results34, go_sem, noImg, r1, r2, r3, z3]) rfl ?_
        exact ⟨rfl, by (repeat (first | exact Below.refl _ _ | assumption | refine Below.drew ?_ | refine below_drewN ?_ _ | refine Below.alloc ?_ (by first | omega | (simp; done) | (simp; omega)) _ | refine Below.setCell ?_ (by first | omega | (simp; done) | (simp; omega)) _ | refine below_setRow ?_ (by first | omega | (simp; done) | (simp; omega)) _ ))⟩
      · exfalso; apply hE; unfold movE; rw [hc, if_neg (by omega), if_neg hk, if_neg hh]
  · have HR : Hid (movE W H n p k way = chk W H n p) := by show _ = _; unfold movE; rw [if_pos hc]
    rw [HR.out]
    have CA := fun w' hA' => check_any W H A n c p w' hA' hn
    generalize chk W H n p = z at *
    clear hE HR
    have CA := Lib.hid CA
    go_enter Try.func34, Try.ntmps34
    go_wp2_with fail
    refine (CA.out _ (hA.to (by (repeat (first | exact Below.refl _ _ | assumption | refine Below.drew ?_ | refine below_drewN ?_ _ | refine Below.alloc ?_ (by first | omega | (simp; done) | (simp; omega)) _ | refine Below.setCell ?_ (by first | omega | (simp; done) | (simp; omega)) _ | refine below_setRow ?_ (by first | omega | (simp; done) | (simp; omega)) _ ))))).mono ?_
    rintro e w1 ⟨rfl, hb1⟩
    have k6 : Blk w1 (w.heap.size + 1) 29 #[.int .i64 0, .int .i64 0, .slice none 0 0] := (Blk.new' (by simp) _ _).below' hb1
    have b1 : Below w.heap.size w w1 := below_call (by (repeat (first | exact Below.refl _ _ | assumption | refine Below.drew ?_ | refine below_drewN ?_ _ | refine Below.alloc ?_ (by first | omega | (simp; done) | (simp; omega)) _ | refine Below.setCell ?_ (by first | omega | (simp; done) | (simp; omega)) _ | refine below_setRow ?_ (by first | omega | (simp; done) | (simp; omega)) _ ))) (by simp; omega) hb1
    obtain ⟨r1, r2, r3⟩ := k6.cells3
    obtain ⟨f1, f2, f3⟩ := k6.frozen3
    go_wp2_with fail
    refine bodyPost_ret (v := .tuple #[noImg, .int .i64 z]) (by simp [results, Try.results34, go_sem, noImg, r1, r2, r3]) rfl ?_
    exact ⟨rfl, by (repeat (first | exact Below.refl _ _ | assumption | refine Below.drew ?_ | refine below_drewN ?_ _ | refine Below.alloc ?_ (by first | omega | (simp; done) | (simp; omega)) _ | refine Below.setCell ?_ (by first | omega | (simp; done) | (simp; omega)) _ | refine below_setRow ?_ (by first | omega | (simp; done) | (simp; omega)) _ ))⟩
end Go.Proofs.Ytoonkpjddfiopaa

/- Walks: Skew and Unskew; the profile of an image; its full rows. -/
namespace Go.Proofs.Ytoonkpjddfiopaa
open Go.RowKit
set_option linter.unusedVariables false

set_option maxHeartbeats 400000 in
theorem skew_ok (W H h : Int) (A : Option Addr) (n c : Nat) (p : Int → Int) (k : Int) (w : World) (hA : ArrB w w.heap.size A n p) (hn : n ≤ maxLen) (hB : IsB p) (hE : movE W H n p k 1 = 0) (hh : h = H + grt W k) :
    Calls Try.prog 15 #[.agg #[.int .i64 W, .int .i64 H, .slice A n c], .int .i64 k] w
      (New w fun v w' => ∃ g, v = .tuple #[g, .int .i64 0] ∧ OutImg w w' W h (movQ W H p k 1) g) := by
  have M := fun w' hA' => moved_ok W H A n c p k 1 w' hA' hn hB (.inl rfl) hE
  rw [show H + 1 * grt W k = h by omega] at M
  clear hE hh
  have M := Lib.hid M
  go_enter Try.func15, Try.ntmps15
  go_wp2_with fail
  refine (M.out _ (hA.to (by (repeat (first | exact Below.refl _ _ | assumption | refine Below.drew ?_ | refine below_drewN ?_ _ | refine Below.alloc ?_ (by first | omega | (simp; done) | (simp; omega)) _ | refine Below.setCell ?_ (by first | omega | (simp; done) | (simp; omega)) _ | refine below_setRow ?_ (by first | omega | (simp; done) | (simp; omega)) _ ))))).mono ?_
  rintro e w1 ⟨_, rfl, ⟨_, rfl, ⟨g, rfl, hg, kg⟩⟩, hb1⟩
  have k6 : Blk w1 (w.heap.size + 1) 29 #[.int .i64 0, .int .i64 0, .slice none 0 0] := (Blk.new' (by simp) _ _).below' hb1
  have b1 : Below w.heap.size w w1 := below_call (by (repeat (first | exact Below.refl _ _ | assumption | refine Below.drew ?_ | refine below_drewN ?_ _ | refine Below.alloc ?_ (by first | omega | (simp; done) | (simp; omega)) _ | refine Below.setCell ?_ (by first | omega | (simp; done) | (simp; omega)) _ | refine below_setRow ?_ (by first | omega | (simp; done) | (simp; omega)) _ ))) (by simp; omega) hb1
  obtain ⟨r1, r2, r3⟩ := k6.cells3
  obtain ⟨f1, f2, f3⟩ := k6.frozen3
  simp only [World.size_alloc] at hg
  go_wp2_with fail
  refine bodyPost_ret (v := .tuple #[.agg #[.int .i64 W, .int .i64 h, .slice (some ⟨g, 0, none⟩) (W * h).toNat (W * h).toNat], .int .i64 0]) (by simp [results, Try.results15, go_sem, r1, r2, r3]) rfl ?_
  exact ⟨_, rfl, ⟨_, rfl, OutImg.mk (by omega) (((kg.far (by simp; omega) _).far (by simp; omega) _).far (by simp; omega) _)⟩, by (repeat (first | exact Below.refl _ _ | assumption | refine Below.drew ?_ | refine below_drewN ?_ _ | refine Below.alloc ?_ (by first | omega | (simp; done) | (simp; omega)) _ | refine Below.setCell ?_ (by first | omega | (simp; done) | (simp; omega)) _ | refine below_setRow ?_ (by first | omega | (simp; done) | (simp; omega)) _ ))⟩

set_option maxHeartbeats 400000 in
theorem unskew_ok (W H h : Int) (A : Option Addr) (n c : Nat) (p : Int → Int) (k : Int) (w : World) (hA : ArrB w w.heap.size A n p) (hn : n ≤ maxLen) (hB : IsB p) (hE : movE W H n p k (-1) = 0) (hh : h = H - grt W k) :
    Calls Try.prog 38 #[.agg #[.int .i64 W, .int .i64 H, .slice A n c], .int .i64 k] w
      (New w fun v w' => ∃ g, v = .tuple #[g, .int .i64 0] ∧ OutImg w w' W h (movQ W H p k (-1)) g) := by
  have M := fun w' hA' => moved_ok W H A n c p k (-1) w' hA' hn hB (.inr rfl) hE
  rw [show H + -1 * grt W k = h by omega] at M
  clear hE hh
  have M := Lib.hid M
  go_enter Try.func38, Try.ntmps38
  go_wp2_with fail
  refine (M.out _ (hA.to (by (repeat (first | exact Below.refl _ _ | assumption | refine Below.drew ?_ | refine below_drewN ?_ _ | refine Below.alloc ?_ (by first | omega | (simp; done) | (simp; omega)) _ | refine Below.setCell ?_ (by first | omega | (simp; done) | (simp; omega)) _ | refine below_setRow ?_ (by first | omega | (simp; done) | (simp; omega)) _ ))))).mono ?_
  rintro e w1 ⟨_, rfl, ⟨_, rfl, ⟨g, rfl, hg, kg⟩⟩, hb1⟩
  have k6 : Blk w1 (w.heap.size + 1) 29 #[.int .i64 0, .int .i64 0, .slice none 0 0] := (Blk.new' (by simp) _ _).below' hb1
  have b1 : Below w.heap.size w w1 := below_call (by (repeat (first | exact Below.refl _ _ | assumption | refine Below.drew ?_ | refine below_drewN ?_ _ | refine Below.alloc ?_ (by first | omega | (simp; done) | (simp; omega)) _ | refine Below.setCell ?_ (by first | omega | (simp; done) | (simp; omega)) _ | refine below_setRow ?_ (by first | omega | (simp; done) | (simp; omega)) _ ))) (by simp; omega) hb1
  obtain ⟨r1, r2, r3⟩ := k6.cells3
  obtain ⟨f1, f2, f3⟩ := k6.frozen3
  simp only [World.size_alloc] at hg
  go_wp2_with fail
  refine bodyPost_ret (v := .tuple #[.agg #[.int .i64 W, .int .i64 h, .slice (some ⟨g, 0, none⟩) (W * h).toNat (W * h).toNat], .int .i64 0]) (by simp [results, Try.results38, go_sem, r1, r2, r3]) rfl ?_
  exact ⟨_, rfl, ⟨_, rfl, OutImg.mk (by omega) (((kg.far (by simp; omega) _).far (by simp; omega) _).far (by simp; omega) _)⟩, by (repeat (first | exact Below.refl _ _ | assumption | refine Below.drew ?_ | refine below_drewN ?_ _ | refine Below.alloc ?_ (by first | omega | (simp; done) | (simp; omega)) _ | refine Below.setCell ?_ (by first | omega | (simp; done) | (simp; omega)) _ | refine below_setRow ?_ (by first | omega | (simp; done) | (simp; omega)) _ ))⟩

set_option maxHeartbeats 400000 in
theorem skew_bad (W H : Int) (A : Option Addr) (n c : Nat) (p : Int → Int) (k z : Int) (w : World) (hA : ArrB w w.heap.size A n p) (hn : n ≤ maxLen) (hE : movE W H n p k 1 = z) (hz : z ≠ 0) :
    Calls Try.prog 15 #[.agg #[.int .i64 W, .int .i64 H, .slice A n c], .int .i64 k] w
      fun e w' => e = .returned (.tuple #[noImg, .int .i64 z]) ∧ Below w.heap.size w w' := by
  have M := fun w' hA' => moved_bad W H A n c p k 1 w' hA' hn (.inl rfl) (by rw [hE]; exact hz)
  rw [hE] at M
  clear hE hz
  have M := Lib.hid M
  go_enter Try.func15, Try.ntmps15
  go_wp2_with fail
  refine (M.out _ (hA.to (by (repeat (first | exact Below.refl _ _ | assumption | refine Below.drew ?_ | refine below_drewN ?_ _ | refine Below.alloc ?_ (by first | omega | (simp; done) | (simp; omega)) _ | refine Below.setCell ?_ (by first | omega | (simp; done) | (simp; omega)) _ | refine below_setRow ?_ (by first | omega | (simp; done) | (simp; omega)) _ ))))).mono ?_
  rintro e w1 ⟨rfl, hb1⟩
  unfold noImg
  have k6 : Blk w1 (w.heap.size + 1) 29 #[.int .i64 0, .int .i64 0, .slice none 0 0] := (Blk.new' (by simp) _ _).below' hb1
  have b1 : Below w.heap.size w w1 := below_call (by (repeat (first | exact Below.refl _ _ | assumption | refine Below.drew ?_ | refine below_drewN ?_ _ | refine Below.alloc ?_ (by first | omega | (simp; done) | (simp; omega)) _ | refine Below.setCell ?_ (by first | omega | (simp; done) | (simp; omega)) _ | refine below_setRow ?_ (by first | omega | (simp; done) | (simp; omega)) _ ))) (by simp; omega) hb1
  obtain ⟨r1, r2, r3⟩ := k6.cells3
  obtain ⟨f1, f2, f3⟩ := k6.frozen3
  go_wp2_with fail
  refine bodyPost_ret (v := .tuple #[noImg, .int .i64 z]) (by simp [results, Try.results15, go_sem, noImg, r1, r2, r3]) rfl ?_
  exact ⟨rfl, by (repeat (first | exact Below.refl _ _ | assumption | refine Below.drew ?_ | refine below_drewN ?_ _ | refine Below.alloc ?_ (by first | omega | (simp; done) | (simp; omega)) _ | refine Below.setCell ?_ (by first | omega | (simp; done) | (simp; omega)) _ | refine below_setRow ?_ (by first | omega | (simp; done) | (simp; omega)) _ ))⟩

set_option maxHeartbeats 400000 in
theorem unskew_bad (W H : Int) (A : Option Addr) (n c : Nat) (p : Int → Int) (k z : Int) (w : World) (hA : ArrB w w.heap.size A n p) (hn : n ≤ maxLen) (hE : movE W H n p k (-1) = z) (hz : z ≠ 0) :
    Calls Try.prog 38 #[.agg #[.int .i64 W, .int .i64 H, .slice A n c], .int .i64 k] w
      fun e w' => e = .returned (.tuple #[noImg, .int .i64 z]) ∧ Below w.heap.size w w' := by
  have M := fun w' hA' => moved_bad W H A n c p k (-1) w' hA' hn (.inr rfl) (by rw [hE]; exact hz)
  rw [hE] at M
  clear hE hz
  have M := Lib.hid M
  go_enter Try.func38, Try.ntmps38
  go_wp2_with fail
  refine (M.out _ (hA.to (by (repeat (first | exact Below.refl _ _ | assumption | refine Below.drew ?_ | refine below_drewN ?_ _ | refine Below.alloc ?_ (by first | omega | (simp; done) | (simp; omega)) _ | refine Below.setCell ?_ (by first | omega | (simp; done) | (simp; omega)) _ | refine below_setRow ?_ (by first | omega | (simp; done) | (simp; omega)) _ ))))).mono ?_
  rintro e w1 ⟨rfl, hb1⟩
  unfold noImg
  have k6 : Blk w1 (w.heap.size + 1) 29 #[.int .i64 0, .int .i64 0, .slice none 0 0] := (Blk.new' (by simp) _ _).below' hb1
  have b1 : Below w.heap.size w w1 := below_call (by (repeat (first | exact Below.refl _ _ | assumption | refine Below.drew ?_ | refine below_drewN ?_ _ | refine Below.alloc ?_ (by first | omega | (simp; done) | (simp; omega)) _ | refine Below.setCell ?_ (by first | omega | (simp; done) | (simp; omega)) _ | refine below_setRow ?_ (by first | omega | (simp; done) | (simp; omega)) _ ))) (by simp; omega) hb1
  obtain ⟨r1, r2, r3⟩ := k6.cells3
  obtain ⟨f1, f2, f3⟩ := k6.frozen3
  go_wp2_with fail
  refine bodyPost_ret (v := .tuple #[noImg, .int .i64 z]) (by simp [results, Try.results38, go_sem, noImg, r1, r2, r3]) rfl ?_
  exact ⟨rfl, by (repeat (first | exact Below.refl _ _ | assumption | refine Below.drew ?_ | refine below_drewN ?_ _ | refine Below.alloc ?_ (by first | omega | (simp; done) | (simp; omega)) _ | refine Below.setCell ?_ (by first | omega | (simp; done) | (simp; omega)) _ | refine below_setRow ?_ (by first | omega | (simp; done) | (simp; omega)) _ ))⟩
end Go.Proofs.Ytoonkpjddfiopaa

/- Walks: the profile of an image; its full rows. -/
namespace Go.Proofs.Ytoonkpjddfiopaa
open Go.RowKit
set_option linter.unusedVariables false

def rowS (W : Int) (n : Nat) (p : Int → Int) (y : Int) : Int := sumN n fun j => if j / W = y then p j else 0
def colS (W : Int) (n : Nat) (p : Int → Int) (x : Int) : Int := sumN n fun j => if j % W = x then p j else 0

theorem rowS_bd {W : Int} {n : Nat} {p : Int → Int} (hB : IsB p) (h : ∀ i : Int, 0 ≤ i → i < n → p i ≤ 1) (y : Int) : 0 ≤ rowS W n p y ∧ rowS W n p y ≤ n := by
  have := sumN_bd (n := n) (f := fun j => if j / W = y then p j else 0) (m := 1) (fun i a b => by
    have := hB i; have := h i a b
    show 0 ≤ (if i / W = y then p i else 0) ∧ (if i / W = y then p i else 0) ≤ 1
    split <;> omega)
  unfold rowS; omega
theorem colS_bd {W : Int} {n : Nat} {p : Int → Int} (hB : IsB p) (h : ∀ i : Int, 0 ≤ i → i < n → p i ≤ 1) (y : Int) : 0 ≤ colS W n p y ∧ colS W n p y ≤ n := by
  have := sumN_bd (n := n) (f := fun j => if j % W = y then p j else 0) (m := 1) (fun i a b => by
    have := hB i; have := h i a b
    show 0 ≤ (if i % W = y then p i else 0) ∧ (if i % W = y then p i else 0) ≤ 1
    split <;> omega)
  unfold colS; omega
theorem rowS_step {W : Int} {k : Nat} {p : Int → Int} (y : Int) : upd (rowS W k p) (k / W) (rowS W k p (k / W) + p k) y = rowS W (k + 1) p y := by
  show (if y = k / W then _ else _) = sumN (k + 1) _
  rw [sumN]
  by_cases e : y = k / W
  · subst e; rw [if_pos rfl, if_pos rfl]; rfl
  · rw [if_neg e, if_neg (fun h => e h.symm)]; simp [rowS]
theorem colS_step {W : Int} {k : Nat} {p : Int → Int} (y : Int) : upd (colS W k p) (k % W) (colS W k p (k % W) + p k) y = colS W (k + 1) p y := by
  show (if y = k % W then _ else _) = sumN (k + 1) _
  rw [sumN]
  by_cases e : y = k % W
  · subst e; rw [if_pos rfl, if_pos rfl]; rfl
  · rw [if_neg e, if_neg (fun h => e h.symm)]; simp [colS]

set_option maxRecDepth 100000 in
set_option maxHeartbeats 1000000 in
theorem profile_ok (W H : Int) (A : Option Addr) (n c : Nat) (p : Int → Int) (w : World) (hA : ArrB w w.heap.size A n p) (hn : n ≤ maxLen) (hB : IsB p) (hE : chk W H n p = 0) :
    Calls Try.prog 69 #[.agg #[.int .i64 W, .int .i64 H, .slice A n c]] w
      (New w fun v w' => ∃ g1 g2, v = .tuple #[.slice (some ⟨g1, 0, none⟩) H.toNat H.toNat, .slice (some ⟨g2, 0, none⟩) W.toNat W.toNat, .int .i64 0] ∧ w.heap.size ≤ g1 ∧ w.heap.size ≤ g2 ∧ g1 ≠ g2 ∧
        Blk w' g1 3 (i64s H.toNat (rowS W n p)) ∧ Blk w' g2 3 (i64s W.toNat (colS W n p))) := by
  obtain ⟨hW1, hW2, hH1, hH2, hnn, hp⟩ := chk_ok hE
  have HC := Lib.hid hE
  have hn4 : n ≤ 409600 := by have := (area_bd hW1 hW2 hH1 hH2).2; omega
  have HN := Lib.hid hnn
  clear hE hnn
  have hmk1 := makeI H hH1 (by omega)
  have hmk2 := makeI W hW1 (by omega)
  go_enter Try.func69, Try.ntmps69
  go_wp2_with fail
  refine (check_any W H A n c p _ (hA.to (by (repeat (first | exact Below.refl _ _ | assumption | refine Below.drew ?_ | refine below_drewN ?_ _ | refine Below.alloc ?_ (by first | omega | (simp; done) | (simp; omega)) _ | refine Below.setCell ?_ (by first | omega | (simp; done) | (simp; omega)) _ | refine below_setRow ?_ (by first | omega | (simp; done) | (simp; omega)) _ )))) hn).mono ?_
  rintro e w1 ⟨rfl, hb1⟩
  rw [HC.out]
  have k1 : Blk w1 w.heap.size 29 #[.int .i64 W, .int .i64 H, .slice A n c] := (Blk.new _ _ _).below' hb1
  have z1 : w.heap.size < w1.heap.size := by have := hb1.size; simp at this; omega
  have b1 : Below w.heap.size w w1 := below_call (by (repeat (first | exact Below.refl _ _ | assumption | refine Below.drew ?_ | refine below_drewN ?_ _ | refine Below.alloc ?_ (by first | omega | (simp; done) | (simp; omega)) _ | refine Below.setCell ?_ (by first | omega | (simp; done) | (simp; omega)) _ | refine below_setRow ?_ (by first | omega | (simp; done) | (simp; omega)) _ ))) (by simp; try omega) hb1
  obtain ⟨p1, p2, p3⟩ := k1.cells3
  clear hb1
  go_upto_region 4 with fail
  go_cut [2, 3] (fun a b wx => ∃ g1 g2, a = .slice (some ⟨g1, 0, none⟩) H.toNat H.toNat ∧ b = .slice (some ⟨g2, 0, none⟩) W.toNat W.toNat ∧ g1 ≠ g2 ∧ w1.heap.size ≤ g1 ∧ w1.heap.size ≤ g2 ∧
    Blk wx g1 3 (i64s H.toNat (fun _ => 0)) ∧ Blk wx g2 3 (i64s W.toNat (fun _ => 0)) ∧ Below w1.heap.size w1 wx)
  case first =>
    go_region
    · go_wp2_with fail
      go_meet
      exact ⟨w1.heap.size, w1.heap.size + 1, rfl, rfl, by omega, by omega, by omega, ((Blk.new _ _ _).alloc _).drew, (Blk.new' (by simp) _ _).drew, by (repeat (first | exact Below.refl _ _ | assumption | refine Below.drew ?_ | refine below_drewN ?_ _ | refine Below.alloc ?_ (by first | omega | (simp; done) | (simp; omega)) _ | refine Below.setCell ?_ (by first | omega | (simp; done) | (simp; omega)) _ | refine below_setRow ?_ (by first | omega | (simp; done) | (simp; omega)) _ ))⟩
    · go_wp2_with fail
      go_meet
      exact ⟨w1.heap.size + 1, w1.heap.size, rfl, rfl, by omega, by omega, by omega, (Blk.new' (by simp) _ _).drew, ((Blk.new _ _ _).alloc _).drew, by (repeat (first | exact Below.refl _ _ | assumption | refine Below.drew ?_ | refine below_drewN ?_ _ | refine Below.alloc ?_ (by first | omega | (simp; done) | (simp; omega)) _ | refine Below.setCell ?_ (by first | omega | (simp; done) | (simp; omega)) _ | refine below_setRow ?_ (by first | omega | (simp; done) | (simp; omega)) _ ))⟩
  case rest =>
    obtain ⟨g1, g2, rfl, rfl, hne, hg1, hg2, kg1, kg2, hb2⟩ := hcut
    have k1 := k1.below' hb2
    have b1 := below_call b1 (by omega) hb2
    clear hb2 p1 p2 p3 hmk1 hmk2
    obtain ⟨p1, p2, p3⟩ := k1.cells3
    go_wp2
    go_loopw [22] (fun s wr => ∃ i : Nat, i ≤ n ∧ s = .int .i64 i ∧ Below w.heap.size w wr ∧ Blk wr w.heap.size 29 #[.int .i64 W, .int .i64 H, .slice A n c] ∧
      Blk wr g1 3 (i64s H.toNat (rowS W i p)) ∧ Blk wr g2 3 (i64s W.toNat (colS W i p))) (fun s _ => n - (intOf s).toNat)
    case atStart => exact ⟨0, by omega, rfl, b1, k1, kg1, kg2⟩
    case round =>
      obtain ⟨i, hi, rfl, b2, k2, kr, kc⟩ := hrel
      clear p1 p2 p3 k1 b1 kg1 kg2
      obtain ⟨p1, p2, p3⟩ := k2.cells3
      by_cases hlt : i < n
      · have hi0 : (0 : Int) ≤ i := by omega
        have hiN : (i : Int) < n := by omega
        have hWp : 0 < W := by
          rcases Int.lt_or_le 0 W with h | h
          · exact h
          · have e : W = 0 := by omega
            have := HN.out; rw [e] at this; simp at this; omega
        have hW0 : ¬ W = 0 := by omega
        obtain ⟨_, _, hx0, hx, hy0, hy, -, rfl, rfl⟩ := idx_of hi0 hWp (H := H) (by have := HN.out; rw [Int.mul_comm] at this; omega)
        have SR := Lib.hid (fun y => rowS_step (W := W) (k := i) (p := p) y)
        have SC := Lib.hid (fun y => colS_step (W := W) (k := i) (p := p) y)
        have hr := kr.i64at hy0 (by omega)
        have hc := kc.i64at hx0 (by omega)
        have fr := kr.frozen (↑i / W).toNat
        have fc := kc.frozen (↑i % W).toNat
        obtain ⟨br1, br2⟩ := rowS_bd (W := W) (n := i) hB (fun j a b => hp j a (by omega)) (↑i / W)
        obtain ⟨bc1, bc2⟩ := colS_bd (W := W) (n := i) hB (fun j a b => hp j a (by omega)) (↑i % W)
        obtain ⟨pb1, pb2⟩ := hB i
        obtain ⟨b, off, rfl, hbB, hcell⟩ := ArrB.at_ (ArrB.below hA b2) hi0 hiN
        rw [Int.toNat_natCast] at hcell
        have UR := Lib.hid (kr.i64set _ hy0 (rowS W i p (↑i / W) + p i))
        have hp1 := hp i hi0 hiN
        go_wp2
        go_roundw
        case rel =>
          refine ⟨i + 1, by omega, by go_num, by (repeat (first | exact Below.refl _ _ | assumption | refine Below.drew ?_ | refine below_drewN ?_ _ | refine Below.alloc ?_ (by first | omega | (simp; done) | (simp; omega)) _ | refine Below.setCell ?_ (by first | omega | (simp; done) | (simp; omega)) _ | refine below_setRow ?_ (by first | omega | (simp; done) | (simp; omega)) _ )), (k2.far (by simp; omega) _).far (by simp; omega) _, ?_, ?_⟩
          · exact (UR.out.far (by simpa using hne) _).i64conv fun y _ _ => SR.out y
          · exact ((kc.far (by simpa using hne.symm) _).i64set _ hx0 _).i64conv fun y _ _ => SC.out y
        case measure => simp [intOf]; omega
      · obtain rfl : i = n := by omega
        go_wp2
        go_ret3
        exact ⟨_, rfl, ⟨g1, g2, rfl, by omega, by omega, hne, kr, kc⟩, b2⟩

set_option maxHeartbeats 400000 in
theorem profile_bad (W H : Int) (A : Option Addr) (n c : Nat) (p : Int → Int) (z : Int) (w : World) (hA : ArrB w w.heap.size A n p) (hn : n ≤ maxLen) (hE : chk W H n p = z) (hz : z ≠ 0) :
    Calls Try.prog 69 #[.agg #[.int .i64 W, .int .i64 H, .slice A n c]] w
      fun e w' => e = .returned (.tuple #[.slice none 0 0, .slice none 0 0, .int .i64 z]) ∧ Below w.heap.size w w' := by
  have CA := fun w' hA' => check_any W H A n c p w' hA' hn
  rw [hE] at CA
  clear hE
  have CA := Lib.hid CA
  go_enter Try.func69, Try.ntmps69
  go_wp2_with fail
  refine (CA.out _ (hA.to (by (repeat (first | exact Below.refl _ _ | assumption | refine Below.drew ?_ | refine below_drewN ?_ _ | refine Below.alloc ?_ (by first | omega | (simp; done) | (simp; omega)) _ | refine Below.setCell ?_ (by first | omega | (simp; done) | (simp; omega)) _ | refine below_setRow ?_ (by first | omega | (simp; done) | (simp; omega)) _ ))))).mono ?_
  rintro e w1 ⟨rfl, hb1⟩
  have b1 : Below w.heap.size w w1 := below_call (by (repeat (first | exact Below.refl _ _ | assumption | refine Below.drew ?_ | refine below_drewN ?_ _ | refine Below.alloc ?_ (by first | omega | (simp; done) | (simp; omega)) _ | refine Below.setCell ?_ (by first | omega | (simp; done) | (simp; omega)) _ | refine below_setRow ?_ (by first | omega | (simp; done) | (simp; omega)) _ ))) (by simp; try omega) hb1
  go_wp2_with fail
  go_ret3
  exact ⟨rfl, b1⟩

/-- how many of the first m rows are full -/
def fullP (W : Int) (n : Nat) (p : Int → Int) (m : Nat) : Int := if 0 < W then sumN m (fun y => if rowS W n p y = W then 1 else 0) else 0
def fullS (W H : Int) (n : Nat) (p : Int → Int) : Int := fullP W n p H.toNat
theorem fullP_bd (W : Int) (n m : Nat) (p : Int → Int) : 0 ≤ fullP W n p m ∧ fullP W n p m ≤ m := by
  have := sumN_bd (n := m) (f := fun y => if rowS W n p y = W then 1 else 0) (m := 1) (fun i a b => by
    show 0 ≤ (if rowS W n p i = W then (1 : Int) else 0) ∧ (if rowS W n p i = W then (1 : Int) else 0) ≤ 1
    split <;> omega)
  unfold fullP
  split <;> omega
theorem fullP_yes {W : Int} {n m : Nat} {p : Int → Int} (h : 0 < W) (e : rowS W n p m = W) : fullP W n p (m + 1) = fullP W n p m + 1 := by
  unfold fullP; rw [if_pos h, if_pos h, sumN, if_pos e]
theorem fullP_no {W : Int} {n m : Nat} {p : Int → Int} (h : ¬ (0 < W ∧ rowS W n p m = W)) : fullP W n p (m + 1) = fullP W n p m := by
  unfold fullP
  by_cases hW : 0 < W
  · rw [if_pos hW, if_pos hW, sumN, if_neg (fun e => h ⟨hW, e⟩)]; simp
  · rw [if_neg hW, if_neg hW]

set_option maxHeartbeats 1000000 in
theorem full_ok (W H : Int) (A : Option Addr) (n c : Nat) (p : Int → Int) (w : World) (hA : ArrB w w.heap.size A n p) (hn : n ≤ maxLen) (hB : IsB p) (hE : chk W H n p = 0) :
    Calls Try.prog 39 #[.agg #[.int .i64 W, .int .i64 H, .slice A n c]] w
      fun e w' => e = .returned (.tuple #[.int .i64 (fullS W H n p), .int .i64 0]) ∧ Below w.heap.size w w' := by
  obtain ⟨hW1, hW2, hH1, hH2, -, -⟩ := chk_ok hE
  have PA := Lib.hid fun w' hA' => profile_ok W H A n c p w' hA' hn hB hE
  clear hE
  go_enter Try.func39, Try.ntmps39
  go_wp2_with fail
  refine (PA.out _ (hA.to (by (repeat (first | exact Below.refl _ _ | assumption | refine Below.drew ?_ | refine below_drewN ?_ _ | refine Below.alloc ?_ (by first | omega | (simp; done) | (simp; omega)) _ | refine Below.setCell ?_ (by first | omega | (simp; done) | (simp; omega)) _ | refine below_setRow ?_ (by first | omega | (simp; done) | (simp; omega)) _ ))))).mono ?_
  rintro e w1 ⟨_, rfl, ⟨g1, g2, rfl, hg1, hg2, hne, kr, kc⟩, hb1⟩
  have k1 : Blk w1 w.heap.size 29 #[.int .i64 W, .int .i64 H, .slice A n c] := (Blk.new _ _ _).below' hb1
  have b1 : Below w.heap.size w w1 := below_call (by (repeat (first | exact Below.refl _ _ | assumption | refine Below.drew ?_ | refine below_drewN ?_ _ | refine Below.alloc ?_ (by first | omega | (simp; done) | (simp; omega)) _ | refine Below.setCell ?_ (by first | omega | (simp; done) | (simp; omega)) _ | refine below_setRow ?_ (by first | omega | (simp; done) | (simp; omega)) _ ))) (by simp; try omega) hb1
  obtain ⟨p1, p2, p3⟩ := k1.cells3
  clear kc hb1
  have hN : (H.toNat : Int) = H := Int.toNat_of_nonneg hH1
  generalize hNe : H.toNat = N at *
  have HNE := Lib.hid hNe; have hN4 : N ≤ 640 := by omega
  have HNN := Lib.hid hN
  clear hNe hN
  go_wp2_with fail
  go_loop [7, 21] (fun m s => ∃ i : Nat, i ≤ N ∧ s = .int .i64 i ∧ m = .int .i64 (fullP W n p i)) (fun _ s => N - (intOf s).toNat)
  case atStart => exact ⟨0, by omega, rfl, by unfold fullP; simp [sumN]⟩
  case round =>
    obtain ⟨i, hi, rfl, rfl⟩ := hrel
    by_cases hlt : i < N
    · have hr := kr.i64at (i := (i : Int)) (by omega) (by omega)
      rw [Int.toNat_natCast] at hr
      obtain ⟨bd1, bd2⟩ := fullP_bd W n i p
      have FY := Lib.hid (@fullP_yes W n i p)
      have FN := Lib.hid (@fullP_no W n i p)
      generalize fullP W n p i = S at *
      generalize rowS W n p i = R at *
      by_cases hW : 0 < W
      · by_cases hRW : R = W
        · have hb : (R == W) = true := by simp [hRW]
          have HR := Lib.hid hRW; clear hRW
          go_wp2
          go_round
          case rel => exact ⟨i + 1, by omega, by go_num, by rw [FY.out hW HR.out]⟩
          case measure => simp [intOf]; omega
        · have hb : (R == W) = false := by simp [hRW]
          have HR := Lib.hid hRW; clear hRW
          go_wp2
          go_round
          case rel => exact ⟨i + 1, by omega, by go_num, by rw [FN.out (fun h => HR.out h.2)]⟩
          case measure => simp [intOf]; omega
      · go_wp2
        go_round
        case rel => exact ⟨i + 1, by omega, by go_num, by rw [FN.out (fun h => hW h.1)]⟩
        case measure => simp [intOf]; omega
    · obtain rfl : i = N := by omega
      go_wp2
      go_ret2
      refine ⟨?_, b1⟩
      unfold fullS
      rw [HNE.out]
      rfl

set_option maxHeartbeats 400000 in
theorem full_bad (W H : Int) (A : Option Addr) (n c : Nat) (p : Int → Int) (z : Int) (w : World) (hA : ArrB w w.heap.size A n p) (hn : n ≤ maxLen) (hE : chk W H n p = z) (hz : z ≠ 0) :
    Calls Try.prog 39 #[.agg #[.int .i64 W, .int .i64 H, .slice A n c]] w
      fun e w' => e = .returned (.tuple #[.int .i64 0, .int .i64 z]) ∧ Below w.heap.size w w' := by
  have PA := Lib.hid fun w' hA' => profile_bad W H A n c p z w' hA' hn hE hz
  clear hE
  go_enter Try.func39, Try.ntmps39
  go_wp2_with fail
  refine (PA.out _ (hA.to (by (repeat (first | exact Below.refl _ _ | assumption | refine Below.drew ?_ | refine below_drewN ?_ _ | refine Below.alloc ?_ (by first | omega | (simp; done) | (simp; omega)) _ | refine Below.setCell ?_ (by first | omega | (simp; done) | (simp; omega)) _ | refine below_setRow ?_ (by first | omega | (simp; done) | (simp; omega)) _ ))))).mono ?_
  rintro e w1 ⟨rfl, hb1⟩
  have b1 : Below w.heap.size w w1 := below_call (by (repeat (first | exact Below.refl _ _ | assumption | refine Below.drew ?_ | refine below_drewN ?_ _ | refine Below.alloc ?_ (by first | omega | (simp; done) | (simp; omega)) _ | refine Below.setCell ?_ (by first | omega | (simp; done) | (simp; omega)) _ | refine below_setRow ?_ (by first | omega | (simp; done) | (simp; omega)) _ ))) (by simp; try omega) hb1
  go_wp2_with fail
  go_ret2
  exact ⟨rfl, b1⟩
end Go.Proofs.Ytoonkpjddfiopaa

/- Walks: how many pixels have each level; the threshold of a grey image. -/
namespace Go.Proofs.Ytoonkpjddfiopaa
open Go.RowKit
set_option linter.unusedVariables false

def cntS (n : Nat) (p : Int → Int) (v : Int) : Int := sumN n fun j => if p j = v then 1 else 0
theorem cntS_bd (n : Nat) (p : Int → Int) (v : Int) : 0 ≤ cntS n p v ∧ cntS n p v ≤ n := by
  have := sumN_bd (n := n) (f := fun j => if p j = v then 1 else 0) (m := 1) (fun i a b => by
    show 0 ≤ (if p i = v then (1 : Int) else 0) ∧ (if p i = v then (1 : Int) else 0) ≤ 1
    split <;> omega)
  unfold cntS; omega
theorem cntS_step {n : Nat} {p : Int → Int} (v : Int) : upd (cntS n p) (p n) (cntS n p (p n) + 1) v = cntS (n + 1) p v := by
  show (if v = p n then _ else _) = sumN (n + 1) _
  rw [sumN]
  by_cases e : v = p n
  · subst e; rw [if_pos rfl, if_pos rfl]; rfl
  · rw [if_neg e, if_neg (fun h => e h.symm)]; simp [cntS]

theorem make256 (w : World) : (Instr.makeSlice 53 (.int .i64 256) (.int .i64 256)).run Try.prog w =
    .ok (.slice (some ⟨w.heap.size, 0, none⟩) 256 256) (w.alloc (.cells (i64s 256 (fun _ => 0)) 3)) := makeI 256 (by omega) (by omega) w

set_option maxHeartbeats 1000000 in
theorem levels_ok (W H : Int) (A : Option Addr) (n c : Nat) (p : Int → Int) (w : World) (hA : ArrB w w.heap.size A n p) (hn : n ≤ maxLen) (hB : IsB p) (hE : sidesB W H n = true) :
    Calls Try.prog 36 #[.agg #[.int .i64 W, .int .i64 H, .slice A n c]] w
      (New w fun v w' => ∃ g, v = .tuple #[.slice (some ⟨g, 0, none⟩) 256 256, .int .i64 0] ∧ w.heap.size ≤ g ∧ Blk w' g 3 (i64s 256 (cntS n p))) := by
  have CA := fun w' => checkGrey_any W H A n c w'
  rw [hE, if_pos rfl] at CA
  clear hE
  have CA := Lib.hid CA
  have hmk := make256
  unfold maxLen at hn
  go_enter Try.func36, Try.ntmps36
  go_wp2_with fail
  refine (CA.out _).mono ?_
  rintro e w1 ⟨rfl, hb1⟩
  have k1 : Blk w1 w.heap.size 24 #[.int .i64 W, .int .i64 H, .slice A n c] := (Blk.new _ _ _).below' hb1
  have z1 : w.heap.size < w1.heap.size := by have := hb1.size; simp at this; omega
  have b1 : Below w.heap.size w w1 := below_call (by (repeat (first | exact Below.refl _ _ | assumption | refine Below.drew ?_ | refine below_drewN ?_ _ | refine Below.alloc ?_ (by first | omega | (simp; done) | (simp; omega)) _ | refine Below.setCell ?_ (by first | omega | (simp; done) | (simp; omega)) _ | refine below_setRow ?_ (by first | omega | (simp; done) | (simp; omega)) _ ))) (by simp; try omega) hb1
  obtain ⟨p1, p2, p3⟩ := k1.cells3
  clear hb1
  go_wp2_with fail
  go_loopw [17] (fun s wr => ∃ i : Nat, i ≤ n ∧ s = .int .i64 i ∧ Below w.heap.size w wr ∧ Blk wr w1.heap.size 3 (i64s 256 (cntS i p))) (fun s _ => n - (intOf s).toNat)
  case atStart => exact ⟨0, by omega, rfl, by (repeat (first | exact Below.refl _ _ | assumption | refine Below.drew ?_ | refine below_drewN ?_ _ | refine Below.alloc ?_ (by first | omega | (simp; done) | (simp; omega)) _ | refine Below.setCell ?_ (by first | omega | (simp; done) | (simp; omega)) _ | refine below_setRow ?_ (by first | omega | (simp; done) | (simp; omega)) _ )), Blk.new _ _ _⟩
  case round =>
    obtain ⟨i, hi, rfl, b2, kr⟩ := hrel
    clear hmk
    by_cases hlt : i < n
    · have hi0 : (0 : Int) ≤ i := by omega
      have hiN : (i : Int) < n := by omega
      obtain ⟨pb1, pb2⟩ := hB i
      obtain ⟨b, off, rfl, hbB, hcell⟩ := ArrB.at_ (ArrB.below hA b2) hi0 hiN
      rw [Int.toNat_natCast] at hcell
      have hr := kr.i64at pb1 (by omega)
      have fr := kr.frozen (p i).toNat
      have SR := Lib.hid (fun v => cntS_step (n := i) (p := p) v)
      obtain ⟨c1, c2⟩ := cntS_bd i p (p i)
      have UR := Lib.hid (kr.i64set _ pb1 (cntS i p (p i) + 1))
      go_wp2
      go_roundw
      case rel => exact ⟨i + 1, by omega, by go_num, by (repeat (first | exact Below.refl _ _ | assumption | refine Below.drew ?_ | refine below_drewN ?_ _ | refine Below.alloc ?_ (by first | omega | (simp; done) | (simp; omega)) _ | refine Below.setCell ?_ (by first | omega | (simp; done) | (simp; omega)) _ | refine below_setRow ?_ (by first | omega | (simp; done) | (simp; omega)) _ )), UR.out.i64conv fun v _ _ => SR.out v⟩
      case measure => simp [intOf]; omega
    · obtain rfl : i = n := by omega
      go_wp2
      go_ret2
      exact ⟨_, rfl, ⟨_, rfl, by omega, kr⟩, b2⟩

set_option maxHeartbeats 400000 in
theorem levels_bad (W H : Int) (A : Option Addr) (n c : Nat) (w : World) (hE : sidesB W H n = false) :
    Calls Try.prog 36 #[.agg #[.int .i64 W, .int .i64 H, .slice A n c]] w
      fun e w' => e = .returned (.tuple #[.slice none 0 0, .int .i64 2]) ∧ Below w.heap.size w w' := by
  have CA := fun w' => checkGrey_any W H A n c w'
  rw [hE, if_neg (by simp)] at CA
  clear hE
  have CA := Lib.hid CA
  go_enter Try.func36, Try.ntmps36
  go_wp2_with fail
  refine (CA.out _).mono ?_
  rintro e w1 ⟨rfl, hb1⟩
  have b1 : Below w.heap.size w w1 := below_call (by (repeat (first | exact Below.refl _ _ | assumption | refine Below.drew ?_ | refine below_drewN ?_ _ | refine Below.alloc ?_ (by first | omega | (simp; done) | (simp; omega)) _ | refine Below.setCell ?_ (by first | omega | (simp; done) | (simp; omega)) _ | refine below_setRow ?_ (by first | omega | (simp; done) | (simp; omega)) _ ))) (by simp; try omega) hb1
  go_wp2_with fail
  go_ret2
  exact ⟨rfl, b1⟩

/-- threshold, gap and last level behind m levels -/
def levP (c : Int → Int) : Nat → Int × Int × Int
  | 0 => (128, 0, -1)
  | m + 1 =>
    if c m = 0 then levP c m
    else if 0 ≤ (levP c m).2.2 ∧ (levP c m).2.1 < m - (levP c m).2.2 then (((levP c m).2.2 + m + 1) / 2, m - (levP c m).2.2, m)
    else ((levP c m).1, (levP c m).2.1, m)
def levelS (n : Nat) (p : Int → Int) : Int := (levP (cntS n p) 256).1
theorem levP_bd (c : Int → Int) (m : Nat) : 0 ≤ (levP c m).1 ∧ (levP c m).1 ≤ 128 + m ∧ 0 ≤ (levP c m).2.1 ∧ (levP c m).2.1 ≤ m ∧ -1 ≤ (levP c m).2.2 ∧ (levP c m).2.2 < m := by
  induction m with
  | zero => simp [levP]
  | succ m ih =>
    rw [levP]
    split
    · omega
    · split
      · simp only; omega
      · simp only; omega

set_option maxRecDepth 100000 in
set_option maxHeartbeats 1000000 in
theorem level_ok (W H : Int) (A : Option Addr) (n c : Nat) (p : Int → Int) (w : World) (hA : ArrB w w.heap.size A n p) (hn : n ≤ maxLen) (hB : IsB p) (hE : sidesB W H n = true) :
    Calls Try.prog 18 #[.agg #[.int .i64 W, .int .i64 H, .slice A n c]] w
      fun e w' => e = .returned (.tuple #[.int .i64 (levelS n p), .int .i64 0]) ∧ Below w.heap.size w w' := by
  have PA := fun w' hA' => levels_ok W H A n c p w' hA' hn hB hE
  clear hE
  unfold levelS
  generalize cntS n p = cn at *
  have PA := Lib.hid PA
  go_enter Try.func18, Try.ntmps18
  go_wp2_with fail
  refine (PA.out _ (hA.to (by (repeat (first | exact Below.refl _ _ | assumption | refine Below.drew ?_ | refine below_drewN ?_ _ | refine Below.alloc ?_ (by first | omega | (simp; done) | (simp; omega)) _ | refine Below.setCell ?_ (by first | omega | (simp; done) | (simp; omega)) _ | refine below_setRow ?_ (by first | omega | (simp; done) | (simp; omega)) _ ))))).mono ?_
  rintro e w1 ⟨_, rfl, ⟨g, rfl, hg, kg⟩, hb1⟩
  have b1 : Below w.heap.size w w1 := below_call (by (repeat (first | exact Below.refl _ _ | assumption | refine Below.drew ?_ | refine below_drewN ?_ _ | refine Below.alloc ?_ (by first | omega | (simp; done) | (simp; omega)) _ | refine Below.setCell ?_ (by first | omega | (simp; done) | (simp; omega)) _ | refine below_setRow ?_ (by first | omega | (simp; done) | (simp; omega)) _ ))) (by simp; try omega) hb1
  clear hb1
  go_wp2_with fail
  go_loop [6, 7, 8, 21] (fun o gp l s => ∃ i : Nat, i ≤ 256 ∧ s = .int .i64 i ∧ o = .int .i64 (levP cn i).1 ∧ gp = .int .i64 (levP cn i).2.1 ∧ l = .int .i64 (levP cn i).2.2) (fun _ _ _ s => 256 - (intOf s).toNat)
  case atStart => exact ⟨0, by omega, rfl, rfl, rfl, rfl⟩
  case round =>
    obtain ⟨i, hi, rfl, rfl, rfl, rfl⟩ := hrel
    by_cases hlt : i < 256
    · have hr := kg.i64at (i := (i : Int)) (by omega) (by omega)
      rw [Int.toNat_natCast] at hr
      obtain ⟨d1, d2, d3, d4, d5, d6⟩ := levP_bd cn i
      have ST : Hid (levP cn (i + 1) = if cn i = 0 then levP cn i else if 0 ≤ (levP cn i).2.2 ∧ (levP cn i).2.1 < i - (levP cn i).2.2 then (((levP cn i).2.2 + i + 1) / 2, i - (levP cn i).2.2, i) else ((levP cn i).1, (levP cn i).2.1, i)) := by show _ = _; rw [levP]
      generalize levP cn i = q at *
      obtain ⟨o, gp, l⟩ := q
      simp only at d1 d2 d3 d4 d5 d6 ST ⊢
      generalize cn i = ci at *
      by_cases hc : ci = 0
      · have hcb : (ci == 0) = true := by simp [hc]
        have HC := Lib.hid hc; clear hc
        go_wp2
        go_round
        case rel => exact ⟨i + 1, by omega, by go_num, by rw [ST.out, if_pos HC.out], by rw [ST.out, if_pos HC.out], by rw [ST.out, if_pos HC.out]⟩
        case measure => simp [intOf]; omega
      · have hcb : (ci == 0) = false := by simp [hc]
        have HC := Lib.hid hc; clear hc
        by_cases hl : 0 ≤ l
        · by_cases hgp : gp < i - l
          · have S2 : Hid (levP cn (i + 1) = ((l + i + 1) / 2, i - l, (i : Int))) := by show _ = _; rw [ST.out, if_neg HC.out, if_pos ⟨hl, hgp⟩]
            clear ST
            go_wp2
            go_round
            case rel => exact ⟨i + 1, by omega, by go_num, by rw [S2.out], by rw [S2.out], by rw [S2.out]⟩
            case measure => simp [intOf]; omega
          · have S2 : Hid (levP cn (i + 1) = (o, gp, (i : Int))) := by show _ = _; rw [ST.out, if_neg HC.out, if_neg (fun h => hgp h.2)]
            clear ST
            go_wp2
            go_round
            case rel => exact ⟨i + 1, by omega, by go_num, by rw [S2.out], by rw [S2.out], by rw [S2.out]⟩
            case measure => simp [intOf]; omega
        · have S2 : Hid (levP cn (i + 1) = (o, gp, (i : Int))) := by show _ = _; rw [ST.out, if_neg HC.out, if_neg (fun h => hl h.1)]
          clear ST
          go_wp2
          go_round
          case rel => exact ⟨i + 1, by omega, by go_num, by rw [S2.out], by rw [S2.out], by rw [S2.out]⟩
          case measure => simp [intOf]; omega
    · obtain rfl : i = 256 := by omega
      go_wp2
      go_ret2
      exact ⟨rfl, b1⟩

set_option maxHeartbeats 400000 in
theorem level_bad (W H : Int) (A : Option Addr) (n c : Nat) (w : World) (hE : sidesB W H n = false) :
    Calls Try.prog 18 #[.agg #[.int .i64 W, .int .i64 H, .slice A n c]] w
      fun e w' => e = .returned (.tuple #[.int .i64 0, .int .i64 2]) ∧ Below w.heap.size w w' := by
  have PA := Lib.hid fun w' => levels_bad W H A n c w' hE
  clear hE
  go_enter Try.func18, Try.ntmps18
  go_wp2_with fail
  refine (PA.out _).mono ?_
  rintro e w1 ⟨rfl, hb1⟩
  have b1 : Below w.heap.size w w1 := below_call (by (repeat (first | exact Below.refl _ _ | assumption | refine Below.drew ?_ | refine below_drewN ?_ _ | refine Below.alloc ?_ (by first | omega | (simp; done) | (simp; omega)) _ | refine Below.setCell ?_ (by first | omega | (simp; done) | (simp; omega)) _ | refine below_setRow ?_ (by first | omega | (simp; done) | (simp; omega)) _ ))) (by simp; try omega) hb1
  go_wp2_with fail
  go_ret2
  exact ⟨rfl, b1⟩
end Go.Proofs.Ytoonkpjddfiopaa
