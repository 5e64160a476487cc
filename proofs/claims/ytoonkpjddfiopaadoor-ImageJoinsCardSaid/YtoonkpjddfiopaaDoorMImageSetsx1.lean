/- Texts of mine in build order: Lib, W1, W2, W3, Lib2, Lib3, S10, B2, B0, W4, B3, C7, J1, S1. Conditions: each theorem's own. -/
import Derived.WalkKit
import Derived.WalkSpells
import Derived.WalkLawsBesides
import Derived.Lib.Hide
import Derived.Deep.Draws
import Derived.Laws.Rows
import Derived.Laws.Tables
import Derived.Test.YtoonkpjddfiopaaDoorRows
import Derived.BigQuiet
import Derived.Deep.QuietTactic
import Derived.Deep.RegionHeld3
import Derived.StillTailTactics
import Derived.BigRegion
import Derived.Deep.WholeRow
import Derived.Deep.CutBlock
import Derived.Outline
/- Plain lemmas on memory and on numbers, for all walks of this seat: whole blocks, arrays as functions of an index, sums and counts. No program in sight. -/
namespace Go.Proofs.YtoonkpjddfiopaaDoor
open Go.RowKit
set_option linter.unusedVariables false

/-! ### whole blocks: block g is just these cells of element type t, and none of them is frozen -/
def Blk (w : World) (g : Nat) (t : TypeId) (cs : Array Value) : Prop := w.heap[g]? = some (.cells cs t (0, 0))
section
variable {w w' : World} {g : Nat} {t : TypeId} {cs : Array Value}
theorem Blk.lt (h : Blk w g t cs) : g < w.heap.size := (Array.getElem?_eq_some_iff.1 h).1
theorem Blk.cell (h : Blk w g t cs) (i : Nat) : w.cell? ⟨g, i, none⟩ = cs[i]? := cell_of_row w g i cs t (0, 0) h
theorem Blk.frozen (h : Blk w g t cs) (i : Nat) : w.frozen? ⟨g, i, none⟩ = false := frozen_of_row w g i cs t h
/-- what leaves the heap alone at g leaves the block alone -/
theorem Blk.move (h : Blk w g t cs) (e : w'.heap[g]? = w.heap[g]?) : Blk w' g t cs := e.trans h
theorem Blk.new (w : World) (t : TypeId) (cs : Array Value) : Blk (w.alloc (.cells cs t)) w.heap.size t cs := heap_alloc_new w _
theorem Blk.new' {w : World} {n : Nat} (hn : w.heap.size = n) (t : TypeId) (cs : Array Value) : Blk (w.alloc (.cells cs t)) n t cs := hn ▸ heap_alloc_new w _
theorem Blk.drew (h : Blk w g t cs) : Blk w.drew g t cs := h.move rfl
theorem Blk.drewN (h : Blk w g t cs) (n : Nat) : Blk (w.drewN n) g t cs := h.move rfl
theorem Blk.alloc (h : Blk w g t cs) (o : Obj) : Blk (w.alloc o) g t cs := h.move (Below.heap_alloc w o g h.lt)
theorem Blk.set_ (h : Blk w g t cs) (i : Nat) (u : Value) : Blk (w.setCell ⟨g, i, none⟩ u) g t (cs.setIfInBounds i u) := heap_setCell_same w g i cs t u h
theorem Blk.far (h : Blk w g t cs) {p : Addr} (hp : g ≠ p.block) (u : Value) : Blk (w.setCell p u) g t cs := h.move (heap_setCell_other w p g u hp)
theorem Blk.setRow (h : Blk w g t cs) (cs' : Array Value) : Blk (w.setRow g cs') g t cs' := setRow_heap w g cs cs' t (0, 0) h
theorem Blk.farRow (h : Blk w g t cs) {g' : Nat} (hg : g ≠ g') (cs' : Array Value) : Blk (w.setRow g' cs') g t cs := h.move (setRow_other w g' g cs' hg)
theorem Blk.below {B : Nat} (h : Blk w g t cs) (hb : Below B w w') (hg : g < B) : Blk w' g t cs := h.move (hb.block g hg)
theorem Blk.below' (h : Blk w g t cs) (hb : Below w.heap.size w w') : Blk w' g t cs := h.below hb h.lt
theorem Blk.grown {row : Option Nat} (h : Blk w g t cs) (hb : w.grownBy w' row) (hg : some g ≠ row) : Blk w' g t cs := h.move (hb.block g h.lt hg)
end
theorem below_drewN {B : Nat} {a w : World} (h : Below B a w) (n : Nat) : Below B a (w.drewN n) := h.trans ⟨rfl, rfl, rfl, Nat.le_refl _, fun _ _ => rfl⟩
theorem below_setRow {B : Nat} {a w : World} (h : Below B a w) {g : Nat} (hg : B ≤ g) (cs : Array Value) : Below B a (w.setRow g cs) :=
  h.trans ⟨rfl, rfl, rfl, by simp, fun k hk => setRow_other w g k cs (by omega)⟩
/-- behind a callee that has left all of its caller's memory alone -/
theorem below_call {B : Nat} {a w w' : World} (h : Below B a w) (hB : B ≤ w.heap.size) (hc : Below w.heap.size w w') : Below B a w' := h.trans (hc.mono hB)

/-! ### cells as a function of their index -/
def cellsF (n : Nat) (f : Int → Value) : Array Value := ((List.range n).map fun (j : Nat) => f (j : Int)).toArray
theorem cellsF_size (n f) : (cellsF n f).size = n := by simp [cellsF]
theorem cellsF_get {n f i} (h : i < n) : (cellsF n f)[i]? = some (f i) := by simp [cellsF, h]
theorem cellsF_none {n f i} (h : n ≤ i) : (cellsF n f)[i]? = none := by simp [cellsF]; omega
theorem cellsF_at {n : Nat} {f : Int → Value} {i : Int} (h0 : 0 ≤ i) (h : i < n) : (cellsF n f)[i.toNat]? = some (f i) := by
  rw [cellsF_get (by omega), Int.toNat_of_nonneg h0]
theorem cellsF_congr {n : Nat} {f g : Int → Value} (h : ∀ j : Int, 0 ≤ j → j < n → f j = g j) : cellsF n f = cellsF n g := by
  unfold cellsF; congr 1; exact List.map_congr_left (fun j hj => h j (by omega) (by have := List.mem_range.1 hj; omega))
theorem cellsF_set (n f) (i : Int) (h0 : 0 ≤ i) (v) : (cellsF n f).setIfInBounds i.toNat v = cellsF n (fun j => if j = i then v else f j) := by
  apply Array.ext_getElem?
  intro j
  rw [Array.getElem?_setIfInBounds, cellsF_size]
  by_cases hj : j < n
  · rw [cellsF_get hj]
    by_cases e : i.toNat = j
    · have e' : (j : Int) = i := by omega
      subst e; rw [if_pos rfl, if_pos hj, cellsF_get hj, if_pos e']
    · have e' : ¬ (j : Int) = i := by omega
      rw [if_neg e, cellsF_get hj, if_neg e']
  · rw [cellsF_none (by omega)]
    by_cases e : i.toNat = j
    · rw [if_pos e, if_neg (by omega), cellsF_none (by omega)]
    · rw [if_neg e, cellsF_none (by omega)]
theorem cellsF_one (n : Nat) (f : Int → Value) (h : ∀ j : Int, 0 ≤ j → j < n → (f j).oneCell' = true) : (cellsF n f).all (·.oneCell') = true := by
  rw [Array.all_eq_true_iff_forall_mem]
  intro v hv
  simp [cellsF] at hv
  obtain ⟨j, hj, rfl⟩ := hv
  exact h j (by omega) (by omega)
theorem cellsF_eq {n : Nat} {cs : Array Value} {f : Int → Value} (hs : cs.size = n) (h : ∀ j : Nat, j < n → cs[j]? = some (f j)) : cs = cellsF n f := by
  apply Array.ext_getElem?
  intro j
  by_cases hj : j < n
  · rw [h j hj, cellsF_get hj]
  · rw [cellsF_none (by omega)]; simp; omega
theorem replicate_cellsF (n : Nat) (v : Value) : Array.replicate n v = cellsF n (fun _ => v) :=
  cellsF_eq (by simp) fun j hj => by simp [hj]
/-- a block of bytes, a block of ints -/
def u8s (n : Nat) (q : Int → Int) : Array Value := cellsF n fun j => .int .u8 (q j)
def i64s (n : Nat) (q : Int → Int) : Array Value := cellsF n fun j => .int .i64 (q j)
theorem u8s_size (n q) : (u8s n q).size = n := cellsF_size _ _
theorem i64s_size (n q) : (i64s n q).size = n := cellsF_size _ _
theorem u8s_at {n : Nat} {q : Int → Int} {i : Int} (h0 : 0 ≤ i) (h : i < n) : (u8s n q)[i.toNat]? = some (.int .u8 (q i)) := cellsF_at h0 h
theorem i64s_at {n : Nat} {q : Int → Int} {i : Int} (h0 : 0 ≤ i) (h : i < n) : (i64s n q)[i.toNat]? = some (.int .i64 (q i)) := cellsF_at h0 h
theorem u8s_congr {n : Nat} {q r : Int → Int} (h : ∀ j : Int, 0 ≤ j → j < n → q j = r j) : u8s n q = u8s n r := cellsF_congr fun j a b => by rw [h j a b]
theorem i64s_congr {n : Nat} {q r : Int → Int} (h : ∀ j : Int, 0 ≤ j → j < n → q j = r j) : i64s n q = i64s n r := cellsF_congr fun j a b => by rw [h j a b]
theorem u8s_set (n q) (i : Int) (h0 : 0 ≤ i) (v : Int) : (u8s n q).setIfInBounds i.toNat (.int .u8 v) = u8s n (fun j => if j = i then v else q j) := by
  unfold u8s; rw [cellsF_set n _ i h0]; congr 1; funext j; show _ = Value.int _ (if j = i then v else q j); split <;> rfl
theorem i64s_set (n q) (i : Int) (h0 : 0 ≤ i) (v : Int) : (i64s n q).setIfInBounds i.toNat (.int .i64 v) = i64s n (fun j => if j = i then v else q j) := by
  unfold i64s; rw [cellsF_set n _ i h0]; congr 1; funext j; show _ = Value.int _ (if j = i then v else q j); split <;> rfl
theorem u8s_one (n q) : (u8s n q).all (·.oneCell') = true := cellsF_one _ _ fun _ _ _ => rfl
theorem i64s_one (n q) : (i64s n q).all (·.oneCell') = true := cellsF_one _ _ fun _ _ _ => rfl
theorem u8s_zero (n : Nat) : Array.replicate n (Value.int .u8 0) = u8s n (fun _ => 0) := replicate_cellsF _ _
theorem i64s_zero (n : Nat) : Array.replicate n (Value.int .i64 0) = i64s n (fun _ => 0) := replicate_cellsF _ _
def upd (q : Int → Int) (i v : Int) : Int → Int := fun j => if j = i then v else q j
theorem Blk.u8set {w : World} {g t n : Nat} {q : Int → Int} (h : Blk w g t (u8s n q)) (i : Int) (h0 : 0 ≤ i) (v : Int) : Blk (w.setCell ⟨g, i.toNat, none⟩ (.int .u8 v)) g t (u8s n (upd q i v)) := by
  have := h.set_ i.toNat (.int .u8 v); rwa [u8s_set _ _ _ h0] at this
theorem Blk.i64set {w : World} {g t n : Nat} {q : Int → Int} (h : Blk w g t (i64s n q)) (i : Int) (h0 : 0 ≤ i) (v : Int) : Blk (w.setCell ⟨g, i.toNat, none⟩ (.int .i64 v)) g t (i64s n (upd q i v)) := by
  have := h.set_ i.toNat (.int .i64 v); rwa [i64s_set _ _ _ h0] at this
theorem Blk.u8at {w : World} {g t n : Nat} {q : Int → Int} (h : Blk w g t (u8s n q)) {i : Int} (h0 : 0 ≤ i) (hi : i < n) : w.cell? ⟨g, i.toNat, none⟩ = some (.int .u8 (q i)) := by rw [h.cell, u8s_at h0 hi]
theorem Blk.i64at {w : World} {g t n : Nat} {q : Int → Int} (h : Blk w g t (i64s n q)) {i : Int} (h0 : 0 ≤ i) (hi : i < n) : w.cell? ⟨g, i.toNat, none⟩ = some (.int .i64 (q i)) := by rw [h.cell, i64s_at h0 hi]

theorem Blk.u8conv {w : World} {g t n : Nat} {q r : Int → Int} (h : Blk w g t (u8s n q)) (he : ∀ j : Int, 0 ≤ j → j < n → q j = r j) : Blk w g t (u8s n r) := u8s_congr he ▸ h
theorem Blk.i64conv {w : World} {g t n : Nat} {q r : Int → Int} (h : Blk w g t (i64s n q)) (he : ∀ j : Int, 0 ≤ j → j < n → q j = r j) : Blk w g t (i64s n r) := i64s_congr he ▸ h
theorem upd_at (q : Int → Int) (i v : Int) : upd q i v i = v := by simp [upd]
theorem upd_ne {q : Int → Int} {i v j : Int} (h : j ≠ i) : upd q i v j = q j := by simp [upd, h]

/-! ### a slice that reads as a function of the index -/
def Arr (w : World) (B : Nat) (A : Option Addr) (n : Nat) (f : Int → Value) : Prop :=
  0 < n → ∃ b off, A = some ⟨b, off, none⟩ ∧ b < B ∧ ∀ i : Int, 0 ≤ i → i < n → w.cell? ⟨b, off + i.toNat, none⟩ = some (f i)
def ArrB (w : World) (B : Nat) (A : Option Addr) (n : Nat) (q : Int → Int) : Prop := Arr w B A n fun j => .int .u8 (q j)
def ArrI (w : World) (B : Nat) (A : Option Addr) (n : Nat) (q : Int → Int) : Prop := Arr w B A n fun j => .int .i64 (q j)
section
variable {w w' : World} {B B' n : Nat} {A : Option Addr} {f : Int → Value} {q : Int → Int}
theorem Arr.nil : Arr w B A 0 f := fun h => absurd h (by omega)
theorem Arr.keep (h : Arr w B A n f) (hk : ∀ p : Addr, p.block < B → w'.cell? p = w.cell? p) (hB : B ≤ B') : Arr w' B' A n f := fun hn => by
  obtain ⟨b, off, e, hb, hc⟩ := h hn
  exact ⟨b, off, e, by omega, fun i h0 hi => (hk _ hb).trans (hc i h0 hi)⟩
theorem Arr.more (h : Arr w B A n f) (hB : B ≤ B') : Arr w B' A n f := h.keep (fun _ _ => rfl) hB
theorem Arr.below (h : Arr w B A n f) (hb : Below B w w') : Arr w' B A n f := h.keep (fun _ hp => hb.cell hp) (Nat.le_refl _)
theorem Arr.drewN (h : Arr w B A n f) (k : Nat) : Arr (w.drewN k) B A n f := h
theorem Arr.congr {g : Int → Value} (h : Arr w B A n f) (he : ∀ i : Int, 0 ≤ i → i < n → f i = g i) : Arr w B A n g := fun hn => by
  obtain ⟨b, off, e, hb, hc⟩ := h hn
  exact ⟨b, off, e, hb, fun i h0 hi => by rw [hc i h0 hi, he i h0 hi]⟩
theorem Arr.at_ (h : Arr w B A n f) {i : Int} (h0 : 0 ≤ i) (hi : i < n) : ∃ b off, A = some ⟨b, off, none⟩ ∧ b < B ∧ w.cell? ⟨b, off + i.toNat, none⟩ = some (f i) := by
  obtain ⟨b, off, e, hb, hc⟩ := h (by omega)
  exact ⟨b, off, e, hb, hc i h0 hi⟩
theorem Blk.arr {g t : Nat} (h : Blk w g t (cellsF n f)) (hB : g < B) : Arr w B (some ⟨g, 0, none⟩) n f := fun _ =>
  ⟨g, 0, rfl, hB, fun i h0 hi => by rw [h.cell, Nat.zero_add, cellsF_at h0 hi]⟩
theorem Blk.arrB {g t : Nat} (h : Blk w g t (u8s n q)) (hB : g < B) : ArrB w B (some ⟨g, 0, none⟩) n q := Blk.arr h hB
theorem Blk.arrI {g t : Nat} (h : Blk w g t (i64s n q)) (hB : g < B) : ArrI w B (some ⟨g, 0, none⟩) n q := Blk.arr h hB
theorem ArrB.nil : ArrB w B A 0 q := Arr.nil
theorem ArrB.more (h : ArrB w B A n q) (hB : B ≤ B') : ArrB w B' A n q := Arr.more h hB
theorem ArrB.below (h : ArrB w B A n q) (hb : Below B w w') : ArrB w' B A n q := Arr.below h hb
theorem ArrB.to (h : ArrB w w.heap.size A n q) (hb : Below w.heap.size w w') : ArrB w' w'.heap.size A n q := Arr.more (Arr.below h hb) hb.size
theorem ArrB.at_ (h : ArrB w B A n q) {i : Int} (h0 : 0 ≤ i) (hi : i < n) : ∃ b off, A = some ⟨b, off, none⟩ ∧ b < B ∧ w.cell? ⟨b, off + i.toNat, none⟩ = some (.int .u8 (q i)) := Arr.at_ h h0 hi
theorem ArrB.congr {r : Int → Int} (h : ArrB w B A n q) (he : ∀ i : Int, 0 ≤ i → i < n → q i = r i) : ArrB w B A n r := Arr.congr h fun i a b => by rw [he i a b]
theorem ArrI.nil : ArrI w B A 0 q := Arr.nil
theorem ArrI.more (h : ArrI w B A n q) (hB : B ≤ B') : ArrI w B' A n q := Arr.more h hB
theorem ArrI.below (h : ArrI w B A n q) (hb : Below B w w') : ArrI w' B A n q := Arr.below h hb
theorem ArrI.to (h : ArrI w w.heap.size A n q) (hb : Below w.heap.size w w') : ArrI w' w'.heap.size A n q := Arr.more (Arr.below h hb) hb.size
theorem ArrI.at_ (h : ArrI w B A n q) {i : Int} (h0 : 0 ≤ i) (hi : i < n) : ∃ b off, A = some ⟨b, off, none⟩ ∧ b < B ∧ w.cell? ⟨b, off + i.toNat, none⟩ = some (.int .i64 (q i)) := Arr.at_ h h0 hi
theorem ArrI.congr {r : Int → Int} (h : ArrI w B A n q) (he : ∀ i : Int, 0 ≤ i → i < n → q i = r i) : ArrI w B A n r := Arr.congr h fun i a b => by rw [he i a b]
end
/-- bytes -/
def IsB (q : Int → Int) : Prop := ∀ i, 0 ≤ q i ∧ q i ≤ 255
/-- pixels -/
def Is01 (q : Int → Int) : Prop := ∀ i, q i = 0 ∨ q i = 1

/-! ### endings -/
theorem ret_int {k : IntKind} {a b : Int} (h : a = b) : Ending.returned (.int k a) = .returned (.int k b) := by rw [h]
theorem ret_bool {a b : Bool} (h : a = b) : Ending.returned (.bool a) = .returned (.bool b) := by rw [h]

/-! ### sums, counts, all -/
def sumN : Nat → (Int → Int) → Int
  | 0, _ => 0
  | n + 1, f => sumN n f + f n
def allN : Nat → (Int → Bool) → Bool
  | 0, _ => true
  | n + 1, f => allN n f && f n
theorem allN_iff {n : Nat} {f : Int → Bool} : allN n f = true ↔ ∀ i : Int, 0 ≤ i → i < n → f i = true := by
  induction n with
  | zero => simp [allN]; intro i h1 h2; omega
  | succ n ih =>
    rw [allN, Bool.and_eq_true, ih]
    constructor
    · rintro ⟨h1, h2⟩ i h0 hi
      by_cases e : i = n
      · subst e; exact h2
      · exact h1 i h0 (by omega)
    · intro h
      exact ⟨fun i h0 hi => h i h0 (by omega), h n (by omega) (by omega)⟩
theorem sumN_congr {n : Nat} {f g : Int → Int} (h : ∀ i : Int, 0 ≤ i → i < n → f i = g i) : sumN n f = sumN n g := by
  induction n with
  | zero => rfl
  | succ n ih => rw [sumN, sumN, ih (fun i a b => h i a (by omega)), h n (by omega) (by omega)]
theorem sumN_bd {n : Nat} {f : Int → Int} {m : Int} (h : ∀ i : Int, 0 ≤ i → i < n → 0 ≤ f i ∧ f i ≤ m) : 0 ≤ sumN n f ∧ sumN n f ≤ n * m := by
  induction n with
  | zero => simp [sumN]
  | succ n ih =>
    have h1 := ih (fun i a b => h i a (by omega))
    have h2 := h n (by omega) (by omega)
    have e : ((n + 1 : Nat) : Int) * m = n * m + m := by rw [Int.natCast_add, Int.add_mul]; simp
    rw [sumN, e]
    omega

/-! ### places in a grid -/
theorem idx_lt {x y W H : Int} (hx0 : 0 ≤ x) (hx : x < W) (hy0 : 0 ≤ y) (hy : y < H) : 0 ≤ y * W + x ∧ y * W + x < H * W ∧ 0 ≤ y * W := by
  have h1 : 0 ≤ y * W := Int.mul_nonneg hy0 (by omega)
  have h2 : (y + 1) * W ≤ H * W := Int.mul_le_mul_of_nonneg_right (by omega) (by omega)
  rw [Int.add_mul] at h2
  omega
theorem idx_div {x y W : Int} (hx0 : 0 ≤ x) (hx : x < W) : (y * W + x) / W = y := by
  rw [Int.add_comm, Int.mul_comm, Int.add_mul_ediv_left _ _ (by omega), Int.ediv_eq_zero_of_lt hx0 hx]; omega
theorem idx_mod {x y W : Int} (hx0 : 0 ≤ x) (hx : x < W) : (y * W + x) % W = x := by
  rw [Int.add_comm, Int.mul_comm, Int.add_mul_emod_self_left, Int.emod_eq_of_lt hx0 hx]
theorem idx_of {k W H : Int} (h0 : 0 ≤ k) (hW : 0 < W) (h : k < H * W) : ∃ x y, 0 ≤ x ∧ x < W ∧ 0 ≤ y ∧ y < H ∧ k = y * W + x ∧ y = k / W ∧ x = k % W := by
  refine ⟨k % W, k / W, Int.emod_nonneg _ (by omega), Int.emod_lt_of_pos _ hW, Int.ediv_nonneg h0 (by omega), Int.ediv_lt_of_lt_mul hW h, ?_, rfl, rfl⟩
  have := Int.emod_add_mul_ediv k W
  rw [Int.mul_comm (k / W)]; omega
theorem idx_inj {x y u v W : Int} (hx0 : 0 ≤ x) (hx : x < W) (hu0 : 0 ≤ u) (hu : u < W) (h : y * W + x = v * W + u) : x = u ∧ y = v := by
  have a := idx_mod (y := y) hx0 hx
  have b := idx_mod (y := v) hu0 hu
  have c := idx_div (y := y) hx0 hx
  have d := idx_div (y := v) hu0 hu
  rw [h] at a c
  exact ⟨a.symm.trans b, c.symm.trans d⟩
end Go.Proofs.YtoonkpjddfiopaaDoor
namespace Go.Proofs.YtoonkpjddfiopaaDoor
open Go.RowKit
theorem Blk.cells3 {w : World} {g : Nat} {t : TypeId} {a b c : Value} (h : Blk w g t #[a, b, c]) : w.cell? ⟨g, 0, none⟩ = some a ∧ w.cell? ⟨g, 1, none⟩ = some b ∧ w.cell? ⟨g, 2, none⟩ = some c :=
  ⟨by rw [h.cell]; rfl, by rw [h.cell]; rfl, by rw [h.cell]; rfl⟩
theorem Blk.frozen3 {w : World} {g : Nat} {t : TypeId} {a b c : Value} (h : Blk w g t #[a, b, c]) : w.frozen? ⟨g, 0, none⟩ = false ∧ w.frozen? ⟨g, 1, none⟩ = false ∧ w.frozen? ⟨g, 2, none⟩ = false :=
  ⟨h.frozen _, h.frozen _, h.frozen _⟩
theorem Blk.cells1 {w : World} {g : Nat} {t : TypeId} {a : Value} (h : Blk w g t #[a]) : w.cell? ⟨g, 0, none⟩ = some a := by rw [h.cell]; rfl
/-- a value of type Ink or Grey over fresh memory -/
def OutImg (w w' : World) (W H : Int) (q : Int → Int) (v : Value) : Prop :=
  ∃ g, v = .agg #[.int .i64 W, .int .i64 H, .slice (some ⟨g, 0, none⟩) (W * H).toNat (W * H).toNat] ∧ w.heap.size ≤ g ∧ Blk w' g 5 (u8s (W * H).toNat q)
theorem OutImg.mk {w w' : World} {W H : Int} {q : Int → Int} {g : Nat} (h : w.heap.size ≤ g) (hb : Blk w' g 5 (u8s (W * H).toNat q)) :
    OutImg w w' W H q (.agg #[.int .i64 W, .int .i64 H, .slice (some ⟨g, 0, none⟩) (W * H).toNat (W * H).toNat]) := ⟨g, rfl, h, hb⟩
/-- the image that is returned with an error -/
def noImg : Value := .agg #[.int .i64 0, .int .i64 0, .slice none 0 0]
theorem area_bd {W H : Int} (h1 : 0 ≤ W) (h2 : W ≤ 640) (h3 : 0 ≤ H) (h4 : H ≤ 640) : 0 ≤ W * H ∧ W * H ≤ 409600 :=
  ⟨Int.mul_nonneg h1 h3, Int.le_trans (Int.mul_le_mul h2 h4 h3 (by omega)) (by omega)⟩
end Go.Proofs.YtoonkpjddfiopaaDoor
namespace Go.Proofs.YtoonkpjddfiopaaDoor
theorem qcall {P : Program} {f : FuncId} {args : Array Value} {w : World} {v : Value}
    (h : Calls P f args w fun e w' => e = .returned v ∧ w = w') : Calls P f args w fun e w'' => e = .returned v ∧ ∃ m, w'' = w.drewN m :=
  h.mono fun _ _ ⟨he, hm⟩ => ⟨he, 0, hm ▸ rfl⟩
theorem qcallN {P : Program} {f : FuncId} {args : Array Value} {w : World} {n : Nat} {v : Value}
    (h : Calls P f args (w.drewN n) fun e w' => e = .returned v ∧ w.drewN n = w') : Calls P f args (w.drewN n) fun e w'' => e = .returned v ∧ ∃ m, w'' = w.drewN m :=
  h.mono fun _ _ ⟨he, hm⟩ => ⟨he, n, hm.symm⟩
theorem qcallA {P : Program} {f : FuncId} {args : Array Value} {w : World} {a n : Nat} {v : Value}
    (h : Calls P f args (w.drewN (a + n)) fun e w' => e = .returned v ∧ w.drewN (a + n) = w') : Calls P f args (w.drewN (a + n)) fun e w'' => e = .returned v ∧ ∃ m, w'' = w.drewN (a + m) :=
  h.mono fun _ _ ⟨he, hm⟩ => ⟨he, n, hm.symm⟩
end Go.Proofs.YtoonkpjddfiopaaDoor

namespace Go.Proofs.YtoonkpjddfiopaaDoor
open Go.RowKit
/-- an image over fresh memory, of N pixels -/
def OutN (w w' : World) (W H : Int) (N : Nat) (q : Int → Int) (v : Value) : Prop :=
  ∃ g, v = .agg #[.int .i64 W, .int .i64 H, .slice (some ⟨g, 0, none⟩) N N] ∧ w.heap.size ≤ g ∧ Blk w' g 5 (u8s N q)
theorem OutN.mk {w w' : World} {W H : Int} {N : Nat} {q : Int → Int} {g : Nat} (h : w.heap.size ≤ g) (hb : Blk w' g 5 (u8s N q)) :
    OutN w w' W H N q (.agg #[.int .i64 W, .int .i64 H, .slice (some ⟨g, 0, none⟩) N N]) := ⟨g, rfl, h, hb⟩
/-- a list of numbers as a function of the index -/
def lit (l : List Int) : Int → Int := fun i => l.getD i.toNat 0
theorem isB_lit {l : List Int} (h : l.all (fun x => decide (0 ≤ x ∧ x ≤ 255)) = true) : IsB (lit l) := by
  intro i
  unfold lit
  rw [List.getD_eq_getElem?_getD]
  by_cases hi : i.toNat < l.length
  · rw [List.getElem?_eq_getElem hi]
    have := List.all_eq_true.1 h _ (List.getElem_mem hi)
    simpa using this
  · rw [List.getElem?_eq_none (by omega)]; simp
theorem u8s_lit {l : List Int} : (l.map (Value.int .u8)).toArray = u8s l.length (lit l) :=
  cellsF_eq (by simp) fun j hj => by simp [lit, hj]
theorem i64s_lit {l : List Int} : (l.map (Value.int .i64)).toArray = i64s l.length (lit l) :=
  cellsF_eq (by simp) fun j hj => by simp [lit, hj]
end Go.Proofs.YtoonkpjddfiopaaDoor

/- Walks of the small functions of package image that every statement reaches: what each returns, and that it leaves the memory of its caller alone. -/
namespace Go.Proofs.YtoonkpjddfiopaaDoor
open Go.RowKit
set_option linter.unusedVariables false

def sidesB (W H n : Int) : Bool := decide (0 ≤ W ∧ W ≤ 640 ∧ 0 ≤ H ∧ H ≤ 640 ∧ n = W * H)
theorem sidesB_iff {W H n : Int} : sidesB W H n = true ↔ 0 ≤ W ∧ W ≤ 640 ∧ 0 ≤ H ∧ H ≤ 640 ∧ n = W * H := by simp [sidesB]

set_option maxHeartbeats 400000 in
theorem sides_any (W H n : Int) (w : World) :
    Calls Tryd.prog 132 #[.int .i64 W, .int .i64 H, .int .i64 n] w fun e w' => e = .returned (.bool (sidesB W H n)) ∧ w = w' := by
  by_cases h : 0 ≤ W ∧ W ≤ 640 ∧ 0 ≤ H ∧ H ≤ 640
  · obtain ⟨h1, h2, h3, h4⟩ := h
    have hm : 0 ≤ W * H ∧ W * H ≤ 409600 := ⟨Int.mul_nonneg h1 h3, Int.le_trans (Int.mul_le_mul h2 h4 h3 (by omega)) (by omega)⟩
    obtain ⟨m1, m2⟩ := hm
    go_enter Tryd.func132, Tryd.ntmps132
    go_wp2
    go_ret
    exact ⟨by simp [sidesB, h1, h2, h3, h4]; rfl, rfl⟩
  · have h' : sidesB W H n = false := by simp [sidesB]; intro a b c d; exact absurd ⟨a, b, c, d⟩ h
    rw [h']
    by_cases a : 0 ≤ W
    · by_cases b : W ≤ 640
      · by_cases c : 0 ≤ H
        · have d : ¬ H ≤ 640 := fun d => h ⟨a, b, c, d⟩
          clear h h'
          go_enter Tryd.func132, Tryd.ntmps132
          go_wp2
          go_ret
          exact ⟨rfl, rfl⟩
        · clear h h'
          go_enter Tryd.func132, Tryd.ntmps132
          go_wp2
          go_ret
          exact ⟨rfl, rfl⟩
      · clear h h'
        go_enter Tryd.func132, Tryd.ntmps132
        go_wp2
        go_ret
        exact ⟨rfl, rfl⟩
    · clear h h'
      go_enter Tryd.func132, Tryd.ntmps132
      go_wp2
      go_ret
      exact ⟨rfl, rfl⟩

/-- the first index at which f holds; -1 if there is none -/
def idxF (f : Int → Bool) : Nat → Int
  | 0 => -1
  | n + 1 => if 0 ≤ idxF f n then idxF f n else if f n then n else -1
theorem idxF_none {f : Int → Bool} {n : Nat} (h : ∀ i : Int, 0 ≤ i → i < n → f i = false) : idxF f n = -1 := by
  induction n with
  | zero => rfl
  | succ n ih => rw [idxF, ih (fun i a b => h i a (by omega)), h n (by omega) (by omega)]; simp
theorem idxF_some {f : Int → Bool} {n k : Nat} (h : ∀ i : Int, 0 ≤ i → i < k → f i = false) (hk : f k = true) (hn : k < n) : idxF f n = k := by
  induction n with
  | zero => omega
  | succ n ih =>
    rw [idxF]
    by_cases e : k = n
    · subst e; rw [idxF_none h, hk]; simp
    · rw [ih (by omega)]; simp
theorem idxF_iff {f : Int → Bool} {n : Nat} : (0 ≤ idxF f n) ↔ ∃ i : Int, 0 ≤ i ∧ i < n ∧ f i = true := by
  induction n with
  | zero => simp [idxF]; intro i h1 h2; omega
  | succ n ih =>
    rw [idxF]
    by_cases h : 0 ≤ idxF f n
    · rw [if_pos h]
      simp only [h, true_iff]
      obtain ⟨i, a, b, c⟩ := ih.1 h
      exact ⟨i, a, by omega, c⟩
    · rw [if_neg h]
      by_cases c : f n = true
      · simp only [c, if_true]
        exact ⟨fun _ => ⟨n, by omega, by omega, c⟩, fun _ => by omega⟩
      · simp only [c]
        constructor
        · intro x; simp at x
        · rintro ⟨i, a, b, d⟩
          exfalso
          by_cases e : i = n
          · subst e; exact c d
          · exact h (ih.2 ⟨i, a, by omega, d⟩)

set_option maxHeartbeats 400000 in
theorem idxFuncB (fid : Nat) (hent : ∀ args w, (callFunc fid args).run Tryd.prog w = .ok (.enter fid args) w) (f : Int → Bool) (hf : ∀ v W, Calls Tryd.prog fid #[.int .u8 v] W fun e W' => e = .returned (.bool (f v)) ∧ W = W')
    (A : Option Addr) (n c : Nat) (p : Int → Int) (w : World) (hA : ArrB w w.heap.size A n p) (hn : n ≤ maxLen) :
    Calls Tryd.prog 147 #[.slice A n c, .func (.func fid) #[] #[]] w fun e w' => e = .returned (.int .i64 (idxF (fun i => f (p i)) n)) ∧ w = w' := by
  unfold maxLen at hn
  have HF := Lib.hid hf; clear hf
  go_enter Tryd.func147, Tryd.ntmps147
  go_wp2
  go_loop [8] (fun i => ∃ k : Int, 0 ≤ k ∧ k ≤ n ∧ i = .int .i64 k ∧ ∀ j : Int, 0 ≤ j → j < k → f (p j) = false) (fun i => n - (intOf i).toNat)
  case atStart => exact ⟨0, by omega, by omega, rfl, fun j a b => by omega⟩
  case round =>
    obtain ⟨k, h0, hk, rfl, hno⟩ := hrel
    have HN := Lib.hid hno; clear hno
    by_cases hlt : k < n
    · obtain ⟨b, off, rfl, hb, hc⟩ := hA.at_ h0 hlt
      cases hfk : f (p k)
      · have HK := Lib.hid hfk; clear hfk
        go_wp2_with fail
        refine (HF.out _ _).mono ?_
        rintro e w' ⟨rfl, rfl⟩
        rw [HK.out]
        go_wp2
        go_round
        case rel =>
          refine ⟨k + 1, by omega, by omega, by go_num, fun j a b => ?_⟩
          by_cases e : j = k
          · rw [e]; exact HK.out
          · exact HN.out j a (by omega)
        case measure => simp [intOf]; omega
      · have HK := Lib.hid hfk; clear hfk
        go_wp2_with fail
        refine (HF.out _ _).mono ?_
        rintro e w' ⟨rfl, rfl⟩
        rw [HK.out]
        go_wp2
        go_ret
        refine ⟨ret_int ?_, rfl⟩
        obtain ⟨k', rfl⟩ := Int.eq_ofNat_of_zero_le h0
        rw [idxF_some HN.out HK.out (by omega)]
    · go_wp2
      go_ret
      refine ⟨ret_int ?_, rfl⟩
      rw [idxF_none fun i a b => HN.out i a (by omega)]
end Go.Proofs.YtoonkpjddfiopaaDoor

/- Walks: the checks of an image, new images, the drops of the columns. -/
namespace Go.Proofs.YtoonkpjddfiopaaDoor
open Go.RowKit
set_option linter.unusedVariables false

theorem enter49 (args : Array Value) (w : World) : (callFunc 134 args).run Tryd.prog w = .ok (.enter 134 args) w := by kernel_rfl

theorem check1_any (v : Int) (w : World) : Calls Tryd.prog 134 #[.int .u8 v] w fun e w' => e = .returned (.bool (decide (1 < v))) ∧ w = w' := by
  go_enter Tryd.func134, Tryd.ntmps134
  go_wp2
  go_ret
  exact ⟨rfl, rfl⟩

def pixB (n : Nat) (p : Int → Int) : Bool := allN n fun i => decide (p i ≤ 1)
theorem pixB_idx (n : Nat) (p : Int → Int) : decide (0 ≤ idxF (fun i => decide (1 < p i)) n) = !pixB n p := by
  rw [Bool.eq_iff_iff, decide_eq_true_iff, idxF_iff, Bool.not_eq_true', ← Bool.not_eq_true, pixB, allN_iff]
  constructor
  · rintro ⟨i, a, b, c⟩ h
    have := h i a b
    simp at c this; omega
  · intro h
    refine Classical.byContradiction fun hno => h fun i a b => ?_
    simp only [decide_eq_true_iff]
    refine Classical.byContradiction fun hc => hno ⟨i, a, b, by simp; omega⟩

theorem containsB (fid : Nat) (hent : ∀ args w, (callFunc fid args).run Tryd.prog w = .ok (.enter fid args) w) (f : Int → Bool) (hf : ∀ v W, Calls Tryd.prog fid #[.int .u8 v] W fun e W' => e = .returned (.bool (f v)) ∧ W = W')
    (A : Option Addr) (n c : Nat) (p : Int → Int) (w : World) (hA : ArrB w w.heap.size A n p) (hn : n ≤ maxLen) :
    Calls Tryd.prog 133 #[.slice A n c, .func (.func fid) #[] #[]] w fun e w' => e = .returned (.bool (decide (0 ≤ idxF (fun i => f (p i)) n))) ∧ w = w' := by
  go_enter Tryd.func133, Tryd.ntmps133
  go_wp2_with (go_at_call 147; refine (idxFuncB fid hent f hf A n c p _ hA hn).mono ?_; rintro e w' ⟨rfl, rfl⟩)
  go_ret
  exact ⟨rfl, rfl⟩

def chk (W H : Int) (n : Nat) (p : Int → Int) : Int := if sidesB W H n then (if pixB n p then 0 else 3) else 2

set_option maxHeartbeats 400000 in
theorem check_any (W H : Int) (A : Option Addr) (n c : Nat) (p : Int → Int) (w : World) (hA : ArrB w w.heap.size A n p) (hn : n ≤ maxLen) :
    Calls Tryd.prog 82 #[.agg #[.int .i64 W, .int .i64 H, .slice A n c]] w fun e w' => e = .returned (.int .i64 (chk W H n p)) ∧ Below w.heap.size w w' := by
  have HB : Below w.heap.size w (w.alloc (.cells #[.int .i64 W, .int .i64 H, .slice A n c] 24)) := by (repeat (first | exact Below.refl _ _ | assumption | refine Below.drew ?_ | refine below_drewN ?_ _ | refine Below.alloc ?_ (by first | omega | (simp; done) | (simp; omega)) _ | refine Below.setCell ?_ (by first | omega | (simp; done) | (simp; omega)) _ | refine below_setRow ?_ (by first | omega | (simp; done) | (simp; omega)) _ ))
  cases hs : sidesB W H n
  · have hr : Hid (chk W H n p = 2) := by show _ = _; unfold chk; rw [hs]; rfl
    have hs' := Lib.hid hs; clear hs
    go_enter Tryd.func82, Tryd.ntmps82
    go_wp2_with (go_at_call 132; refine (sides_any _ _ _ _).mono ?_; rintro e w' ⟨rfl, rfl⟩; rw [hs'.out])
    go_ret
    exact ⟨ret_int hr.out.symm, HB⟩
  · have hs' := Lib.hid hs; clear hs
    cases hq : pixB n p
    · have hr : Hid (chk W H n p = 3) := by show _ = _; unfold chk; rw [hs'.out, hq]; rfl
      have hq' : Hid (decide (0 ≤ idxF (fun i => decide (1 < p i)) n) = true) := by show _ = _; rw [pixB_idx, hq]; rfl
      clear hq
      go_enter Tryd.func82, Tryd.ntmps82
      go_wp2_with (first
        | (go_at_call 132; refine (sides_any _ _ _ _).mono ?_; rintro e w' ⟨rfl, rfl⟩; rw [hs'.out])
        | (go_at_call 133; refine (containsB 134 enter49 _ check1_any A n c p _ (hA.to HB) hn).mono ?_; rintro e w' ⟨rfl, rfl⟩; rw [hq'.out]))
      go_ret
      exact ⟨ret_int hr.out.symm, HB⟩
    · have hr : Hid (chk W H n p = 0) := by show _ = _; unfold chk; rw [hs'.out, hq]; rfl
      have hq' : Hid (decide (0 ≤ idxF (fun i => decide (1 < p i)) n) = false) := by show _ = _; rw [pixB_idx, hq]; rfl
      clear hq
      go_enter Tryd.func82, Tryd.ntmps82
      go_wp2_with (first
        | (go_at_call 132; refine (sides_any _ _ _ _).mono ?_; rintro e w' ⟨rfl, rfl⟩; rw [hs'.out])
        | (go_at_call 133; refine (containsB 134 enter49 _ check1_any A n c p _ (hA.to HB) hn).mono ?_; rintro e w' ⟨rfl, rfl⟩; rw [hq'.out]))
      go_ret
      exact ⟨ret_int hr.out.symm, HB⟩

theorem checkGrey_any (W H : Int) (A : Option Addr) (n c : Nat) (w : World) :
    Calls Tryd.prog 98 #[.agg #[.int .i64 W, .int .i64 H, .slice A n c]] w fun e w' => e = .returned (.int .i64 (if sidesB W H n then 0 else 2)) ∧ Below w.heap.size w w' := by
  cases hs : sidesB W H n
  · have hs' := Lib.hid hs; clear hs
    go_enter Tryd.func98, Tryd.ntmps98
    go_wp2_with (go_at_call 132; refine (sides_any _ _ _ _).mono ?_; rintro e w' ⟨rfl, rfl⟩; rw [hs'.out])
    go_ret
    exact ⟨rfl, by (repeat (first | exact Below.refl _ _ | assumption | refine Below.drew ?_ | refine below_drewN ?_ _ | refine Below.alloc ?_ (by first | omega | (simp; done) | (simp; omega)) _ | refine Below.setCell ?_ (by first | omega | (simp; done) | (simp; omega)) _ | refine below_setRow ?_ (by first | omega | (simp; done) | (simp; omega)) _ ))⟩
  · have hs' := Lib.hid hs; clear hs
    go_enter Tryd.func98, Tryd.ntmps98
    go_wp2_with (go_at_call 132; refine (sides_any _ _ _ _).mono ?_; rintro e w' ⟨rfl, rfl⟩; rw [hs'.out])
    go_ret
    exact ⟨rfl, by (repeat (first | exact Below.refl _ _ | assumption | refine Below.drew ?_ | refine below_drewN ?_ _ | refine Below.alloc ?_ (by first | omega | (simp; done) | (simp; omega)) _ | refine Below.setCell ?_ (by first | omega | (simp; done) | (simp; omega)) _ | refine below_setRow ?_ (by first | omega | (simp; done) | (simp; omega)) _ ))⟩
end Go.Proofs.YtoonkpjddfiopaaDoor

/- Walks: new images; the drops of the columns. -/
namespace Go.Proofs.YtoonkpjddfiopaaDoor
open Go.RowKit
set_option linter.unusedVariables false

theorem infoU8 : (Tryd.prog.info? 5).map (fun i => (i.zero, i.size, i.bytes)) = some (some (.int .u8 0), 1, 1) := by kernel_rfl
theorem infoInt : (Tryd.prog.info? 3).map (fun i => (i.zero, i.size, i.bytes)) = some (some (.int .i64 0), 1, 8) := by kernel_rfl
theorem makeB (n : Int) (h0 : 0 ≤ n) (h : n ≤ 140737488355328) (w : World) : (Instr.makeSlice 22 (.int .i64 n) (.int .i64 n)).run Tryd.prog w =
    .ok (.slice (some ⟨w.heap.size, 0, none⟩) n.toNat n.toNat) (w.alloc (.cells (u8s n.toNat (fun _ => 0)) 5)) := by
  obtain ⟨i, hi, hz, hs, hb⟩ := info_parts infoU8
  have := run_make (P := Tryd.prog) w 22 5 i _ Tryd.underlying22 hi hz .i64 .i64 n n h0 (Int.le_refl _) (by rw [hb]; omega) (by omega)
  rw [this, hs]
  have e : madeCells (Value.int .u8 0).cells (n.toNat * 1) = u8s n.toNat (fun _ => 0) := by
    rw [← u8s_zero]
    apply Array.ext_getElem?
    intro j
    simp only [madeCells, Value.cells, Nat.mul_one]
    by_cases hj : j < n.toNat <;> simp [hj, Nat.mod_one]
  rw [e]
theorem makeI (n : Int) (h0 : 0 ≤ n) (h : n ≤ 17592186044416) (w : World) : (Instr.makeSlice 58 (.int .i64 n) (.int .i64 n)).run Tryd.prog w =
    .ok (.slice (some ⟨w.heap.size, 0, none⟩) n.toNat n.toNat) (w.alloc (.cells (i64s n.toNat (fun _ => 0)) 3)) := by
  obtain ⟨i, hi, hz, hs, hb⟩ := info_parts infoInt
  have := run_make (P := Tryd.prog) w 58 3 i _ Tryd.underlying58 hi hz .i64 .i64 n n h0 (Int.le_refl _) (by rw [hb]; omega) (by omega)
  rw [this, hs]
  have e : madeCells (Value.int .i64 0).cells (n.toNat * 1) = i64s n.toNat (fun _ => 0) := by
    rw [← i64s_zero]
    apply Array.ext_getElem?
    intro j
    simp only [madeCells, Value.cells, Nat.mul_one]
    by_cases hj : j < n.toNat <;> simp [hj, Nat.mod_one]
  rw [e]

def New (w : World) (R : Value → World → Prop) (e : Ending) (w' : World) : Prop := ∃ v, e = .returned v ∧ R v w' ∧ Below w.heap.size w w'

set_option maxHeartbeats 400000 in
theorem blank_any (W H : Int) (w : World) (h1 : 0 ≤ W) (h2 : W ≤ 640) (h3 : 0 ≤ H) (h4 : H ≤ 640) :
    Calls Tryd.prog 96 #[.int .i64 W, .int .i64 H] w (New w fun v w' => OutImg w w' W H (fun _ => 0) v) := by
  obtain ⟨m1, m2⟩ := area_bd h1 h2 h3 h4
  have hmk := makeB (W * H) m1 (by omega)
  go_enter Tryd.func96, Tryd.ntmps96
  go_wp2
  refine bodyPost_ret (v := .agg #[.int .i64 W, .int .i64 H, .slice (some ⟨w.heap.size + 1, 0, none⟩) (W * H).toNat (W * H).toNat]) (by simp [results, Tryd.results96, go_sem]) rfl ?_
  exact ⟨_, rfl, OutImg.mk (by omega) (Blk.new' (by simp) _ _), by (repeat (first | exact Below.refl _ _ | assumption | refine Below.drew ?_ | refine below_drewN ?_ _ | refine Below.alloc ?_ (by first | omega | (simp; done) | (simp; omega)) _ | refine Below.setCell ?_ (by first | omega | (simp; done) | (simp; omega)) _ | refine below_setRow ?_ (by first | omega | (simp; done) | (simp; omega)) _ ))⟩

def newE (W H : Int) : Int := if W < 0 ∨ 640 < W ∨ H < 0 ∨ 640 < H then 2 else 0
theorem newE_bad {W H : Int} : newE W H ≠ 0 ↔ (W < 0 ∨ 640 < W ∨ H < 0 ∨ 640 < H) := by unfold newE; split <;> simp_all
theorem newE_ok {W H : Int} : newE W H = 0 ↔ (0 ≤ W ∧ W ≤ 640 ∧ 0 ≤ H ∧ H ≤ 640) := by unfold newE; split <;> simp_all <;> omega

set_option maxHeartbeats 400000 in
theorem new_ok (W H : Int) (w : World) (h1 : 0 ≤ W) (h2 : W ≤ 640) (h3 : 0 ≤ H) (h4 : H ≤ 640) :
    Calls Tryd.prog 110 #[.int .i64 W, .int .i64 H] w (New w fun v w' => ∃ g, v = .tuple #[g, .int .i64 0] ∧ OutImg w w' W H (fun _ => 0) g) := by
  go_enter Tryd.func110, Tryd.ntmps110
  go_wp2_with (go_at_call 96; refine (blank_any W H _ h1 h2 h3 h4).mono ?_; rintro e w1 ⟨_, rfl, ⟨g, rfl, hg, hb⟩, hbl⟩; have hc := (Blk.new w 24 #[.int .i64 0, .int .i64 0, .slice none 0 0]).below' hbl; obtain ⟨c1, c2, c3⟩ := hc.cells3; obtain ⟨d1, d2, d3⟩ := hc.frozen3)
  refine bodyPost_ret (v := .tuple #[.agg #[.int .i64 W, .int .i64 H, .slice (some ⟨g, 0, none⟩) (W * H).toNat (W * H).toNat], .int .i64 0]) (by simp [results, Tryd.results110, go_sem, c1, c2, c3]) rfl ?_
  rw [World.size_alloc] at hg
  refine ⟨_, rfl, ⟨_, rfl, OutImg.mk (by omega) (((hb.far (by simp; omega) _).far (by simp; omega) _).far (by simp; omega) _)⟩, ?_⟩
  have hbl' : Below w.heap.size w w1 := below_call (by (repeat (first | exact Below.refl _ _ | assumption | refine Below.drew ?_ | refine below_drewN ?_ _ | refine Below.alloc ?_ (by first | omega | (simp; done) | (simp; omega)) _ | refine Below.setCell ?_ (by first | omega | (simp; done) | (simp; omega)) _ | refine below_setRow ?_ (by first | omega | (simp; done) | (simp; omega)) _ ))) (by simp) hbl
  (repeat (first | exact Below.refl _ _ | assumption | refine Below.drew ?_ | refine below_drewN ?_ _ | refine Below.alloc ?_ (by first | omega | (simp; done) | (simp; omega)) _ | refine Below.setCell ?_ (by first | omega | (simp; done) | (simp; omega)) _ | refine below_setRow ?_ (by first | omega | (simp; done) | (simp; omega)) _ ))
set_option maxHeartbeats 400000 in
theorem new_bad (W H : Int) (w : World) (h : newE W H ≠ 0) :
    Calls Tryd.prog 110 #[.int .i64 W, .int .i64 H] w fun e w' => e = .returned (.tuple #[noImg, .int .i64 2]) ∧ Below w.heap.size w w' := by
  rw [newE_bad] at h
  go_enter Tryd.func110, Tryd.ntmps110
  go_wp2_with fail
  all_goals
    refine bodyPost_ret (v := .tuple #[noImg, .int .i64 2]) (by simp [results, Tryd.results110, go_sem, noImg]) rfl ?_
    exact ⟨rfl, by (repeat (first | exact Below.refl _ _ | assumption | refine Below.drew ?_ | refine below_drewN ?_ _ | refine Below.alloc ?_ (by first | omega | (simp; done) | (simp; omega)) _ | refine Below.setCell ?_ (by first | omega | (simp; done) | (simp; omega)) _ | refine below_setRow ?_ (by first | omega | (simp; done) | (simp; omega)) _ ))⟩

/-- the drop of a column -/
def dropI (w k x : Int) : Int := (if k < 0 then (w - 1 - x) * (-k) else x * k) / 64
def grt (W k : Int) : Int := (if W ≤ 1 then 0 else W - 1) * (if k < 0 then -k else k) / 64

theorem mul_bd {a b m n : Int} (h0 : 0 ≤ a) (h1 : a ≤ m) (k0 : 0 ≤ b) (k1 : b ≤ n) : 0 ≤ a * b ∧ a * b ≤ m * n :=
  ⟨Int.mul_nonneg h0 k0, Int.mul_le_mul h1 k1 k0 (by omega)⟩
theorem grt_bd {W k : Int} (h1 : 0 ≤ W) (h2 : W ≤ 640) (h3 : -3 ≤ k) (h4 : k ≤ 3) : 0 ≤ grt W k ∧ grt W k ≤ 29 := by
  unfold grt
  have := mul_bd (a := if W ≤ 1 then 0 else W - 1) (b := if k < 0 then -k else k) (m := 639) (n := 3) (by split <;> omega) (by split <;> omega) (by split <;> omega) (by split <;> omega)
  omega
theorem drop_bd {W k x : Int} (h2 : W ≤ 640) (h3 : -3 ≤ k) (h4 : k ≤ 3) (h5 : 0 ≤ x) (h6 : x < W) : 0 ≤ dropI W k x ∧ dropI W k x ≤ 29 := by
  unfold dropI
  split
  · have := mul_bd (a := W - 1 - x) (b := -k) (m := 639) (n := 3) (by omega) (by omega) (by omega) (by omega)
    omega
  · have := mul_bd (a := x) (b := k) (m := 639) (n := 3) (by omega) (by omega) (by omega) (by omega)
    omega

def zeros640 : Array Value := i64s 640 (fun _ => 0)
theorem upd_drop (W k x j : Int) : upd (fun j => if j < x then dropI W k j else 0) x (dropI W k x) j = if j < x + 1 then dropI W k j else 0 := by
  show (if j = x then _ else (if j < x then _ else _)) = _
  by_cases e : j = x
  · subst e; rw [if_pos rfl, if_pos (by omega)]
  · by_cases e' : j < x
    · rw [if_neg e, if_pos e', if_pos (by omega)]
    · rw [if_neg e, if_neg e', if_neg (by omega)]

end Go.Proofs.YtoonkpjddfiopaaDoor

/- More plain lemmas on memory: rows that the call owns. No program in sight. -/
namespace Go.Proofs.YtoonkpjddfiopaaDoor
open Go.RowKit
set_option linter.unusedVariables false
theorem own_ge {w : World} {base : Nat} {e : TypeId} {size n k : Nat} {v : Value} {xs : List Value} (h : w.ownsRow base e size v n xs) (hk : v.ownBlock = some k) : base ≤ k ∧ k < w.heap.size := by
  rcases h.2 with ⟨rfl, _⟩ | ⟨g, cap, cur, rfl, hb, hh, _⟩
  · simp [Value.ownBlock] at hk
  · simp [Value.ownBlock] at hk
    subst hk
    exact ⟨hb, (Array.getElem?_eq_some_iff.1 hh).1⟩
theorem own_ne {w : World} {base : Nat} {e : TypeId} {size n g : Nat} {v : Value} {xs : List Value} (h : w.ownsRow base e size v n xs) (hg : g < base) : some g ≠ v.ownBlock := fun e => by
  have := (own_ge h e.symm).1; omega
theorem own_below {w w' : World} {base n : Nat} {e : TypeId} {v : Value} {xs : List Value} (h : w.ownsRow base e 1 v n xs) (hb : Below w.heap.size w w') : w'.ownsRow base e 1 v n xs := by
  refine ⟨h.1, ?_⟩
  rcases h.2 with h2 | ⟨g, cap, cur, hv, hg, hh, r⟩
  · exact .inl h2
  · exact .inr ⟨g, cap, cur, hv, hg, (hb.block g (Array.getElem?_eq_some_iff.1 hh).1).trans hh, r⟩
/-- an owned row of one-cell elements, read as a list -/
theorem own_arr {w : World} {base n : Nat} {e : TypeId} {v : Value} {xs : List Value} (h : w.ownsRow base e 1 v n xs) : ∃ A c, v = .slice A n c ∧ n ≤ c ∧ Arr w w.heap.size A n (fun i => xs.getD i.toNat default) := by
  rcases h.2 with ⟨rfl, rfl⟩ | ⟨g, cap, cur, rfl, hb, hh, hc, _, hs, ht⟩
  · exact ⟨none, 0, rfl, Nat.le_refl _, Arr.nil⟩
  · refine ⟨_, _, rfl, hc, fun _ => ⟨g, 0, rfl, (Array.getElem?_eq_some_iff.1 hh).1, fun i h0 hi => ?_⟩⟩
    rw [Nat.zero_add, cell_of_row w g _ cur e (0, 0) hh]
    have hl : xs.length = n := by rw [h.1]; omega
    have hi' : i.toNat < xs.length := by omega
    show cur[i.toNat]? = some (xs.getD i.toNat default)
    rw [List.getD_eq_getElem?_getD, List.getElem?_eq_getElem hi']
    have : xs[i.toNat]? = cur.toList[i.toNat]? := by
      rw [← ht, List.getElem?_take]
      simp; omega
    rw [List.getElem?_eq_getElem hi'] at this
    simpa using this.symm
end Go.Proofs.YtoonkpjddfiopaaDoor

/- Plain lemmas on memory: a list of blocks and of arrays that is kept as one fact. No program in sight. -/
namespace Go.Proofs.YtoonkpjddfiopaaDoor
open Go.RowKit
set_option linter.unusedVariables false

/-- these blocks are known whole, and these slices of bytes read ar these functions -/
def Kp (w : World) (bs : List (Nat × TypeId × Array Value)) (ar : List (Option Addr × Nat × (Int → Int))) : Prop :=
  (∀ b ∈ bs, Blk w b.1 b.2.1 b.2.2) ∧ ∀ a ∈ ar, ArrB w w.heap.size a.1 a.2.1 a.2.2
section
variable {w w' : World} {bs : List (Nat × TypeId × Array Value)} {ar : List (Option Addr × Nat × (Int → Int))}
theorem Kp.nil (w : World) : Kp w [] [] := ⟨fun _ h => by simp at h, fun _ h => by simp at h⟩
theorem Kp.below (h : Kp w bs ar) (hb : Below w.heap.size w w') : Kp w' bs ar :=
  ⟨fun b hm => (h.1 b hm).below' hb, fun a hm => (h.2 a hm).to hb⟩
theorem Kp.alloc (h : Kp w bs ar) (o : Obj) : Kp (w.alloc o) bs ar := h.below ((Below.refl _ _).alloc (Nat.le_refl _) _)
theorem Kp.drew (h : Kp w bs ar) : Kp w.drew bs ar := h
theorem Kp.addB (h : Kp w bs ar) {g : Nat} {t : TypeId} {cs : Array Value} (hk : Blk w g t cs) : Kp w ((g, t, cs) :: bs) ar :=
  ⟨fun b hm => by rcases List.mem_cons.1 hm with rfl | hm <;> first | exact hk | exact h.1 b hm, h.2⟩
theorem Kp.addA (h : Kp w bs ar) {A : Option Addr} {n : Nat} {q : Int → Int} (hk : ArrB w w.heap.size A n q) : Kp w bs ((A, n, q) :: ar) :=
  ⟨h.1, fun b hm => by rcases List.mem_cons.1 hm with rfl | hm <;> first | exact hk | exact h.2 b hm⟩
/-- one more block, just made -/
theorem Kp.new (h : Kp w bs ar) (t : TypeId) (cs : Array Value) : Kp (w.alloc (.cells cs t)) ((w.heap.size, t, cs) :: bs) ar := (h.alloc _).addB (Blk.new _ _ _)
theorem Kp.b (h : Kp w bs ar) (i : Nat) {g : Nat} {t : TypeId} {cs : Array Value} (hi : bs[i]? = some (g, t, cs)) : Blk w g t cs := h.1 _ (List.mem_of_getElem? hi)
theorem Kp.a (h : Kp w bs ar) (i : Nat) {A : Option Addr} {n : Nat} {q : Int → Int} (hi : ar[i]? = some (A, n, q)) : ArrB w w.heap.size A n q := h.2 _ (List.mem_of_getElem? hi)
end
/-! ### a box of three cells that is filled -/
def fill3 (w : World) (g : Nat) (a b c : Value) : World := ((w.setCell ⟨g, 0, none⟩ a).setCell ⟨g, 1, none⟩ b).setCell ⟨g, 2, none⟩ c
section
variable {w w' : World} {g : Nat} {t : TypeId} {a b c x y z : Value}
theorem Blk.fill3 (h : Blk w g t #[x, y, z]) : Blk (((w.setCell ⟨g, 0, none⟩ a).setCell ⟨g, 1, none⟩ b).setCell ⟨g, 2, none⟩ c) g t #[a, b, c] := ((h.set_ 0 a).set_ 1 b).set_ 2 c
theorem Blk.far3 {k : Nat} {cs : Array Value} (h : Blk w k t cs) (hk : k ≠ g) : Blk (((w.setCell ⟨g, 0, none⟩ a).setCell ⟨g, 1, none⟩ b).setCell ⟨g, 2, none⟩ c) k t cs := ((h.far hk _).far hk _).far hk _
theorem ArrB.far1 {B n : Nat} {A : Option Addr} {q : Int → Int} (h : ArrB w B A n q) {p : Addr} (hp : ∀ a, A = some a → a.block ≠ p.block) (u : Value) : ArrB (w.setCell p u) B A n q := fun hn => by
  obtain ⟨b, off, e, hb, hc⟩ := h hn
  exact ⟨b, off, e, hb, fun i h0 hi => (World.cell?_of_block (heap_setCell_other w p b u (hp _ e))).trans (hc i h0 hi)⟩
theorem ArrB.far3 {B n : Nat} {A : Option Addr} {q : Int → Int} (h : ArrB w B A n q) (hg : ∀ a, A = some a → a.block ≠ g) : ArrB (((w.setCell ⟨g, 0, none⟩ a).setCell ⟨g, 1, none⟩ b).setCell ⟨g, 2, none⟩ c) B A n q := ((h.far1 (p := ⟨g, 0, none⟩) hg a).far1 (p := ⟨g, 1, none⟩) hg b).far1 (p := ⟨g, 2, none⟩) hg c
theorem fill3_size : (((w.setCell ⟨g, 0, none⟩ a).setCell ⟨g, 1, none⟩ b).setCell ⟨g, 2, none⟩ c).heap.size = w.heap.size := by simp
theorem below_fill3 {B : Nat} {v : World} (h : Below B v w) (hg : B ≤ g) : Below B v (((w.setCell ⟨g, 0, none⟩ a).setCell ⟨g, 1, none⟩ b).setCell ⟨g, 2, none⟩ c) := ((h.setCell hg _).setCell hg _).setCell hg _
end
/-! ### chains: facts carried from world to world by the shape of the world -/
theorem bcell {W W1 : World} (hb : Below W.heap.size W W1) : (∀ b o, b < W.heap.size → W1.cell? ⟨b, o, none⟩ = W.cell? ⟨b, o, none⟩) ∧ (∀ b o, b < W.heap.size → W1.frozen? ⟨b, o, none⟩ = W.frozen? ⟨b, o, none⟩) :=
  ⟨fun b o h => hb.cell (p := ⟨b, o, none⟩) h, fun b o h => hb.frozen (p := ⟨b, o, none⟩) h⟩
theorem ArrB.alloc1 {w : World} {n : Nat} {A : Option Addr} {q : Int → Int} (h : ArrB w w.heap.size A n q) (o : Obj) : ArrB (w.alloc o) (w.alloc o).heap.size A n q := h.to ((Below.refl _ _).alloc (Nat.le_refl _) _)
theorem ArrB.drew1 {w : World} {n : Nat} {A : Option Addr} {q : Int → Int} (h : ArrB w w.heap.size A n q) : ArrB w.drew w.drew.heap.size A n q := h
theorem ArrB.fill1 {w : World} {g n : Nat} {A : Option Addr} {q : Int → Int} {a b c : Value} (h : ArrB w w.heap.size A n q) (hg : ∀ x, A = some x → x.block ≠ g) : ArrB (((w.setCell ⟨g, 0, none⟩ a).setCell ⟨g, 1, none⟩ b).setCell ⟨g, 2, none⟩ c) (((w.setCell ⟨g, 0, none⟩ a).setCell ⟨g, 1, none⟩ b).setCell ⟨g, 2, none⟩ c).heap.size A n q := by
  rw [fill3_size]; exact h.far3 hg
/-! the same with their side conditions first, for the chains -/
section
variable {w w' v : World} {n g B : Nat} {A : Option Addr} {q : Int → Int} {t : TypeId} {cs : Array Value} {a b c : Value}
theorem ArrB.to' (hb : Below w.heap.size w w') (h : ArrB w w.heap.size A n q) : ArrB w' w'.heap.size A n q := h.to hb
theorem ArrB.fill1' (hg : ∀ x, A = some x → x.block ≠ g) (h : ArrB w w.heap.size A n q) : ArrB (((w.setCell ⟨g, 0, none⟩ a).setCell ⟨g, 1, none⟩ b).setCell ⟨g, 2, none⟩ c) (((w.setCell ⟨g, 0, none⟩ a).setCell ⟨g, 1, none⟩ b).setCell ⟨g, 2, none⟩ c).heap.size A n q := h.fill1 hg
theorem ArrB.fillN (h0 : ArrB v v.heap.size A n q) (hv : v.heap.size ≤ g) (h : ArrB w w.heap.size A n q) : ArrB (((w.setCell ⟨g, 0, none⟩ a).setCell ⟨g, 1, none⟩ b).setCell ⟨g, 2, none⟩ c) (((w.setCell ⟨g, 0, none⟩ a).setCell ⟨g, 1, none⟩ b).setCell ⟨g, 2, none⟩ c).heap.size A n q := fun hn => by
  obtain ⟨k, off, rfl, hk, _⟩ := h0 hn
  exact (h.fill1 (fun x e => by cases e; show k ≠ g; omega)) hn
theorem ArrB.fillL {m : Nat} (hge : ∀ x, A = some x → m ≤ x.block) (hm : g < m) (h : ArrB w w.heap.size A n q) : ArrB (((w.setCell ⟨g, 0, none⟩ a).setCell ⟨g, 1, none⟩ b).setCell ⟨g, 2, none⟩ c) (((w.setCell ⟨g, 0, none⟩ a).setCell ⟨g, 1, none⟩ b).setCell ⟨g, 2, none⟩ c).heap.size A n q :=
  h.fill1 fun x e => by have := hge x e; omega
theorem Blk.far3' {k : Nat} (hk : k ≠ g) (h : Blk w k t cs) : Blk (((w.setCell ⟨g, 0, none⟩ a).setCell ⟨g, 1, none⟩ b).setCell ⟨g, 2, none⟩ c) k t cs := h.far3 hk
theorem Blk.below2 (hb : Below w.heap.size w w') (h : Blk w g t cs) : Blk w' g t cs := h.below' hb
theorem below_alloc' {o : Obj} (hB : B ≤ w.heap.size) (h : Below B v w) : Below B v (w.alloc o) := h.alloc hB o
theorem below_fill3' (hg : B ≤ g) (h : Below B v w) : Below B v (((w.setCell ⟨g, 0, none⟩ a).setCell ⟨g, 1, none⟩ b).setCell ⟨g, 2, none⟩ c) := below_fill3 h hg
theorem below_setCell' {p : Addr} {u : Value} (hg : B ≤ p.block) (h : Below B v w) : Below B v (w.setCell p u) := h.setCell hg u
theorem below_call' (hc : Below w.heap.size w w') (hB : B ≤ w.heap.size) (h : Below B v w) : Below B v w' := below_call h hB hc
end
theorem ArrI.fn {w : World} {B n : Nat} {A : Option Addr} {q : Int → Int} (h : ArrI w B A n q) (hn : 0 < n) : ∃ b off, A = some ⟨b, off, none⟩ ∧ b < B ∧ ∀ i : Int, 0 ≤ i → i < n → w.cell? ⟨b, off + i.toNat, none⟩ = some (.int .i64 (q i)) := h hn
theorem ArrB.fn {w : World} {B n : Nat} {A : Option Addr} {q : Int → Int} (h : ArrB w B A n q) (hn : 0 < n) : ∃ b off, A = some ⟨b, off, none⟩ ∧ b < B ∧ ∀ i : Int, 0 ≤ i → i < n → w.cell? ⟨b, off + i.toNat, none⟩ = some (.int .u8 (q i)) := h hn
theorem new_size_lt (w : World) (o : Obj) : w.heap.size < (w.alloc o).heap.size := by simp
end Go.Proofs.YtoonkpjddfiopaaDoor

/- Plain: a strip that is cut out along a line, filled column by column or row by row; a strip that is put back. No program in sight. -/
namespace Go.Proofs.YtoonkpjddfiopaaDoor
open Go.RowKit
set_option linter.unusedVariables false
/-- the strip: row y of column x is row 'l x - up + y' of the image, paper beside the image -/
def recQ (W H : Int) (p : Int → Int) (l : Nat → Int) (up : Int) : Int → Int := fun i =>
  if 0 ≤ l (i % W).toNat - up + i / W ∧ l (i % W).toNat - up + i / W < H then p ((l (i % W).toNat - up + i / W) * W + i % W) else 0
/-- the image with a strip of h rows put back -/
def resQ (W H h : Int) (p q : Int → Int) (l : Nat → Int) (up : Int) : Int → Int := fun i =>
  if 0 ≤ i / W - l (i % W).toNat + up ∧ i / W - l (i % W).toNat + up < h then q ((i / W - l (i % W).toNat + up) * W + i % W) else p i
/-- filled column by column: the columns before x, and column x above row y -/
def byCol (W : Int) (q z : Int → Int) (x y : Int) : Int → Int := fun i => if i % W < x ∨ (i % W = x ∧ i / W < y) then q i else z i
/-- filled row by row: the rows above y, and row y before column x -/
def byRow (W : Int) (q z : Int → Int) (y x : Int) : Int → Int := fun i => if i / W < y ∨ (i / W = y ∧ i % W < x) then q i else z i
section
variable {W h : Int} {q z : Int → Int} {x y i : Int}
theorem byCol_zero (hW : 0 < W) (h0 : 0 ≤ i) : byCol W q z 0 0 i = z i := by
  unfold byCol
  have h1 : 0 ≤ i % W := Int.emod_nonneg _ (by omega)
  have h2 : 0 ≤ i / W := Int.ediv_nonneg h0 (by omega)
  rw [if_neg (by omega)]
theorem byCol_end (hW : 0 < W) : byCol W q z W 0 i = q i := by
  unfold byCol
  have h1 : i % W < W := Int.emod_lt_of_pos _ hW
  rw [if_pos (by omega)]
theorem byCol_col (hW : 0 < W) (h0 : 0 ≤ i) (hi : i < W * h) : byCol W q z x h i = byCol W q z (x + 1) 0 i := by
  have h1 : i / W < h := Int.ediv_lt_of_lt_mul hW (by rw [Int.mul_comm]; exact hi)
  have h2 : 0 ≤ i / W := Int.ediv_nonneg h0 (by omega)
  unfold byCol
  by_cases c : i % W < x ∨ (i % W = x ∧ i / W < h)
  · rw [if_pos c, if_pos (by omega)]
  · rw [if_neg c, if_neg (by omega)]
theorem byCol_set (x0 : 0 ≤ x) (x1 : x < W) : upd (byCol W q z x y) (y * W + x) (q (y * W + x)) i = byCol W q z x (y + 1) i := by
  have a := idx_mod (y := y) x0 x1
  have b := idx_div (y := y) x0 x1
  unfold upd byCol
  by_cases e : i = y * W + x
  · subst e
    rw [if_pos rfl, a, b, if_pos (.inr ⟨rfl, by omega⟩)]
  · rw [if_neg e]
    have hne : i % W = x → i / W ≠ y := fun h3 h4 => e (by
      have := Int.emod_add_mul_ediv i W
      rw [h3, h4, Int.mul_comm] at this; omega)
    by_cases c : i % W < x ∨ (i % W = x ∧ i / W < y)
    · rw [if_pos c, if_pos (by omega)]
    · rw [if_neg c, if_neg (by omega)]
theorem byCol_skip (x0 : 0 ≤ x) (x1 : x < W) (hq : q (y * W + x) = z (y * W + x)) : byCol W q z x y i = byCol W q z x (y + 1) i := by
  have a := idx_mod (y := y) x0 x1
  have b := idx_div (y := y) x0 x1
  unfold byCol
  by_cases e : i = y * W + x
  · subst e
    rw [a, b, if_neg (by omega), if_pos (.inr ⟨rfl, by omega⟩), hq]
  · have hne : i % W = x → i / W ≠ y := fun h3 h4 => e (by
      have := Int.emod_add_mul_ediv i W
      rw [h3, h4, Int.mul_comm] at this; omega)
    by_cases c : i % W < x ∨ (i % W = x ∧ i / W < y)
    · rw [if_pos c, if_pos (by omega)]
    · rw [if_neg c, if_neg (by omega)]
theorem byRow_zero (hW : 0 < W) (h0 : 0 ≤ i) : byRow W q z 0 0 i = z i := by
  unfold byRow
  have h1 : 0 ≤ i % W := Int.emod_nonneg _ (by omega)
  have h2 : 0 ≤ i / W := Int.ediv_nonneg h0 (by omega)
  rw [if_neg (by omega)]
theorem byRow_end (hW : 0 < W) (hi : i < W * h) : byRow W q z h 0 i = q i := by
  have h1 : i / W < h := Int.ediv_lt_of_lt_mul hW (by rw [Int.mul_comm]; exact hi)
  unfold byRow
  rw [if_pos (by omega)]
theorem byRow_row (hW : 0 < W) : byRow W q z y W i = byRow W q z (y + 1) 0 i := by
  have h1 : i % W < W := Int.emod_lt_of_pos _ hW
  have h2 : 0 ≤ i % W := Int.emod_nonneg _ (by omega)
  unfold byRow
  by_cases c : i / W < y ∨ (i / W = y ∧ i % W < W)
  · rw [if_pos c, if_pos (by omega)]
  · rw [if_neg c, if_neg (by omega)]
theorem byRow_set (x0 : 0 ≤ x) (x1 : x < W) : upd (byRow W q z y x) (y * W + x) (q (y * W + x)) i = byRow W q z y (x + 1) i := by
  have a := idx_mod (y := y) x0 x1
  have b := idx_div (y := y) x0 x1
  unfold upd byRow
  by_cases e : i = y * W + x
  · subst e
    rw [if_pos rfl, a, b, if_pos (.inr ⟨rfl, by omega⟩)]
  · rw [if_neg e]
    have hne : i % W = x → i / W ≠ y := fun h3 h4 => e (by
      have := Int.emod_add_mul_ediv i W
      rw [h3, h4, Int.mul_comm] at this; omega)
    by_cases c : i / W < y ∨ (i / W = y ∧ i % W < x)
    · rw [if_pos c, if_pos (by omega)]
    · rw [if_neg c, if_neg (by omega)]
theorem byRow_skip (x0 : 0 ≤ x) (x1 : x < W) (hq : q (y * W + x) = z (y * W + x)) : byRow W q z y x i = byRow W q z y (x + 1) i := by
  have a := idx_mod (y := y) x0 x1
  have b := idx_div (y := y) x0 x1
  unfold byRow
  by_cases e : i = y * W + x
  · subst e
    rw [a, b, if_neg (by omega), if_pos (.inr ⟨rfl, by omega⟩), hq]
  · have hne : i % W = x → i / W ≠ y := fun h3 h4 => e (by
      have := Int.emod_add_mul_ediv i W
      rw [h3, h4, Int.mul_comm] at this; omega)
    by_cases c : i / W < y ∨ (i / W = y ∧ i % W < x)
    · rw [if_pos c, if_pos (by omega)]
    · rw [if_neg c, if_neg (by omega)]
end
end Go.Proofs.YtoonkpjddfiopaaDoor

/- Walk: an image made pixel by pixel by a function value (image.made). -/
namespace Go.Proofs.YtoonkpjddfiopaaDoor
open Go.RowKit
set_option linter.unusedVariables false
attribute [local go_sem] Oper.semAt_some

/-- pixel by pixel -/
def byPix (W : Int) (f : Int → Int → Int) : Int → Int := fun i => f (i % W) (i / W)
theorem byPix_at {W x y : Int} {f : Int → Int → Int} (x0 : 0 ≤ x) (x1 : x < W) : byPix W f (y * W + x) = f x y := by
  unfold byPix; rw [idx_mod x0 x1, idx_div x0 x1]
theorem OutImg.outN {w w' : World} {W H : Int} {N : Nat} {q : Int → Int} {v : Value} (h : OutImg w w' W H q v) (hN : (N : Int) = W * H) : OutN w w' W H N q v := by
  obtain ⟨g, rfl, hg, hk⟩ := h
  obtain rfl : (W * H).toNat = N := by omega
  exact ⟨g, rfl, hg, hk⟩
set_option maxRecDepth 100000 in
set_option maxHeartbeats 4000000 in
theorem pixmade_any (W H : Int) (N : Nat) (fid : Nat) (cap : Array Value) (f : Int → Int → Int) (w : World) (hent : ∀ args w, (callFunc fid args).run Tryd.prog w = .ok (.enter fid args) w) (h1 : 0 ≤ W) (h2 : W ≤ 640) (h3 : 0 ≤ H) (h4 : H ≤ 640) (hN : (N : Int) = W * H)
    (hf : ∀ x y w', 0 ≤ x → x < W → 0 ≤ y → y < H → Below w.heap.size w w' → Calls Tryd.prog fid (#[.int .i64 x, .int .i64 y] ++ cap) w' fun e w'' => e = .returned (.int .u8 (f x y)) ∧ Below w'.heap.size w' w'') :
    Calls Tryd.prog 88 #[.int .i64 W, .int .i64 H, .func (.func fid) #[] cap] w (New w fun v w' => OutN w w' W H N (byPix W f) v) := by
  have HF := Lib.hid hf
  have BL := Lib.hid fun w' => (blank_any W H w' h1 h2 h3 h4).mono fun e w'' (⟨v, he, ho, hb⟩ : New w' (fun v w'' => OutImg w' w'' W H (fun _ => 0) v) e w'') => (show New w' (fun v w'' => OutN w' w'' W H N (fun _ => 0) v) e w'' from ⟨v, he, ho.outN hN, hb⟩)
  have HN := Lib.hid hN
  have nb := (area_bd h1 h2 h3 h4).2
  clear hf hN
  go_enter Tryd.func88, Tryd.ntmps88
  go_wp2_with fail
  refine (BL.out _).mono ?_
  rintro e w1 ⟨_, rfl, ⟨gp, rfl, hgp, kp⟩, hb1⟩
  have z0 : w.heap.size < w1.heap.size := by have := hb1.size; simp at this; omega
  have z1 : w.heap.size < gp := by simp at hgp; omega
  have z2 := kp.lt
  have k6 : Blk w1 w.heap.size 24 #[.int .i64 0, .int .i64 0, .slice none 0 0] := (Blk.new _ _ _).below' hb1
  have b1 : Below w.heap.size w w1 := below_call (by (repeat (first | exact Below.refl _ _ | assumption | refine Below.drew ?_ | refine below_drewN ?_ _ | refine Below.alloc ?_ (by first | omega | (simp; done) | (simp; omega)) _ | refine Below.setCell ?_ (by first | omega | (simp; done) | (simp; omega)) _ | refine below_setRow ?_ (by first | omega | (simp; done) | (simp; omega)) _ ))) (by simp) hb1
  clear hb1 hgp BL
  have b2 : Below w.heap.size w (w1.alloc (.cells #[.int .i64 W, .int .i64 H, .slice (some ⟨gp, 0, none⟩) N N] 24)) := by (repeat (first | exact Below.refl _ _ | assumption | refine Below.drew ?_ | refine below_drewN ?_ _ | refine Below.alloc ?_ (by first | omega | (simp; done) | (simp; omega)) _ | refine Below.setCell ?_ (by first | omega | (simp; done) | (simp; omega)) _ | refine below_setRow ?_ (by first | omega | (simp; done) | (simp; omega)) _ ))
  have t6 := k6.alloc (.cells #[.int .i64 W, .int .i64 H, .slice (some ⟨gp, 0, none⟩) N N] 24)
  have tx := Blk.new w1 24 #[.int .i64 W, .int .i64 H, .slice (some ⟨gp, 0, none⟩) N N]
  have tp : H = 0 ∨ W = 0 ∨ Blk (w1.alloc (.cells #[.int .i64 W, .int .i64 H, .slice (some ⟨gp, 0, none⟩) N N] 24)) gp 5 (u8s N (byRow W (byPix W f) (fun _ => 0) (0 : Nat) (0 : Nat))) := by
    by_cases hw : W = 0
    · exact .inr (.inl hw)
    · exact .inr (.inr ((kp.alloc _).u8conv fun i i0 _ => (byRow_zero (W := W) (q := byPix W f) (z := fun _ => 0) (by omega) i0).symm))
  have tp0 := kp.alloc (.cells #[.int .i64 W, .int .i64 H, .slice (some ⟨gp, 0, none⟩) N N] 24)
  clear kp b1 k6 tp
  have tp : Blk (w1.alloc (.cells #[.int .i64 W, .int .i64 H, .slice (some ⟨gp, 0, none⟩) N N] 24)) gp 5 (u8s N (byRow W (byPix W f) (fun _ => 0) (0 : Nat) (0 : Nat))) := tp0.u8conv fun i i0 i1 => by
    have hw : 0 < W := by
      rcases Int.lt_or_le 0 W with h | h
      · exact h
      · have : W = 0 := by omega
        subst this
        have := HN.out
        simp at this
        omega
    exact (byRow_zero (W := W) (q := byPix W f) (z := fun _ => 0) hw i0).symm
  have hgx : gp ≠ w1.heap.size := by omega
  clear tp0
  go_wp2_with fail
  generalize w1.alloc (.cells #[.int .i64 W, .int .i64 H, .slice (some ⟨gp, 0, none⟩) N N] 24) = w2 at *
  generalize w1.heap.size = gx at *
  go_loopw [14] (fun s wr => ∃ y : Nat, (y : Int) ≤ H ∧ s = .int .i64 y ∧ Below w.heap.size w wr ∧ Blk wr w.heap.size 24 #[.int .i64 0, .int .i64 0, .slice none 0 0] ∧ Blk wr gx 24 #[.int .i64 W, .int .i64 H, .slice (some ⟨gp, 0, none⟩) N N] ∧ Blk wr gp 5 (u8s N (byRow W (byPix W f) (fun _ => 0) y (0 : Nat)))) (fun s _ => (H - intOf s).toNat)
  case atStart => exact ⟨0, by omega, rfl, b2, t6, tx, tp⟩
  case round =>
    obtain ⟨y, hy, rfl, b3, a6, ax, ap⟩ := hrel
    clear b2 t6 tx tp
    obtain ⟨x1, x2, x3⟩ := ax.cells3
    by_cases yl : (y : Int) < H
    · go_wp2_with fail
      go_loopw [18] (fun s wr => ∃ x : Nat, (x : Int) ≤ W ∧ s = .int .i64 x ∧ Below w.heap.size w wr ∧ Blk wr w.heap.size 24 #[.int .i64 0, .int .i64 0, .slice none 0 0] ∧ Blk wr gx 24 #[.int .i64 W, .int .i64 H, .slice (some ⟨gp, 0, none⟩) N N] ∧ Blk wr gp 5 (u8s N (byRow W (byPix W f) (fun _ => 0) y x))) (fun s _ => (W - intOf s).toNat)
      case atStart => exact ⟨0, by omega, rfl, b3, a6, ax, ap⟩
      case round =>
        obtain ⟨x, hx, rfl, b4, c6, cx, cp⟩ := hrel
        clear x1 x2 x3 b3 a6 ax ap
        obtain ⟨x1, x2, x3⟩ := cx.cells3
        by_cases xl : (x : Int) < W
        · obtain ⟨j1, j2, j3⟩ := idx_lt (x := (x : Int)) (y := (y : Int)) (W := W) (H := H) (by omega) xl (by omega) yl
          rw [Int.mul_comm H W] at j2
          have j4 : (y : Int) * W + x < (N : Int) := by have := HN.out; omega
          have v7 : IntKind.i64.wrap ((y : Int) * W) = (y : Int) * W := IntWalk.i64_in _ (by omega)
          have v8 : IntKind.i64.wrap ((y : Int) * W + x) = (y : Int) * W + x := IntWalk.i64_in _ (by omega)
          have HC := Lib.hid (HF.out x y wr.drew (by omega) xl (by omega) yl b4.drew)
          have HV := Lib.hid (byPix_at (W := W) (x := (x : Int)) (y := (y : Int)) (f := f) (by omega) xl)
          have BS := Lib.hid (fun i => byRow_set (q := byPix W f) (z := fun _ => 0) (W := W) (y := (y : Int)) (i := i) (by omega : (0 : Int) ≤ x) xl)
          go_wp2_with fail
          go_region_held3 (fun w' => w'.cell? ⟨gx, 2, none⟩ = some (.slice (some ⟨gp, 0, none⟩) N N))
            (simp [go_sem, *])
            (first
              | (with_reducible refine Calls.mono HC.out ?_; rintro e w5 ⟨rfl, hb5⟩
                 have d6 := c6.drew.below' hb5; have dx := cx.drew.below' hb5; have dp := cp.drew.below' hb5
                 obtain ⟨y1, y2, y3⟩ := dx.cells3
                 have cg := dp.u8at j1 j4
                 have fg := dp.frozen ((y : Int) * W + x).toNat))
          have b5 := below_call b4.drew b4.drew.size hb5
          have zz := b5.size
          go_wp2
          go_roundw
          case rel =>
            refine ⟨x + 1, by omega, by go_num, b5.setCell (by show w.heap.size ≤ gp; omega) _, d6.far (p := ⟨gp, ((y : Int) * W + x).toNat, none⟩) (by show w.heap.size ≠ gp; omega) _, dx.far (p := ⟨gp, ((y : Int) * W + x).toNat, none⟩) (fun e => hgx e.symm) _, (dp.u8set ((y : Int) * W + x) j1 (f x y)).u8conv fun i _ _ => ?_⟩
            have h := BS.out i
            rw [HV.out] at h
            rw [Int.natCast_add]
            exact h
          case measure => simp [intOf]; omega
        · have ex : (x : Int) = W := by omega
          have cp2 := cp.u8conv (r := byRow W (byPix W f) (fun _ => 0) ((y : Int) + 1) (0 : Nat)) fun i i0 i1 => by
            rw [ex]
            refine byRow_row ?_
            rcases Int.lt_or_le 0 W with h | h
            · exact h
            · have : W = 0 := by omega
              subst this
              have := HN.out
              simp at this
              omega
          clear cp ex
          go_wp2_with fail
          go_roundw
          case rel => exact ⟨y + 1, by omega, by go_num, b4, c6, cx, cp2⟩
          case measure => simp [intOf]; omega
    · have ey : (y : Int) = H := by omega
      obtain ⟨u1, u2, u3⟩ := a6.cells3
      obtain ⟨f1, f2, f3⟩ := a6.frozen3
      have k5 := ((a6.set_ 0 (.int .i64 W)).set_ 1 (.int .i64 H)).set_ 2 (.slice (some ⟨gp, 0, none⟩) N N)
      obtain ⟨s4, s5, s6⟩ := Blk.cells3 (a := .int .i64 W) (b := .int .i64 H) (c := .slice (some ⟨gp, 0, none⟩) N N) k5
      have zz := b3.size
      have g1 : gp ≠ w.heap.size := by omega
      have TP := Lib.hid (ap.u8conv (r := byPix W f) fun i i0 i1 => by
        rw [ey]
        refine byRow_end (h := H) ?_ (by have := HN.out; omega)
        rcases Int.lt_or_le 0 W with h | h
        · exact h
        · have : W = 0 := by omega
          subst this
          have := HN.out
          simp at this
          omega)
      clear ap ey
      go_wp2_with fail
      refine bodyPost_ret (v := .agg #[.int .i64 W, .int .i64 H, .slice (some ⟨gp, 0, none⟩) N N]) (by simp [results, Tryd.results88, go_sem, s4, s5, s6]) rfl ?_
      exact ⟨_, rfl, OutN.mk (by omega) (Blk.far (Blk.far (Blk.far TP.out (p := ⟨w.heap.size, 0, none⟩) g1 (.int .i64 W)) (p := ⟨w.heap.size, 1, none⟩) g1 (.int .i64 H)) (p := ⟨w.heap.size, 2, none⟩) g1 (.slice (some ⟨gp, 0, none⟩) N N)), by (repeat (first | exact Below.refl _ _ | assumption | refine Below.drew ?_ | refine below_drewN ?_ _ | refine Below.alloc ?_ (by first | omega | (simp; done) | (simp; omega)) _ | refine Below.setCell ?_ (by first | omega | (simp; done) | (simp; omega)) _ | refine below_setRow ?_ (by first | omega | (simp; done) | (simp; omega)) _ ))⟩
end Go.Proofs.YtoonkpjddfiopaaDoor

/- Plain: an image that is made, or none, with an error. No program in sight. -/
namespace Go.Proofs.YtoonkpjddfiopaaDoor
open Go.RowKit
set_option linter.unusedVariables false
/-- an image over memory made by the call, and an error -/
def OutT (w w' : World) (E W H : Int) (N : Nat) (q : Int → Int) (v : Value) : Prop := ∃ A c, v = .tuple #[.agg #[.int .i64 W, .int .i64 H, .slice A N c], .int .i64 E] ∧ (∀ a, A = some a → w.heap.size ≤ a.block) ∧ ArrB w' w'.heap.size A N q
/-- the sides of an image that is made, or of none -/
def RSize (E W h W2 H2 : Int) (N : Nat) : Prop := (E = 0 → W2 = W ∧ H2 = h ∧ (N : Int) = W * h) ∧ (E ≠ 0 → W2 = 0 ∧ H2 = 0 ∧ N = 0)
theorem rsize_ex (E W h : Int) (hp : E = 0 → 0 ≤ W * h) : ∃ W2 H2 N, RSize E W h W2 H2 N := by
  by_cases hE : E = 0
  · exact ⟨W, h, (W * h).toNat, fun _ => ⟨rfl, rfl, Int.toNat_of_nonneg (hp hE)⟩, fun h => absurd hE h⟩
  · exact ⟨0, 0, 0, fun h => absurd h hE, fun _ => ⟨rfl, rfl, rfl⟩⟩
theorem rsize_le {E W h W2 H2 : Int} {N : Nat} (hs : RSize E W h W2 H2 N) (hb : E = 0 → 0 ≤ W ∧ W ≤ 640 ∧ 0 ≤ h ∧ h ≤ 640) : N ≤ 409600 := by
  by_cases hE : E = 0
  · obtain ⟨-, -, h1⟩ := hs.1 hE
    obtain ⟨a, b, c, d⟩ := hb hE
    have := (area_bd a b c d).2
    omega
  · obtain ⟨-, -, h1⟩ := hs.2 hE
    omega
theorem outT_bad {w w' : World} {E W h W2 H2 : Int} {N : Nat} {q : Int → Int} (hs : RSize E W h W2 H2 N) (hE : E ≠ 0) : OutT w w' E W2 H2 N q (.tuple #[noImg, .int .i64 E]) := by
  obtain ⟨rfl, rfl, rfl⟩ := hs.2 hE
  exact ⟨none, 0, rfl, (fun _ h => by cases h), ArrB.nil⟩
theorem OutN.outT {w w' : World} {W H : Int} {N : Nat} {q : Int → Int} {v : Value} (h : OutN w w' W H N q v) : OutT w w' 0 W H N q (.tuple #[v, .int .i64 0]) := by
  obtain ⟨g, rfl, hg, hk⟩ := h
  exact ⟨_, _, rfl, (fun a e => by cases e; exact hg), hk.arrB hk.lt⟩
theorem OutT.conv {w w' : World} {E W H : Int} {N : Nat} {q r : Int → Int} {v : Value} (h : OutT w w' E W H N q v) (he : ∀ i : Int, 0 ≤ i → i < N → q i = r i) : OutT w w' E W H N r v := by
  obtain ⟨A, c, rfl, hg, ha⟩ := h
  exact ⟨A, c, rfl, hg, ha.congr he⟩
end Go.Proofs.YtoonkpjddfiopaaDoor

/- Walk of clean.moved: what an image becomes when its columns are moved. -/
namespace Go.Proofs.YtoonkpjddfiopaaDoor
open Go.RowKit
set_option linter.unusedVariables false

def movE (W H : Int) (n : Nat) (p : Int → Int) (k way : Int) : Int :=
  if chk W H n p ≠ 0 then chk W H n p else if k < -3 ∨ 3 < k then 1 else if H + way * grt W k < 0 ∨ 640 < H + way * grt W k then 2 else 0
def movQ (W H : Int) (p : Int → Int) (k way : Int) : Int → Int := fun i =>
  if 0 ≤ i / W - way * dropI W k (i % W) ∧ i / W - way * dropI W k (i % W) < H then p ((i / W - way * dropI W k (i % W)) * W + i % W) else 0
theorem chk_ok {W H : Int} {n : Nat} {p : Int → Int} (h : chk W H n p = 0) : 0 ≤ W ∧ W ≤ 640 ∧ 0 ≤ H ∧ H ≤ 640 ∧ (n : Int) = W * H ∧ ∀ i : Int, 0 ≤ i → i < n → p i ≤ 1 := by
  unfold chk at h
  split at h
  · rename_i hs
    split at h
    · rename_i hp
      obtain ⟨a, b, c, d, e⟩ := sidesB_iff.1 hs
      exact ⟨a, b, c, d, e, fun i h0 h1 => by simpa using allN_iff.1 hp i h0 h1⟩
    · omega
  · omega
theorem movE_ok {W H : Int} {n : Nat} {p : Int → Int} {k way : Int} (h : movE W H n p k way = 0) :
    chk W H n p = 0 ∧ -3 ≤ k ∧ k ≤ 3 ∧ 0 ≤ H + way * grt W k ∧ H + way * grt W k ≤ 640 := by
  unfold movE at h
  split at h
  · rename_i h1; exact absurd h h1
  · rename_i h1
    split at h
    · omega
    · split at h
      · omega
      · refine ⟨?_, by omega, by omega, by omega, by omega⟩
        exact Decidable.not_not.1 h1

/-- what has been moved before the pixel (x, y) -/
def movP (W : Int) (p : Int → Int) (k way y x : Int) : Int → Int := fun i =>
  if 0 ≤ i / W - way * dropI W k (i % W) ∧ (i / W - way * dropI W k (i % W) < y ∨ i / W - way * dropI W k (i % W) = y ∧ i % W < x) then p ((i / W - way * dropI W k (i % W)) * W + i % W) else 0
theorem emod_nn {i W : Int} (h0 : 0 ≤ i) (hW : 0 ≤ W) : 0 ≤ i % W := by
  by_cases e : W = 0
  · subst e; simpa using h0
  · exact Int.emod_nonneg _ e
theorem movP_start {W : Int} (p : Int → Int) (k way : Int) {i : Int} (h0 : 0 ≤ i) (hW : 0 ≤ W) : movP W p k way 0 0 i = 0 := by
  have := emod_nn h0 hW
  unfold movP; rw [if_neg]; omega
theorem movP_in {W : Int} {p : Int → Int} {k way y x t : Int} (hx0 : 0 ≤ x) (hx : x < W) (hy : 0 ≤ y) (ht : t = y + way * dropI W k x) (i : Int) :
    upd (movP W p k way y x) (t * W + x) (p (y * W + x)) i = movP W p k way y (x + 1) i := by
  unfold upd
  by_cases e : i = t * W + x
  · rw [if_pos e]
    unfold movP
    rw [e, idx_div hx0 hx, idx_mod hx0 hx]
    have hs : t - way * dropI W k x = y := by omega
    rw [hs, if_pos (by omega)]
  · rw [if_neg e]
    unfold movP
    have hX : ¬ (i / W - way * dropI W k (i % W) = y ∧ i % W = x) := by
      rintro ⟨h1, h2⟩
      rw [h2] at h1
      have h3 : i / W = t := by omega
      have h4 := Int.emod_add_mul_ediv i W
      rw [h2, h3, Int.mul_comm] at h4
      omega
    generalize i / W - way * dropI W k (i % W) = s at *
    generalize hq : p (s * W + i % W) = v
    clear hq
    generalize i % W = X at *
    by_cases c1 : 0 ≤ s ∧ (s < y ∨ s = y ∧ X < x)
    · rw [if_pos c1, if_pos (by omega)]
    · rw [if_neg c1, if_neg (by omega)]
theorem movP_out {W h : Int} {p : Int → Int} {k way y x t : Int} (hx0 : 0 ≤ x) (hx : x < W) (ht : t = y + way * dropI W k x) (ho : ¬ (0 ≤ t ∧ t < h)) {i : Int} (h0 : 0 ≤ i) (hi : i < W * h) :
    movP W p k way y x i = movP W p k way y (x + 1) i := by
  unfold movP
  have hX : ¬ (i / W - way * dropI W k (i % W) = y ∧ i % W = x) := by
    rintro ⟨h1, h2⟩
    rw [h2] at h1
    have h3 : 0 ≤ i / W := Int.ediv_nonneg h0 (by omega)
    have h4 : i / W < h := Int.ediv_lt_of_lt_mul (by omega) (by rw [Int.mul_comm]; exact hi)
    omega
  generalize i / W - way * dropI W k (i % W) = s at *
  generalize hq : p (s * W + i % W) = v
  clear hq
  generalize i % W = X at *
  by_cases c1 : 0 ≤ s ∧ (s < y ∨ s = y ∧ X < x)
  · rw [if_pos c1, if_pos (by omega)]
  · rw [if_neg c1, if_neg (by omega)]
theorem movP_row {W h : Int} {p : Int → Int} {k way y i : Int} (hW : 0 ≤ W) (h0 : 0 ≤ i) (hi : i < W * h) : movP W p k way y W i = movP W p k way (y + 1) 0 i := by
  unfold movP
  have hp : 0 < W := by
    rcases Int.lt_or_le 0 W with h | h
    · exact h
    · have : W = 0 := by omega
      subst this; simp at hi; omega
  have h1 := Int.emod_lt_of_pos i hp
  have h2 := Int.emod_nonneg i (show W ≠ 0 by omega)
  generalize i / W - way * dropI W k (i % W) = s at *
  generalize hq : p (s * W + i % W) = v
  clear hq
  generalize i % W = X at *
  by_cases c1 : 0 ≤ s ∧ (s < y ∨ s = y ∧ X < W)
  · rw [if_pos c1, if_pos (by omega)]
  · rw [if_neg c1, if_neg (by omega)]
theorem movP_end {W H h : Int} {p : Int → Int} {k way i : Int} (hW : 0 ≤ W) (h0 : 0 ≤ i) (hi : i < W * h) : movP W p k way H 0 i = movQ W H p k way i := by
  unfold movP movQ
  have h2 := emod_nn h0 hW
  generalize i / W - way * dropI W k (i % W) = s at *
  generalize hq : p (s * W + i % W) = v
  clear hq
  generalize i % W = X at *
  by_cases c1 : 0 ≤ s ∧ s < H
  · rw [if_pos c1, if_pos (by omega)]
  · rw [if_neg c1, if_neg (by omega)]
end Go.Proofs.YtoonkpjddfiopaaDoor

/- Walk: image.Not. -/
namespace Go.Proofs.YtoonkpjddfiopaaDoor
open Go.RowKit
set_option linter.unusedVariables false
attribute [local go_sem] Oper.semAt_some
theorem enterNot1 (args : Array Value) (w : World) : (callFunc 124 args).run Tryd.prog w = .ok (.enter 124 args) w := by kernel_rfl
set_option maxHeartbeats 1000000 in
theorem not1_any (W H x y : Int) (A : Option Addr) (n c bx : Nat) (p : Int → Int) (w : World) (hk : Blk w bx 24 #[.int .i64 W, .int .i64 H, .slice A n c]) (hA : ArrB w w.heap.size A n p) (hB : IsB p) (hE : chk W H n p = 0) (x0 : 0 ≤ x) (x1 : x < W) (y0 : 0 ≤ y) (y1 : y < H) :
    Calls Tryd.prog 124 #[.int .i64 x, .int .i64 y, .pointer (some ⟨bx, 0, none⟩)] w fun e w' => e = .returned (.int .u8 (1 - p (y * W + x))) ∧ Below w.heap.size w w' := by
  obtain ⟨hW1, hW2, hH1, hH2, hnn, hp⟩ := chk_ok hE
  obtain ⟨p1, p2, p3⟩ := hk.cells3
  obtain ⟨j1, j2, j3⟩ := idx_lt x0 x1 y0 y1
  rw [Int.mul_comm H W] at j2
  have j4 : y * W + x < (n : Int) := by omega
  have nb := (area_bd hW1 hW2 hH1 hH2).2
  obtain ⟨b, off, rfl, hb, hc⟩ := ArrB.at_ hA j1 j4
  have q1 := hp _ j1 j4
  have q2 := (hB (y * W + x)).1
  have hw : IntKind.u8.wrap (1 - p (y * W + x)) = 1 - p (y * W + x) := by
    rcases (show p (y * W + x) = 0 ∨ p (y * W + x) = 1 by omega) with h | h <;> rw [h] <;> rfl
  generalize p (y * W + x) = v at *
  clear hE hnn hp hA
  go_enter Tryd.func124, Tryd.ntmps124
  go_wp2_with fail
  go_ret
  exact ⟨rfl, Below.refl _ _⟩
set_option maxRecDepth 100000 in
set_option maxHeartbeats 1000000 in
theorem not_all (W H : Int) (A : Option Addr) (n c : Nat) (p : Int → Int) (E W2 H2 : Int) (N : Nat) (w : World) (hA : ArrB w w.heap.size A n p) (hn : n ≤ maxLen) (hB : IsB p) (hE : chk W H n p = E) (hs : RSize E W H W2 H2 N) :
    Calls Tryd.prog 73 #[.agg #[.int .i64 W, .int .i64 H, .slice A n c]] w (New w fun v w' => OutT w w' E W2 H2 N (fun i => 1 - p i) v) := by
  have CK := Lib.hid fun w' hA' => check_any W H A n c p w' hA' hn
  rw [hE] at CK
  have b1 : Below w.heap.size w ((w.alloc (.cells #[.int .i64 W, .int .i64 H, .slice A n c] 24)).alloc (.cells #[.int .i64 0, .int .i64 0, .slice none 0 0] 24)) := by (repeat (first | exact Below.refl _ _ | assumption | refine Below.drew ?_ | refine below_drewN ?_ _ | refine Below.alloc ?_ (by first | omega | (simp; done) | (simp; omega)) _ | refine Below.setCell ?_ (by first | omega | (simp; done) | (simp; omega)) _ | refine below_setRow ?_ (by first | omega | (simp; done) | (simp; omega)) _ ))
  have k1 : Blk ((w.alloc (.cells #[.int .i64 W, .int .i64 H, .slice A n c] 24)).alloc (.cells #[.int .i64 0, .int .i64 0, .slice none 0 0] 24)) w.heap.size 24 #[.int .i64 W, .int .i64 H, .slice A n c] := (Blk.new _ _ _).alloc _
  have k2 : Blk ((w.alloc (.cells #[.int .i64 W, .int .i64 H, .slice A n c] 24)).alloc (.cells #[.int .i64 0, .int .i64 0, .slice none 0 0] 24)) (w.heap.size + 1) 24 #[.int .i64 0, .int .i64 0, .slice none 0 0] := Blk.new' (by simp) _ _
  have HS := Lib.hid hs
  by_cases h0 : E = 0
  · subst h0
    obtain ⟨hW1, hW2, hH1, hH2, hnn, hp⟩ := chk_ok hE
    obtain ⟨rfl, rfl, hN⟩ := hs.1 rfl
    obtain rfl : N = n := by omega
    have N1 := Lib.hid fun x y bx w' hk hA' => not1_any W2 H2 x y A N c bx p w' hk hA' hB hE
    have MD := Lib.hid fun (w' : World) (hk : Blk w' w.heap.size 24 #[.int .i64 W2, .int .i64 H2, .slice A N c]) (hA' : ArrB w' w'.heap.size A N p) => pixmade_any W2 H2 N 124 #[.pointer (some ⟨w.heap.size, 0, none⟩)] (fun x y => 1 - p (y * W2 + x)) w' enterNot1 hW1 hW2 hH1 hH2 hN
      (fun x y v x0 x1 y0 y1 hb => by
        show Calls _ _ #[_, _, _] _ _
        exact N1.out x y w.heap.size v (hk.below' hb) (hA'.to hb) x0 x1 y0 y1)
    clear hs hE hnn hp hB hN
    go_enter Tryd.func73, Tryd.ntmps73
    go_wp2_with fail
    generalize (w.alloc (.cells #[.int .i64 W2, .int .i64 H2, .slice A N c] 24)).alloc (.cells #[.int .i64 0, .int .i64 0, .slice none 0 0] 24) = w1 at *
    refine (CK.out _ (hA.to b1)).mono ?_
    rintro e w2 ⟨rfl, hb2⟩
    have b2 := below_call b1 b1.size hb2
    have k3 := k1.below' hb2
    have k4 := k2.below' hb2
    have hA2 := Lib.hid (hA.to b2)
    have K3 := Lib.hid k3
    obtain ⟨p1, p2, p3⟩ := k3.cells3
    have hmf : ∀ (fn : Fn) (first cap : Array Value) (w : World), (Instr.makeFunc fn first cap).run Tryd.prog w = .ok (.func fn first cap) w := fun _ _ _ _ => rfl
    clear b1 k1 k2 hb2 CK k3
    go_wp2_with fail
    refine (MD.out _ K3.out hA2.out).mono ?_
    rintro e w3 ⟨_, rfl, ⟨gp, rfl, hgp, kp⟩, hb3⟩
    have b3 := below_call b2 b2.size hb3
    have k5 := k4.below' hb3
    have zz := k4.lt
    obtain ⟨r1, r2, r3⟩ := k5.cells3
    obtain ⟨f1, f2, f3⟩ := k5.frozen3
    have k6 := ((k5.set_ 0 (.int .i64 W2)).set_ 1 (.int .i64 H2)).set_ 2 (.slice (some ⟨gp, 0, none⟩) N N)
    obtain ⟨s1, s2, s3⟩ := Blk.cells3 (a := .int .i64 W2) (b := .int .i64 H2) (c := .slice (some ⟨gp, 0, none⟩) N N) k6
    have zb := b2.size
    clear p1 p2 p3
    go_wp2_with fail
    refine bodyPost_ret (v := .tuple #[.agg #[.int .i64 W2, .int .i64 H2, .slice (some ⟨gp, 0, none⟩) N N], .int .i64 0]) (by simp [results, Tryd.results73, go_sem, s1, s2, s3]) rfl ?_
    have g1 : gp ≠ w.heap.size + 1 := by omega
    refine ⟨_, rfl, ⟨_, _, rfl, (fun a e => by cases e; show w.heap.size ≤ gp; omega), ?_⟩, by (repeat (first | exact Below.refl _ _ | assumption | refine Below.drew ?_ | refine below_drewN ?_ _ | refine Below.alloc ?_ (by first | omega | (simp; done) | (simp; omega)) _ | refine Below.setCell ?_ (by first | omega | (simp; done) | (simp; omega)) _ | refine below_setRow ?_ (by first | omega | (simp; done) | (simp; omega)) _ ))⟩
    have KE := Blk.far (Blk.far (Blk.far kp (p := ⟨w.heap.size + 1, 0, none⟩) g1 (.int .i64 W2)) (p := ⟨w.heap.size + 1, 1, none⟩) g1 (.int .i64 H2)) (p := ⟨w.heap.size + 1, 2, none⟩) g1 (.slice (some ⟨gp, 0, none⟩) N N)
    refine (KE.arrB KE.lt).congr fun i i0 i1 => ?_
    unfold byPix
    have := Int.emod_add_mul_ediv i W2
    rw [Int.mul_comm] at this
    show 1 - p (i / W2 * W2 + i % W2) = 1 - p i
    rw [show i / W2 * W2 + i % W2 = i by omega]
  · have hz : (E != 0) = true := by simp [h0]
    have HH := Lib.hid h0
    clear hs hE h0
    go_enter Tryd.func73, Tryd.ntmps73
    go_wp2_with fail
    generalize (w.alloc (.cells #[.int .i64 W, .int .i64 H, .slice A n c] 24)).alloc (.cells #[.int .i64 0, .int .i64 0, .slice none 0 0] 24) = w1 at *
    refine (CK.out _ (hA.to b1)).mono ?_
    rintro e w2 ⟨rfl, hb2⟩
    have b2 := below_call b1 b1.size hb2
    have k4 := k2.below' hb2
    obtain ⟨r1, r2, r3⟩ := k4.cells3
    obtain ⟨f1, f2, f3⟩ := k4.frozen3
    have k9 := ((k4.set_ 0 (.int .i64 0)).set_ 1 (.int .i64 0)).set_ 2 (.slice none 0 0)
    obtain ⟨s1, s2, s3⟩ := Blk.cells3 (a := .int .i64 0) (b := .int .i64 0) (c := .slice none 0 0) k9
    go_wp2_with fail
    refine bodyPost_ret (v := .tuple #[noImg, .int .i64 E]) (by simp [results, Tryd.results73, go_sem, noImg, s1, s2, s3]) rfl ?_
    exact ⟨_, rfl, outT_bad HS.out HH.out, by (repeat (first | with_reducible exact Below.refl _ _ | with_reducible assumption | with_reducible refine Below.drew ?_ | (with_reducible refine below_alloc' ?_ ?_; focus (first | omega | (simp; done) | (simp; omega))) | (with_reducible refine below_fill3' ?_ ?_; focus omega) | (with_reducible refine below_setCell' ?_ ?_; focus (first | omega | (simp; done) | (simp; omega))) | (with_reducible apply below_call'; (focus (with_reducible assumption)); (focus (first | omega | (simp; done) | (simp; omega))))))⟩
end Go.Proofs.YtoonkpjddfiopaaDoor

/- Plain: turns of a picture. No program in sight. -/
namespace Go.Proofs.YtoonkpjddfiopaaDoor
set_option linter.unusedVariables false
/-- clockwise by a right angle: of a picture of height H; mirrored: of width W -/
def rotF (H : Int) (f : Int → Int → Bool) : Int → Int → Bool := fun x y => f y (H - 1 - x)
def mirF (W : Int) (f : Int → Int → Bool) : Int → Int → Bool := fun x y => f (W - 1 - x) y
/-- turned so many times by a right angle; the width and the height then -/
def rotK (W H : Int) (f : Int → Int → Bool) : Nat → Int → Int → Bool
  | 0 => f
  | k + 1 => rotF (if k % 2 = 0 then H else W) (rotK W H f k)
def sdW (W H : Int) (k : Nat) : Int := if k % 2 = 0 then W else H
def turnF (W H : Int) (f : Int → Int → Bool) (way : Nat) : Int → Int → Bool := rotK W H (if 4 ≤ way then mirF W f else f) (way % 4)
/-- one turn after another -/
def prodT (a b : Nat) : Nat := if b < 4 then a / 4 * 4 + (a % 4 + b % 4) % 4 else (1 - a / 4) * 4 + (b % 4 + 4 - a % 4) % 4
theorem prodT_lt {a b : Nat} (ha : a < 8) (hb : b < 8) : prodT a b < 8 := by unfold prodT; split <;> omega
theorem sdW_prod (W H : Int) {a b : Nat} (ha : a < 8) (hb : b < 8) : sdW (sdW W H a) (sdW H W a) b = sdW W H (prodT a b) := by
  have h : (prodT a b) % 2 = (a + b) % 2 := by unfold prodT; split <;> omega
  unfold sdW
  rw [h]
  by_cases h1 : a % 2 = 0 <;> by_cases h2 : b % 2 = 0
  · rw [if_pos h1, if_pos h2, if_pos (by omega)]
  · rw [if_neg h2, if_pos h1, if_neg (by omega)]
  · rw [if_neg h1, if_pos h2, if_neg (by omega)]
  · rw [if_neg h2, if_neg h1, if_pos (by omega)]
theorem turn_prod (W H : Int) (f : Int → Int → Bool) {a b : Nat} (ha : a < 8) (hb : b < 8) : turnF (sdW W H a) (sdW H W a) (turnF W H f a) b = turnF W H f (prodT a b) := by
  have e1 : ∀ x : Int, W - 1 - (W - 1 - x) = x := fun x => by omega
  have e2 : ∀ x : Int, H - 1 - (H - 1 - x) = x := fun x => by omega
  have ca : a = 0 ∨ a = 1 ∨ a = 2 ∨ a = 3 ∨ a = 4 ∨ a = 5 ∨ a = 6 ∨ a = 7 := by omega
  have cb : b = 0 ∨ b = 1 ∨ b = 2 ∨ b = 3 ∨ b = 4 ∨ b = 5 ∨ b = 6 ∨ b = 7 := by omega
  rcases ca with rfl | rfl | rfl | rfl | rfl | rfl | rfl | rfl <;> rcases cb with rfl | rfl | rfl | rfl | rfl | rfl | rfl | rfl <;>
    (funext x y; simp [turnF, prodT, rotK, rotF, mirF, sdW, e1, e2])
theorem turn_zero (W H : Int) (f : Int → Int → Bool) : turnF W H f 0 = f := rfl
/-- the way back -/
def backT (a : Nat) : Nat := if a < 4 then (4 - a) % 4 else a
theorem prod_back {a : Nat} (ha : a < 8) : prodT a (backT a) = 0 := by
  have ca : a = 0 ∨ a = 1 ∨ a = 2 ∨ a = 3 ∨ a = 4 ∨ a = 5 ∨ a = 6 ∨ a = 7 := by omega
  rcases ca with rfl | rfl | rfl | rfl | rfl | rfl | rfl | rfl <;> decide
end Go.Proofs.YtoonkpjddfiopaaDoor

/- Walk: image.Turn. -/
namespace Go.Proofs.YtoonkpjddfiopaaDoor
open Go.RowKit
set_option linter.unusedVariables false
attribute [local go_sem] Oper.semAt_some

/-- an image as a picture, and a picture as an image -/
def bitF (W : Int) (p : Int → Int) : Int → Int → Bool := fun x y => decide (p (y * W + x) = 1)
def qF (f : Int → Int → Bool) : Int → Int → Int := fun x y => if f x y then 1 else 0
/-- the turned image -/
def tuQ (W H : Int) (p : Int → Int) (k : Nat) : Int → Int := byPix (sdW W H k) (qF (turnF W H (bitF W p) k))
def mirK (W : Int) (f : Int → Int → Bool) (k : Nat) : Int → Int → Bool := if 4 ≤ k then mirF W f else f
theorem sdW_succ (W H : Int) (i : Nat) : sdW W H (i + 1) = sdW H W i := by
  unfold sdW; by_cases h : i % 2 = 0
  · rw [if_pos h, if_neg (by omega)]
  · rw [if_neg h, if_pos (by omega)]
theorem sdW_mod (W H : Int) (k : Nat) : sdW W H (k % 4) = sdW W H k := by unfold sdW; rw [show k % 4 % 2 = k % 2 by omega]
theorem qF_bit {W H x y : Int} {n : Nat} {p : Int → Int} (hc : chk W H n p = 0) (hB : IsB p) (x0 : 0 ≤ x) (x1 : x < W) (y0 : 0 ≤ y) (y1 : y < H) : qF (bitF W p) x y = p (y * W + x) := by
  obtain ⟨_, _, _, _, hn, hp⟩ := chk_ok hc
  obtain ⟨j1, j2, _⟩ := idx_lt x0 x1 y0 y1
  have h1 := hp _ j1 (by rw [hn, Int.mul_comm W H]; omega)
  have h2 := (hB (y * W + x)).1
  unfold qF bitF
  by_cases e : p (y * W + x) = 1
  · simp [e]
  · simp [e]; omega
theorem enterTurn1 (args : Array Value) (w : World) : (callFunc 117 args).run Tryd.prog w = .ok (.enter 117 args) w := by kernel_rfl
theorem enterTurn2 (args : Array Value) (w : World) : (callFunc 118 args).run Tryd.prog w = .ok (.enter 118 args) w := by kernel_rfl
set_option maxHeartbeats 1000000 in
theorem turn1_any (W H x y : Int) (k : Nat) (A : Option Addr) (n c bl bx : Nat) (p : Int → Int) (w : World) (hk : Blk w bx 24 #[.int .i64 W, .int .i64 H, .slice A n c]) (hl : Blk w bl 3 #[.int .i64 k]) (hA : ArrB w w.heap.size A n p) (hB : IsB p) (hE : chk W H n p = 0) (x0 : 0 ≤ x) (x1 : x < W) (y0 : 0 ≤ y) (y1 : y < H) (k8 : k < 8) :
    Calls Tryd.prog 117 #[.int .i64 x, .int .i64 y, .pointer (some ⟨bl, 0, none⟩), .pointer (some ⟨bx, 0, none⟩)] w fun e w' => e = .returned (.int .u8 (qF (mirK W (bitF W p) k) x y)) ∧ Below w.heap.size w w' := by
  obtain ⟨hW1, hW2, hH1, hH2, hnn, hp⟩ := chk_ok hE
  obtain ⟨p1, p2, p3⟩ := hk.cells3
  have l1 := hl.cells1
  have nb := (area_bd hW1 hW2 hH1 hH2).2
  by_cases h4 : 4 ≤ k
  · have e0 : qF (mirK W (bitF W p) k) x y = p (y * W + (W - 1 - x)) := by
      unfold mirK; rw [if_pos h4]; exact qF_bit (x := W - 1 - x) (y := y) hE hB (by omega) (by omega) y0 y1
    rw [e0]
    obtain ⟨j1, j2, j3⟩ := idx_lt (x := W - 1 - x) (W := W) (by omega) (by omega) y0 y1
    rw [Int.mul_comm H W] at j2
    have j4 : y * W + (W - 1 - x) < (n : Int) := by omega
    obtain ⟨b, off, rfl, hb, hc⟩ := ArrB.at_ hA j1 j4
    generalize p (y * W + (W - 1 - x)) = v at *
    have h4' : (4 : Int) ≤ (k : Int) := by omega
    clear hE hnn hp hA h4 e0
    go_enter Tryd.func117, Tryd.ntmps117
    go_wp2_with fail
    go_ret
    exact ⟨rfl, Below.refl _ _⟩
  · have e0 : qF (mirK W (bitF W p) k) x y = p (y * W + x) := by
      unfold mirK; rw [if_neg h4]; exact qF_bit hE hB x0 x1 y0 y1
    rw [e0]
    obtain ⟨j1, j2, j3⟩ := idx_lt x0 x1 y0 y1
    rw [Int.mul_comm H W] at j2
    have j4 : y * W + x < (n : Int) := by omega
    obtain ⟨b, off, rfl, hb, hc⟩ := ArrB.at_ hA j1 j4
    generalize p (y * W + x) = v at *
    have h4' : ¬ (4 : Int) ≤ (k : Int) := by omega
    clear hE hnn hp hA h4 e0
    go_enter Tryd.func117, Tryd.ntmps117
    go_wp2_with fail
    go_ret
    exact ⟨rfl, Below.refl _ _⟩
set_option maxHeartbeats 1000000 in
theorem turn2_any (W H x y : Int) (A : Option Addr) (n c bx : Nat) (f : Int → Int → Bool) (w : World) (hk : Blk w bx 24 #[.int .i64 W, .int .i64 H, .slice A n c]) (hA : ArrB w w.heap.size A n (byPix W (qF f))) (hW2 : W ≤ 640) (hH2 : H ≤ 640) (hnn : (n : Int) = W * H) (x0 : 0 ≤ x) (x1 : x < H) (y0 : 0 ≤ y) (y1 : y < W) :
    Calls Tryd.prog 118 #[.int .i64 x, .int .i64 y, .pointer (some ⟨bx, 0, none⟩)] w fun e w' => e = .returned (.int .u8 (qF (rotF H f) x y)) ∧ Below w.heap.size w w' := by
  obtain ⟨p1, p2, p3⟩ := hk.cells3
  have nb := (area_bd (W := W) (H := H) (by omega) hW2 (by omega) hH2).2
  obtain ⟨j1, j2, j3⟩ := idx_lt (x := y) (W := W) (y := H - 1 - x) (H := H) y0 y1 (by omega) (by omega)
  rw [Int.mul_comm H W] at j2
  have j4 : (H - 1 - x) * W + y < (n : Int) := by omega
  obtain ⟨b, off, rfl, hb, hc⟩ := ArrB.at_ hA j1 j4
  rw [byPix_at y0 y1] at hc
  have e0 : qF (rotF H f) x y = qF f y (H - 1 - x) := rfl
  rw [e0]
  generalize qF f y (H - 1 - x) = v at *
  clear hnn hA e0
  go_enter Tryd.func118, Tryd.ntmps118
  go_wp2_with fail
  go_ret
  exact ⟨rfl, Below.refl _ _⟩

set_option maxRecDepth 100000 in
set_option maxHeartbeats 2000000 in
theorem turn_ok (W H : Int) (k : Nat) (A : Option Addr) (n c : Nat) (p : Int → Int) (w : World) (hA : ArrB w w.heap.size A n p) (hn : n ≤ maxLen) (hB : IsB p) (hE : chk W H n p = 0) (k8 : k < 8) :
    Calls Tryd.prog 64 #[.agg #[.int .i64 W, .int .i64 H, .slice A n c], .int .i64 k] w (New w fun v w' => ∃ g, v = .tuple #[.agg #[.int .i64 (sdW W H k), .int .i64 (sdW H W k), .slice (some ⟨g, 0, none⟩) n n], .int .i64 0] ∧ w.heap.size ≤ g ∧ Blk w' g 5 (u8s n (tuQ W H p k))) := by
  obtain ⟨hW1, hW2, hH1, hH2, hnn, hp⟩ := chk_ok hE
  have CK := Lib.hid fun w' hA' => check_any W H A n c p w' hA' hn
  rw [hE] at CK
  have b1 : Below w.heap.size w (((w.alloc (.cells #[.int .i64 W, .int .i64 H, .slice A n c] 24)).alloc (.cells #[.int .i64 k] 3)).alloc (.cells #[.int .i64 0, .int .i64 0, .slice none 0 0] 24)) := by (repeat (first | exact Below.refl _ _ | assumption | refine Below.drew ?_ | refine below_drewN ?_ _ | refine Below.alloc ?_ (by first | omega | (simp; done) | (simp; omega)) _ | refine Below.setCell ?_ (by first | omega | (simp; done) | (simp; omega)) _ | refine below_setRow ?_ (by first | omega | (simp; done) | (simp; omega)) _ ))
  have k1 : Blk (((w.alloc (.cells #[.int .i64 W, .int .i64 H, .slice A n c] 24)).alloc (.cells #[.int .i64 k] 3)).alloc (.cells #[.int .i64 0, .int .i64 0, .slice none 0 0] 24)) w.heap.size 24 #[.int .i64 W, .int .i64 H, .slice A n c] := ((Blk.new _ _ _).alloc _).alloc _
  have k2 : Blk (((w.alloc (.cells #[.int .i64 W, .int .i64 H, .slice A n c] 24)).alloc (.cells #[.int .i64 k] 3)).alloc (.cells #[.int .i64 0, .int .i64 0, .slice none 0 0] 24)) (w.heap.size + 1) 3 #[.int .i64 k] := (Blk.new' (by simp) _ _).alloc _
  have k3 : Blk (((w.alloc (.cells #[.int .i64 W, .int .i64 H, .slice A n c] 24)).alloc (.cells #[.int .i64 k] 3)).alloc (.cells #[.int .i64 0, .int .i64 0, .slice none 0 0] 24)) (w.heap.size + 1 + 1) 24 #[.int .i64 0, .int .i64 0, .slice none 0 0] := Blk.new' (by simp) _ _
  have T1 := Lib.hid fun x y bl bx w' hk hl hA' x0 x1 y0 y1 => turn1_any W H x y k A n c bl bx p w' hk hl hA' hB hE x0 x1 y0 y1 k8
  have MD := Lib.hid fun (w' : World) (hk : Blk w' w.heap.size 24 #[.int .i64 W, .int .i64 H, .slice A n c]) (hl : Blk w' (w.heap.size + 1) 3 #[.int .i64 k]) (hA' : ArrB w' w'.heap.size A n p) => pixmade_any W H n 117 #[.pointer (some ⟨w.heap.size + 1, 0, none⟩), .pointer (some ⟨w.heap.size, 0, none⟩)] (qF (mirK W (bitF W p) k)) w' enterTurn1 hW1 hW2 hH1 hH2 hnn
    (fun x y v x0 x1 y0 y1 hb => by
      show Calls _ _ #[_, _, _, _] _ _
      exact T1.out x y (w.heap.size + 1) w.heap.size v (hk.below' hb) (hl.below' hb) (hA'.to hb) x0 x1 y0 y1)
  have sb : ∀ i, 0 ≤ sdW W H i ∧ sdW W H i ≤ 640 ∧ 0 ≤ sdW H W i ∧ sdW H W i ≤ 640 ∧ (n : Int) = sdW W H i * sdW H W i := fun i => by
    unfold sdW; split
    · exact ⟨hW1, hW2, hH1, hH2, hnn⟩
    · exact ⟨hH1, hH2, hW1, hW2, by rw [hnn, Int.mul_comm]⟩
  obtain ⟨m, hm⟩ : ∃ m, k % 4 = m := ⟨_, rfl⟩
  have M2 := Lib.hid fun (i : Nat) (B : Nat) (A' : Option Addr) (c' : Nat) (w' : World) (hk : Blk w' B 24 #[.int .i64 (sdW W H i), .int .i64 (sdW H W i), .slice A' n c']) (hA' : ArrB w' w'.heap.size A' n (byPix (sdW W H i) (qF (rotK W H (mirK W (bitF W p) k) i)))) =>
    pixmade_any (sdW H W i) (sdW W H i) n 118 #[.pointer (some ⟨B, 0, none⟩)] (qF (rotK W H (mirK W (bitF W p) k) (i + 1))) w' enterTurn2 (sb i).2.2.1 (sb i).2.2.2.1 (sb i).1 (sb i).2.1 (by rw [Int.mul_comm]; exact (sb i).2.2.2.2)
    (fun x y v x0 x1 y0 y1 hb => by
      show Calls _ _ #[_, _, _] _ _
      have e : rotK W H (mirK W (bitF W p) k) (i + 1) = rotF (sdW H W i) (rotK W H (mirK W (bitF W p) k) i) := rfl
      rw [e]
      exact turn2_any (sdW W H i) (sdW H W i) x y A' n c' B _ v (hk.below' hb) (hA'.to hb) (sb i).2.1 (sb i).2.2.2.1 (sb i).2.2.2.2 x0 x1 y0 y1)
  have TQ : Hid (byPix (sdW W H m) (qF (rotK W H (mirK W (bitF W p) k) m)) = tuQ W H p k ∧ sdW W H m = sdW W H k ∧ sdW H W m = sdW H W k) := by
    show _ ∧ _ ∧ _
    rw [← hm, sdW_mod, sdW_mod]
    exact ⟨rfl, rfl, rfl⟩
  have hmi : (k : Int).tmod 4 = (m : Int) := by rw [← hm, Int.tmod_eq_emod_of_nonneg (by omega)]; omega
  have hm4 : m < 4 := by omega
  have SB := Lib.hid sb
  clear hE hnn hp hB hm sb
  generalize mirK W (bitF W p) k = f0 at *
  go_enter Tryd.func64, Tryd.ntmps64
  go_wp2_with fail
  generalize ((w.alloc (.cells #[.int .i64 W, .int .i64 H, .slice A n c] 24)).alloc (.cells #[.int .i64 k] 3)).alloc (.cells #[.int .i64 0, .int .i64 0, .slice none 0 0] 24) = w1 at *
  refine (CK.out _ (hA.to b1)).mono ?_
  rintro e w2 ⟨rfl, hb2⟩
  have b2 := below_call b1 b1.size hb2
  have m1 := k1.below' hb2
  have m2 := k2.below' hb2
  have m3 := k3.below' hb2
  have HA2 := Lib.hid (hA.to b2)
  have hz3 := m3.lt
  obtain ⟨p1, p2, p3⟩ := m1.cells3
  have l1 := m2.cells1
  have M1 := Lib.hid m1
  have M2' := Lib.hid m2
  have hmf : ∀ (fn : Fn) (first cap : Array Value) (w : World), (Instr.makeFunc fn first cap).run Tryd.prog w = .ok (.func fn first cap) w := fun _ _ _ _ => rfl
  have k7 : ¬ (7 : Int) < (k : Int) := by omega
  have k0 : ¬ (k : Int) < 0 := by omega
  clear b1 k1 k2 k3 hb2 CK m1 m2
  go_wp2_with fail
  refine (MD.out _ M1.out M2'.out HA2.out).mono ?_
  rintro e w3 ⟨_, rfl, ⟨gp, rfl, hgp, kp⟩, hb3⟩
  have b3 := below_call b2 b2.size hb3
  have n2 := M2'.out.below' hb3
  have n3 := m3.below' hb3
  obtain ⟨g7, hg7⟩ : ∃ g, w3.heap.size = g := ⟨_, rfl⟩
  have hp7 : gp < g7 := by have := kp.lt; omega
  have hgp2 : w.heap.size + 1 + 1 < gp := by omega
  have o2 := n2.alloc (.cells #[.int .i64 W, .int .i64 H, .slice (some ⟨gp, 0, none⟩) n n] 24)
  have o3 := n3.alloc (.cells #[.int .i64 W, .int .i64 H, .slice (some ⟨gp, 0, none⟩) n n] 24)
  have o7 : Blk (w3.alloc (.cells #[.int .i64 W, .int .i64 H, .slice (some ⟨gp, 0, none⟩) n n] 24)) g7 24 #[.int .i64 W, .int .i64 H, .slice (some ⟨gp, 0, none⟩) n n] := Blk.new' hg7 _ _
  have op := kp.alloc (.cells #[.int .i64 W, .int .i64 H, .slice (some ⟨gp, 0, none⟩) n n] 24)
  have b4 : Below w.heap.size w (w3.alloc (.cells #[.int .i64 W, .int .i64 H, .slice (some ⟨gp, 0, none⟩) n n] 24)) := b3.alloc b3.size _
  have l1 := o2.cells1
  clear p1 p2 p3 M1 M2' HA2 MD T1 n2 n3 kp b3 b2 m3 hb3 hgp hA
  go_wp2_with fail
  generalize w3.alloc (.cells #[.int .i64 W, .int .i64 H, .slice (some ⟨gp, 0, none⟩) n n] 24) = w4 at *
  have hg78 : w.heap.size + 1 + 1 < g7 := by omega
  go_loopw [30] (fun s wr => ∃ (i g : Nat), i ≤ m ∧ s = .int .i64 i ∧ Below w.heap.size w wr ∧ Blk wr (w.heap.size + 1 + 1) 24 #[.int .i64 0, .int .i64 0, .slice none 0 0] ∧ Blk wr g7 24 #[.int .i64 (sdW W H i), .int .i64 (sdW H W i), .slice (some ⟨g, 0, none⟩) n n] ∧ w.heap.size + 1 + 1 < g ∧ g ≠ g7 ∧
    Blk wr g 5 (u8s n (byPix (sdW W H i) (qF (rotK W H f0 i))))) (fun s _ => m - (intOf s).toNat)
  case atStart => exact ⟨0, gp, by omega, rfl, b4, o3, o7, hgp2, by omega, op⟩
  case round =>
    obtain ⟨i, g, hi, rfl, b5, q3, q7, hg2, hg7', kg⟩ := hrel
    clear b4 o3 o7 op o2 l1 hgp2 hp7
    have lq7 := q7.lt
    have lkg := kg.lt
    obtain ⟨p1, p2, p3⟩ := q7.cells3
    by_cases hlt : i < m
    · obtain ⟨gb, hgb⟩ : ∃ g, wr.heap.size = g := ⟨_, rfl⟩
      have kb := Blk.new' hgb 24 #[.int .i64 (sdW W H i), .int .i64 (sdW H W i), .slice (some ⟨g, 0, none⟩) n n]
      have ag := (kg.alloc (.cells #[.int .i64 (sdW W H i), .int .i64 (sdW H W i), .slice (some ⟨g, 0, none⟩) n n] 24))
      have r3 := (q3.alloc (.cells #[.int .i64 (sdW W H i), .int .i64 (sdW H W i), .slice (some ⟨g, 0, none⟩) n n] 24))
      have r7 := (q7.alloc (.cells #[.int .i64 (sdW W H i), .int .i64 (sdW H W i), .slice (some ⟨g, 0, none⟩) n n] 24))
      have b6 := b5.alloc b5.size (.cells #[.int .i64 (sdW W H i), .int .i64 (sdW H W i), .slice (some ⟨g, 0, none⟩) n n] 24)
      clear q3 q7 b5 kg
      go_wp2_with fail
      generalize wr.alloc (.cells #[.int .i64 (sdW W H i), .int .i64 (sdW H W i), .slice (some ⟨g, 0, none⟩) n n] 24) = w5 at *
      refine (M2.out i gb (some ⟨g, 0, none⟩) n w5 kb (ag.arrB ag.lt)).mono ?_
      rintro e w6 ⟨_, rfl, ⟨gn, rfl, hgn, kn⟩, hb6⟩
      have b7 := below_call b6 b6.size hb6
      have t3 := r3.below' hb6
      have t7 := r7.below' hb6
      have l7 := r7.lt
      obtain ⟨p1, p2, p3⟩ := t7.cells3
      obtain ⟨f1, f2, f3⟩ := t7.frozen3
      have hn7 : gn ≠ g7 := by omega
      have hn2 : w.heap.size + 1 + 1 < gn := by omega
      have B7 := Lib.hid (((b7.setCell (p := ⟨g7, 0, none⟩) (by simp; omega) (.int .i64 (sdW H W i))).setCell (p := ⟨g7, 1, none⟩) (by simp; omega) (.int .i64 (sdW W H i))).setCell (p := ⟨g7, 2, none⟩) (by simp; omega) (.slice (some ⟨gn, 0, none⟩) n n))
      have T3 := Lib.hid (((t3.far (p := ⟨g7, 0, none⟩) (by simp; omega) (.int .i64 (sdW H W i))).far (p := ⟨g7, 1, none⟩) (by simp; omega) (.int .i64 (sdW W H i))).far (p := ⟨g7, 2, none⟩) (by simp; omega) (.slice (some ⟨gn, 0, none⟩) n n))
      have T7 : Hid (Blk (((w6.setCell ⟨g7, 0, none⟩ (.int .i64 (sdW H W i))).setCell ⟨g7, 1, none⟩ (.int .i64 (sdW W H i))).setCell ⟨g7, 2, none⟩ (.slice (some ⟨gn, 0, none⟩) n n)) g7 24 #[.int .i64 (sdW H W i), .int .i64 (sdW W H i), .slice (some ⟨gn, 0, none⟩) n n]) := by
        show Blk _ _ _ _
        exact ((t7.set_ 0 (.int .i64 (sdW H W i))).set_ 1 (.int .i64 (sdW W H i))).set_ 2 (.slice (some ⟨gn, 0, none⟩) n n)
      have KN := Lib.hid (((kn.far (p := ⟨g7, 0, none⟩) hn7 (.int .i64 (sdW H W i))).far (p := ⟨g7, 1, none⟩) hn7 (.int .i64 (sdW W H i))).far (p := ⟨g7, 2, none⟩) hn7 (.slice (some ⟨gn, 0, none⟩) n n))
      clear b6 b7 r3 r7 t3 t7 kn ag kb hb6 hgn
      go_wp2_with fail
      go_roundw
      case rel => exact ⟨i + 1, gn, by omega, by go_num, B7.out, T3.out, by rw [sdW_succ, sdW_succ]; exact T7.out, hn2, hn7, by rw [sdW_succ]; exact KN.out⟩
      case measure => simp [intOf]; omega
    · obtain rfl : i = m := by omega
      obtain ⟨e1, e2, e3⟩ := TQ.out
      rw [e1] at kg
      rw [e2] at q7 p1
      rw [e3] at q7 p2
      obtain ⟨t1, t2, t3⟩ := q3.cells3
      obtain ⟨f1, f2, f3⟩ := q3.frozen3
      have hn2 : g ≠ w.heap.size + 1 + 1 := by omega
      have KG := Lib.hid (((kg.far (p := ⟨w.heap.size + 1 + 1, 0, none⟩) hn2 (.int .i64 (sdW W H k))).far (p := ⟨w.heap.size + 1 + 1, 1, none⟩) hn2 (.int .i64 (sdW H W k))).far (p := ⟨w.heap.size + 1 + 1, 2, none⟩) hn2 (.slice (some ⟨g, 0, none⟩) n n))
      have B5 := Lib.hid (((b5.setCell (p := ⟨w.heap.size + 1 + 1, 0, none⟩) (by simp; omega) (.int .i64 (sdW W H k))).setCell (p := ⟨w.heap.size + 1 + 1, 1, none⟩) (by simp; omega) (.int .i64 (sdW H W k))).setCell (p := ⟨w.heap.size + 1 + 1, 2, none⟩) (by simp; omega) (.slice (some ⟨g, 0, none⟩) n n))
      have k9 := ((q3.set_ 0 (.int .i64 (sdW W H k))).set_ 1 (.int .i64 (sdW H W k))).set_ 2 (.slice (some ⟨g, 0, none⟩) n n)
      obtain ⟨s1, s2, s3⟩ := Blk.cells3 (a := .int .i64 (sdW W H k)) (b := .int .i64 (sdW H W k)) (c := .slice (some ⟨g, 0, none⟩) n n) k9
      clear e1 e2 e3 TQ kg b5 q3 q7 k9
      go_wp2_with fail
      refine bodyPost_ret (v := .tuple #[.agg #[.int .i64 (sdW W H k), .int .i64 (sdW H W k), .slice (some ⟨g, 0, none⟩) n n], .int .i64 0]) (by simp [results, Tryd.results64, go_sem, s1, s2, s3]) rfl ?_
      exact ⟨_, rfl, ⟨g, rfl, by omega, KG.out⟩, B5.out⟩
end Go.Proofs.YtoonkpjddfiopaaDoor

/- Plain laws of the cheapest paths: least costs column by column, once with the program's number for 'never', once with the reference's. No program in sight. -/
namespace Go.Proofs.YtoonkpjddfiopaaDoor
open Go.RowKit
set_option linter.unusedVariables false

/-- the least of N and of f at j places from lo on -/
def mfold (N : Int) (f : Int → Int) (lo : Int) : Nat → Int
  | 0 => N
  | j + 1 => min (mfold N f lo j) (f (lo + j))
theorem mfold_le (N : Int) (f : Int → Int) (lo : Int) (j : Nat) : mfold N f lo j ≤ N := by
  induction j with
  | zero => exact Int.le_refl _
  | succ j ih => rw [mfold]; omega
theorem mfold_ge {N m : Int} {f : Int → Int} {lo : Int} {j : Nat} (hN : m ≤ N) (h : ∀ i : Nat, i < j → m ≤ f (lo + i)) : m ≤ mfold N f lo j := by
  induction j with
  | zero => exact hN
  | succ j ih => rw [mfold]; have := ih (fun i hi => h i (by omega)); have := h j (by omega); omega
theorem mfold_at {N : Int} {f : Int → Int} {lo : Int} {j i : Nat} (h : i < j) : mfold N f lo j ≤ f (lo + i) := by
  induction j with
  | zero => omega
  | succ j ih =>
    rw [mfold]
    by_cases e : i = j
    · subst e; omega
    · have := ih (by omega); omega
theorem mfold_is {N : Int} {f : Int → Int} {lo : Int} {j : Nat} : mfold N f lo j = N ∨ ∃ i : Nat, i < j ∧ mfold N f lo j = f (lo + i) := by
  induction j with
  | zero => exact .inl rfl
  | succ j ih =>
    rw [mfold]
    rcases Int.le_total (mfold N f lo j) (f (lo + j)) with h | h
    · rw [Int.min_eq_left h]
      rcases ih with e | ⟨i, hi, e⟩
      · exact .inl e
      · exact .inr ⟨i, by omega, e⟩
    · rw [Int.min_eq_right h]
      exact .inr ⟨j, by omega, rfl⟩

/-- what it costs to go on to a row -/
def goTo (d : Int → Int) (y : Int) : Int → Int := fun u => d u + if u = y then 0 else 1
/-- the first of the rows next to a row, and how many there are -/
def nxLo (y : Int) : Int := if y - 1 < 0 then 0 else y - 1
def nxN (H y : Int) : Nat := ((if y + 1 < H - 1 then y + 1 else H - 1) - nxLo y + 1).toNat
/-- the least costs to the last column: k columns are to the right -/
def gcol (N W H : Int) (c : Int → Int → Int) (F : Int → Int → Bool) : Nat → Int → Int
  | 0, y => if F (W - 1) y then N else min (c (W - 1) y) N
  | k + 1, y => if F (W - 1 - (k + 1 : Nat)) y then N else min (mfold N (goTo (gcol N W H c F k) y) (nxLo y) (nxN H y) + c (W - 1 - (k + 1 : Nat)) y) N
/-- the same as the reference has it -/
def rgo (N H cc : Int) (d : Int → Int) (y : Int) : Int → Int := fun u => if u < 0 ∨ H ≤ u ∨ d u = N then N else cc + d u + if u = y then 0 else 1
def rcol (N W H : Int) (c : Int → Int → Int) (F : Int → Int → Bool) : Nat → Int → Int
  | 0, y => if F (W - 1) y then N else c (W - 1) y
  | k + 1, y => if F (W - 1 - (k + 1 : Nat)) y then N else mfold N (rgo N H (c (W - 1 - (k + 1 : Nat)) y) (rcol N W H c F k) y) (y - 1) 3
/-- two numbers are the same cost, or both are none -/
def Alike (N M b x y : Int) : Prop := (0 ≤ x ∧ x ≤ b ∧ y = x) ∨ (x = N ∧ y = M)
theorem nx_in {H y : Int} (h0 : 0 ≤ y) (h : y < H) (i : Nat) : i < nxN H y ↔ nxLo y + i < H ∧ nxLo y + i ≤ y + 1 := by
  unfold nxN nxLo; split <;> split <;> omega
theorem alike_N (N M b : Int) : Alike N M b N M := .inr ⟨rfl, rfl⟩
theorem alike_min {N M b x y x' y' : Int} (hN : b < N) (hM : b < M) (h : Alike N M b x y) (h' : Alike N M b x' y') : Alike N M b (min x x') (min y y') := by
  rcases h with ⟨h1, h2, h3⟩ | ⟨h1, h2⟩ <;> rcases h' with ⟨g1, g2, g3⟩ | ⟨g1, g2⟩
  · left; omega
  · left; omega
  · left; omega
  · right; omega
theorem alike_capR {N M b x y : Int} (hM : b < M) (h : Alike N M b x y) : Alike N M b x (min y M) := by
  rcases h with ⟨h1, h2, h3⟩ | ⟨h1, h2⟩
  · left; omega
  · right; omega
theorem alike_term {N M b d e cc z : Int} (hN : b + 3 < N) (hc0 : 0 ≤ cc) (hc : cc ≤ 2) (z0 : 0 ≤ z) (z1 : z ≤ 1) (hM : b + 3 < M) (h : Alike N M b d e) :
    Alike N M (b + 3) (min (d + z + cc) N) (if e = M then M else cc + e + z) := by
  rcases h with ⟨h1, h2, h3⟩ | ⟨h1, h2⟩
  · left; rw [if_neg (by omega)]; omega
  · right; rw [if_pos h2]; exact ⟨by omega, rfl⟩
theorem mfold_cap {N cc : Int} (hc0 : 0 ≤ cc) (f : Int → Int) (lo : Int) (j : Nat) : min (mfold N f lo j + cc) N = mfold N (fun t => min (f t + cc) N) lo j := by
  induction j with
  | zero => simp only [mfold]; omega
  | succ j ih =>
    simp only [mfold]
    rw [← ih]
    generalize mfold N f lo j = a
    generalize f (lo + j) = b
    omega
theorem step_alike {N M H b cc : Int} {d e : Int → Int} {y : Int} (h0 : 0 ≤ y) (h : y < H) (hN : b + 3 < N) (hM : b + 3 < M) (hc0 : 0 ≤ cc) (hc : cc ≤ 2) (ha : ∀ t, 0 ≤ t → t < H → Alike N M b (d t) (e t)) :
    Alike N M (b + 3) (min (mfold N (goTo d y) (nxLo y) (nxN H y) + cc) N) (mfold M (rgo M H cc e y) (y - 1) 3) := by
  have e3 : mfold M (rgo M H cc e y) (y - 1) 3 = min (min (min M (rgo M H cc e y (y - 1))) (rgo M H cc e y y)) (rgo M H cc e y (y + 1)) := by
    simp only [mfold]
    rw [show y - 1 + ((0 : Nat) : Int) = y - 1 by omega, show y - 1 + ((1 : Nat) : Int) = y by omega, show y - 1 + ((2 : Nat) : Int) = y + 1 by omega]
  rw [e3, mfold_cap hc0]
  have g0 : goTo d y y = d y + 0 := by unfold goTo; rw [if_pos rfl]
  have gm : goTo d y (y - 1) = d (y - 1) + 1 := by unfold goTo; rw [if_neg (by omega)]
  have gp : goTo d y (y + 1) = d (y + 1) + 1 := by unfold goTo; rw [if_neg (by omega)]
  have r0 : rgo M H cc e y y = if e y = M then M else cc + e y + 0 := by
    unfold rgo; rw [if_pos rfl]
    by_cases h1 : e y = M
    · rw [if_pos (.inr (.inr h1)), if_pos h1]
    · rw [if_neg (by omega), if_neg h1]
  have T0 := alike_term (z := 0) hN hc0 hc (by omega) (by omega) hM (ha y h0 h)
  have rm : 0 ≤ y - 1 → rgo M H cc e y (y - 1) = if e (y - 1) = M then M else cc + e (y - 1) + 1 := by
    intro hm
    unfold rgo; rw [if_neg (by omega : ¬ y - 1 = y)]
    by_cases h1 : e (y - 1) = M
    · rw [if_pos (.inr (.inr h1)), if_pos h1]
    · rw [if_neg (by omega), if_neg h1]
  have rp : y + 1 < H → rgo M H cc e y (y + 1) = if e (y + 1) = M then M else cc + e (y + 1) + 1 := by
    intro hp
    unfold rgo; rw [if_neg (by omega : ¬ y + 1 = y)]
    by_cases h1 : e (y + 1) = M
    · rw [if_pos (.inr (.inr h1)), if_pos h1]
    · rw [if_neg (by omega), if_neg h1]
  by_cases hm : 0 ≤ y - 1
  · have Tm := alike_term (z := 1) hN hc0 hc (by omega) (by omega) hM (ha (y - 1) hm (by omega))
    have lo : nxLo y = y - 1 := by unfold nxLo; rw [if_neg (by omega)]
    rw [rm hm, r0]
    by_cases hp : y + 1 < H
    · have Tp := alike_term (z := 1) hN hc0 hc (by omega) (by omega) hM (ha (y + 1) (by omega) hp)
      have nn : nxN H y = 3 := by
        have := (nx_in h0 h 2).2 (by rw [lo]; omega)
        have := mt (nx_in h0 h 3).1 (by rw [lo]; omega)
        omega
      rw [rp hp, nn, lo]
      simp only [mfold]
      rw [show y - 1 + ((0 : Nat) : Int) = y - 1 by omega, show y - 1 + ((1 : Nat) : Int) = y by omega, show y - 1 + ((2 : Nat) : Int) = y + 1 by omega, g0, gm, gp]
      exact alike_min hN hM (alike_min hN hM (alike_min hN hM (alike_N _ _ _) Tm) T0) Tp
    · have rq : rgo M H cc e y (y + 1) = M := by unfold rgo; rw [if_pos (by omega)]
      have nn : nxN H y = 2 := by
        have := (nx_in h0 h 1).2 (by rw [lo]; omega)
        have := mt (nx_in h0 h 2).1 (by rw [lo]; omega)
        omega
      rw [rq, nn, lo]
      simp only [mfold]
      rw [show y - 1 + ((0 : Nat) : Int) = y - 1 by omega, show y - 1 + ((1 : Nat) : Int) = y by omega, g0, gm]
      exact alike_capR hM (alike_min hN hM (alike_min hN hM (alike_N _ _ _) Tm) T0)
  · have rq : rgo M H cc e y (y - 1) = M := by unfold rgo; rw [if_pos (by omega)]
    have lo : nxLo y = y := by unfold nxLo; rw [if_pos (by omega)]; omega
    rw [rq, r0, show min M M = M from Int.min_self M]
    by_cases hp : y + 1 < H
    · have Tp := alike_term (z := 1) hN hc0 hc (by omega) (by omega) hM (ha (y + 1) (by omega) hp)
      have nn : nxN H y = 2 := by
        have := (nx_in h0 h 1).2 (by rw [lo]; omega)
        have := mt (nx_in h0 h 2).1 (by rw [lo]; omega)
        omega
      rw [rp hp, nn, lo]
      simp only [mfold]
      rw [show y + ((0 : Nat) : Int) = y by omega, show y + ((1 : Nat) : Int) = y + 1 by omega, g0, gp]
      exact alike_min hN hM (alike_min hN hM (alike_N _ _ _) T0) Tp
    · have rs : rgo M H cc e y (y + 1) = M := by unfold rgo; rw [if_pos (by omega)]
      have nn : nxN H y = 1 := by
        have := (nx_in h0 h 0).2 (by rw [lo]; omega)
        have := mt (nx_in h0 h 1).1 (by rw [lo]; omega)
        omega
      rw [rs, nn, lo]
      simp only [mfold]
      rw [show y + ((0 : Nat) : Int) = y by omega, g0]
      exact alike_capR hM (alike_min hN hM (alike_N _ _ _) T0)
theorem cols_alike {N M W H : Int} {c : Int → Int → Int} {F : Int → Int → Bool} (hc : ∀ x y, 0 ≤ c x y ∧ c x y ≤ 2) (hN : 3 * W < N) (hM : 3 * W < M) (k : Nat) (hk : (k : Int) < W) (y : Int) (h0 : 0 ≤ y) (h : y < H) :
    Alike N M (3 * (k + 1)) (gcol N W H c F k y) (rcol M W H c F k y) := by
  induction k generalizing y with
  | zero =>
    rw [gcol, rcol]
    have := hc (W - 1) y
    unfold Alike
    split <;> omega
  | succ k ih =>
    rw [gcol, rcol]
    by_cases hF : F (W - 1 - (k + 1 : Nat)) y = true
    · rw [if_pos hF, if_pos hF]; exact .inr ⟨rfl, rfl⟩
    · rw [if_neg hF, if_neg hF]
      have hcc := hc (W - 1 - (k + 1 : Nat)) y
      have := step_alike (N := N) (M := M) (H := H) (b := 3 * (k + 1)) (cc := c (W - 1 - (k + 1 : Nat)) y) (d := gcol N W H c F k) (e := rcol M W H c F k) h0 h (by omega) (by omega) hcc.1 hcc.2 (fun t a b => ih (by omega) t a b)
      rw [show (3 * (((k + 1 : Nat) : Int) + 1)) = 3 * ((k : Int) + 1) + 3 by omega]
      exact this
end Go.Proofs.YtoonkpjddfiopaaDoor
