/- Texts of mine in build order: Lib, S25, Lib2, S16, S17, S18, S1, W1, S2, S3, W2, W3, W4, W5, W6, W7, W8, W9. Conditions: each theorem's own. -/
import Derived.WalkKit
import Derived.WalkSpells
import Derived.WalkLawsBesides
import Derived.Lib.Hide
import Derived.Deep.Draws
import Derived.Laws.Rows
import Derived.Laws.Tables
import Derived.Maps.Own
import Derived.Maps.OwnOps
import Derived.Maps.Views
import Derived.Test.YtdimlpcbbkokiaaGreatRows
import Derived.BigQuiet
import Derived.Deep.QuietTactic
import Derived.StillTailTactics
import Derived.BigRegion
import Derived.Deep.WholeRow
import Derived.RegionTactic
import Derived.Deep.DeepCutAuto
import Derived.Deep.Cut
import Derived.RangeFuncNested
import Derived.RangeFuncBound
import Derived.RangeFuncCalls
import Derived.RangeFuncLeaves
import Derived.RangeFuncFrom
import Derived.Shelf.Abstract
import Derived.Shelf.RegionOpen
import Derived.OwnWalkIn
import Derived.TacticsInMore
import Derived.LoopNIn
import Derived.LoopIn
import Derived.BigGuardIn
/- Plain lemmas on memory and on numbers, for all walks of this seat: whole blocks, arrays as functions of an index, sums and counts. No program in sight. -/
namespace Go.Proofs.YtdimlpcbbkokiaaGreat
open Go.RowKit
set_option linter.unusedVariables false

/-! ### whole blocks: block g is just these cells of element type t, and none of them is frozen -/
def Blk (w : World) (g : Nat) (t : TypeId) (cs : Array Value) : Prop := w.heap[g]? = some (.cells cs t (0, 0))
section
variable {w w' : World} {g : Nat} {t : TypeId} {cs : Array Value}
theorem Blk.lt (h : Blk w g t cs) : g < w.heap.size := (Array.getElem?_eq_some_iff.1 h).1
theorem Blk.cell (h : Blk w g t cs) (i : Nat) : w.cell? ⟨g, i, none⟩ = cs[i]? := cell_of_row w g i cs t (0, 0) h
theorem Blk.frozen (h : Blk w g t cs) (i : Nat) : w.frozen? ⟨g, i, none⟩ = false := frozen_of_row w g i cs t h
/-- what leaves the heap alone at g leaves the block alone -/
theorem Blk.move (h : Blk w g t cs) (e : w'.heap[g]? = w.heap[g]?) : Blk w' g t cs := e.trans h
theorem Blk.new (w : World) (t : TypeId) (cs : Array Value) : Blk (w.alloc (.cells cs t)) w.heap.size t cs := heap_alloc_new w _
theorem Blk.new' {w : World} {n : Nat} (hn : w.heap.size = n) (t : TypeId) (cs : Array Value) : Blk (w.alloc (.cells cs t)) n t cs := hn ▸ heap_alloc_new w _
theorem Blk.drew (h : Blk w g t cs) : Blk w.drew g t cs := h.move rfl
theorem Blk.drewN (h : Blk w g t cs) (n : Nat) : Blk (w.drewN n) g t cs := h.move rfl
theorem Blk.alloc (h : Blk w g t cs) (o : Obj) : Blk (w.alloc o) g t cs := h.move (Below.heap_alloc w o g h.lt)
theorem Blk.set_ (h : Blk w g t cs) (i : Nat) (u : Value) : Blk (w.setCell ⟨g, i, none⟩ u) g t (cs.setIfInBounds i u) := heap_setCell_same w g i cs t u h
theorem Blk.far (h : Blk w g t cs) {p : Addr} (hp : g ≠ p.block) (u : Value) : Blk (w.setCell p u) g t cs := h.move (heap_setCell_other w p g u hp)
theorem Blk.setRow (h : Blk w g t cs) (cs' : Array Value) : Blk (w.setRow g cs') g t cs' := setRow_heap w g cs cs' t (0, 0) h
theorem Blk.farRow (h : Blk w g t cs) {g' : Nat} (hg : g ≠ g') (cs' : Array Value) : Blk (w.setRow g' cs') g t cs := h.move (setRow_other w g' g cs' hg)
theorem Blk.below {B : Nat} (h : Blk w g t cs) (hb : Below B w w') (hg : g < B) : Blk w' g t cs := h.move (hb.block g hg)
theorem Blk.below' (h : Blk w g t cs) (hb : Below w.heap.size w w') : Blk w' g t cs := h.below hb h.lt
theorem Blk.grown {row : Option Nat} (h : Blk w g t cs) (hb : w.grownBy w' row) (hg : some g ≠ row) : Blk w' g t cs := h.move (hb.block g h.lt hg)
end
theorem below_drewN {B : Nat} {a w : World} (h : Below B a w) (n : Nat) : Below B a (w.drewN n) := h.trans ⟨rfl, rfl, rfl, Nat.le_refl _, fun _ _ => rfl⟩
theorem below_setRow {B : Nat} {a w : World} (h : Below B a w) {g : Nat} (hg : B ≤ g) (cs : Array Value) : Below B a (w.setRow g cs) :=
  h.trans ⟨rfl, rfl, rfl, by simp, fun k hk => setRow_other w g k cs (by omega)⟩
/-- behind a callee that has left all of its caller's memory alone -/
theorem below_call {B : Nat} {a w w' : World} (h : Below B a w) (hB : B ≤ w.heap.size) (hc : Below w.heap.size w w') : Below B a w' := h.trans (hc.mono hB)

/-! ### cells as a function of their index -/
def cellsF (n : Nat) (f : Int → Value) : Array Value := ((List.range n).map fun (j : Nat) => f (j : Int)).toArray
theorem cellsF_size (n f) : (cellsF n f).size = n := by simp [cellsF]
theorem cellsF_get {n f i} (h : i < n) : (cellsF n f)[i]? = some (f i) := by simp [cellsF, h]
theorem cellsF_none {n f i} (h : n ≤ i) : (cellsF n f)[i]? = none := by simp [cellsF]; omega
theorem cellsF_at {n : Nat} {f : Int → Value} {i : Int} (h0 : 0 ≤ i) (h : i < n) : (cellsF n f)[i.toNat]? = some (f i) := by
  rw [cellsF_get (by omega), Int.toNat_of_nonneg h0]
theorem cellsF_congr {n : Nat} {f g : Int → Value} (h : ∀ j : Int, 0 ≤ j → j < n → f j = g j) : cellsF n f = cellsF n g := by
  unfold cellsF; congr 1; exact List.map_congr_left (fun j hj => h j (by omega) (by have := List.mem_range.1 hj; omega))
theorem cellsF_set (n f) (i : Int) (h0 : 0 ≤ i) (v) : (cellsF n f).setIfInBounds i.toNat v = cellsF n (fun j => if j = i then v else f j) := by
  apply Array.ext_getElem?
  intro j
  rw [Array.getElem?_setIfInBounds, cellsF_size]
  by_cases hj : j < n
  · rw [cellsF_get hj]
    by_cases e : i.toNat = j
    · have e' : (j : Int) = i := by omega
      subst e; rw [if_pos rfl, if_pos hj, cellsF_get hj, if_pos e']
    · have e' : ¬ (j : Int) = i := by omega
      rw [if_neg e, cellsF_get hj, if_neg e']
  · rw [cellsF_none (by omega)]
    by_cases e : i.toNat = j
    · rw [if_pos e, if_neg (by omega), cellsF_none (by omega)]
    · rw [if_neg e, cellsF_none (by omega)]
theorem cellsF_one (n : Nat) (f : Int → Value) (h : ∀ j : Int, 0 ≤ j → j < n → (f j).oneCell' = true) : (cellsF n f).all (·.oneCell') = true := by
  rw [Array.all_eq_true_iff_forall_mem]
  intro v hv
  simp [cellsF] at hv
  obtain ⟨j, hj, rfl⟩ := hv
  exact h j (by omega) (by omega)
theorem cellsF_eq {n : Nat} {cs : Array Value} {f : Int → Value} (hs : cs.size = n) (h : ∀ j : Nat, j < n → cs[j]? = some (f j)) : cs = cellsF n f := by
  apply Array.ext_getElem?
  intro j
  by_cases hj : j < n
  · rw [h j hj, cellsF_get hj]
  · rw [cellsF_none (by omega)]; simp; omega
theorem replicate_cellsF (n : Nat) (v : Value) : Array.replicate n v = cellsF n (fun _ => v) :=
  cellsF_eq (by simp) fun j hj => by simp [hj]
/-- a block of bytes, a block of ints -/
def u8s (n : Nat) (q : Int → Int) : Array Value := cellsF n fun j => .int .u8 (q j)
def i64s (n : Nat) (q : Int → Int) : Array Value := cellsF n fun j => .int .i64 (q j)
theorem u8s_size (n q) : (u8s n q).size = n := cellsF_size _ _
theorem i64s_size (n q) : (i64s n q).size = n := cellsF_size _ _
theorem u8s_at {n : Nat} {q : Int → Int} {i : Int} (h0 : 0 ≤ i) (h : i < n) : (u8s n q)[i.toNat]? = some (.int .u8 (q i)) := cellsF_at h0 h
theorem i64s_at {n : Nat} {q : Int → Int} {i : Int} (h0 : 0 ≤ i) (h : i < n) : (i64s n q)[i.toNat]? = some (.int .i64 (q i)) := cellsF_at h0 h
theorem u8s_congr {n : Nat} {q r : Int → Int} (h : ∀ j : Int, 0 ≤ j → j < n → q j = r j) : u8s n q = u8s n r := cellsF_congr fun j a b => by rw [h j a b]
theorem i64s_congr {n : Nat} {q r : Int → Int} (h : ∀ j : Int, 0 ≤ j → j < n → q j = r j) : i64s n q = i64s n r := cellsF_congr fun j a b => by rw [h j a b]
theorem u8s_set (n q) (i : Int) (h0 : 0 ≤ i) (v : Int) : (u8s n q).setIfInBounds i.toNat (.int .u8 v) = u8s n (fun j => if j = i then v else q j) := by
  unfold u8s; rw [cellsF_set n _ i h0]; congr 1; funext j; show _ = Value.int _ (if j = i then v else q j); split <;> rfl
theorem i64s_set (n q) (i : Int) (h0 : 0 ≤ i) (v : Int) : (i64s n q).setIfInBounds i.toNat (.int .i64 v) = i64s n (fun j => if j = i then v else q j) := by
  unfold i64s; rw [cellsF_set n _ i h0]; congr 1; funext j; show _ = Value.int _ (if j = i then v else q j); split <;> rfl
theorem u8s_one (n q) : (u8s n q).all (·.oneCell') = true := cellsF_one _ _ fun _ _ _ => rfl
theorem i64s_one (n q) : (i64s n q).all (·.oneCell') = true := cellsF_one _ _ fun _ _ _ => rfl
theorem u8s_zero (n : Nat) : Array.replicate n (Value.int .u8 0) = u8s n (fun _ => 0) := replicate_cellsF _ _
theorem i64s_zero (n : Nat) : Array.replicate n (Value.int .i64 0) = i64s n (fun _ => 0) := replicate_cellsF _ _
def upd (q : Int → Int) (i v : Int) : Int → Int := fun j => if j = i then v else q j
theorem Blk.u8set {w : World} {g t n : Nat} {q : Int → Int} (h : Blk w g t (u8s n q)) (i : Int) (h0 : 0 ≤ i) (v : Int) : Blk (w.setCell ⟨g, i.toNat, none⟩ (.int .u8 v)) g t (u8s n (upd q i v)) := by
  have := h.set_ i.toNat (.int .u8 v); rwa [u8s_set _ _ _ h0] at this
theorem Blk.i64set {w : World} {g t n : Nat} {q : Int → Int} (h : Blk w g t (i64s n q)) (i : Int) (h0 : 0 ≤ i) (v : Int) : Blk (w.setCell ⟨g, i.toNat, none⟩ (.int .i64 v)) g t (i64s n (upd q i v)) := by
  have := h.set_ i.toNat (.int .i64 v); rwa [i64s_set _ _ _ h0] at this
theorem Blk.u8at {w : World} {g t n : Nat} {q : Int → Int} (h : Blk w g t (u8s n q)) {i : Int} (h0 : 0 ≤ i) (hi : i < n) : w.cell? ⟨g, i.toNat, none⟩ = some (.int .u8 (q i)) := by rw [h.cell, u8s_at h0 hi]
theorem Blk.i64at {w : World} {g t n : Nat} {q : Int → Int} (h : Blk w g t (i64s n q)) {i : Int} (h0 : 0 ≤ i) (hi : i < n) : w.cell? ⟨g, i.toNat, none⟩ = some (.int .i64 (q i)) := by rw [h.cell, i64s_at h0 hi]

theorem Blk.u8conv {w : World} {g t n : Nat} {q r : Int → Int} (h : Blk w g t (u8s n q)) (he : ∀ j : Int, 0 ≤ j → j < n → q j = r j) : Blk w g t (u8s n r) := u8s_congr he ▸ h
theorem Blk.i64conv {w : World} {g t n : Nat} {q r : Int → Int} (h : Blk w g t (i64s n q)) (he : ∀ j : Int, 0 ≤ j → j < n → q j = r j) : Blk w g t (i64s n r) := i64s_congr he ▸ h
theorem upd_at (q : Int → Int) (i v : Int) : upd q i v i = v := by simp [upd]
theorem upd_ne {q : Int → Int} {i v j : Int} (h : j ≠ i) : upd q i v j = q j := by simp [upd, h]

/-! ### a slice that reads as a function of the index -/
def Arr (w : World) (B : Nat) (A : Option Addr) (n : Nat) (f : Int → Value) : Prop :=
  0 < n → ∃ b off, A = some ⟨b, off, none⟩ ∧ b < B ∧ ∀ i : Int, 0 ≤ i → i < n → w.cell? ⟨b, off + i.toNat, none⟩ = some (f i)
def ArrB (w : World) (B : Nat) (A : Option Addr) (n : Nat) (q : Int → Int) : Prop := Arr w B A n fun j => .int .u8 (q j)
def ArrI (w : World) (B : Nat) (A : Option Addr) (n : Nat) (q : Int → Int) : Prop := Arr w B A n fun j => .int .i64 (q j)
section
variable {w w' : World} {B B' n : Nat} {A : Option Addr} {f : Int → Value} {q : Int → Int}
theorem Arr.nil : Arr w B A 0 f := fun h => absurd h (by omega)
theorem Arr.keep (h : Arr w B A n f) (hk : ∀ p : Addr, p.block < B → w'.cell? p = w.cell? p) (hB : B ≤ B') : Arr w' B' A n f := fun hn => by
  obtain ⟨b, off, e, hb, hc⟩ := h hn
  exact ⟨b, off, e, by omega, fun i h0 hi => (hk _ hb).trans (hc i h0 hi)⟩
theorem Arr.more (h : Arr w B A n f) (hB : B ≤ B') : Arr w B' A n f := h.keep (fun _ _ => rfl) hB
theorem Arr.below (h : Arr w B A n f) (hb : Below B w w') : Arr w' B A n f := h.keep (fun _ hp => hb.cell hp) (Nat.le_refl _)
theorem Arr.drewN (h : Arr w B A n f) (k : Nat) : Arr (w.drewN k) B A n f := h
theorem Arr.congr {g : Int → Value} (h : Arr w B A n f) (he : ∀ i : Int, 0 ≤ i → i < n → f i = g i) : Arr w B A n g := fun hn => by
  obtain ⟨b, off, e, hb, hc⟩ := h hn
  exact ⟨b, off, e, hb, fun i h0 hi => by rw [hc i h0 hi, he i h0 hi]⟩
theorem Arr.at_ (h : Arr w B A n f) {i : Int} (h0 : 0 ≤ i) (hi : i < n) : ∃ b off, A = some ⟨b, off, none⟩ ∧ b < B ∧ w.cell? ⟨b, off + i.toNat, none⟩ = some (f i) := by
  obtain ⟨b, off, e, hb, hc⟩ := h (by omega)
  exact ⟨b, off, e, hb, hc i h0 hi⟩
theorem Blk.arr {g t : Nat} (h : Blk w g t (cellsF n f)) (hB : g < B) : Arr w B (some ⟨g, 0, none⟩) n f := fun _ =>
  ⟨g, 0, rfl, hB, fun i h0 hi => by rw [h.cell, Nat.zero_add, cellsF_at h0 hi]⟩
theorem Blk.arrB {g t : Nat} (h : Blk w g t (u8s n q)) (hB : g < B) : ArrB w B (some ⟨g, 0, none⟩) n q := Blk.arr h hB
theorem Blk.arrI {g t : Nat} (h : Blk w g t (i64s n q)) (hB : g < B) : ArrI w B (some ⟨g, 0, none⟩) n q := Blk.arr h hB
theorem ArrB.nil : ArrB w B A 0 q := Arr.nil
theorem ArrB.more (h : ArrB w B A n q) (hB : B ≤ B') : ArrB w B' A n q := Arr.more h hB
theorem ArrB.below (h : ArrB w B A n q) (hb : Below B w w') : ArrB w' B A n q := Arr.below h hb
theorem ArrB.to (h : ArrB w w.heap.size A n q) (hb : Below w.heap.size w w') : ArrB w' w'.heap.size A n q := Arr.more (Arr.below h hb) hb.size
theorem ArrB.at_ (h : ArrB w B A n q) {i : Int} (h0 : 0 ≤ i) (hi : i < n) : ∃ b off, A = some ⟨b, off, none⟩ ∧ b < B ∧ w.cell? ⟨b, off + i.toNat, none⟩ = some (.int .u8 (q i)) := Arr.at_ h h0 hi
theorem ArrB.congr {r : Int → Int} (h : ArrB w B A n q) (he : ∀ i : Int, 0 ≤ i → i < n → q i = r i) : ArrB w B A n r := Arr.congr h fun i a b => by rw [he i a b]
theorem ArrI.nil : ArrI w B A 0 q := Arr.nil
theorem ArrI.more (h : ArrI w B A n q) (hB : B ≤ B') : ArrI w B' A n q := Arr.more h hB
theorem ArrI.below (h : ArrI w B A n q) (hb : Below B w w') : ArrI w' B A n q := Arr.below h hb
theorem ArrI.to (h : ArrI w w.heap.size A n q) (hb : Below w.heap.size w w') : ArrI w' w'.heap.size A n q := Arr.more (Arr.below h hb) hb.size
theorem ArrI.at_ (h : ArrI w B A n q) {i : Int} (h0 : 0 ≤ i) (hi : i < n) : ∃ b off, A = some ⟨b, off, none⟩ ∧ b < B ∧ w.cell? ⟨b, off + i.toNat, none⟩ = some (.int .i64 (q i)) := Arr.at_ h h0 hi
theorem ArrI.congr {r : Int → Int} (h : ArrI w B A n q) (he : ∀ i : Int, 0 ≤ i → i < n → q i = r i) : ArrI w B A n r := Arr.congr h fun i a b => by rw [he i a b]
end
/-- bytes -/
def IsB (q : Int → Int) : Prop := ∀ i, 0 ≤ q i ∧ q i ≤ 255
/-- pixels -/
def Is01 (q : Int → Int) : Prop := ∀ i, q i = 0 ∨ q i = 1

/-! ### endings -/
theorem ret_int {k : IntKind} {a b : Int} (h : a = b) : Ending.returned (.int k a) = .returned (.int k b) := by rw [h]
theorem ret_bool {a b : Bool} (h : a = b) : Ending.returned (.bool a) = .returned (.bool b) := by rw [h]

/-! ### sums, counts, all -/
def sumN : Nat → (Int → Int) → Int
  | 0, _ => 0
  | n + 1, f => sumN n f + f n
def allN : Nat → (Int → Bool) → Bool
  | 0, _ => true
  | n + 1, f => allN n f && f n
theorem allN_iff {n : Nat} {f : Int → Bool} : allN n f = true ↔ ∀ i : Int, 0 ≤ i → i < n → f i = true := by
  induction n with
  | zero => simp [allN]; intro i h1 h2; omega
  | succ n ih =>
    rw [allN, Bool.and_eq_true, ih]
    constructor
    · rintro ⟨h1, h2⟩ i h0 hi
      by_cases e : i = n
      · subst e; exact h2
      · exact h1 i h0 (by omega)
    · intro h
      exact ⟨fun i h0 hi => h i h0 (by omega), h n (by omega) (by omega)⟩
theorem sumN_congr {n : Nat} {f g : Int → Int} (h : ∀ i : Int, 0 ≤ i → i < n → f i = g i) : sumN n f = sumN n g := by
  induction n with
  | zero => rfl
  | succ n ih => rw [sumN, sumN, ih (fun i a b => h i a (by omega)), h n (by omega) (by omega)]
theorem sumN_bd {n : Nat} {f : Int → Int} {m : Int} (h : ∀ i : Int, 0 ≤ i → i < n → 0 ≤ f i ∧ f i ≤ m) : 0 ≤ sumN n f ∧ sumN n f ≤ n * m := by
  induction n with
  | zero => simp [sumN]
  | succ n ih =>
    have h1 := ih (fun i a b => h i a (by omega))
    have h2 := h n (by omega) (by omega)
    have e : ((n + 1 : Nat) : Int) * m = n * m + m := by rw [Int.natCast_add, Int.add_mul]; simp
    rw [sumN, e]
    omega

/-! ### places in a grid -/
theorem idx_lt {x y W H : Int} (hx0 : 0 ≤ x) (hx : x < W) (hy0 : 0 ≤ y) (hy : y < H) : 0 ≤ y * W + x ∧ y * W + x < H * W ∧ 0 ≤ y * W := by
  have h1 : 0 ≤ y * W := Int.mul_nonneg hy0 (by omega)
  have h2 : (y + 1) * W ≤ H * W := Int.mul_le_mul_of_nonneg_right (by omega) (by omega)
  rw [Int.add_mul] at h2
  omega
theorem idx_div {x y W : Int} (hx0 : 0 ≤ x) (hx : x < W) : (y * W + x) / W = y := by
  rw [Int.add_comm, Int.mul_comm, Int.add_mul_ediv_left _ _ (by omega), Int.ediv_eq_zero_of_lt hx0 hx]; omega
theorem idx_mod {x y W : Int} (hx0 : 0 ≤ x) (hx : x < W) : (y * W + x) % W = x := by
  rw [Int.add_comm, Int.mul_comm, Int.add_mul_emod_self_left, Int.emod_eq_of_lt hx0 hx]
theorem idx_of {k W H : Int} (h0 : 0 ≤ k) (hW : 0 < W) (h : k < H * W) : ∃ x y, 0 ≤ x ∧ x < W ∧ 0 ≤ y ∧ y < H ∧ k = y * W + x ∧ y = k / W ∧ x = k % W := by
  refine ⟨k % W, k / W, Int.emod_nonneg _ (by omega), Int.emod_lt_of_pos _ hW, Int.ediv_nonneg h0 (by omega), Int.ediv_lt_of_lt_mul hW h, ?_, rfl, rfl⟩
  have := Int.emod_add_mul_ediv k W
  rw [Int.mul_comm (k / W)]; omega
theorem idx_inj {x y u v W : Int} (hx0 : 0 ≤ x) (hx : x < W) (hu0 : 0 ≤ u) (hu : u < W) (h : y * W + x = v * W + u) : x = u ∧ y = v := by
  have a := idx_mod (y := y) hx0 hx
  have b := idx_mod (y := v) hu0 hu
  have c := idx_div (y := y) hx0 hx
  have d := idx_div (y := v) hu0 hu
  rw [h] at a c
  exact ⟨a.symm.trans b, c.symm.trans d⟩
end Go.Proofs.YtdimlpcbbkokiaaGreat
namespace Go.Proofs.YtdimlpcbbkokiaaGreat
open Go.RowKit
theorem Blk.cells3 {w : World} {g : Nat} {t : TypeId} {a b c : Value} (h : Blk w g t #[a, b, c]) : w.cell? ⟨g, 0, none⟩ = some a ∧ w.cell? ⟨g, 1, none⟩ = some b ∧ w.cell? ⟨g, 2, none⟩ = some c :=
  ⟨by rw [h.cell]; rfl, by rw [h.cell]; rfl, by rw [h.cell]; rfl⟩
theorem Blk.frozen3 {w : World} {g : Nat} {t : TypeId} {a b c : Value} (h : Blk w g t #[a, b, c]) : w.frozen? ⟨g, 0, none⟩ = false ∧ w.frozen? ⟨g, 1, none⟩ = false ∧ w.frozen? ⟨g, 2, none⟩ = false :=
  ⟨h.frozen _, h.frozen _, h.frozen _⟩
theorem Blk.cells1 {w : World} {g : Nat} {t : TypeId} {a : Value} (h : Blk w g t #[a]) : w.cell? ⟨g, 0, none⟩ = some a := by rw [h.cell]; rfl
/-- a value of type Ink or Grey over fresh memory -/
def OutImg (w w' : World) (W H : Int) (q : Int → Int) (v : Value) : Prop :=
  ∃ g, v = .agg #[.int .i64 W, .int .i64 H, .slice (some ⟨g, 0, none⟩) (W * H).toNat (W * H).toNat] ∧ w.heap.size ≤ g ∧ Blk w' g 5 (u8s (W * H).toNat q)
theorem OutImg.mk {w w' : World} {W H : Int} {q : Int → Int} {g : Nat} (h : w.heap.size ≤ g) (hb : Blk w' g 5 (u8s (W * H).toNat q)) :
    OutImg w w' W H q (.agg #[.int .i64 W, .int .i64 H, .slice (some ⟨g, 0, none⟩) (W * H).toNat (W * H).toNat]) := ⟨g, rfl, h, hb⟩
/-- the image that is returned with an error -/
def noImg : Value := .agg #[.int .i64 0, .int .i64 0, .slice none 0 0]
theorem area_bd {W H : Int} (h1 : 0 ≤ W) (h2 : W ≤ 640) (h3 : 0 ≤ H) (h4 : H ≤ 640) : 0 ≤ W * H ∧ W * H ≤ 409600 :=
  ⟨Int.mul_nonneg h1 h3, Int.le_trans (Int.mul_le_mul h2 h4 h3 (by omega)) (by omega)⟩
end Go.Proofs.YtdimlpcbbkokiaaGreat
namespace Go.Proofs.YtdimlpcbbkokiaaGreat
theorem qcall {P : Program} {f : FuncId} {args : Array Value} {w : World} {v : Value}
    (h : Calls P f args w fun e w' => e = .returned v ∧ w = w') : Calls P f args w fun e w'' => e = .returned v ∧ ∃ m, w'' = w.drewN m :=
  h.mono fun _ _ ⟨he, hm⟩ => ⟨he, 0, hm ▸ rfl⟩
theorem qcallN {P : Program} {f : FuncId} {args : Array Value} {w : World} {n : Nat} {v : Value}
    (h : Calls P f args (w.drewN n) fun e w' => e = .returned v ∧ w.drewN n = w') : Calls P f args (w.drewN n) fun e w'' => e = .returned v ∧ ∃ m, w'' = w.drewN m :=
  h.mono fun _ _ ⟨he, hm⟩ => ⟨he, n, hm.symm⟩
theorem qcallA {P : Program} {f : FuncId} {args : Array Value} {w : World} {a n : Nat} {v : Value}
    (h : Calls P f args (w.drewN (a + n)) fun e w' => e = .returned v ∧ w.drewN (a + n) = w') : Calls P f args (w.drewN (a + n)) fun e w'' => e = .returned v ∧ ∃ m, w'' = w.drewN (a + m) :=
  h.mono fun _ _ ⟨he, hm⟩ => ⟨he, n, hm.symm⟩
end Go.Proofs.YtdimlpcbbkokiaaGreat

namespace Go.Proofs.YtdimlpcbbkokiaaGreat
open Go.RowKit
/-- an image over fresh memory, of N pixels -/
def OutN (w w' : World) (W H : Int) (N : Nat) (q : Int → Int) (v : Value) : Prop :=
  ∃ g, v = .agg #[.int .i64 W, .int .i64 H, .slice (some ⟨g, 0, none⟩) N N] ∧ w.heap.size ≤ g ∧ Blk w' g 5 (u8s N q)
theorem OutN.mk {w w' : World} {W H : Int} {N : Nat} {q : Int → Int} {g : Nat} (h : w.heap.size ≤ g) (hb : Blk w' g 5 (u8s N q)) :
    OutN w w' W H N q (.agg #[.int .i64 W, .int .i64 H, .slice (some ⟨g, 0, none⟩) N N]) := ⟨g, rfl, h, hb⟩
/-- a list of numbers as a function of the index -/
def lit (l : List Int) : Int → Int := fun i => l.getD i.toNat 0
theorem isB_lit {l : List Int} (h : l.all (fun x => decide (0 ≤ x ∧ x ≤ 255)) = true) : IsB (lit l) := by
  intro i
  unfold lit
  rw [List.getD_eq_getElem?_getD]
  by_cases hi : i.toNat < l.length
  · rw [List.getElem?_eq_getElem hi]
    have := List.all_eq_true.1 h _ (List.getElem_mem hi)
    simpa using this
  · rw [List.getElem?_eq_none (by omega)]; simp
theorem u8s_lit {l : List Int} : (l.map (Value.int .u8)).toArray = u8s l.length (lit l) :=
  cellsF_eq (by simp) fun j hj => by simp [lit, hj]
theorem i64s_lit {l : List Int} : (l.map (Value.int .i64)).toArray = i64s l.length (lit l) :=
  cellsF_eq (by simp) fun j hj => by simp [lit, hj]
end Go.Proofs.YtdimlpcbbkokiaaGreat

/- Plain: the most common number of a list; what a map of counts reads as. No program in sight. -/
namespace Go.Proofs.YtdimlpcbbkokiaaGreat
open Go.RowKit Go.Maps
set_option linter.unusedVariables false
/-- how often x stands among the first n -/
def cntN (q : Int → Int) : Nat → Int → Int
  | 0, _ => 0
  | n + 1, x => cntN q n x + if q n = x then 1 else 0
theorem cntN_succ (q : Int → Int) (n : Nat) (x : Int) : cntN q (n + 1) x = cntN q n x + if q n = x then 1 else 0 := rfl
theorem keyInt (x : Int) : WideAt.IsKeyLit (.int .i64 x) := trivial
theorem cntN_bd (q : Int → Int) (x : Int) : ∀ n : Nat, 0 ≤ cntN q n x ∧ cntN q n x ≤ n
  | 0 => by simp [cntN]
  | n + 1 => by
    have := cntN_bd q x n
    unfold cntN; split <;> omega
theorem cntN_none {q : Int → Int} {x : Int} : ∀ {n : Nat}, (∀ i : Int, 0 ≤ i → i < n → q i ≠ x) → cntN q n x = 0
  | 0, _ => rfl
  | n + 1, h => by
    unfold cntN
    rw [cntN_none fun i a b => h i a (by omega), if_neg (h n (by omega) (by omega))]; rfl
theorem cntN_congr {q r : Int → Int} {x : Int} : ∀ {n : Nat}, (∀ i : Int, 0 ≤ i → i < n → q i = r i) → cntN q n x = cntN r n x
  | 0, _ => rfl
  | n + 1, h => by
    unfold cntN
    rw [cntN_congr fun i a b => h i a (by omega), h n (by omega) (by omega)]
/-- the most common one, the least of several; 0 if there is none -/
def Mode (C : Int → Int) (m : Int) : Prop := (m = 0 ∧ ∀ x, C x ≤ 0) ∨ (0 < C m ∧ (∀ x, C x ≤ C m) ∧ ∀ x, C x = C m → m ≤ x)
theorem Mode.uniq {C : Int → Int} {m m' : Int} (h : Mode C m) (h' : Mode C m') : m = m' := by
  rcases h with ⟨rfl, h1⟩ | ⟨h1, h2, h3⟩
  · rcases h' with ⟨rfl, -⟩ | ⟨h4, -, -⟩
    · rfl
    · have := h1 m'; omega
  · rcases h' with ⟨rfl, h4⟩ | ⟨h4, h5, h6⟩
    · have := h4 m; omega
    · have a := h2 m'; have b := h5 m
      have := h3 m' (by omega); have := h6 m (by omega); omega
/-- the map of counts -/
def cmD (q : Int → Int) : Nat → DataW Unit
  | 0 => .map []
  | n + 1 => (cmD q n).put (.int .i64 (q n)) (.lit (.int .i64 (cntN q (n + 1) (q n))))
theorem cmD_map (q : Int → Int) : ∀ n, IsMap (cmD q n)
  | 0 => ⟨[], rfl⟩
  | n + 1 => IsMap.put (cmD_map q n) _ _
theorem lit_ne {x y : Int} (h : x ≠ y) : Lit.int .i64 x ≠ Lit.int .i64 y := fun e => h (by cases e; rfl)
theorem cmD_at (q : Int → Int) (x : Int) : ∀ n, (cmD q n).atKey (.int .i64 x) (.lit (.int .i64 0)) = .lit (.int .i64 (cntN q n x))
  | 0 => rfl
  | n + 1 => by
    rw [cmD]
    by_cases e : q n = x
    · subst e
      exact atKey_put_same (cmD_map q n) (keyInt _) _ _
    · rw [atKey_put_other (lit_ne (fun h => e h.symm)), cmD_at q x n, cntN_succ, if_neg e]
      simp
theorem cmD_has (q : Int → Int) (x : Int) : ∀ n, has (cmD q n) (.int .i64 x) = true ↔ 0 < cntN q n x
  | 0 => by simp [cmD, cntN, has]
  | n + 1 => by
    rw [cmD]
    have hb := cntN_bd q x n
    by_cases e : q n = x
    · subst e
      rw [has_put_same (cmD_map q n) (keyInt _), cntN_succ, if_pos rfl]
      simp; omega
    · rw [has_put_other (lit_ne (fun h => e h.symm)), cmD_has q x n, cntN_succ, if_neg e]
      simp
/-- how far the search has come: out is the best of those that have come out -/
def StM (C : Int → Int) (left : Lit → Bool) (out : Int) : Prop :=
  (out = 0 ∧ ∀ x, 0 < C x → left (.int .i64 x) = true) ∨ (0 < C out ∧ ∀ x, 0 < C x → left (.int .i64 x) = false → C x ≤ C out ∧ (C x = C out → out ≤ x))
section
variable {C : Int → Int} {left : Lit → Bool} {out x : Int}
theorem sameKey_int (a b : Int) : (Lit.int .i64 a).sameKey (.int .i64 b) = decide (a = b) := by
  by_cases h : a = b
  · subst h
    rw [decide_eq_true rfl]
    exact WideAt.sameKey_self (keyInt _)
  · rw [decide_eq_false h]
    exact sameKey_ne (lit_ne h)
theorem stM_take (h : StM C left out) (hx : 0 < C x) (hb : C out < C x ∨ (C x = C out ∧ x < out)) : StM C (fun z => left z && !z.sameKey (.int .i64 x)) x := by
  right
  refine ⟨hx, fun y hy hl => ?_⟩
  by_cases e : y = x
  · subst e; exact ⟨Int.le_refl _, fun _ => Int.le_refl _⟩
  · have hly : left (.int .i64 y) = false := by
      simp only [sameKey_int, decide_eq_false e] at hl
      simpa using hl
    rcases h with ⟨rfl, h1⟩ | ⟨h1, h2⟩
    · rw [h1 y hy] at hly; cases hly
    · obtain ⟨a, b⟩ := h2 y hy hly
      exact ⟨by omega, fun e2 => by have := b; omega⟩
theorem stM_keep (h : StM C left out) (hx : 0 < C x) (h0 : C 0 = 0) (hb : ¬ C out < C x) (hb2 : C x = C out → out ≤ x) : StM C (fun z => left z && !z.sameKey (.int .i64 x)) out := by
  rcases h with ⟨rfl, h1⟩ | ⟨h1, h2⟩
  · omega
  · right
    refine ⟨h1, fun y hy hl => ?_⟩
    by_cases e : y = x
    · subst e; exact ⟨by omega, hb2⟩
    · have hly : left (.int .i64 y) = false := by
        simp only [sameKey_int, decide_eq_false e] at hl
        simpa using hl
      exact h2 y hy hly
theorem stM_end (h : StM C left out) (hl : ∀ kl, left kl = false) (hC : ∀ x, 0 ≤ C x) : Mode C out := by
  rcases h with ⟨rfl, h1⟩ | ⟨h1, h2⟩
  · refine .inl ⟨rfl, fun x => ?_⟩
    rcases Int.lt_or_le 0 (C x) with h | h
    · have := h1 x h; rw [hl] at this; cases this
    · exact h
  · refine .inr ⟨h1, fun x => ?_, fun x hx => ?_⟩
    · rcases Int.lt_or_le 0 (C x) with h | h
      · exact (h2 x h (hl _)).1
      · omega
    · exact (h2 x (by omega) (hl _)).2 hx
end
end Go.Proofs.YtdimlpcbbkokiaaGreat

/- More plain lemmas on memory: rows that the call owns. No program in sight. -/
namespace Go.Proofs.YtdimlpcbbkokiaaGreat
open Go.RowKit
set_option linter.unusedVariables false
theorem own_ge {w : World} {base : Nat} {e : TypeId} {size n k : Nat} {v : Value} {xs : List Value} (h : w.ownsRow base e size v n xs) (hk : v.ownBlock = some k) : base ≤ k ∧ k < w.heap.size := by
  rcases h.2 with ⟨rfl, _⟩ | ⟨g, cap, cur, rfl, hb, hh, _⟩
  · simp [Value.ownBlock] at hk
  · simp [Value.ownBlock] at hk
    subst hk
    exact ⟨hb, (Array.getElem?_eq_some_iff.1 hh).1⟩
theorem own_ne {w : World} {base : Nat} {e : TypeId} {size n g : Nat} {v : Value} {xs : List Value} (h : w.ownsRow base e size v n xs) (hg : g < base) : some g ≠ v.ownBlock := fun e => by
  have := (own_ge h e.symm).1; omega
theorem own_below {w w' : World} {base n : Nat} {e : TypeId} {v : Value} {xs : List Value} (h : w.ownsRow base e 1 v n xs) (hb : Below w.heap.size w w') : w'.ownsRow base e 1 v n xs := by
  refine ⟨h.1, ?_⟩
  rcases h.2 with h2 | ⟨g, cap, cur, hv, hg, hh, r⟩
  · exact .inl h2
  · exact .inr ⟨g, cap, cur, hv, hg, (hb.block g (Array.getElem?_eq_some_iff.1 hh).1).trans hh, r⟩
/-- an owned row of one-cell elements, read as a list -/
theorem own_arr {w : World} {base n : Nat} {e : TypeId} {v : Value} {xs : List Value} (h : w.ownsRow base e 1 v n xs) : ∃ A c, v = .slice A n c ∧ n ≤ c ∧ Arr w w.heap.size A n (fun i => xs.getD i.toNat default) := by
  rcases h.2 with ⟨rfl, rfl⟩ | ⟨g, cap, cur, rfl, hb, hh, hc, _, hs, ht⟩
  · exact ⟨none, 0, rfl, Nat.le_refl _, Arr.nil⟩
  · refine ⟨_, _, rfl, hc, fun _ => ⟨g, 0, rfl, (Array.getElem?_eq_some_iff.1 hh).1, fun i h0 hi => ?_⟩⟩
    rw [Nat.zero_add, cell_of_row w g _ cur e (0, 0) hh]
    have hl : xs.length = n := by rw [h.1]; omega
    have hi' : i.toNat < xs.length := by omega
    show cur[i.toNat]? = some (xs.getD i.toNat default)
    rw [List.getD_eq_getElem?_getD, List.getElem?_eq_getElem hi']
    have : xs[i.toNat]? = cur.toList[i.toNat]? := by
      rw [← ht, List.getElem?_take]
      simp; omega
    rw [List.getElem?_eq_getElem hi'] at this
    simpa using this.symm
end Go.Proofs.YtdimlpcbbkokiaaGreat

/- Plain: runs of columns; neighbours that are alike struck from a list. No program in sight. -/
namespace Go.Proofs.YtdimlpcbbkokiaaGreat
open Go.RowKit
set_option linter.unusedVariables false
abbrev Rn := Int × Int × Int
def encR (r : Rn) : List Value := [.int .i64 r.1, .int .i64 r.2.1, .int .i64 r.2.2]
/-- neighbours that are alike are struck -/
def dd : List Rn → List Rn
  | [] => []
  | [a] => [a]
  | a :: b :: t => if a = b then dd (b :: t) else a :: dd (b :: t)
theorem dd_cons_ne (a : Rn) : ∀ t : List Rn, dd (a :: t) ≠ []
  | [] => by simp [dd]
  | b :: t => by
    unfold dd
    split
    · exact dd_cons_ne b t
    · simp
theorem dd_snoc : ∀ (l : List Rn) (a b : Rn), dd (l ++ [a] ++ [b]) = if a = b then dd (l ++ [a]) else dd (l ++ [a]) ++ [b]
  | [], a, b => by
    by_cases h : a = b
    · subst h; simp [dd]
    · simp [dd, h]
  | [c], a, b => by
    have ih := dd_snoc [] a b
    simp only [List.nil_append, List.cons_append] at ih ⊢
    show dd (c :: a :: [b]) = if a = b then dd (c :: [a]) else dd (c :: [a]) ++ [b]
    unfold dd
    by_cases h : c = a
    · rw [if_pos h, if_pos h]; exact ih
    · rw [if_neg h, if_neg h, ih]
      split <;> simp
  | c :: d :: l, a, b => by
    have ih := dd_snoc (d :: l) a b
    simp only [List.cons_append] at ih ⊢
    have e1 : ∀ t, dd (c :: d :: t) = if c = d then dd (d :: t) else c :: dd (d :: t) := fun t => by rw [dd]
    rw [e1, e1, ih]
    by_cases h : c = d
    · rw [if_pos h, if_pos h]
    · rw [if_neg h, if_neg h]
      split <;> simp
theorem mem_dd : ∀ (l : List Rn) (r : Rn), r ∈ dd l ↔ r ∈ l
  | [], r => by simp [dd]
  | [a], r => by simp [dd]
  | a :: b :: t, r => by
    rw [dd]
    by_cases h : a = b
    · rw [if_pos h, mem_dd (b :: t) r]
      subst h; simp
    · rw [if_neg h, List.mem_cons, mem_dd (b :: t) r, List.mem_cons (a := r) (b := a)]
theorem dd_sub : ∀ l : List Rn, (dd l).Sublist l
  | [] => by simp [dd]
  | [a] => by simp [dd]
  | a :: b :: t => by
    rw [dd]
    split
    · exact (dd_sub (b :: t)).cons _
    · exact (dd_sub (b :: t)).cons_cons _
theorem dd_len (l : List Rn) : (dd l).length ≤ l.length := (dd_sub l).length_le
/-- before, by column and first row -/
def ltR (a b : Rn) : Prop := a.1 < b.1 ∨ (a.1 = b.1 ∧ a.2.1 < b.2.1)
def leR (a b : Rn) : Prop := a.1 < b.1 ∨ (a.1 = b.1 ∧ a.2.1 ≤ b.2.1)
theorem leR_trans {a b c : Rn} (h : leR a b) (h' : leR b c) : leR a c := by unfold leR at *; omega
/-- a list in order, of runs that their column and first row tell apart, has each once behind the striking -/
theorem dd_sorted : ∀ (l : List Rn), l.Pairwise leR → (∀ a ∈ l, ∀ b ∈ l, a.1 = b.1 → a.2.1 = b.2.1 → a = b) → (dd l).Pairwise ltR
  | [], _, _ => by simp [dd]
  | [a], _, _ => by simp [dd]
  | a :: b :: t, h, hk => by
    rw [dd]
    have h2 := (List.pairwise_cons.1 h).2
    have hk2 : ∀ x ∈ b :: t, ∀ y ∈ b :: t, x.1 = y.1 → x.2.1 = y.2.1 → x = y := fun x hx y hy => hk x (List.mem_cons_of_mem _ hx) y (List.mem_cons_of_mem _ hy)
    by_cases e : a = b
    · rw [if_pos e]; exact dd_sorted (b :: t) h2 hk2
    · rw [if_neg e, List.pairwise_cons]
      refine ⟨fun r hr => ?_, dd_sorted (b :: t) h2 hk2⟩
      have hr2 := (mem_dd _ r).1 hr
      have hab := (List.pairwise_cons.1 h).1 b (by simp)
      have hne : ltR a b := by
        unfold leR at hab
        unfold ltR
        by_cases c : a.1 = b.1 ∧ a.2.1 = b.2.1
        · exact absurd (hk a (by simp) b (by simp) c.1 c.2) e
        · omega
      rcases List.mem_cons.1 hr2 with rfl | hr3
      · exact hne
      · have := (List.pairwise_cons.1 h2).1 r hr3
        unfold leR at this
        unfold ltR at *
        omega
/-- strictly sorted lists with the same members are one -/
theorem ltR_uniq : ∀ {l l' : List Rn}, l.Pairwise ltR → l'.Pairwise ltR → (∀ r, r ∈ l ↔ r ∈ l') → l = l'
  | [], [], _, _, _ => rfl
  | [], b :: t, _, _, h => by have := (h b).2 (by simp); simp at this
  | a :: t, [], _, _, h => by have := (h a).1 (by simp); simp at this
  | a :: s, b :: t, h1, h2, h => by
    have irr : ∀ x : Rn, ¬ ltR x x := fun x hx => by unfold ltR at hx; omega
    have asy : ∀ x y : Rn, ltR x y → ¬ ltR y x := fun x y hx hy => by unfold ltR at *; omega
    have e : a = b := by
      rcases List.mem_cons.1 ((h a).1 (by simp)) with e | e
      · exact e
      · rcases List.mem_cons.1 ((h b).2 (by simp)) with e2 | e2
        · exact e2.symm
        · exact absurd ((List.pairwise_cons.1 h1).1 b e2) (asy _ _ ((List.pairwise_cons.1 h2).1 a e))
    subst e
    congr 1
    refine ltR_uniq (List.pairwise_cons.1 h1).2 (List.pairwise_cons.1 h2).2 fun r => ?_
    constructor
    · intro hr
      rcases List.mem_cons.1 ((h r).1 (List.mem_cons_of_mem _ hr)) with e | e
      · subst e; exact absurd ((List.pairwise_cons.1 h1).1 r hr) (irr r)
      · exact e
    · intro hr
      rcases List.mem_cons.1 ((h r).2 (List.mem_cons_of_mem _ hr)) with e | e
      · subst e; exact absurd ((List.pairwise_cons.1 h2).1 r hr) (irr r)
      · exact e
/-! ### the run of a column that holds a row -/
/-- its first row -/
def topN (p : Int → Int) (W x : Int) : Nat → Nat
  | 0 => 0
  | y + 1 => if p ((y : Int) * W + x) = 1 then topN p W x y else y + 1
/-- its last row: k rows lie below -/
def botN (p : Int → Int) (W x : Int) : Nat → Nat → Nat
  | 0, y => y
  | k + 1, y => if p (((y : Int) + 1) * W + x) = 1 then botN p W x k (y + 1) else y
theorem topN_le (p : Int → Int) (W x : Int) : ∀ y, topN p W x y ≤ y
  | 0 => Nat.le_refl _
  | y + 1 => by
    unfold topN; split
    · have := topN_le p W x y; omega
    · exact Nat.le_refl _
theorem botN_bd (p : Int → Int) (W x : Int) : ∀ k y, y ≤ botN p W x k y ∧ botN p W x k y ≤ y + k
  | 0, y => by simp [botN]
  | k + 1, y => by
    unfold botN; split
    · have := botN_bd p W x k (y + 1); omega
    · omega
/-- all rows between are ink -/
theorem topN_ink (p : Int → Int) (W x : Int) : ∀ y j, topN p W x y ≤ j → j < y → p ((j : Int) * W + x) = 1
  | 0, j, _, h => by omega
  | y + 1, j, h1, h2 => by
    unfold topN at h1
    by_cases c : p ((y : Int) * W + x) = 1
    · rw [if_pos c] at h1
      by_cases e : j = y
      · subst e; exact c
      · exact topN_ink p W x y j h1 (by omega)
    · rw [if_neg c] at h1; omega
/-- above it is no ink -/
theorem topN_up (p : Int → Int) (W x : Int) : ∀ y j, j + 1 = topN p W x y → p ((j : Int) * W + x) ≠ 1
  | 0, j, h => by simp [topN] at h
  | y + 1, j, h => by
    unfold topN at h
    by_cases c : p ((y : Int) * W + x) = 1
    · rw [if_pos c] at h; exact topN_up p W x y j h
    · rw [if_neg c] at h
      obtain rfl : j = y := by omega
      exact c
theorem botN_ink (p : Int → Int) (W x : Int) : ∀ k y j, y < j → j ≤ botN p W x k y → p ((j : Int) * W + x) = 1
  | 0, y, j, h1, h2 => by simp [botN] at h2; omega
  | k + 1, y, j, h1, h2 => by
    unfold botN at h2
    by_cases c : p (((y : Int) + 1) * W + x) = 1
    · rw [if_pos c] at h2
      by_cases e : j = y + 1
      · subst e; simpa using c
      · exact botN_ink p W x k (y + 1) j (by omega) h2
    · rw [if_neg c] at h2; omega
theorem botN_down (p : Int → Int) (W x : Int) : ∀ k y, botN p W x k y < y + k → p (((botN p W x k y : Nat) + 1 : Int) * W + x) ≠ 1
  | 0, y, h => by simp [botN] at h
  | k + 1, y, h => by
    unfold botN at h ⊢
    by_cases c : p (((y : Int) + 1) * W + x) = 1
    · rw [if_pos c] at h ⊢; exact botN_down p W x k (y + 1) (by omega)
    · rw [if_neg c]; exact c
end Go.Proofs.YtdimlpcbbkokiaaGreat

/- Plain: the runs that the lines of staves meet; an image without some runs. No program in sight. -/
namespace Go.Proofs.YtdimlpcbbkokiaaGreat
open Go.RowKit
set_option linter.unusedVariables false
section
variable (p : Int → Int) (W : Int) (H : Nat) (most : Int)
/-- the run that a line meets in a column, if it is short enough -/
def rnAt (x y : Nat) : List Rn :=
  if p ((y : Int) * W + x) = 1 ∧ (botN p W x (H - 1 - y) y : Int) - (topN p W x y : Int) < most then [((x : Int), (topN p W x y : Int), (botN p W x (H - 1 - y) y : Int))] else []
/-- those of the first columns of a line, of the first lines of a stave, of the first staves -/
def colX (l : Nat → Int) : Nat → List Rn
  | 0 => []
  | x + 1 => colX l x ++ rnAt p W H most x (l x).toNat
def colJ (ln : Nat → Nat → Int) (n : Nat) : Nat → List Rn
  | 0 => []
  | j + 1 => colJ ln n j ++ colX p W H most (ln j) n
def colI (ln : Nat → Nat → Nat → Int) (n : Nat) : Nat → List Rn
  | 0 => []
  | i + 1 => colI ln n i ++ colJ p W H most (ln i) n 5
end
section
variable {p : Int → Int} {W : Int} {H : Nat} {most : Int}
theorem mem_colX {l : Nat → Int} {r : Rn} : ∀ {n : Nat}, r ∈ colX p W H most l n ↔ ∃ x, x < n ∧ r ∈ rnAt p W H most x (l x).toNat
  | 0 => by simp [colX]
  | n + 1 => by
    rw [colX, List.mem_append, mem_colX]
    constructor
    · rintro (⟨x, h1, h2⟩ | h)
      · exact ⟨x, by omega, h2⟩
      · exact ⟨n, by omega, h⟩
    · rintro ⟨x, h1, h2⟩
      by_cases e : x = n
      · subst e; exact .inr h2
      · exact .inl ⟨x, by omega, h2⟩
theorem mem_colJ {ln : Nat → Nat → Int} {n : Nat} {r : Rn} : ∀ {k : Nat}, r ∈ colJ p W H most ln n k ↔ ∃ j x, j < k ∧ x < n ∧ r ∈ rnAt p W H most x (ln j x).toNat
  | 0 => by simp [colJ]
  | k + 1 => by
    rw [colJ, List.mem_append, mem_colJ, mem_colX]
    constructor
    · rintro (⟨j, x, h1, h2, h3⟩ | ⟨x, h2, h3⟩)
      · exact ⟨j, x, by omega, h2, h3⟩
      · exact ⟨k, x, by omega, h2, h3⟩
    · rintro ⟨j, x, h1, h2, h3⟩
      by_cases e : j = k
      · subst e; exact .inr ⟨x, h2, h3⟩
      · exact .inl ⟨j, x, by omega, h2, h3⟩
theorem mem_colI {ln : Nat → Nat → Nat → Int} {n : Nat} {r : Rn} : ∀ {k : Nat}, r ∈ colI p W H most ln n k ↔ ∃ i j x, i < k ∧ j < 5 ∧ x < n ∧ r ∈ rnAt p W H most x (ln i j x).toNat
  | 0 => by simp [colI]
  | k + 1 => by
    rw [colI, List.mem_append, mem_colI, mem_colJ]
    constructor
    · rintro (⟨i, j, x, h1, h2, h3, h4⟩ | ⟨j, x, h2, h3, h4⟩)
      · exact ⟨i, j, x, by omega, h2, h3, h4⟩
      · exact ⟨k, j, x, by omega, h2, h3, h4⟩
    · rintro ⟨i, j, x, h1, h2, h3, h4⟩
      by_cases e : i = k
      · subst e; exact .inr ⟨j, x, h2, h3, h4⟩
      · exact .inl ⟨i, j, x, by omega, h2, h3, h4⟩
theorem mem_rnAt {x y : Nat} {r : Rn} : r ∈ rnAt p W H most x y ↔ p ((y : Int) * W + x) = 1 ∧ (botN p W x (H - 1 - y) y : Int) - (topN p W x y : Int) < most ∧ r = ((x : Int), (topN p W x y : Int), (botN p W x (H - 1 - y) y : Int)) := by
  unfold rnAt
  split
  · rename_i h; simp [h]
  · rename_i h
    simp only [List.not_mem_nil, false_iff]
    exact fun h2 => h ⟨h2.1, h2.2.1⟩
end
/-- a run holds a pixel -/
def hitB (r : Rn) (W i : Int) : Bool := decide (r.1 = i % W ∧ r.2.1 ≤ i / W ∧ i / W ≤ r.2.2)
/-- an image without some runs -/
def strike (l : List Rn) (W : Int) (p : Int → Int) : Int → Int := fun i => if l.any (fun r => hitB r W i) = true then 0 else p i
/-- and of one run more the rows above y -/
def strikeY (r : Rn) (y W : Int) (q : Int → Int) : Int → Int := fun i => if r.1 = i % W ∧ r.2.1 ≤ i / W ∧ i / W < y then 0 else q i
section
variable {l : List Rn} {r : Rn} {W y i : Int} {p q : Int → Int}
theorem strikeY_start : strikeY r r.2.1 W q i = q i := by unfold strikeY; rw [if_neg (by omega)]
theorem strikeY_set (x0 : 0 ≤ r.1) (x1 : r.1 < W) (y0 : r.2.1 ≤ y) : upd (strikeY r y W q) (y * W + r.1) 0 i = strikeY r (y + 1) W q i := by
  have a := idx_mod (y := y) x0 x1
  have b := idx_div (y := y) x0 x1
  unfold upd strikeY
  by_cases e : i = y * W + r.1
  · subst e
    rw [if_pos rfl, a, b, if_pos ⟨rfl, y0, by omega⟩]
  · rw [if_neg e]
    have hne : r.1 = i % W → i / W ≠ y := fun h3 h4 => e (by
      have := Int.emod_add_mul_ediv i W
      rw [← h3, h4, Int.mul_comm] at this; omega)
    by_cases c : r.1 = i % W ∧ r.2.1 ≤ i / W ∧ i / W < y
    · rw [if_pos c, if_pos (by omega)]
    · rw [if_neg c, if_neg (by omega)]
theorem strike_snoc : strike (l ++ [r]) W p i = strikeY r (r.2.2 + 1) W (strike l W p) i := by
  unfold strikeY strike
  rw [List.any_append]
  by_cases c : r.1 = i % W ∧ r.2.1 ≤ i / W ∧ i / W ≤ r.2.2
  · have e : hitB r W i = true := decide_eq_true c
    have e2 : (l.any (fun r => hitB r W i) || [r].any (fun r => hitB r W i)) = true := by rw [List.any_cons, e]; simp
    rw [if_pos e2, if_pos (by omega)]
  · have e : hitB r W i = false := decide_eq_false c
    have e2 : (l.any (fun r => hitB r W i) || [r].any (fun r => hitB r W i)) = l.any (fun r => hitB r W i) := by rw [List.any_cons, List.any_nil, e, Bool.or_false, Bool.or_false]
    rw [if_neg (show ¬ (r.1 = i % W ∧ r.2.1 ≤ i / W ∧ i / W < r.2.2 + 1) by omega), e2]
theorem strike_nil : strike [] W p i = p i := by simp [strike]
theorem strike_01 (h : Is01 p) : Is01 (strike l W p) := fun i => by unfold strike; split; exact .inl rfl; exact h i
end
end Go.Proofs.YtdimlpcbbkokiaaGreat

/- Plain: an image without the runs of lines, seen run by run of a column. No program in sight. -/
namespace Go.Proofs.YtdimlpcbbkokiaaGreat
open Go.RowKit
set_option linter.unusedVariables false
section
variable {p : Int → Int} {W x : Int}
/-- in a run of ink the first row is the same from everywhere -/
theorem topN_run {f : Nat} : ∀ {y : Nat}, f ≤ y → (∀ j : Nat, f ≤ j → j < y → p ((j : Int) * W + x) = 1) → topN p W x y = topN p W x f
  | 0, h, _ => by
    obtain rfl : f = 0 := by omega
    rfl
  | y + 1, h, hi => by
    by_cases e : f = y + 1
    · subst e; rfl
    · rw [show topN p W x (y + 1) = if p ((y : Int) * W + x) = 1 then topN p W x y else y + 1 from rfl, if_pos (hi y (by omega) (by omega))]
      exact topN_run (by omega) fun j a b => hi j a (by omega)
theorem topN_start {f : Nat} (h : ∀ g : Nat, f = g + 1 → p ((g : Int) * W + x) ≠ 1) : topN p W x f = f := by
  match f, h with
  | 0, _ => rfl
  | g + 1, h => rw [show topN p W x (g + 1) = if p ((g : Int) * W + x) = 1 then topN p W x g else g + 1 from rfl, if_neg (h g rfl)]
/-- and so is the last row -/
theorem botN_run (n : Nat) : ∀ {k y : Nat}, y + k + 1 = n → ∀ {t : Nat}, y < t → t ≤ n → (∀ j : Nat, y ≤ j → j < t → p ((j : Int) * W + x) = 1) → (t < n → p ((t : Int) * W + x) ≠ 1) → botN p W x k y = t - 1
  | 0, y, hn, t, a, b, _, _ => by
    rw [show botN p W x 0 y = y from rfl]; omega
  | k + 1, y, hn, t, a, b, hi, he => by
    rw [show botN p W x (k + 1) y = if p (((y : Int) + 1) * W + x) = 1 then botN p W x k (y + 1) else y from rfl]
    by_cases e : t = y + 1
    · subst e
      have h2 : p (((y : Int) + 1) * W + x) ≠ 1 := by simpa using he (by omega)
      rw [if_neg h2]; omega
    · have h2 := hi (y + 1) (by omega) (by omega)
      rw [if_pos (by simpa using h2)]
      exact botN_run n (by omega) (by omega) b (fun j c d => hi j (by omega) d) he
end
/-- a run of ink in column x: rows f to t -/
structure RunOf (p : Int → Int) (W : Int) (H : Nat) (x : Int) (f t : Nat) : Prop where
  lt : f < t
  le : t ≤ H
  up : ∀ g : Nat, f = g + 1 → p ((g : Int) * W + x) ≠ 1
  ink : ∀ j : Nat, f ≤ j → j < t → p ((j : Int) * W + x) = 1
  down : t < H → p ((t : Int) * W + x) ≠ 1
theorem RunOf.top {p W H x f t y} (h : RunOf p W H x f t) (h1 : f ≤ y) (h2 : y < t) : topN p W x y = f := by
  rw [topN_run h1 fun j a b => h.ink j a (by omega), topN_start h.up]
theorem RunOf.bot {p W H x f t y} (h : RunOf p W H x f t) (h1 : f ≤ y) (h2 : y < t) : botN p W x (H - 1 - y) y = t - 1 :=
  botN_run H (by have := h.le; omega) h2 h.le (fun j a b => h.ink j (by omega) b) h.down
/-- each ink pixel lies in a run -/
theorem run_ex {p : Int → Int} {W : Int} {H : Nat} {x : Int} {y : Nat} (hy : y < H) (hp : p ((y : Int) * W + x) = 1) : ∃ f t, RunOf p W H x f t ∧ f ≤ y ∧ y < t := by
  have h1 := topN_le p W x y
  have h2 := botN_bd p W x (H - 1 - y) y
  refine ⟨topN p W x y, botN p W x (H - 1 - y) y + 1, ⟨by omega, by omega, fun g e => topN_up p W x y g e.symm, fun j a b => ?_, fun c => ?_⟩, h1, by omega⟩
  · rcases Nat.lt_trichotomy j y with c | c | c
    · exact topN_ink p W x y j a c
    · subst c; exact hp
    · exact botN_ink p W x (H - 1 - y) y j c (by omega)
  · have := botN_down p W x (H - 1 - y) y (by omega)
    simpa using this
section
variable {p : Int → Int} {W : Int} {H : Nat} {most : Int} {N k : Nat} {ln : Nat → Nat → Nat → Int} {l : List Rn}
/-- a line of the staves goes through a pixel -/
def OnLine (ln : Nat → Nat → Nat → Int) (k N : Nat) (W i : Int) : Prop := ∃ a j x : Nat, a < k ∧ j < 5 ∧ x < N ∧ ln a j x * W + x = i
theorem strike_hit {i : Int} (hp : p i = 1) : strike l W p i = 0 ↔ ∃ r ∈ l, r.1 = i % W ∧ r.2.1 ≤ i / W ∧ i / W ≤ r.2.2 := by
  unfold strike
  by_cases c : l.any (fun r => hitB r W i) = true
  · rw [if_pos c]
    obtain ⟨r, h1, h2⟩ := List.any_eq_true.1 c
    exact ⟨fun _ => ⟨r, h1, of_decide_eq_true h2⟩, fun _ => rfl⟩
  · rw [if_neg c, hp]
    constructor
    · intro h; omega
    · rintro ⟨r, h1, h2⟩
      exact absurd (List.any_eq_true.2 ⟨r, h1, decide_eq_true h2⟩) c
/-- of a run all pixels go, if a line goes through it and it is short enough; else all stay -/
theorem strike_run (hN : W = N) (hl : ∀ r, r ∈ l ↔ r ∈ colI p W H most ln N k) (hb : ∀ a j x : Nat, a < k → j < 5 → x < N → 0 ≤ ln a j x ∧ ln a j x < H)
    {x f t : Nat} (hx : x < N) (hr : RunOf p W H x f t) {y : Nat} (h1 : f ≤ y) (h2 : y < t) :
    strike l W p ((y : Int) * W + x) = 0 ↔ (∃ j : Nat, f ≤ j ∧ j < t ∧ OnLine ln k N W ((j : Int) * W + x)) ∧ (t : Int) - f ≤ most := by
  have hxW : (x : Int) < W := by omega
  rw [strike_hit (hr.ink y h1 h2), idx_mod (by omega) hxW, idx_div (by omega) hxW]
  constructor
  · rintro ⟨r, a, b, c, d⟩
    rw [hl, mem_colI] at a
    obtain ⟨i, j, x', i1, j1, x1, e⟩ := a
    obtain ⟨e1, e2, rfl⟩ := mem_rnAt.1 e
    simp only at b c d
    obtain rfl : x' = x := by omega
    obtain ⟨b1, b2⟩ := hb i j x' i1 j1 hx
    obtain ⟨m, hm⟩ : ∃ m : Nat, ln i j x' = m := ⟨(ln i j x').toNat, by omega⟩
    rw [hm, Int.toNat_natCast] at c d e1 e2
    have g1 := topN_le p W x' m
    have g2 := botN_bd p W x' (H - 1 - m) m
    have m1 : f ≤ m := by
      rcases Nat.lt_or_ge m f with h | h
      · exfalso
        have u := hr.up (f - 1) (by omega)
        by_cases q : m = f - 1
        · rw [← q] at u; exact u e1
        · exact u (botN_ink p W x' (H - 1 - m) m (f - 1) (by omega) (by omega))
      · exact h
    have m2 : m < t := by
      rcases Nat.lt_or_ge m t with h | h
      · exact h
      · exfalso
        have u := hr.down (by omega)
        by_cases q : m = t
        · rw [q] at e1; exact u e1
        · exact u (topN_ink p W x' m t (by omega) (by omega))
    rw [hr.top m1 m2, hr.bot m1 m2] at e2
    exact ⟨⟨m, m1, m2, i, j, x', i1, j1, hx, by rw [hm]⟩, by have := hr.lt; omega⟩
  · rintro ⟨⟨m, m1, m2, i, j, x', i1, j1, x1, e⟩, h3⟩
    obtain ⟨b1, b2⟩ := hb i j x' i1 j1 x1
    have ex : x' = x := by
      have q1 := idx_mod (y := ln i j x') (x := x') (W := W) (by omega) (by omega)
      have q2 := idx_mod (y := (m : Int)) (x := x) (W := W) (by omega) (by omega)
      rw [e, q2] at q1; omega
    subst ex
    have em : ln i j x' = m := by
      have q1 := idx_div (y := ln i j x') (x := x') (W := W) (by omega) (by omega)
      have q2 := idx_div (y := (m : Int)) (x := x') (W := W) (by omega) (by omega)
      rw [e, q2] at q1; omega
    refine ⟨_, (hl _).2 (mem_colI.2 ⟨i, j, x', i1, j1, hx, mem_rnAt.2 ⟨?_, ?_, rfl⟩⟩), rfl, ?_, ?_⟩
    · rw [em, Int.toNat_natCast]; exact hr.ink m m1 m2
    · rw [em, Int.toNat_natCast, hr.top m1 m2, hr.bot m1 m2]; have := hr.lt; omega
    · simp only; rw [em, Int.toNat_natCast, hr.top m1 m2]; omega
    · simp only; rw [em, Int.toNat_natCast, hr.bot m1 m2]; have := hr.lt; omega
theorem strike_paper {i : Int} (hp : p i = 0) : strike l W p i = 0 := by unfold strike; split; rfl; exact hp
/-- nothing is left to strike -/
theorem strike_again (hN : W = N) (h01 : Is01 p) (hl : ∀ r, r ∈ l ↔ r ∈ colI p W H most ln N k) (hb : ∀ a j x : Nat, a < k → j < 5 → x < N → 0 ≤ ln a j x ∧ ln a j x < H) :
    colI (strike l W p) W H most ln N k = [] := by
  apply List.eq_nil_iff_forall_not_mem.2
  intro r hr
  rw [mem_colI] at hr
  obtain ⟨i, j, x, i1, j1, x1, e⟩ := hr
  obtain ⟨e1, e2, rfl⟩ := mem_rnAt.1 e
  obtain ⟨b1, b2⟩ := hb i j x i1 j1 x1
  obtain ⟨m, hm⟩ : ∃ m : Nat, ln i j x = m := ⟨(ln i j x).toNat, by omega⟩
  rw [hm, Int.toNat_natCast] at e1 e2
  have hp1 : p ((m : Int) * W + x) = 1 := by
    rcases h01 ((m : Int) * W + x) with h | h
    · rw [strike_paper h] at e1; omega
    · exact h
  obtain ⟨f, t, hr, m1, m2⟩ := run_ex (H := H) (by omega) hp1
  have no : ¬ ((∃ j : Nat, f ≤ j ∧ j < t ∧ OnLine ln k N W ((j : Int) * W + x)) ∧ (t : Int) - f ≤ most) := fun h => by
    have := (strike_run hN hl hb x1 hr m1 m2).2 h
    omega
  have hq : RunOf (strike l W p) W H x f t := by
    refine ⟨hr.lt, hr.le, fun g e h => ?_, fun j a b => ?_, fun c h => ?_⟩
    · rcases h01 ((g : Int) * W + x) with q | q
      · rw [strike_paper q] at h; omega
      · exact hr.up g e q
    · rcases strike_01 (l := l) (W := W) h01 ((j : Int) * W + x) with q | q
      · exact absurd ((strike_run hN hl hb x1 hr a b).1 q) no
      · exact q
    · rcases h01 ((t : Int) * W + x) with q | q
      · rw [strike_paper q] at h; omega
      · exact hr.down c q
  rw [hq.top m1 m2, hq.bot m1 m2] at e2
  exact no ⟨⟨m, m1, m2, i, j, x, i1, j1, x1, by rw [hm]⟩, by have := hr.lt; omega⟩
end
end Go.Proofs.YtdimlpcbbkokiaaGreat

/- Plain laws of the cheapest paths: least costs column by column, once with the program's number for 'never', once with the reference's. No program in sight. -/
namespace Go.Proofs.YtdimlpcbbkokiaaGreat
open Go.RowKit
set_option linter.unusedVariables false

/-- the least of N and of f at j places from lo on -/
def mfold (N : Int) (f : Int → Int) (lo : Int) : Nat → Int
  | 0 => N
  | j + 1 => min (mfold N f lo j) (f (lo + j))
theorem mfold_le (N : Int) (f : Int → Int) (lo : Int) (j : Nat) : mfold N f lo j ≤ N := by
  induction j with
  | zero => exact Int.le_refl _
  | succ j ih => rw [mfold]; omega
theorem mfold_ge {N m : Int} {f : Int → Int} {lo : Int} {j : Nat} (hN : m ≤ N) (h : ∀ i : Nat, i < j → m ≤ f (lo + i)) : m ≤ mfold N f lo j := by
  induction j with
  | zero => exact hN
  | succ j ih => rw [mfold]; have := ih (fun i hi => h i (by omega)); have := h j (by omega); omega
theorem mfold_at {N : Int} {f : Int → Int} {lo : Int} {j i : Nat} (h : i < j) : mfold N f lo j ≤ f (lo + i) := by
  induction j with
  | zero => omega
  | succ j ih =>
    rw [mfold]
    by_cases e : i = j
    · subst e; omega
    · have := ih (by omega); omega
theorem mfold_is {N : Int} {f : Int → Int} {lo : Int} {j : Nat} : mfold N f lo j = N ∨ ∃ i : Nat, i < j ∧ mfold N f lo j = f (lo + i) := by
  induction j with
  | zero => exact .inl rfl
  | succ j ih =>
    rw [mfold]
    rcases Int.le_total (mfold N f lo j) (f (lo + j)) with h | h
    · rw [Int.min_eq_left h]
      rcases ih with e | ⟨i, hi, e⟩
      · exact .inl e
      · exact .inr ⟨i, by omega, e⟩
    · rw [Int.min_eq_right h]
      exact .inr ⟨j, by omega, rfl⟩

/-- what it costs to go on to a row -/
def goTo (d : Int → Int) (y : Int) : Int → Int := fun u => d u + if u = y then 0 else 1
/-- the first of the rows next to a row, and how many there are -/
def nxLo (y : Int) : Int := if y - 1 < 0 then 0 else y - 1
def nxN (H y : Int) : Nat := ((if y + 1 < H - 1 then y + 1 else H - 1) - nxLo y + 1).toNat
/-- the least costs to the last column: k columns are to the right -/
def gcol (N W H : Int) (c : Int → Int → Int) (F : Int → Int → Bool) : Nat → Int → Int
  | 0, y => if F (W - 1) y then N else min (c (W - 1) y) N
  | k + 1, y => if F (W - 1 - (k + 1 : Nat)) y then N else min (mfold N (goTo (gcol N W H c F k) y) (nxLo y) (nxN H y) + c (W - 1 - (k + 1 : Nat)) y) N
/-- the same as the reference has it -/
def rgo (N H cc : Int) (d : Int → Int) (y : Int) : Int → Int := fun u => if u < 0 ∨ H ≤ u ∨ d u = N then N else cc + d u + if u = y then 0 else 1
def rcol (N W H : Int) (c : Int → Int → Int) (F : Int → Int → Bool) : Nat → Int → Int
  | 0, y => if F (W - 1) y then N else c (W - 1) y
  | k + 1, y => if F (W - 1 - (k + 1 : Nat)) y then N else mfold N (rgo N H (c (W - 1 - (k + 1 : Nat)) y) (rcol N W H c F k) y) (y - 1) 3
/-- two numbers are the same cost, or both are none -/
def Alike (N M b x y : Int) : Prop := (0 ≤ x ∧ x ≤ b ∧ y = x) ∨ (x = N ∧ y = M)
theorem nx_in {H y : Int} (h0 : 0 ≤ y) (h : y < H) (i : Nat) : i < nxN H y ↔ nxLo y + i < H ∧ nxLo y + i ≤ y + 1 := by
  unfold nxN nxLo; split <;> split <;> omega
theorem alike_N (N M b : Int) : Alike N M b N M := .inr ⟨rfl, rfl⟩
theorem alike_min {N M b x y x' y' : Int} (hN : b < N) (hM : b < M) (h : Alike N M b x y) (h' : Alike N M b x' y') : Alike N M b (min x x') (min y y') := by
  rcases h with ⟨h1, h2, h3⟩ | ⟨h1, h2⟩ <;> rcases h' with ⟨g1, g2, g3⟩ | ⟨g1, g2⟩
  · left; omega
  · left; omega
  · left; omega
  · right; omega
theorem alike_capR {N M b x y : Int} (hM : b < M) (h : Alike N M b x y) : Alike N M b x (min y M) := by
  rcases h with ⟨h1, h2, h3⟩ | ⟨h1, h2⟩
  · left; omega
  · right; omega
theorem alike_term {N M b d e cc z : Int} (hN : b + 3 < N) (hc0 : 0 ≤ cc) (hc : cc ≤ 2) (z0 : 0 ≤ z) (z1 : z ≤ 1) (hM : b + 3 < M) (h : Alike N M b d e) :
    Alike N M (b + 3) (min (d + z + cc) N) (if e = M then M else cc + e + z) := by
  rcases h with ⟨h1, h2, h3⟩ | ⟨h1, h2⟩
  · left; rw [if_neg (by omega)]; omega
  · right; rw [if_pos h2]; exact ⟨by omega, rfl⟩
theorem mfold_cap {N cc : Int} (hc0 : 0 ≤ cc) (f : Int → Int) (lo : Int) (j : Nat) : min (mfold N f lo j + cc) N = mfold N (fun t => min (f t + cc) N) lo j := by
  induction j with
  | zero => simp only [mfold]; omega
  | succ j ih =>
    simp only [mfold]
    rw [← ih]
    generalize mfold N f lo j = a
    generalize f (lo + j) = b
    omega
theorem step_alike {N M H b cc : Int} {d e : Int → Int} {y : Int} (h0 : 0 ≤ y) (h : y < H) (hN : b + 3 < N) (hM : b + 3 < M) (hc0 : 0 ≤ cc) (hc : cc ≤ 2) (ha : ∀ t, 0 ≤ t → t < H → Alike N M b (d t) (e t)) :
    Alike N M (b + 3) (min (mfold N (goTo d y) (nxLo y) (nxN H y) + cc) N) (mfold M (rgo M H cc e y) (y - 1) 3) := by
  have e3 : mfold M (rgo M H cc e y) (y - 1) 3 = min (min (min M (rgo M H cc e y (y - 1))) (rgo M H cc e y y)) (rgo M H cc e y (y + 1)) := by
    simp only [mfold]
    rw [show y - 1 + ((0 : Nat) : Int) = y - 1 by omega, show y - 1 + ((1 : Nat) : Int) = y by omega, show y - 1 + ((2 : Nat) : Int) = y + 1 by omega]
  rw [e3, mfold_cap hc0]
  have g0 : goTo d y y = d y + 0 := by unfold goTo; rw [if_pos rfl]
  have gm : goTo d y (y - 1) = d (y - 1) + 1 := by unfold goTo; rw [if_neg (by omega)]
  have gp : goTo d y (y + 1) = d (y + 1) + 1 := by unfold goTo; rw [if_neg (by omega)]
  have r0 : rgo M H cc e y y = if e y = M then M else cc + e y + 0 := by
    unfold rgo; rw [if_pos rfl]
    by_cases h1 : e y = M
    · rw [if_pos (.inr (.inr h1)), if_pos h1]
    · rw [if_neg (by omega), if_neg h1]
  have T0 := alike_term (z := 0) hN hc0 hc (by omega) (by omega) hM (ha y h0 h)
  have rm : 0 ≤ y - 1 → rgo M H cc e y (y - 1) = if e (y - 1) = M then M else cc + e (y - 1) + 1 := by
    intro hm
    unfold rgo; rw [if_neg (by omega : ¬ y - 1 = y)]
    by_cases h1 : e (y - 1) = M
    · rw [if_pos (.inr (.inr h1)), if_pos h1]
    · rw [if_neg (by omega), if_neg h1]
  have rp : y + 1 < H → rgo M H cc e y (y + 1) = if e (y + 1) = M then M else cc + e (y + 1) + 1 := by
    intro hp
    unfold rgo; rw [if_neg (by omega : ¬ y + 1 = y)]
    by_cases h1 : e (y + 1) = M
    · rw [if_pos (.inr (.inr h1)), if_pos h1]
    · rw [if_neg (by omega), if_neg h1]
  by_cases hm : 0 ≤ y - 1
  · have Tm := alike_term (z := 1) hN hc0 hc (by omega) (by omega) hM (ha (y - 1) hm (by omega))
    have lo : nxLo y = y - 1 := by unfold nxLo; rw [if_neg (by omega)]
    rw [rm hm, r0]
    by_cases hp : y + 1 < H
    · have Tp := alike_term (z := 1) hN hc0 hc (by omega) (by omega) hM (ha (y + 1) (by omega) hp)
      have nn : nxN H y = 3 := by
        have := (nx_in h0 h 2).2 (by rw [lo]; omega)
        have := mt (nx_in h0 h 3).1 (by rw [lo]; omega)
        omega
      rw [rp hp, nn, lo]
      simp only [mfold]
      rw [show y - 1 + ((0 : Nat) : Int) = y - 1 by omega, show y - 1 + ((1 : Nat) : Int) = y by omega, show y - 1 + ((2 : Nat) : Int) = y + 1 by omega, g0, gm, gp]
      exact alike_min hN hM (alike_min hN hM (alike_min hN hM (alike_N _ _ _) Tm) T0) Tp
    · have rq : rgo M H cc e y (y + 1) = M := by unfold rgo; rw [if_pos (by omega)]
      have nn : nxN H y = 2 := by
        have := (nx_in h0 h 1).2 (by rw [lo]; omega)
        have := mt (nx_in h0 h 2).1 (by rw [lo]; omega)
        omega
      rw [rq, nn, lo]
      simp only [mfold]
      rw [show y - 1 + ((0 : Nat) : Int) = y - 1 by omega, show y - 1 + ((1 : Nat) : Int) = y by omega, g0, gm]
      exact alike_capR hM (alike_min hN hM (alike_min hN hM (alike_N _ _ _) Tm) T0)
  · have rq : rgo M H cc e y (y - 1) = M := by unfold rgo; rw [if_pos (by omega)]
    have lo : nxLo y = y := by unfold nxLo; rw [if_pos (by omega)]; omega
    rw [rq, r0, show min M M = M from Int.min_self M]
    by_cases hp : y + 1 < H
    · have Tp := alike_term (z := 1) hN hc0 hc (by omega) (by omega) hM (ha (y + 1) (by omega) hp)
      have nn : nxN H y = 2 := by
        have := (nx_in h0 h 1).2 (by rw [lo]; omega)
        have := mt (nx_in h0 h 2).1 (by rw [lo]; omega)
        omega
      rw [rp hp, nn, lo]
      simp only [mfold]
      rw [show y + ((0 : Nat) : Int) = y by omega, show y + ((1 : Nat) : Int) = y + 1 by omega, g0, gp]
      exact alike_min hN hM (alike_min hN hM (alike_N _ _ _) T0) Tp
    · have rs : rgo M H cc e y (y + 1) = M := by unfold rgo; rw [if_pos (by omega)]
      have nn : nxN H y = 1 := by
        have := (nx_in h0 h 0).2 (by rw [lo]; omega)
        have := mt (nx_in h0 h 1).1 (by rw [lo]; omega)
        omega
      rw [rs, nn, lo]
      simp only [mfold]
      rw [show y + ((0 : Nat) : Int) = y by omega, g0]
      exact alike_capR hM (alike_min hN hM (alike_N _ _ _) T0)
theorem cols_alike {N M W H : Int} {c : Int → Int → Int} {F : Int → Int → Bool} (hc : ∀ x y, 0 ≤ c x y ∧ c x y ≤ 2) (hN : 3 * W < N) (hM : 3 * W < M) (k : Nat) (hk : (k : Int) < W) (y : Int) (h0 : 0 ≤ y) (h : y < H) :
    Alike N M (3 * (k + 1)) (gcol N W H c F k y) (rcol M W H c F k y) := by
  induction k generalizing y with
  | zero =>
    rw [gcol, rcol]
    have := hc (W - 1) y
    unfold Alike
    split <;> omega
  | succ k ih =>
    rw [gcol, rcol]
    by_cases hF : F (W - 1 - (k + 1 : Nat)) y = true
    · rw [if_pos hF, if_pos hF]; exact .inr ⟨rfl, rfl⟩
    · rw [if_neg hF, if_neg hF]
      have hcc := hc (W - 1 - (k + 1 : Nat)) y
      have := step_alike (N := N) (M := M) (H := H) (b := 3 * (k + 1)) (cc := c (W - 1 - (k + 1 : Nat)) y) (d := gcol N W H c F k) (e := rcol M W H c F k) h0 h (by omega) (by omega) hcc.1 hcc.2 (fun t a b => ih (by omega) t a b)
      rw [show (3 * (((k + 1 : Nat) : Int) + 1)) = 3 * ((k : Int) + 1) + 3 by omega]
      exact this
end Go.Proofs.YtdimlpcbbkokiaaGreat

/- Walks of the small functions of package image that every statement reaches: what each returns, and that it leaves the memory of its caller alone. -/
namespace Go.Proofs.YtdimlpcbbkokiaaGreat
open Go.RowKit
set_option linter.unusedVariables false

def sidesB (W H n : Int) : Bool := decide (0 ≤ W ∧ W ≤ 640 ∧ 0 ≤ H ∧ H ≤ 640 ∧ n = W * H)
theorem sidesB_iff {W H n : Int} : sidesB W H n = true ↔ 0 ≤ W ∧ W ≤ 640 ∧ 0 ≤ H ∧ H ≤ 640 ∧ n = W * H := by simp [sidesB]

set_option maxHeartbeats 400000 in
theorem sides_any (W H n : Int) (w : World) :
    Calls Tryz.prog 57 #[.int .i64 W, .int .i64 H, .int .i64 n] w fun e w' => e = .returned (.bool (sidesB W H n)) ∧ w = w' := by
  by_cases h : 0 ≤ W ∧ W ≤ 640 ∧ 0 ≤ H ∧ H ≤ 640
  · obtain ⟨h1, h2, h3, h4⟩ := h
    have hm : 0 ≤ W * H ∧ W * H ≤ 409600 := ⟨Int.mul_nonneg h1 h3, Int.le_trans (Int.mul_le_mul h2 h4 h3 (by omega)) (by omega)⟩
    obtain ⟨m1, m2⟩ := hm
    go_enter Tryz.func57, Tryz.ntmps57
    go_wp2
    go_ret
    exact ⟨by simp [sidesB, h1, h2, h3, h4]; rfl, rfl⟩
  · have h' : sidesB W H n = false := by simp [sidesB]; intro a b c d; exact absurd ⟨a, b, c, d⟩ h
    rw [h']
    by_cases a : 0 ≤ W
    · by_cases b : W ≤ 640
      · by_cases c : 0 ≤ H
        · have d : ¬ H ≤ 640 := fun d => h ⟨a, b, c, d⟩
          clear h h'
          go_enter Tryz.func57, Tryz.ntmps57
          go_wp2
          go_ret
          exact ⟨rfl, rfl⟩
        · clear h h'
          go_enter Tryz.func57, Tryz.ntmps57
          go_wp2
          go_ret
          exact ⟨rfl, rfl⟩
      · clear h h'
        go_enter Tryz.func57, Tryz.ntmps57
        go_wp2
        go_ret
        exact ⟨rfl, rfl⟩
    · clear h h'
      go_enter Tryz.func57, Tryz.ntmps57
      go_wp2
      go_ret
      exact ⟨rfl, rfl⟩

/-- the first index at which f holds; -1 if there is none -/
def idxF (f : Int → Bool) : Nat → Int
  | 0 => -1
  | n + 1 => if 0 ≤ idxF f n then idxF f n else if f n then n else -1
theorem idxF_none {f : Int → Bool} {n : Nat} (h : ∀ i : Int, 0 ≤ i → i < n → f i = false) : idxF f n = -1 := by
  induction n with
  | zero => rfl
  | succ n ih => rw [idxF, ih (fun i a b => h i a (by omega)), h n (by omega) (by omega)]; simp
theorem idxF_some {f : Int → Bool} {n k : Nat} (h : ∀ i : Int, 0 ≤ i → i < k → f i = false) (hk : f k = true) (hn : k < n) : idxF f n = k := by
  induction n with
  | zero => omega
  | succ n ih =>
    rw [idxF]
    by_cases e : k = n
    · subst e; rw [idxF_none h, hk]; simp
    · rw [ih (by omega)]; simp
theorem idxF_iff {f : Int → Bool} {n : Nat} : (0 ≤ idxF f n) ↔ ∃ i : Int, 0 ≤ i ∧ i < n ∧ f i = true := by
  induction n with
  | zero => simp [idxF]; intro i h1 h2; omega
  | succ n ih =>
    rw [idxF]
    by_cases h : 0 ≤ idxF f n
    · rw [if_pos h]
      simp only [h, true_iff]
      obtain ⟨i, a, b, c⟩ := ih.1 h
      exact ⟨i, a, by omega, c⟩
    · rw [if_neg h]
      by_cases c : f n = true
      · simp only [c, if_true]
        exact ⟨fun _ => ⟨n, by omega, by omega, c⟩, fun _ => by omega⟩
      · simp only [c]
        constructor
        · intro x; simp at x
        · rintro ⟨i, a, b, d⟩
          exfalso
          by_cases e : i = n
          · subst e; exact c d
          · exact h (ih.2 ⟨i, a, by omega, d⟩)

set_option maxHeartbeats 400000 in
theorem idxFuncB (fid : Nat) (hent : ∀ args w, (callFunc fid args).run Tryz.prog w = .ok (.enter fid args) w) (f : Int → Bool) (hf : ∀ v W, Calls Tryz.prog fid #[.int .u8 v] W fun e W' => e = .returned (.bool (f v)) ∧ W = W')
    (A : Option Addr) (n c : Nat) (p : Int → Int) (w : World) (hA : ArrB w w.heap.size A n p) (hn : n ≤ maxLen) :
    Calls Tryz.prog 95 #[.slice A n c, .func (.func fid) #[] #[]] w fun e w' => e = .returned (.int .i64 (idxF (fun i => f (p i)) n)) ∧ w = w' := by
  unfold maxLen at hn
  have HF := Lib.hid hf; clear hf
  go_enter Tryz.func95, Tryz.ntmps95
  go_wp2
  go_loop [8] (fun i => ∃ k : Int, 0 ≤ k ∧ k ≤ n ∧ i = .int .i64 k ∧ ∀ j : Int, 0 ≤ j → j < k → f (p j) = false) (fun i => n - (intOf i).toNat)
  case atStart => exact ⟨0, by omega, by omega, rfl, fun j a b => by omega⟩
  case round =>
    obtain ⟨k, h0, hk, rfl, hno⟩ := hrel
    have HN := Lib.hid hno; clear hno
    by_cases hlt : k < n
    · obtain ⟨b, off, rfl, hb, hc⟩ := hA.at_ h0 hlt
      cases hfk : f (p k)
      · have HK := Lib.hid hfk; clear hfk
        go_wp2_with fail
        refine (HF.out _ _).mono ?_
        rintro e w' ⟨rfl, rfl⟩
        rw [HK.out]
        go_wp2
        go_round
        case rel =>
          refine ⟨k + 1, by omega, by omega, by go_num, fun j a b => ?_⟩
          by_cases e : j = k
          · rw [e]; exact HK.out
          · exact HN.out j a (by omega)
        case measure => simp [intOf]; omega
      · have HK := Lib.hid hfk; clear hfk
        go_wp2_with fail
        refine (HF.out _ _).mono ?_
        rintro e w' ⟨rfl, rfl⟩
        rw [HK.out]
        go_wp2
        go_ret
        refine ⟨ret_int ?_, rfl⟩
        obtain ⟨k', rfl⟩ := Int.eq_ofNat_of_zero_le h0
        rw [idxF_some HN.out HK.out (by omega)]
    · go_wp2
      go_ret
      refine ⟨ret_int ?_, rfl⟩
      rw [idxF_none fun i a b => HN.out i a (by omega)]
end Go.Proofs.YtdimlpcbbkokiaaGreat

/- Plain laws of the cheapest paths: the path that is read off the costs, its cost, and that the reference reads off the same. No program in sight. -/
namespace Go.Proofs.YtdimlpcbbkokiaaGreat
open Go.RowKit
set_option linter.unusedVariables false

/-- the first place at which g is least -/
def fmin (g : Int → Int) : Nat → Int
  | 0 => 0
  | y + 1 => if g y < g (fmin g y) then y else fmin g y
theorem fmin_bd (g : Int → Int) (n : Nat) : 0 ≤ fmin g n ∧ (0 < n → fmin g n < n) := by
  induction n with
  | zero => simp [fmin]
  | succ n ih =>
    rw [fmin]
    split
    · omega
    · refine ⟨ih.1, fun _ => ?_⟩
      by_cases h : 0 < n
      · have := ih.2 h; omega
      · obtain rfl : n = 0 := by omega
        show (0 : Int) < _; omega
theorem fmin_le {g : Int → Int} {n : Nat} {i : Int} (h0 : 0 ≤ i) (h : i < n) : g (fmin g n) ≤ g i := by
  induction n with
  | zero => omega
  | succ n ih =>
    rw [fmin]
    by_cases e : i = n
    · subst e; split <;> omega
    · have := ih (by omega)
      split <;> omega
theorem fmin_first {g : Int → Int} {n : Nat} {i : Int} (h0 : 0 ≤ i) (h : i < fmin g n) : g (fmin g n) < g i := by
  induction n with
  | zero => simp [fmin] at h; omega
  | succ n ih =>
    rw [fmin] at h ⊢
    by_cases e : g n < g (fmin g n)
    · rw [if_pos e] at h ⊢
      have := fmin_le (g := g) h0 h
      omega
    · rw [if_neg e] at h ⊢
      exact ih h

section
variable (N W H : Int) (c : Int → Int → Int) (F : Int → Int → Bool)
/-- the least cost from a pixel on -/
def gAt (x y : Int) : Int := gcol N W H c F (W - 1 - x).toNat y
def rAt (x y : Int) : Int := rcol N W H c F (W - 1 - x).toNat y
/-- the row in which the path goes on -/
def nxt (x a : Int) : Int :=
  if 0 ≤ idxF (fun i => decide (goTo (gAt N W H c F (x + 1)) a (nxLo a + i) = gAt N W H c F x a - c x a)) (nxN H a)
  then nxLo a + idxF (fun i => decide (goTo (gAt N W H c F (x + 1)) a (nxLo a + i) = gAt N W H c F x a - c x a)) (nxN H a) else a
def pathP : Nat → Int
  | 0 => fmin (gAt N W H c F 0) H.toNat
  | x + 1 => nxt N W H c F x (pathP x)
end
/-- the cost of a path up to a column -/
def costP (c : Int → Int → Int) (l : Int → Int) : Nat → Int
  | 0 => 0
  | x + 1 => costP c l x + c x (l x) + if 0 < x ∧ l x ≠ l ((x : Int) - 1) then 1 else 0

section
variable {N W H : Int} {c : Int → Int → Int} {F : Int → Int → Bool}
theorem gAt_last (y : Int) : gAt N W H c F (W - 1) y = if F (W - 1) y then N else min (c (W - 1) y) N := by
  unfold gAt; rw [show (W - 1 - (W - 1)).toNat = 0 by omega, gcol]
theorem gAt_step {x : Int} (h0 : 0 ≤ x) (h : x < W - 1) (y : Int) : gAt N W H c F x y = if F x y then N else min (mfold N (goTo (gAt N W H c F (x + 1)) y) (nxLo y) (nxN H y) + c x y) N := by
  unfold gAt
  obtain ⟨k, hk⟩ : ∃ k : Nat, (W - 1 - x).toNat = k + 1 := ⟨(W - 1 - x).toNat - 1, by omega⟩
  rw [hk, gcol, show W - 1 - ((k + 1 : Nat) : Int) = x by omega, show (W - 1 - (x + 1)).toNat = k by omega]
theorem gAt_bd (hc : ∀ x y, 0 ≤ c x y ∧ c x y ≤ 2) (hN : 3 * W < N) {x y : Int} (h0 : 0 ≤ x) (h : x < W) (y0 : 0 ≤ y) (y1 : y < H) : (0 ≤ gAt N W H c F x y ∧ gAt N W H c F x y ≤ 3 * (W - x)) ∨ gAt N W H c F x y = N := by
  have := cols_alike (F := F) hc hN hN (W - 1 - x).toNat (by omega) y y0 y1
  unfold gAt
  unfold Alike at this
  omega
/-- where the cost is finite there is a row to go on to -/
theorem nxt_ex (hc : ∀ x y, 0 ≤ c x y ∧ c x y ≤ 2) {x a : Int} (h0 : 0 ≤ x) (h : x < W - 1) (hf : gAt N W H c F x a < N) :
    ∃ i : Nat, i < nxN H a ∧ goTo (gAt N W H c F (x + 1)) a (nxLo a + i) = gAt N W H c F x a - c x a := by
  rw [gAt_step h0 h] at hf ⊢
  by_cases hF : F x a = true
  · rw [if_pos hF] at hf; omega
  · rw [if_neg hF] at hf ⊢
    have hcc := hc x a
    rcases mfold_is (N := N) (f := goTo (gAt N W H c F (x + 1)) a) (lo := nxLo a) (j := nxN H a) with e | ⟨i, hi, e⟩
    · rw [e] at hf; omega
    · exact ⟨i, hi, by omega⟩
theorem nxt_spec (hc : ∀ x y, 0 ≤ c x y ∧ c x y ≤ 2) {x a : Int} (h0 : 0 ≤ x) (h : x < W - 1) (a0 : 0 ≤ a) (a1 : a < H) (hf : gAt N W H c F x a < N) :
    goTo (gAt N W H c F (x + 1)) a (nxt N W H c F x a) = gAt N W H c F x a - c x a ∧ 0 ≤ nxt N W H c F x a ∧ nxt N W H c F x a < H ∧ a - 1 ≤ nxt N W H c F x a ∧ nxt N W H c F x a ≤ a + 1 ∧
      ∀ y, 0 ≤ y → a - 1 ≤ y → y < nxt N W H c F x a → goTo (gAt N W H c F (x + 1)) a y ≠ gAt N W H c F x a - c x a := by
  obtain ⟨i, hi, e⟩ := nxt_ex hc h0 h hf
  have hex : 0 ≤ idxF (fun i => decide (goTo (gAt N W H c F (x + 1)) a (nxLo a + i) = gAt N W H c F x a - c x a)) (nxN H a) := idxF_iff.2 ⟨i, by omega, by omega, by simpa using e⟩
  have sp : ∀ n : Nat, ∀ f : Int → Bool, 0 ≤ idxF f n → idxF f n < n ∧ f (idxF f n) = true ∧ ∀ j : Int, 0 ≤ j → j < idxF f n → f j = false := by
    intro n f
    induction n with
    | zero => intro h; simp [idxF] at h
    | succ n ih =>
      intro h
      rw [idxF] at h ⊢
      by_cases h1 : 0 ≤ idxF f n
      · rw [if_pos h1]; have := ih h1; exact ⟨by omega, this.2.1, this.2.2⟩
      · rw [if_neg h1] at h ⊢
        by_cases h2 : f n = true
        · rw [if_pos h2]
          exact ⟨by omega, h2, fun j j0 j1 => Bool.eq_false_iff.2 fun h3 => h1 (idxF_iff.2 ⟨j, j0, j1, h3⟩)⟩
        · rw [if_neg h2] at h; omega
  obtain ⟨s1, s2, s3⟩ := sp _ _ hex
  have hn : nxt N W H c F x a = nxLo a + idxF (fun i => decide (goTo (gAt N W H c F (x + 1)) a (nxLo a + i) = gAt N W H c F x a - c x a)) (nxN H a) := by unfold nxt; rw [if_pos hex]
  generalize idxF (fun i => decide (goTo (gAt N W H c F (x + 1)) a (nxLo a + i) = gAt N W H c F x a - c x a)) (nxN H a) = k at *
  rw [hn]
  obtain ⟨k', rfl⟩ := Int.eq_ofNat_of_zero_le hex
  have hin := (nx_in a0 a1 k').1 (by omega)
  have lo : nxLo a = if a - 1 < 0 then 0 else a - 1 := rfl
  have lo2 : 0 ≤ nxLo a ∧ a - 1 ≤ nxLo a ∧ (0 < nxLo a → nxLo a = a - 1) := by rw [lo]; split <;> omega
  refine ⟨by simpa using s2, by omega, hin.1, by omega, hin.2, fun y y0 y1 y2 hy => ?_⟩
  have h4 : nxLo a ≤ y := by rw [lo]; split <;> omega
  have := s3 (y - nxLo a) (by omega) (by omega)
  rw [show nxLo a + (y - nxLo a) = y by omega] at this
  simp at this
  exact this hy
/-- the path stays in the image and its costs stay finite -/
theorem path_ok (hc : ∀ x y, 0 ≤ c x y ∧ c x y ≤ 2) (hN : 3 * W < N) (hH : 0 < H) (hW : 0 < W) (hf : gAt N W H c F 0 (pathP N W H c F 0) < N) (x : Nat) (hx : (x : Int) < W) :
    0 ≤ pathP N W H c F x ∧ pathP N W H c F x < H ∧ gAt N W H c F x (pathP N W H c F x) < N := by
  induction x with
  | zero =>
    have := fmin_bd (gAt N W H c F 0) H.toNat
    refine ⟨this.1, ?_, hf⟩
    have := this.2 (by omega)
    show fmin _ _ < H
    omega
  | succ x ih =>
    obtain ⟨i1, i2, i3⟩ := ih (by omega)
    obtain ⟨s1, s2, s3, s4, s5, -⟩ := nxt_spec hc (by omega) (by omega : (x : Int) < W - 1) i1 i2 i3
    refine ⟨s2, s3, ?_⟩
    show gAt N W H c F ((x + 1 : Nat) : Int) (nxt N W H c F x (pathP N W H c F x)) < N
    have hcc := hc x (pathP N W H c F x)
    unfold goTo at s1
    rw [show ((x + 1 : Nat) : Int) = (x : Int) + 1 by omega]
    split at s1 <;> omega
theorem path_cost (hc : ∀ x y, 0 ≤ c x y ∧ c x y ≤ 2) (hN : 3 * W < N) (hH : 0 < H) (hW : 0 < W) (hf : gAt N W H c F 0 (pathP N W H c F 0) < N) (x : Nat) (hx : (x : Int) < W) :
    costP c (fun i => pathP N W H c F i.toNat) (x + 1) + gAt N W H c F x (pathP N W H c F x) = gAt N W H c F 0 (pathP N W H c F 0) + c x (pathP N W H c F x) := by
  induction x with
  | zero => simp [costP]; omega
  | succ x ih =>
    have ih := ih (by omega)
    obtain ⟨i1, i2, i3⟩ := path_ok hc hN hH hW hf x (by omega)
    obtain ⟨s1, -, -, -, -, -⟩ := nxt_spec hc (by omega) (by omega : (x : Int) < W - 1) i1 i2 i3
    rw [costP]
    have e : pathP N W H c F (x + 1) = nxt N W H c F x (pathP N W H c F x) := rfl
    rw [← e] at s1
    unfold goTo at s1
    simp only [Int.toNat_natCast, show ((x + 1 : Nat) : Int) - 1 = (x : Int) by omega]
    rw [show ((x + 1 : Nat) : Int) = (x : Int) + 1 by omega] at *
    by_cases hq : pathP N W H c F (x + 1) = pathP N W H c F x
    · rw [if_pos hq] at s1
      rw [if_neg (by simp [hq])]
      omega
    · rw [if_neg hq] at s1
      rw [if_pos ⟨by omega, hq⟩]
      omega
/-- the whole path costs what stands at its start -/
theorem path_total (hc : ∀ x y, 0 ≤ c x y ∧ c x y ≤ 2) (hN : 3 * W < N) (hH : 0 < H) (hW : 0 < W) (hf : gAt N W H c F 0 (pathP N W H c F 0) < N) :
    costP c (fun i => pathP N W H c F i.toNat) W.toNat = gAt N W H c F 0 (pathP N W H c F 0) := by
  obtain ⟨x, hx⟩ : ∃ x : Nat, W.toNat = x + 1 := ⟨W.toNat - 1, by omega⟩
  have h1 := path_cost hc hN hH hW hf x (by omega)
  obtain ⟨i1, i2, i3⟩ := path_ok hc hN hH hW hf x (by omega)
  have e : (x : Int) = W - 1 := by omega
  rw [hx]
  have hl := gAt_last (N := N) (W := W) (H := H) (c := c) (F := F) (pathP N W H c F x)
  rw [← e] at hl
  rw [hl] at h1 i3
  by_cases hF : F x (pathP N W H c F x) = true
  · rw [if_pos hF] at i3; omega
  · rw [if_neg hF] at h1 i3; omega
end
end Go.Proofs.YtdimlpcbbkokiaaGreat

/- Plain laws of the cheapest paths: the reference finds the same path. No program in sight. -/
namespace Go.Proofs.YtdimlpcbbkokiaaGreat
open Go.RowKit
set_option linter.unusedVariables false
section
variable {N M W H : Int} {c : Int → Int → Int} {F : Int → Int → Bool}
theorem gr_alike (hc : ∀ x y, 0 ≤ c x y ∧ c x y ≤ 2) (hN : 3 * W < N) (hM : 3 * W < M) {x y : Int} (h0 : 0 ≤ x) (h : x < W) (y0 : 0 ≤ y) (y1 : y < H) :
    (gAt N W H c F x y < N ∧ rAt M W H c F x y = gAt N W H c F x y ∧ gAt N W H c F x y ≤ 3 * W ∧ 0 ≤ gAt N W H c F x y) ∨ (gAt N W H c F x y = N ∧ rAt M W H c F x y = M) := by
  have := cols_alike (F := F) hc hN hM (W - 1 - x).toNat (by omega) y y0 y1
  unfold gAt rAt
  unfold Alike at this
  omega
/-- the least cost of the first column, as the reference reckons it -/
def rleast (M W H : Int) (c : Int → Int → Int) (F : Int → Int → Bool) : Int := mfold M (rAt M W H c F 0) 0 H.toNat
theorem rleast_eq (hc : ∀ x y, 0 ≤ c x y ∧ c x y ≤ 2) (hN : 3 * W < N) (hM : 3 * W < M) (hW : 0 < W) (hH : 0 < H) :
    (gAt N W H c F 0 (pathP N W H c F 0) < N ∧ rleast M W H c F = gAt N W H c F 0 (pathP N W H c F 0) ∧ rleast M W H c F < M) ∨ (gAt N W H c F 0 (pathP N W H c F 0) = N ∧ rleast M W H c F = M) := by
  have hp := fmin_bd (gAt N W H c F 0) H.toNat
  have h2 := hp.2 (by omega)
  have e : pathP N W H c F 0 = fmin (gAt N W H c F 0) H.toNat := rfl
  rw [← e] at hp h2
  have ha := gr_alike (H := H) (F := F) hc hN hM (x := 0) (y := pathP N W H c F 0) (by omega) hW hp.1 (by omega)
  have hle : ∀ i : Nat, i < H.toNat → gAt N W H c F 0 (pathP N W H c F 0) ≤ gAt N W H c F 0 i := fun i hi => fmin_le (by omega) (by omega)
  have hat := mfold_at (N := M) (f := rAt M W H c F 0) (lo := 0) (j := H.toNat) (i := (pathP N W H c F 0).toNat) (by omega)
  rw [show (0 : Int) + ((pathP N W H c F 0).toNat : Int) = pathP N W H c F 0 by omega] at hat
  have hlM := mfold_le M (rAt M W H c F 0) 0 H.toNat
  rcases ha with ⟨a1, a2, a3, a4⟩ | ⟨a1, a2⟩
  · left
    have hge : gAt N W H c F 0 (pathP N W H c F 0) ≤ mfold M (rAt M W H c F 0) 0 H.toNat := mfold_ge (by omega) fun i hi => by
      have hi2 := hle i hi
      rw [Int.zero_add]
      have := gr_alike (H := H) (F := F) hc hN hM (x := 0) (y := i) (by omega) hW (by omega) (by omega)
      omega
    unfold rleast
    omega
  · right
    refine ⟨a1, ?_⟩
    unfold rleast
    rcases mfold_is (N := M) (f := rAt M W H c F 0) (lo := 0) (j := H.toNat) with h | ⟨i, hi, h⟩
    · exact h
    · have hi2 := hle i hi
      rw [Int.zero_add] at h
      have := gr_alike (H := H) (F := F) hc hN hM (x := 0) (y := i) (by omega) hW (by omega) (by omega)
      omega
/-- the reference's test in the first column -/
theorem rfirst (hc : ∀ x y, 0 ≤ c x y ∧ c x y ≤ 2) (hN : 3 * W < N) (hM : 3 * W < M) (hW : 0 < W) (hH : 0 < H) (hf : gAt N W H c F 0 (pathP N W H c F 0) < N) :
    (rAt M W H c F 0 (pathP N W H c F 0) ≠ M ∧ rAt M W H c F 0 (pathP N W H c F 0) = rleast M W H c F) ∧ ∀ y, 0 ≤ y → y < pathP N W H c F 0 → ¬ (rAt M W H c F 0 y ≠ M ∧ rAt M W H c F 0 y = rleast M W H c F) := by
  have hp := fmin_bd (gAt N W H c F 0) H.toNat
  have h2 := hp.2 (by omega)
  have e : pathP N W H c F 0 = fmin (gAt N W H c F 0) H.toNat := rfl
  rw [← e] at hp h2
  have hl := rleast_eq (H := H) (F := F) hc hN hM hW hH
  have ha := gr_alike (H := H) (F := F) hc hN hM (x := 0) (y := pathP N W H c F 0) (by omega) hW hp.1 (by omega)
  refine ⟨by omega, fun y y0 y1 => ?_⟩
  have hy := gr_alike (H := H) (F := F) hc hN hM (x := 0) (y := y) (by omega) hW y0 (by omega)
  have := fmin_first (g := gAt N W H c F 0) (n := H.toNat) y0 (by rw [← e]; exact y1)
  rw [← e] at this
  omega
/-- the reference's test in a later column: what is left is the cost of the last pixel's rest -/
theorem rnext (hc : ∀ x y, 0 ≤ c x y ∧ c x y ≤ 2) (hN : 3 * W < N) (hM : 3 * W < M) (hW : 0 < W) (hH : 0 < H) (hf : gAt N W H c F 0 (pathP N W H c F 0) < N) (x : Nat) (hx : (x : Int) + 1 < W) :
    (rAt M W H c F (x + 1) (pathP N W H c F (x + 1)) ≠ M ∧ rAt M W H c F (x + 1) (pathP N W H c F (x + 1)) + (if pathP N W H c F (x + 1) = pathP N W H c F x then 0 else 1) = rAt M W H c F x (pathP N W H c F x) - c x (pathP N W H c F x)) ∧
    (0 ≤ pathP N W H c F (x + 1) ∧ pathP N W H c F (x + 1) < H ∧ pathP N W H c F x - 1 ≤ pathP N W H c F (x + 1) ∧ pathP N W H c F (x + 1) ≤ pathP N W H c F x + 1) ∧
    ∀ y, 0 ≤ y → y < H → pathP N W H c F x - 1 ≤ y → y < pathP N W H c F (x + 1) → ¬ (rAt M W H c F (x + 1) y ≠ M ∧ rAt M W H c F (x + 1) y + (if y = pathP N W H c F x then 0 else 1) = rAt M W H c F x (pathP N W H c F x) - c x (pathP N W H c F x)) := by
  obtain ⟨i1, i2, i3⟩ := path_ok hc hN hH hW hf x (by omega)
  obtain ⟨j1, j2, j3⟩ := path_ok hc hN hH hW hf (x + 1) (by omega)
  obtain ⟨s1, s2, s3, s4, s5, s6⟩ := nxt_spec hc (by omega) (by omega : (x : Int) < W - 1) i1 i2 i3
  have e : nxt N W H c F x (pathP N W H c F x) = pathP N W H c F (x + 1) := rfl
  rw [e] at s1 s2 s3 s4 s5 s6
  have ha := gr_alike (H := H) (F := F) hc hN hM (x := x) (by omega) (by omega) i1 i2
  have hb := gr_alike (H := H) (F := F) hc hN hM (x := (x : Int) + 1) (by omega) (by omega) j1 j2
  rw [show ((x + 1 : Nat) : Int) = (x : Int) + 1 by omega] at j3
  have hcc := hc x (pathP N W H c F x)
  unfold goTo at s1 s6
  refine ⟨⟨by omega, ?_⟩, ⟨s2, s3, s4, s5⟩, fun y y0 y1 y2 y3 ⟨h1, h2⟩ => ?_⟩
  · split at s1 <;> split <;> omega
  · have hy := gr_alike (H := H) (F := F) hc hN hM (x := (x : Int) + 1) (y := y) (by omega) (by omega) y0 y1
    have := s6 y y0 y2 y3
    split at h2 <;> split at this <;> omega
end
end Go.Proofs.YtdimlpcbbkokiaaGreat

/- Walks: the checks of an image, new images, the drops of the columns. -/
namespace Go.Proofs.YtdimlpcbbkokiaaGreat
open Go.RowKit
set_option linter.unusedVariables false

theorem enter49 (args : Array Value) (w : World) : (callFunc 59 args).run Tryz.prog w = .ok (.enter 59 args) w := by kernel_rfl

theorem check1_any (v : Int) (w : World) : Calls Tryz.prog 59 #[.int .u8 v] w fun e w' => e = .returned (.bool (decide (1 < v))) ∧ w = w' := by
  go_enter Tryz.func59, Tryz.ntmps59
  go_wp2
  go_ret
  exact ⟨rfl, rfl⟩

def pixB (n : Nat) (p : Int → Int) : Bool := allN n fun i => decide (p i ≤ 1)
theorem pixB_idx (n : Nat) (p : Int → Int) : decide (0 ≤ idxF (fun i => decide (1 < p i)) n) = !pixB n p := by
  rw [Bool.eq_iff_iff, decide_eq_true_iff, idxF_iff, Bool.not_eq_true', ← Bool.not_eq_true, pixB, allN_iff]
  constructor
  · rintro ⟨i, a, b, c⟩ h
    have := h i a b
    simp at c this; omega
  · intro h
    refine Classical.byContradiction fun hno => h fun i a b => ?_
    simp only [decide_eq_true_iff]
    refine Classical.byContradiction fun hc => hno ⟨i, a, b, by simp; omega⟩

theorem containsB (fid : Nat) (hent : ∀ args w, (callFunc fid args).run Tryz.prog w = .ok (.enter fid args) w) (f : Int → Bool) (hf : ∀ v W, Calls Tryz.prog fid #[.int .u8 v] W fun e W' => e = .returned (.bool (f v)) ∧ W = W')
    (A : Option Addr) (n c : Nat) (p : Int → Int) (w : World) (hA : ArrB w w.heap.size A n p) (hn : n ≤ maxLen) :
    Calls Tryz.prog 58 #[.slice A n c, .func (.func fid) #[] #[]] w fun e w' => e = .returned (.bool (decide (0 ≤ idxF (fun i => f (p i)) n))) ∧ w = w' := by
  go_enter Tryz.func58, Tryz.ntmps58
  go_wp2_with (go_at_call 95; refine (idxFuncB fid hent f hf A n c p _ hA hn).mono ?_; rintro e w' ⟨rfl, rfl⟩)
  go_ret
  exact ⟨rfl, rfl⟩

def chk (W H : Int) (n : Nat) (p : Int → Int) : Int := if sidesB W H n then (if pixB n p then 0 else 3) else 2

set_option maxHeartbeats 400000 in
theorem check_any (W H : Int) (A : Option Addr) (n c : Nat) (p : Int → Int) (w : World) (hA : ArrB w w.heap.size A n p) (hn : n ≤ maxLen) :
    Calls Tryz.prog 16 #[.agg #[.int .i64 W, .int .i64 H, .slice A n c]] w fun e w' => e = .returned (.int .i64 (chk W H n p)) ∧ Below w.heap.size w w' := by
  have HB : Below w.heap.size w (w.alloc (.cells #[.int .i64 W, .int .i64 H, .slice A n c] 24)) := by (repeat (first | exact Below.refl _ _ | assumption | refine Below.drew ?_ | refine below_drewN ?_ _ | refine Below.alloc ?_ (by first | omega | (simp; done) | (simp; omega)) _ | refine Below.setCell ?_ (by first | omega | (simp; done) | (simp; omega)) _ | refine below_setRow ?_ (by first | omega | (simp; done) | (simp; omega)) _ ))
  cases hs : sidesB W H n
  · have hr : Hid (chk W H n p = 2) := by show _ = _; unfold chk; rw [hs]; rfl
    have hs' := Lib.hid hs; clear hs
    go_enter Tryz.func16, Tryz.ntmps16
    go_wp2_with (go_at_call 57; refine (sides_any _ _ _ _).mono ?_; rintro e w' ⟨rfl, rfl⟩; rw [hs'.out])
    go_ret
    exact ⟨ret_int hr.out.symm, HB⟩
  · have hs' := Lib.hid hs; clear hs
    cases hq : pixB n p
    · have hr : Hid (chk W H n p = 3) := by show _ = _; unfold chk; rw [hs'.out, hq]; rfl
      have hq' : Hid (decide (0 ≤ idxF (fun i => decide (1 < p i)) n) = true) := by show _ = _; rw [pixB_idx, hq]; rfl
      clear hq
      go_enter Tryz.func16, Tryz.ntmps16
      go_wp2_with (first
        | (go_at_call 57; refine (sides_any _ _ _ _).mono ?_; rintro e w' ⟨rfl, rfl⟩; rw [hs'.out])
        | (go_at_call 58; refine (containsB 59 enter49 _ check1_any A n c p _ (hA.to HB) hn).mono ?_; rintro e w' ⟨rfl, rfl⟩; rw [hq'.out]))
      go_ret
      exact ⟨ret_int hr.out.symm, HB⟩
    · have hr : Hid (chk W H n p = 0) := by show _ = _; unfold chk; rw [hs'.out, hq]; rfl
      have hq' : Hid (decide (0 ≤ idxF (fun i => decide (1 < p i)) n) = false) := by show _ = _; rw [pixB_idx, hq]; rfl
      clear hq
      go_enter Tryz.func16, Tryz.ntmps16
      go_wp2_with (first
        | (go_at_call 57; refine (sides_any _ _ _ _).mono ?_; rintro e w' ⟨rfl, rfl⟩; rw [hs'.out])
        | (go_at_call 58; refine (containsB 59 enter49 _ check1_any A n c p _ (hA.to HB) hn).mono ?_; rintro e w' ⟨rfl, rfl⟩; rw [hq'.out]))
      go_ret
      exact ⟨ret_int hr.out.symm, HB⟩

end Go.Proofs.YtdimlpcbbkokiaaGreat

/- Walks: new images; the drops of the columns. -/
namespace Go.Proofs.YtdimlpcbbkokiaaGreat
open Go.RowKit
set_option linter.unusedVariables false

theorem infoU8 : (Tryz.prog.info? 5).map (fun i => (i.zero, i.size, i.bytes)) = some (some (.int .u8 0), 1, 1) := by kernel_rfl
theorem infoInt : (Tryz.prog.info? 3).map (fun i => (i.zero, i.size, i.bytes)) = some (some (.int .i64 0), 1, 8) := by kernel_rfl
theorem makeB (n : Int) (h0 : 0 ≤ n) (h : n ≤ 140737488355328) (w : World) : (Instr.makeSlice 22 (.int .i64 n) (.int .i64 n)).run Tryz.prog w =
    .ok (.slice (some ⟨w.heap.size, 0, none⟩) n.toNat n.toNat) (w.alloc (.cells (u8s n.toNat (fun _ => 0)) 5)) := by
  obtain ⟨i, hi, hz, hs, hb⟩ := info_parts infoU8
  have := run_make (P := Tryz.prog) w 22 5 i _ Tryz.underlying22 hi hz .i64 .i64 n n h0 (Int.le_refl _) (by rw [hb]; omega) (by omega)
  rw [this, hs]
  have e : madeCells (Value.int .u8 0).cells (n.toNat * 1) = u8s n.toNat (fun _ => 0) := by
    rw [← u8s_zero]
    apply Array.ext_getElem?
    intro j
    simp only [madeCells, Value.cells, Nat.mul_one]
    by_cases hj : j < n.toNat <;> simp [hj, Nat.mod_one]
  rw [e]
theorem makeI (n : Int) (h0 : 0 ≤ n) (h : n ≤ 17592186044416) (w : World) : (Instr.makeSlice 37 (.int .i64 n) (.int .i64 n)).run Tryz.prog w =
    .ok (.slice (some ⟨w.heap.size, 0, none⟩) n.toNat n.toNat) (w.alloc (.cells (i64s n.toNat (fun _ => 0)) 3)) := by
  obtain ⟨i, hi, hz, hs, hb⟩ := info_parts infoInt
  have := run_make (P := Tryz.prog) w 37 3 i _ Tryz.underlying37 hi hz .i64 .i64 n n h0 (Int.le_refl _) (by rw [hb]; omega) (by omega)
  rw [this, hs]
  have e : madeCells (Value.int .i64 0).cells (n.toNat * 1) = i64s n.toNat (fun _ => 0) := by
    rw [← i64s_zero]
    apply Array.ext_getElem?
    intro j
    simp only [madeCells, Value.cells, Nat.mul_one]
    by_cases hj : j < n.toNat <;> simp [hj, Nat.mod_one]
  rw [e]

def New (w : World) (R : Value → World → Prop) (e : Ending) (w' : World) : Prop := ∃ v, e = .returned v ∧ R v w' ∧ Below w.heap.size w w'

set_option maxHeartbeats 400000 in
theorem blank_any (W H : Int) (w : World) (h1 : 0 ≤ W) (h2 : W ≤ 640) (h3 : 0 ≤ H) (h4 : H ≤ 640) :
    Calls Tryz.prog 111 #[.int .i64 W, .int .i64 H] w (New w fun v w' => OutImg w w' W H (fun _ => 0) v) := by
  obtain ⟨m1, m2⟩ := area_bd h1 h2 h3 h4
  have hmk := makeB (W * H) m1 (by omega)
  go_enter Tryz.func111, Tryz.ntmps111
  go_wp2
  refine bodyPost_ret (v := .agg #[.int .i64 W, .int .i64 H, .slice (some ⟨w.heap.size + 1, 0, none⟩) (W * H).toNat (W * H).toNat]) (by simp [results, Tryz.results111, go_sem]) rfl ?_
  exact ⟨_, rfl, OutImg.mk (by omega) (Blk.new' (by simp) _ _), by (repeat (first | exact Below.refl _ _ | assumption | refine Below.drew ?_ | refine below_drewN ?_ _ | refine Below.alloc ?_ (by first | omega | (simp; done) | (simp; omega)) _ | refine Below.setCell ?_ (by first | omega | (simp; done) | (simp; omega)) _ | refine below_setRow ?_ (by first | omega | (simp; done) | (simp; omega)) _ ))⟩

def newE (W H : Int) : Int := if W < 0 ∨ 640 < W ∨ H < 0 ∨ 640 < H then 2 else 0
theorem newE_bad {W H : Int} : newE W H ≠ 0 ↔ (W < 0 ∨ 640 < W ∨ H < 0 ∨ 640 < H) := by unfold newE; split <;> simp_all
theorem newE_ok {W H : Int} : newE W H = 0 ↔ (0 ≤ W ∧ W ≤ 640 ∧ 0 ≤ H ∧ H ≤ 640) := by unfold newE; split <;> simp_all <;> omega

set_option maxHeartbeats 400000 in
theorem new_ok (W H : Int) (w : World) (h1 : 0 ≤ W) (h2 : W ≤ 640) (h3 : 0 ≤ H) (h4 : H ≤ 640) :
    Calls Tryz.prog 82 #[.int .i64 W, .int .i64 H] w (New w fun v w' => ∃ g, v = .tuple #[g, .int .i64 0] ∧ OutImg w w' W H (fun _ => 0) g) := by
  go_enter Tryz.func82, Tryz.ntmps82
  go_wp2_with (go_at_call 111; refine (blank_any W H _ h1 h2 h3 h4).mono ?_; rintro e w1 ⟨_, rfl, ⟨g, rfl, hg, hb⟩, hbl⟩; have hc := (Blk.new w 24 #[.int .i64 0, .int .i64 0, .slice none 0 0]).below' hbl; obtain ⟨c1, c2, c3⟩ := hc.cells3; obtain ⟨d1, d2, d3⟩ := hc.frozen3)
  refine bodyPost_ret (v := .tuple #[.agg #[.int .i64 W, .int .i64 H, .slice (some ⟨g, 0, none⟩) (W * H).toNat (W * H).toNat], .int .i64 0]) (by simp [results, Tryz.results82, go_sem, c1, c2, c3]) rfl ?_
  rw [World.size_alloc] at hg
  refine ⟨_, rfl, ⟨_, rfl, OutImg.mk (by omega) (((hb.far (by simp; omega) _).far (by simp; omega) _).far (by simp; omega) _)⟩, ?_⟩
  have hbl' : Below w.heap.size w w1 := below_call (by (repeat (first | exact Below.refl _ _ | assumption | refine Below.drew ?_ | refine below_drewN ?_ _ | refine Below.alloc ?_ (by first | omega | (simp; done) | (simp; omega)) _ | refine Below.setCell ?_ (by first | omega | (simp; done) | (simp; omega)) _ | refine below_setRow ?_ (by first | omega | (simp; done) | (simp; omega)) _ ))) (by simp) hbl
  (repeat (first | exact Below.refl _ _ | assumption | refine Below.drew ?_ | refine below_drewN ?_ _ | refine Below.alloc ?_ (by first | omega | (simp; done) | (simp; omega)) _ | refine Below.setCell ?_ (by first | omega | (simp; done) | (simp; omega)) _ | refine below_setRow ?_ (by first | omega | (simp; done) | (simp; omega)) _ ))
set_option maxHeartbeats 400000 in
theorem new_bad (W H : Int) (w : World) (h : newE W H ≠ 0) :
    Calls Tryz.prog 82 #[.int .i64 W, .int .i64 H] w fun e w' => e = .returned (.tuple #[noImg, .int .i64 2]) ∧ Below w.heap.size w w' := by
  rw [newE_bad] at h
  go_enter Tryz.func82, Tryz.ntmps82
  go_wp2_with fail
  all_goals
    refine bodyPost_ret (v := .tuple #[noImg, .int .i64 2]) (by simp [results, Tryz.results82, go_sem, noImg]) rfl ?_
    exact ⟨rfl, by (repeat (first | exact Below.refl _ _ | assumption | refine Below.drew ?_ | refine below_drewN ?_ _ | refine Below.alloc ?_ (by first | omega | (simp; done) | (simp; omega)) _ | refine Below.setCell ?_ (by first | omega | (simp; done) | (simp; omega)) _ | refine below_setRow ?_ (by first | omega | (simp; done) | (simp; omega)) _ ))⟩

/-- the drop of a column -/
def dropI (w k x : Int) : Int := (if k < 0 then (w - 1 - x) * (-k) else x * k) / 64
def grt (W k : Int) : Int := (if W ≤ 1 then 0 else W - 1) * (if k < 0 then -k else k) / 64

theorem mul_bd {a b m n : Int} (h0 : 0 ≤ a) (h1 : a ≤ m) (k0 : 0 ≤ b) (k1 : b ≤ n) : 0 ≤ a * b ∧ a * b ≤ m * n :=
  ⟨Int.mul_nonneg h0 k0, Int.mul_le_mul h1 k1 k0 (by omega)⟩
theorem grt_bd {W k : Int} (h1 : 0 ≤ W) (h2 : W ≤ 640) (h3 : -3 ≤ k) (h4 : k ≤ 3) : 0 ≤ grt W k ∧ grt W k ≤ 29 := by
  unfold grt
  have := mul_bd (a := if W ≤ 1 then 0 else W - 1) (b := if k < 0 then -k else k) (m := 639) (n := 3) (by split <;> omega) (by split <;> omega) (by split <;> omega) (by split <;> omega)
  omega
theorem drop_bd {W k x : Int} (h2 : W ≤ 640) (h3 : -3 ≤ k) (h4 : k ≤ 3) (h5 : 0 ≤ x) (h6 : x < W) : 0 ≤ dropI W k x ∧ dropI W k x ≤ 29 := by
  unfold dropI
  split
  · have := mul_bd (a := W - 1 - x) (b := -k) (m := 639) (n := 3) (by omega) (by omega) (by omega) (by omega)
    omega
  · have := mul_bd (a := x) (b := k) (m := 639) (n := 3) (by omega) (by omega) (by omega) (by omega)
    omega

def zeros640 : Array Value := i64s 640 (fun _ => 0)
theorem upd_drop (W k x j : Int) : upd (fun j => if j < x then dropI W k j else 0) x (dropI W k x) j = if j < x + 1 then dropI W k j else 0 := by
  show (if j = x then _ else (if j < x then _ else _)) = _
  by_cases e : j = x
  · subst e; rw [if_pos rfl, if_pos (by omega)]
  · by_cases e' : j < x
    · rw [if_neg e, if_pos e', if_pos (by omega)]
    · rw [if_neg e, if_neg e', if_neg (by omega)]

end Go.Proofs.YtdimlpcbbkokiaaGreat

/- Walk of clean.moved: what an image becomes when its columns are moved. -/
namespace Go.Proofs.YtdimlpcbbkokiaaGreat
open Go.RowKit
set_option linter.unusedVariables false

def movE (W H : Int) (n : Nat) (p : Int → Int) (k way : Int) : Int :=
  if chk W H n p ≠ 0 then chk W H n p else if k < -3 ∨ 3 < k then 1 else if H + way * grt W k < 0 ∨ 640 < H + way * grt W k then 2 else 0
def movQ (W H : Int) (p : Int → Int) (k way : Int) : Int → Int := fun i =>
  if 0 ≤ i / W - way * dropI W k (i % W) ∧ i / W - way * dropI W k (i % W) < H then p ((i / W - way * dropI W k (i % W)) * W + i % W) else 0
theorem chk_ok {W H : Int} {n : Nat} {p : Int → Int} (h : chk W H n p = 0) : 0 ≤ W ∧ W ≤ 640 ∧ 0 ≤ H ∧ H ≤ 640 ∧ (n : Int) = W * H ∧ ∀ i : Int, 0 ≤ i → i < n → p i ≤ 1 := by
  unfold chk at h
  split at h
  · rename_i hs
    split at h
    · rename_i hp
      obtain ⟨a, b, c, d, e⟩ := sidesB_iff.1 hs
      exact ⟨a, b, c, d, e, fun i h0 h1 => by simpa using allN_iff.1 hp i h0 h1⟩
    · omega
  · omega
theorem movE_ok {W H : Int} {n : Nat} {p : Int → Int} {k way : Int} (h : movE W H n p k way = 0) :
    chk W H n p = 0 ∧ -3 ≤ k ∧ k ≤ 3 ∧ 0 ≤ H + way * grt W k ∧ H + way * grt W k ≤ 640 := by
  unfold movE at h
  split at h
  · rename_i h1; exact absurd h h1
  · rename_i h1
    split at h
    · omega
    · split at h
      · omega
      · refine ⟨?_, by omega, by omega, by omega, by omega⟩
        exact Decidable.not_not.1 h1

/-- what has been moved before the pixel (x, y) -/
def movP (W : Int) (p : Int → Int) (k way y x : Int) : Int → Int := fun i =>
  if 0 ≤ i / W - way * dropI W k (i % W) ∧ (i / W - way * dropI W k (i % W) < y ∨ i / W - way * dropI W k (i % W) = y ∧ i % W < x) then p ((i / W - way * dropI W k (i % W)) * W + i % W) else 0
theorem emod_nn {i W : Int} (h0 : 0 ≤ i) (hW : 0 ≤ W) : 0 ≤ i % W := by
  by_cases e : W = 0
  · subst e; simpa using h0
  · exact Int.emod_nonneg _ e
theorem movP_start {W : Int} (p : Int → Int) (k way : Int) {i : Int} (h0 : 0 ≤ i) (hW : 0 ≤ W) : movP W p k way 0 0 i = 0 := by
  have := emod_nn h0 hW
  unfold movP; rw [if_neg]; omega
theorem movP_in {W : Int} {p : Int → Int} {k way y x t : Int} (hx0 : 0 ≤ x) (hx : x < W) (hy : 0 ≤ y) (ht : t = y + way * dropI W k x) (i : Int) :
    upd (movP W p k way y x) (t * W + x) (p (y * W + x)) i = movP W p k way y (x + 1) i := by
  unfold upd
  by_cases e : i = t * W + x
  · rw [if_pos e]
    unfold movP
    rw [e, idx_div hx0 hx, idx_mod hx0 hx]
    have hs : t - way * dropI W k x = y := by omega
    rw [hs, if_pos (by omega)]
  · rw [if_neg e]
    unfold movP
    have hX : ¬ (i / W - way * dropI W k (i % W) = y ∧ i % W = x) := by
      rintro ⟨h1, h2⟩
      rw [h2] at h1
      have h3 : i / W = t := by omega
      have h4 := Int.emod_add_mul_ediv i W
      rw [h2, h3, Int.mul_comm] at h4
      omega
    generalize i / W - way * dropI W k (i % W) = s at *
    generalize hq : p (s * W + i % W) = v
    clear hq
    generalize i % W = X at *
    by_cases c1 : 0 ≤ s ∧ (s < y ∨ s = y ∧ X < x)
    · rw [if_pos c1, if_pos (by omega)]
    · rw [if_neg c1, if_neg (by omega)]
theorem movP_out {W h : Int} {p : Int → Int} {k way y x t : Int} (hx0 : 0 ≤ x) (hx : x < W) (ht : t = y + way * dropI W k x) (ho : ¬ (0 ≤ t ∧ t < h)) {i : Int} (h0 : 0 ≤ i) (hi : i < W * h) :
    movP W p k way y x i = movP W p k way y (x + 1) i := by
  unfold movP
  have hX : ¬ (i / W - way * dropI W k (i % W) = y ∧ i % W = x) := by
    rintro ⟨h1, h2⟩
    rw [h2] at h1
    have h3 : 0 ≤ i / W := Int.ediv_nonneg h0 (by omega)
    have h4 : i / W < h := Int.ediv_lt_of_lt_mul (by omega) (by rw [Int.mul_comm]; exact hi)
    omega
  generalize i / W - way * dropI W k (i % W) = s at *
  generalize hq : p (s * W + i % W) = v
  clear hq
  generalize i % W = X at *
  by_cases c1 : 0 ≤ s ∧ (s < y ∨ s = y ∧ X < x)
  · rw [if_pos c1, if_pos (by omega)]
  · rw [if_neg c1, if_neg (by omega)]
theorem movP_row {W h : Int} {p : Int → Int} {k way y i : Int} (hW : 0 ≤ W) (h0 : 0 ≤ i) (hi : i < W * h) : movP W p k way y W i = movP W p k way (y + 1) 0 i := by
  unfold movP
  have hp : 0 < W := by
    rcases Int.lt_or_le 0 W with h | h
    · exact h
    · have : W = 0 := by omega
      subst this; simp at hi; omega
  have h1 := Int.emod_lt_of_pos i hp
  have h2 := Int.emod_nonneg i (show W ≠ 0 by omega)
  generalize i / W - way * dropI W k (i % W) = s at *
  generalize hq : p (s * W + i % W) = v
  clear hq
  generalize i % W = X at *
  by_cases c1 : 0 ≤ s ∧ (s < y ∨ s = y ∧ X < W)
  · rw [if_pos c1, if_pos (by omega)]
  · rw [if_neg c1, if_neg (by omega)]
theorem movP_end {W H h : Int} {p : Int → Int} {k way i : Int} (hW : 0 ≤ W) (h0 : 0 ≤ i) (hi : i < W * h) : movP W p k way H 0 i = movQ W H p k way i := by
  unfold movP movQ
  have h2 := emod_nn h0 hW
  generalize i / W - way * dropI W k (i % W) = s at *
  generalize hq : p (s * W + i % W) = v
  clear hq
  generalize i % W = X at *
  by_cases c1 : 0 ≤ s ∧ s < H
  · rw [if_pos c1, if_pos (by omega)]
  · rw [if_neg c1, if_neg (by omega)]
end Go.Proofs.YtdimlpcbbkokiaaGreat

/- Walks: Skew and Unskew; the profile of an image; its full rows. -/
namespace Go.Proofs.YtdimlpcbbkokiaaGreat
open Go.RowKit
set_option linter.unusedVariables false

end Go.Proofs.YtdimlpcbbkokiaaGreat

/- Walks: the profile of an image; its full rows. -/
namespace Go.Proofs.YtdimlpcbbkokiaaGreat
open Go.RowKit
set_option linter.unusedVariables false

def rowS (W : Int) (n : Nat) (p : Int → Int) (y : Int) : Int := sumN n fun j => if j / W = y then p j else 0
def colS (W : Int) (n : Nat) (p : Int → Int) (x : Int) : Int := sumN n fun j => if j % W = x then p j else 0

theorem rowS_bd {W : Int} {n : Nat} {p : Int → Int} (hB : IsB p) (h : ∀ i : Int, 0 ≤ i → i < n → p i ≤ 1) (y : Int) : 0 ≤ rowS W n p y ∧ rowS W n p y ≤ n := by
  have := sumN_bd (n := n) (f := fun j => if j / W = y then p j else 0) (m := 1) (fun i a b => by
    have := hB i; have := h i a b
    show 0 ≤ (if i / W = y then p i else 0) ∧ (if i / W = y then p i else 0) ≤ 1
    split <;> omega)
  unfold rowS; omega
theorem colS_bd {W : Int} {n : Nat} {p : Int → Int} (hB : IsB p) (h : ∀ i : Int, 0 ≤ i → i < n → p i ≤ 1) (y : Int) : 0 ≤ colS W n p y ∧ colS W n p y ≤ n := by
  have := sumN_bd (n := n) (f := fun j => if j % W = y then p j else 0) (m := 1) (fun i a b => by
    have := hB i; have := h i a b
    show 0 ≤ (if i % W = y then p i else 0) ∧ (if i % W = y then p i else 0) ≤ 1
    split <;> omega)
  unfold colS; omega
theorem rowS_step {W : Int} {k : Nat} {p : Int → Int} (y : Int) : upd (rowS W k p) (k / W) (rowS W k p (k / W) + p k) y = rowS W (k + 1) p y := by
  show (if y = k / W then _ else _) = sumN (k + 1) _
  rw [sumN]
  by_cases e : y = k / W
  · subst e; rw [if_pos rfl, if_pos rfl]; rfl
  · rw [if_neg e, if_neg (fun h => e h.symm)]; simp [rowS]
theorem colS_step {W : Int} {k : Nat} {p : Int → Int} (y : Int) : upd (colS W k p) (k % W) (colS W k p (k % W) + p k) y = colS W (k + 1) p y := by
  show (if y = k % W then _ else _) = sumN (k + 1) _
  rw [sumN]
  by_cases e : y = k % W
  · subst e; rw [if_pos rfl, if_pos rfl]; rfl
  · rw [if_neg e, if_neg (fun h => e h.symm)]; simp [colS]

/-- how many of the first m rows are full -/
def fullP (W : Int) (n : Nat) (p : Int → Int) (m : Nat) : Int := if 0 < W then sumN m (fun y => if rowS W n p y = W then 1 else 0) else 0
def fullS (W H : Int) (n : Nat) (p : Int → Int) : Int := fullP W n p H.toNat
theorem fullP_bd (W : Int) (n m : Nat) (p : Int → Int) : 0 ≤ fullP W n p m ∧ fullP W n p m ≤ m := by
  have := sumN_bd (n := m) (f := fun y => if rowS W n p y = W then 1 else 0) (m := 1) (fun i a b => by
    show 0 ≤ (if rowS W n p i = W then (1 : Int) else 0) ∧ (if rowS W n p i = W then (1 : Int) else 0) ≤ 1
    split <;> omega)
  unfold fullP
  split <;> omega
theorem fullP_yes {W : Int} {n m : Nat} {p : Int → Int} (h : 0 < W) (e : rowS W n p m = W) : fullP W n p (m + 1) = fullP W n p m + 1 := by
  unfold fullP; rw [if_pos h, if_pos h, sumN, if_pos e]
theorem fullP_no {W : Int} {n m : Nat} {p : Int → Int} (h : ¬ (0 < W ∧ rowS W n p m = W)) : fullP W n p (m + 1) = fullP W n p m := by
  unfold fullP
  by_cases hW : 0 < W
  · rw [if_pos hW, if_pos hW, sumN, if_neg (fun e => h ⟨hW, e⟩)]; simp
  · rw [if_neg hW, if_neg hW]

end Go.Proofs.YtdimlpcbbkokiaaGreat

/- Walks: how many pixels have each level; the threshold of a grey image. -/
namespace Go.Proofs.YtdimlpcbbkokiaaGreat
open Go.RowKit
set_option linter.unusedVariables false

def cntS (n : Nat) (p : Int → Int) (v : Int) : Int := sumN n fun j => if p j = v then 1 else 0
theorem cntS_bd (n : Nat) (p : Int → Int) (v : Int) : 0 ≤ cntS n p v ∧ cntS n p v ≤ n := by
  have := sumN_bd (n := n) (f := fun j => if p j = v then 1 else 0) (m := 1) (fun i a b => by
    show 0 ≤ (if p i = v then (1 : Int) else 0) ∧ (if p i = v then (1 : Int) else 0) ≤ 1
    split <;> omega)
  unfold cntS; omega
theorem cntS_step {n : Nat} {p : Int → Int} (v : Int) : upd (cntS n p) (p n) (cntS n p (p n) + 1) v = cntS (n + 1) p v := by
  show (if v = p n then _ else _) = sumN (n + 1) _
  rw [sumN]
  by_cases e : v = p n
  · subst e; rw [if_pos rfl, if_pos rfl]; rfl
  · rw [if_neg e, if_neg (fun h => e h.symm)]; simp [cntS]

theorem make256 (w : World) : (Instr.makeSlice 37 (.int .i64 256) (.int .i64 256)).run Tryz.prog w =
    .ok (.slice (some ⟨w.heap.size, 0, none⟩) 256 256) (w.alloc (.cells (i64s 256 (fun _ => 0)) 3)) := makeI 256 (by omega) (by omega) w

/-- threshold, gap and last level behind m levels -/
def levP (c : Int → Int) : Nat → Int × Int × Int
  | 0 => (128, 0, -1)
  | m + 1 =>
    if c m = 0 then levP c m
    else if 0 ≤ (levP c m).2.2 ∧ (levP c m).2.1 < m - (levP c m).2.2 then (((levP c m).2.2 + m + 1) / 2, m - (levP c m).2.2, m)
    else ((levP c m).1, (levP c m).2.1, m)
def levelS (n : Nat) (p : Int → Int) : Int := (levP (cntS n p) 256).1
theorem levP_bd (c : Int → Int) (m : Nat) : 0 ≤ (levP c m).1 ∧ (levP c m).1 ≤ 128 + m ∧ 0 ≤ (levP c m).2.1 ∧ (levP c m).2.1 ≤ m ∧ -1 ≤ (levP c m).2.2 ∧ (levP c m).2.2 < m := by
  induction m with
  | zero => simp [levP]
  | succ m ih =>
    rw [levP]
    split
    · omega
    · split
      · simp only; omega
      · simp only; omega

end Go.Proofs.YtdimlpcbbkokiaaGreat

/- Walks: the skews in their order; FindSkew. -/
namespace Go.Proofs.YtdimlpcbbkokiaaGreat
open Go.RowKit Go.Shelf
set_option linter.unusedVariables false
attribute [local go_sem] Oper.semAt_some

def skp : Nat → List Int
  | 0 => []
  | 1 => [0]
  | n + 2 => skp (n + 1) ++ [(n : Int) + 1, -((n : Int) + 1)]
theorem skp_len (n : Nat) : (skp n).length ≤ 2 * n := by
  induction n using skp.induct with
  | case1 => simp [skp]
  | case2 => simp [skp]
  | case3 n ih => simp [skp]; omega

theorem keeps_of_below {W W' : World} (h : Below W.heap.size W W') : KeepsOthers W W' :=
  ⟨h.size, fun k o hk _ => (h.block k (Array.getElem?_eq_some_iff.1 hk).1).trans hk⟩

theorem isB_mov {W H : Int} {p : Int → Int} {k way : Int} (hB : IsB p) : IsB (movQ W H p k way) := by
  intro i; unfold movQ; split
  · exact hB _
  · omega
theorem chk_mk {W H : Int} {n : Nat} {p : Int → Int} (h1 : 0 ≤ W) (h2 : W ≤ 640) (h3 : 0 ≤ H) (h4 : H ≤ 640) (hn : (n : Int) = W * H) (hp : ∀ i : Int, 0 ≤ i → i < n → p i ≤ 1) : chk W H n p = 0 := by
  unfold chk
  have hq : pixB n p = true := allN_iff.2 fun i a b => by simpa using hp i a b
  rw [if_pos (sidesB_iff.2 ⟨h1, h2, h3, h4, hn⟩), hq]; rfl
theorem chk_mov {W H h : Int} {n : Nat} {p : Int → Int} {k way : Int} (hE : movE W H n p k way = 0) (hh : h = H + way * grt W k) : chk W h (W * h).toNat (movQ W H p k way) = 0 := by
  obtain ⟨hc, hk1, hk2, hh1, hh2⟩ := movE_ok hE
  obtain ⟨hW1, hW2, hH1, hH2, hnn, hp⟩ := chk_ok hc
  subst hh
  refine chk_mk hW1 hW2 hh1 hh2 (Int.toNat_of_nonneg (area_bd hW1 hW2 hh1 hh2).1) fun i h0 hi => ?_
  rw [Int.toNat_of_nonneg (area_bd hW1 hW2 hh1 hh2).1] at hi
  unfold movQ
  split
  · rename_i hs
    have hp' : 0 < W := by
      rcases Int.lt_or_le 0 W with h | h
      · exact h
      · have : W = 0 := by omega
        subst this; simp at hi; omega
    obtain ⟨j1, j2, -⟩ := idx_lt (Int.emod_nonneg i (show W ≠ 0 by omega)) (Int.emod_lt_of_pos i hp') hs.1 hs.2
    rw [Int.mul_comm H W] at j2
    exact hp _ j1 (by omega)
  · omega

/-- how many full rows an image has when it is straightened by k; -1 if it cannot be -/
def fsN (W H : Int) (n : Nat) (p : Int → Int) (k : Int) : Int :=
  if movE W H n p k (-1) = 0 then fullS W (H - grt W k) (W * (H - grt W k)).toNat (movQ W H p k (-1)) else -1
def fsStep (f : Int → Int) (s : Int × Int) (k : Int) : Int × Int := if s.2 < f k then (k, f k) else s
def fsL (f : Int → Int) (l : List Int) : Int × Int := l.foldl (fsStep f) (0, -1)
theorem fsL_snoc (f : Int → Int) (l : List Int) (k : Int) : fsL f (l ++ [k]) = fsStep f (fsL f l) k := by simp [fsL]
def findS (W H : Int) (n : Nat) (p : Int → Int) : Int := (fsL (fsN W H n p) [0, 1, -1, 2, -2, 3, -3]).1
theorem fsL_bd {f : Int → Int} (hf : ∀ k, -1 ≤ f k ∧ f k ≤ 640) (l : List Int) : -1 ≤ (fsL f l).2 ∧ (fsL f l).2 ≤ 640 := by
  unfold fsL
  suffices ∀ s : Int × Int, (-1 ≤ s.2 ∧ s.2 ≤ 640) → -1 ≤ (l.foldl (fsStep f) s).2 ∧ (l.foldl (fsStep f) s).2 ≤ 640 from this _ (by simp)
  induction l with
  | nil => exact fun s h => h
  | cons k l ih =>
    intro s h
    refine ih _ ?_
    unfold fsStep
    split
    · exact hf k
    · exact h
theorem fsN_bd (W H : Int) (n : Nat) (p : Int → Int) (k : Int) : -1 ≤ fsN W H n p k ∧ fsN W H n p k ≤ 640 := by
  unfold fsN
  split
  · rename_i hE
    obtain ⟨hc, hk1, hk2, hh1, hh2⟩ := movE_ok hE
    have := fullP_bd W (W * (H - grt W k)).toNat (H - grt W k).toNat (movQ W H p k (-1))
    unfold fullS
    omega
  · omega

theorem ownFrom_of_below {β : Type} {B : Nat} {I : β → World → Prop} (hI : ∀ s W W', I s W → Below B W W' → I s W') (hsz : ∀ s W, I s W → B ≤ W.heap.size) : OwnFrom B I :=
  fun s W W' row hs hg hr => hI s W W' hs ((Below.refl B W).grown hg (hsz s W hs) fun k e => (hr k e).1)

end Go.Proofs.YtdimlpcbbkokiaaGreat

/- Walk: FindSkew. -/
namespace Go.Proofs.YtdimlpcbbkokiaaGreat
open Go.RowKit Go.Shelf
set_option linter.unusedVariables false
attribute [local go_sem] Oper.semAt_some

structure FsR (w : World) (V1 V2 V3 : Value) (f : Int → Int) (B5 : Nat) (pre : List Int) (W : World) : Prop where
  bl : Below w.heap.size w W
  k1 : Blk W w.heap.size 24 #[V1, V2, V3]
  k5 : Blk W B5 3 #[.int .i64 (fsL f pre).1]
  k6 : Blk W (B5 + 1) 3 #[.int .i64 (fsL f pre).2]

end Go.Proofs.YtdimlpcbbkokiaaGreat
