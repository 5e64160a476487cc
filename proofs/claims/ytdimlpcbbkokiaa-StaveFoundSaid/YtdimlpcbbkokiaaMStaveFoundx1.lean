/- Texts of mine in build order: Lib, Lib2, S16, S1, W1, S2, S3, W2, W3, W4, W5, W6, W7, W8, W9, W10, W11, W12. Conditions: each theorem's own. -/
import Derived.WalkKit
import Derived.WalkSpells
import Derived.WalkLawsBesides
import Derived.Lib.Hide
import Derived.Deep.Draws
import Derived.Laws.Rows
import Derived.Laws.Tables
import Derived.Test.YtdimlpcbbkokiaaRows
import Derived.BigQuiet
import Derived.Deep.QuietTactic
import Derived.StillTailTactics
import Derived.BigRegion
import Derived.Deep.WholeRow
import Derived.RegionTactic
import Derived.Deep.DeepCutAuto
import Derived.Deep.Cut
import Derived.RangeFuncNested
import Derived.RangeFuncBound
import Derived.RangeFuncCalls
import Derived.RangeFuncLeaves
import Derived.RangeFuncFrom
import Derived.Shelf.Abstract
import Derived.Shelf.RegionOpen
import Derived.OwnWalkIn
import Derived.TacticsInMore
import Derived.LoopNIn
import Derived.LoopIn
import Derived.BigGuardIn
import Derived.Deep.RegionHeld3
/- Plain lemmas on memory and on numbers, for all walks of this seat: whole blocks, arrays as functions of an index, sums and counts. No program in sight. -/
namespace Go.Proofs.Ytdimlpcbbkokiaa
open Go.RowKit
set_option linter.unusedVariables false

/-! ### whole blocks: block g is just these cells of element type t, and none of them is frozen -/
def Blk (w : World) (g : Nat) (t : TypeId) (cs : Array Value) : Prop := w.heap[g]? = some (.cells cs t (0, 0))
section
variable {w w' : World} {g : Nat} {t : TypeId} {cs : Array Value}
theorem Blk.lt (h : Blk w g t cs) : g < w.heap.size := (Array.getElem?_eq_some_iff.1 h).1
theorem Blk.cell (h : Blk w g t cs) (i : Nat) : w.cell? ⟨g, i, none⟩ = cs[i]? := cell_of_row w g i cs t (0, 0) h
theorem Blk.frozen (h : Blk w g t cs) (i : Nat) : w.frozen? ⟨g, i, none⟩ = false := frozen_of_row w g i cs t h
/-- what leaves the heap alone at g leaves the block alone -/
theorem Blk.move (h : Blk w g t cs) (e : w'.heap[g]? = w.heap[g]?) : Blk w' g t cs := e.trans h
theorem Blk.new (w : World) (t : TypeId) (cs : Array Value) : Blk (w.alloc (.cells cs t)) w.heap.size t cs := heap_alloc_new w _
theorem Blk.new' {w : World} {n : Nat} (hn : w.heap.size = n) (t : TypeId) (cs : Array Value) : Blk (w.alloc (.cells cs t)) n t cs := hn ▸ heap_alloc_new w _
theorem Blk.drew (h : Blk w g t cs) : Blk w.drew g t cs := h.move rfl
theorem Blk.drewN (h : Blk w g t cs) (n : Nat) : Blk (w.drewN n) g t cs := h.move rfl
theorem Blk.alloc (h : Blk w g t cs) (o : Obj) : Blk (w.alloc o) g t cs := h.move (Below.heap_alloc w o g h.lt)
theorem Blk.set_ (h : Blk w g t cs) (i : Nat) (u : Value) : Blk (w.setCell ⟨g, i, none⟩ u) g t (cs.setIfInBounds i u) := heap_setCell_same w g i cs t u h
theorem Blk.far (h : Blk w g t cs) {p : Addr} (hp : g ≠ p.block) (u : Value) : Blk (w.setCell p u) g t cs := h.move (heap_setCell_other w p g u hp)
theorem Blk.setRow (h : Blk w g t cs) (cs' : Array Value) : Blk (w.setRow g cs') g t cs' := setRow_heap w g cs cs' t (0, 0) h
theorem Blk.farRow (h : Blk w g t cs) {g' : Nat} (hg : g ≠ g') (cs' : Array Value) : Blk (w.setRow g' cs') g t cs := h.move (setRow_other w g' g cs' hg)
theorem Blk.below {B : Nat} (h : Blk w g t cs) (hb : Below B w w') (hg : g < B) : Blk w' g t cs := h.move (hb.block g hg)
theorem Blk.below' (h : Blk w g t cs) (hb : Below w.heap.size w w') : Blk w' g t cs := h.below hb h.lt
theorem Blk.grown {row : Option Nat} (h : Blk w g t cs) (hb : w.grownBy w' row) (hg : some g ≠ row) : Blk w' g t cs := h.move (hb.block g h.lt hg)
end
theorem below_drewN {B : Nat} {a w : World} (h : Below B a w) (n : Nat) : Below B a (w.drewN n) := h.trans ⟨rfl, rfl, rfl, Nat.le_refl _, fun _ _ => rfl⟩
theorem below_setRow {B : Nat} {a w : World} (h : Below B a w) {g : Nat} (hg : B ≤ g) (cs : Array Value) : Below B a (w.setRow g cs) :=
  h.trans ⟨rfl, rfl, rfl, by simp, fun k hk => setRow_other w g k cs (by omega)⟩
/-- behind a callee that has left all of its caller's memory alone -/
theorem below_call {B : Nat} {a w w' : World} (h : Below B a w) (hB : B ≤ w.heap.size) (hc : Below w.heap.size w w') : Below B a w' := h.trans (hc.mono hB)

/-! ### cells as a function of their index -/
def cellsF (n : Nat) (f : Int → Value) : Array Value := ((List.range n).map fun (j : Nat) => f (j : Int)).toArray
theorem cellsF_size (n f) : (cellsF n f).size = n := by simp [cellsF]
theorem cellsF_get {n f i} (h : i < n) : (cellsF n f)[i]? = some (f i) := by simp [cellsF, h]
theorem cellsF_none {n f i} (h : n ≤ i) : (cellsF n f)[i]? = none := by simp [cellsF]; omega
theorem cellsF_at {n : Nat} {f : Int → Value} {i : Int} (h0 : 0 ≤ i) (h : i < n) : (cellsF n f)[i.toNat]? = some (f i) := by
  rw [cellsF_get (by omega), Int.toNat_of_nonneg h0]
theorem cellsF_congr {n : Nat} {f g : Int → Value} (h : ∀ j : Int, 0 ≤ j → j < n → f j = g j) : cellsF n f = cellsF n g := by
  unfold cellsF; congr 1; exact List.map_congr_left (fun j hj => h j (by omega) (by have := List.mem_range.1 hj; omega))
theorem cellsF_set (n f) (i : Int) (h0 : 0 ≤ i) (v) : (cellsF n f).setIfInBounds i.toNat v = cellsF n (fun j => if j = i then v else f j) := by
  apply Array.ext_getElem?
  intro j
  rw [Array.getElem?_setIfInBounds, cellsF_size]
  by_cases hj : j < n
  · rw [cellsF_get hj]
    by_cases e : i.toNat = j
    · have e' : (j : Int) = i := by omega
      subst e; rw [if_pos rfl, if_pos hj, cellsF_get hj, if_pos e']
    · have e' : ¬ (j : Int) = i := by omega
      rw [if_neg e, cellsF_get hj, if_neg e']
  · rw [cellsF_none (by omega)]
    by_cases e : i.toNat = j
    · rw [if_pos e, if_neg (by omega), cellsF_none (by omega)]
    · rw [if_neg e, cellsF_none (by omega)]
theorem cellsF_one (n : Nat) (f : Int → Value) (h : ∀ j : Int, 0 ≤ j → j < n → (f j).oneCell' = true) : (cellsF n f).all (·.oneCell') = true := by
  rw [Array.all_eq_true_iff_forall_mem]
  intro v hv
  simp [cellsF] at hv
  obtain ⟨j, hj, rfl⟩ := hv
  exact h j (by omega) (by omega)
theorem cellsF_eq {n : Nat} {cs : Array Value} {f : Int → Value} (hs : cs.size = n) (h : ∀ j : Nat, j < n → cs[j]? = some (f j)) : cs = cellsF n f := by
  apply Array.ext_getElem?
  intro j
  by_cases hj : j < n
  · rw [h j hj, cellsF_get hj]
  · rw [cellsF_none (by omega)]; simp; omega
theorem replicate_cellsF (n : Nat) (v : Value) : Array.replicate n v = cellsF n (fun _ => v) :=
  cellsF_eq (by simp) fun j hj => by simp [hj]
/-- a block of bytes, a block of ints -/
def u8s (n : Nat) (q : Int → Int) : Array Value := cellsF n fun j => .int .u8 (q j)
def i64s (n : Nat) (q : Int → Int) : Array Value := cellsF n fun j => .int .i64 (q j)
theorem u8s_size (n q) : (u8s n q).size = n := cellsF_size _ _
theorem i64s_size (n q) : (i64s n q).size = n := cellsF_size _ _
theorem u8s_at {n : Nat} {q : Int → Int} {i : Int} (h0 : 0 ≤ i) (h : i < n) : (u8s n q)[i.toNat]? = some (.int .u8 (q i)) := cellsF_at h0 h
theorem i64s_at {n : Nat} {q : Int → Int} {i : Int} (h0 : 0 ≤ i) (h : i < n) : (i64s n q)[i.toNat]? = some (.int .i64 (q i)) := cellsF_at h0 h
theorem u8s_congr {n : Nat} {q r : Int → Int} (h : ∀ j : Int, 0 ≤ j → j < n → q j = r j) : u8s n q = u8s n r := cellsF_congr fun j a b => by rw [h j a b]
theorem i64s_congr {n : Nat} {q r : Int → Int} (h : ∀ j : Int, 0 ≤ j → j < n → q j = r j) : i64s n q = i64s n r := cellsF_congr fun j a b => by rw [h j a b]
theorem u8s_set (n q) (i : Int) (h0 : 0 ≤ i) (v : Int) : (u8s n q).setIfInBounds i.toNat (.int .u8 v) = u8s n (fun j => if j = i then v else q j) := by
  unfold u8s; rw [cellsF_set n _ i h0]; congr 1; funext j; show _ = Value.int _ (if j = i then v else q j); split <;> rfl
theorem i64s_set (n q) (i : Int) (h0 : 0 ≤ i) (v : Int) : (i64s n q).setIfInBounds i.toNat (.int .i64 v) = i64s n (fun j => if j = i then v else q j) := by
  unfold i64s; rw [cellsF_set n _ i h0]; congr 1; funext j; show _ = Value.int _ (if j = i then v else q j); split <;> rfl
theorem u8s_one (n q) : (u8s n q).all (·.oneCell') = true := cellsF_one _ _ fun _ _ _ => rfl
theorem i64s_one (n q) : (i64s n q).all (·.oneCell') = true := cellsF_one _ _ fun _ _ _ => rfl
theorem u8s_zero (n : Nat) : Array.replicate n (Value.int .u8 0) = u8s n (fun _ => 0) := replicate_cellsF _ _
theorem i64s_zero (n : Nat) : Array.replicate n (Value.int .i64 0) = i64s n (fun _ => 0) := replicate_cellsF _ _
def upd (q : Int → Int) (i v : Int) : Int → Int := fun j => if j = i then v else q j
theorem Blk.u8set {w : World} {g t n : Nat} {q : Int → Int} (h : Blk w g t (u8s n q)) (i : Int) (h0 : 0 ≤ i) (v : Int) : Blk (w.setCell ⟨g, i.toNat, none⟩ (.int .u8 v)) g t (u8s n (upd q i v)) := by
  have := h.set_ i.toNat (.int .u8 v); rwa [u8s_set _ _ _ h0] at this
theorem Blk.i64set {w : World} {g t n : Nat} {q : Int → Int} (h : Blk w g t (i64s n q)) (i : Int) (h0 : 0 ≤ i) (v : Int) : Blk (w.setCell ⟨g, i.toNat, none⟩ (.int .i64 v)) g t (i64s n (upd q i v)) := by
  have := h.set_ i.toNat (.int .i64 v); rwa [i64s_set _ _ _ h0] at this
theorem Blk.u8at {w : World} {g t n : Nat} {q : Int → Int} (h : Blk w g t (u8s n q)) {i : Int} (h0 : 0 ≤ i) (hi : i < n) : w.cell? ⟨g, i.toNat, none⟩ = some (.int .u8 (q i)) := by rw [h.cell, u8s_at h0 hi]
theorem Blk.i64at {w : World} {g t n : Nat} {q : Int → Int} (h : Blk w g t (i64s n q)) {i : Int} (h0 : 0 ≤ i) (hi : i < n) : w.cell? ⟨g, i.toNat, none⟩ = some (.int .i64 (q i)) := by rw [h.cell, i64s_at h0 hi]

theorem Blk.u8conv {w : World} {g t n : Nat} {q r : Int → Int} (h : Blk w g t (u8s n q)) (he : ∀ j : Int, 0 ≤ j → j < n → q j = r j) : Blk w g t (u8s n r) := u8s_congr he ▸ h
theorem Blk.i64conv {w : World} {g t n : Nat} {q r : Int → Int} (h : Blk w g t (i64s n q)) (he : ∀ j : Int, 0 ≤ j → j < n → q j = r j) : Blk w g t (i64s n r) := i64s_congr he ▸ h
theorem upd_at (q : Int → Int) (i v : Int) : upd q i v i = v := by simp [upd]
theorem upd_ne {q : Int → Int} {i v j : Int} (h : j ≠ i) : upd q i v j = q j := by simp [upd, h]

/-! ### a slice that reads as a function of the index -/
def Arr (w : World) (B : Nat) (A : Option Addr) (n : Nat) (f : Int → Value) : Prop :=
  0 < n → ∃ b off, A = some ⟨b, off, none⟩ ∧ b < B ∧ ∀ i : Int, 0 ≤ i → i < n → w.cell? ⟨b, off + i.toNat, none⟩ = some (f i)
def ArrB (w : World) (B : Nat) (A : Option Addr) (n : Nat) (q : Int → Int) : Prop := Arr w B A n fun j => .int .u8 (q j)
def ArrI (w : World) (B : Nat) (A : Option Addr) (n : Nat) (q : Int → Int) : Prop := Arr w B A n fun j => .int .i64 (q j)
section
variable {w w' : World} {B B' n : Nat} {A : Option Addr} {f : Int → Value} {q : Int → Int}
theorem Arr.nil : Arr w B A 0 f := fun h => absurd h (by omega)
theorem Arr.keep (h : Arr w B A n f) (hk : ∀ p : Addr, p.block < B → w'.cell? p = w.cell? p) (hB : B ≤ B') : Arr w' B' A n f := fun hn => by
  obtain ⟨b, off, e, hb, hc⟩ := h hn
  exact ⟨b, off, e, by omega, fun i h0 hi => (hk _ hb).trans (hc i h0 hi)⟩
theorem Arr.more (h : Arr w B A n f) (hB : B ≤ B') : Arr w B' A n f := h.keep (fun _ _ => rfl) hB
theorem Arr.below (h : Arr w B A n f) (hb : Below B w w') : Arr w' B A n f := h.keep (fun _ hp => hb.cell hp) (Nat.le_refl _)
theorem Arr.drewN (h : Arr w B A n f) (k : Nat) : Arr (w.drewN k) B A n f := h
theorem Arr.congr {g : Int → Value} (h : Arr w B A n f) (he : ∀ i : Int, 0 ≤ i → i < n → f i = g i) : Arr w B A n g := fun hn => by
  obtain ⟨b, off, e, hb, hc⟩ := h hn
  exact ⟨b, off, e, hb, fun i h0 hi => by rw [hc i h0 hi, he i h0 hi]⟩
theorem Arr.at_ (h : Arr w B A n f) {i : Int} (h0 : 0 ≤ i) (hi : i < n) : ∃ b off, A = some ⟨b, off, none⟩ ∧ b < B ∧ w.cell? ⟨b, off + i.toNat, none⟩ = some (f i) := by
  obtain ⟨b, off, e, hb, hc⟩ := h (by omega)
  exact ⟨b, off, e, hb, hc i h0 hi⟩
theorem Blk.arr {g t : Nat} (h : Blk w g t (cellsF n f)) (hB : g < B) : Arr w B (some ⟨g, 0, none⟩) n f := fun _ =>
  ⟨g, 0, rfl, hB, fun i h0 hi => by rw [h.cell, Nat.zero_add, cellsF_at h0 hi]⟩
theorem Blk.arrB {g t : Nat} (h : Blk w g t (u8s n q)) (hB : g < B) : ArrB w B (some ⟨g, 0, none⟩) n q := Blk.arr h hB
theorem Blk.arrI {g t : Nat} (h : Blk w g t (i64s n q)) (hB : g < B) : ArrI w B (some ⟨g, 0, none⟩) n q := Blk.arr h hB
theorem ArrB.nil : ArrB w B A 0 q := Arr.nil
theorem ArrB.more (h : ArrB w B A n q) (hB : B ≤ B') : ArrB w B' A n q := Arr.more h hB
theorem ArrB.below (h : ArrB w B A n q) (hb : Below B w w') : ArrB w' B A n q := Arr.below h hb
theorem ArrB.to (h : ArrB w w.heap.size A n q) (hb : Below w.heap.size w w') : ArrB w' w'.heap.size A n q := Arr.more (Arr.below h hb) hb.size
theorem ArrB.at_ (h : ArrB w B A n q) {i : Int} (h0 : 0 ≤ i) (hi : i < n) : ∃ b off, A = some ⟨b, off, none⟩ ∧ b < B ∧ w.cell? ⟨b, off + i.toNat, none⟩ = some (.int .u8 (q i)) := Arr.at_ h h0 hi
theorem ArrB.congr {r : Int → Int} (h : ArrB w B A n q) (he : ∀ i : Int, 0 ≤ i → i < n → q i = r i) : ArrB w B A n r := Arr.congr h fun i a b => by rw [he i a b]
theorem ArrI.nil : ArrI w B A 0 q := Arr.nil
theorem ArrI.more (h : ArrI w B A n q) (hB : B ≤ B') : ArrI w B' A n q := Arr.more h hB
theorem ArrI.below (h : ArrI w B A n q) (hb : Below B w w') : ArrI w' B A n q := Arr.below h hb
theorem ArrI.to (h : ArrI w w.heap.size A n q) (hb : Below w.heap.size w w') : ArrI w' w'.heap.size A n q := Arr.more (Arr.below h hb) hb.size
theorem ArrI.at_ (h : ArrI w B A n q) {i : Int} (h0 : 0 ≤ i) (hi : i < n) : ∃ b off, A = some ⟨b, off, none⟩ ∧ b < B ∧ w.cell? ⟨b, off + i.toNat, none⟩ = some (.int .i64 (q i)) := Arr.at_ h h0 hi
theorem ArrI.congr {r : Int → Int} (h : ArrI w B A n q) (he : ∀ i : Int, 0 ≤ i → i < n → q i = r i) : ArrI w B A n r := Arr.congr h fun i a b => by rw [he i a b]
end
/-- bytes -/
def IsB (q : Int → Int) : Prop := ∀ i, 0 ≤ q i ∧ q i ≤ 255
/-- pixels -/
def Is01 (q : Int → Int) : Prop := ∀ i, q i = 0 ∨ q i = 1

/-! ### endings -/
theorem ret_int {k : IntKind} {a b : Int} (h : a = b) : Ending.returned (.int k a) = .returned (.int k b) := by rw [h]
theorem ret_bool {a b : Bool} (h : a = b) : Ending.returned (.bool a) = .returned (.bool b) := by rw [h]

/-! ### sums, counts, all -/
def sumN : Nat → (Int → Int) → Int
  | 0, _ => 0
  | n + 1, f => sumN n f + f n
def allN : Nat → (Int → Bool) → Bool
  | 0, _ => true
  | n + 1, f => allN n f && f n
theorem allN_iff {n : Nat} {f : Int → Bool} : allN n f = true ↔ ∀ i : Int, 0 ≤ i → i < n → f i = true := by
  induction n with
  | zero => simp [allN]; intro i h1 h2; omega
  | succ n ih =>
    rw [allN, Bool.and_eq_true, ih]
    constructor
    · rintro ⟨h1, h2⟩ i h0 hi
      by_cases e : i = n
      · subst e; exact h2
      · exact h1 i h0 (by omega)
    · intro h
      exact ⟨fun i h0 hi => h i h0 (by omega), h n (by omega) (by omega)⟩
theorem sumN_congr {n : Nat} {f g : Int → Int} (h : ∀ i : Int, 0 ≤ i → i < n → f i = g i) : sumN n f = sumN n g := by
  induction n with
  | zero => rfl
  | succ n ih => rw [sumN, sumN, ih (fun i a b => h i a (by omega)), h n (by omega) (by omega)]
theorem sumN_bd {n : Nat} {f : Int → Int} {m : Int} (h : ∀ i : Int, 0 ≤ i → i < n → 0 ≤ f i ∧ f i ≤ m) : 0 ≤ sumN n f ∧ sumN n f ≤ n * m := by
  induction n with
  | zero => simp [sumN]
  | succ n ih =>
    have h1 := ih (fun i a b => h i a (by omega))
    have h2 := h n (by omega) (by omega)
    have e : ((n + 1 : Nat) : Int) * m = n * m + m := by rw [Int.natCast_add, Int.add_mul]; simp
    rw [sumN, e]
    omega

/-! ### places in a grid -/
theorem idx_lt {x y W H : Int} (hx0 : 0 ≤ x) (hx : x < W) (hy0 : 0 ≤ y) (hy : y < H) : 0 ≤ y * W + x ∧ y * W + x < H * W ∧ 0 ≤ y * W := by
  have h1 : 0 ≤ y * W := Int.mul_nonneg hy0 (by omega)
  have h2 : (y + 1) * W ≤ H * W := Int.mul_le_mul_of_nonneg_right (by omega) (by omega)
  rw [Int.add_mul] at h2
  omega
theorem idx_div {x y W : Int} (hx0 : 0 ≤ x) (hx : x < W) : (y * W + x) / W = y := by
  rw [Int.add_comm, Int.mul_comm, Int.add_mul_ediv_left _ _ (by omega), Int.ediv_eq_zero_of_lt hx0 hx]; omega
theorem idx_mod {x y W : Int} (hx0 : 0 ≤ x) (hx : x < W) : (y * W + x) % W = x := by
  rw [Int.add_comm, Int.mul_comm, Int.add_mul_emod_self_left, Int.emod_eq_of_lt hx0 hx]
theorem idx_of {k W H : Int} (h0 : 0 ≤ k) (hW : 0 < W) (h : k < H * W) : ∃ x y, 0 ≤ x ∧ x < W ∧ 0 ≤ y ∧ y < H ∧ k = y * W + x ∧ y = k / W ∧ x = k % W := by
  refine ⟨k % W, k / W, Int.emod_nonneg _ (by omega), Int.emod_lt_of_pos _ hW, Int.ediv_nonneg h0 (by omega), Int.ediv_lt_of_lt_mul hW h, ?_, rfl, rfl⟩
  have := Int.emod_add_mul_ediv k W
  rw [Int.mul_comm (k / W)]; omega
theorem idx_inj {x y u v W : Int} (hx0 : 0 ≤ x) (hx : x < W) (hu0 : 0 ≤ u) (hu : u < W) (h : y * W + x = v * W + u) : x = u ∧ y = v := by
  have a := idx_mod (y := y) hx0 hx
  have b := idx_mod (y := v) hu0 hu
  have c := idx_div (y := y) hx0 hx
  have d := idx_div (y := v) hu0 hu
  rw [h] at a c
  exact ⟨a.symm.trans b, c.symm.trans d⟩
end Go.Proofs.Ytdimlpcbbkokiaa
namespace Go.Proofs.Ytdimlpcbbkokiaa
open Go.RowKit
theorem Blk.cells3 {w : World} {g : Nat} {t : TypeId} {a b c : Value} (h : Blk w g t #[a, b, c]) : w.cell? ⟨g, 0, none⟩ = some a ∧ w.cell? ⟨g, 1, none⟩ = some b ∧ w.cell? ⟨g, 2, none⟩ = some c :=
  ⟨by rw [h.cell]; rfl, by rw [h.cell]; rfl, by rw [h.cell]; rfl⟩
theorem Blk.frozen3 {w : World} {g : Nat} {t : TypeId} {a b c : Value} (h : Blk w g t #[a, b, c]) : w.frozen? ⟨g, 0, none⟩ = false ∧ w.frozen? ⟨g, 1, none⟩ = false ∧ w.frozen? ⟨g, 2, none⟩ = false :=
  ⟨h.frozen _, h.frozen _, h.frozen _⟩
theorem Blk.cells1 {w : World} {g : Nat} {t : TypeId} {a : Value} (h : Blk w g t #[a]) : w.cell? ⟨g, 0, none⟩ = some a := by rw [h.cell]; rfl
/-- a value of type Ink or Grey over fresh memory -/
def OutImg (w w' : World) (W H : Int) (q : Int → Int) (v : Value) : Prop :=
  ∃ g, v = .agg #[.int .i64 W, .int .i64 H, .slice (some ⟨g, 0, none⟩) (W * H).toNat (W * H).toNat] ∧ w.heap.size ≤ g ∧ Blk w' g 5 (u8s (W * H).toNat q)
theorem OutImg.mk {w w' : World} {W H : Int} {q : Int → Int} {g : Nat} (h : w.heap.size ≤ g) (hb : Blk w' g 5 (u8s (W * H).toNat q)) :
    OutImg w w' W H q (.agg #[.int .i64 W, .int .i64 H, .slice (some ⟨g, 0, none⟩) (W * H).toNat (W * H).toNat]) := ⟨g, rfl, h, hb⟩
/-- the image that is returned with an error -/
def noImg : Value := .agg #[.int .i64 0, .int .i64 0, .slice none 0 0]
theorem area_bd {W H : Int} (h1 : 0 ≤ W) (h2 : W ≤ 640) (h3 : 0 ≤ H) (h4 : H ≤ 640) : 0 ≤ W * H ∧ W * H ≤ 409600 :=
  ⟨Int.mul_nonneg h1 h3, Int.le_trans (Int.mul_le_mul h2 h4 h3 (by omega)) (by omega)⟩
end Go.Proofs.Ytdimlpcbbkokiaa
namespace Go.Proofs.Ytdimlpcbbkokiaa
theorem qcall {P : Program} {f : FuncId} {args : Array Value} {w : World} {v : Value}
    (h : Calls P f args w fun e w' => e = .returned v ∧ w = w') : Calls P f args w fun e w'' => e = .returned v ∧ ∃ m, w'' = w.drewN m :=
  h.mono fun _ _ ⟨he, hm⟩ => ⟨he, 0, hm ▸ rfl⟩
theorem qcallN {P : Program} {f : FuncId} {args : Array Value} {w : World} {n : Nat} {v : Value}
    (h : Calls P f args (w.drewN n) fun e w' => e = .returned v ∧ w.drewN n = w') : Calls P f args (w.drewN n) fun e w'' => e = .returned v ∧ ∃ m, w'' = w.drewN m :=
  h.mono fun _ _ ⟨he, hm⟩ => ⟨he, n, hm.symm⟩
theorem qcallA {P : Program} {f : FuncId} {args : Array Value} {w : World} {a n : Nat} {v : Value}
    (h : Calls P f args (w.drewN (a + n)) fun e w' => e = .returned v ∧ w.drewN (a + n) = w') : Calls P f args (w.drewN (a + n)) fun e w'' => e = .returned v ∧ ∃ m, w'' = w.drewN (a + m) :=
  h.mono fun _ _ ⟨he, hm⟩ => ⟨he, n, hm.symm⟩
end Go.Proofs.Ytdimlpcbbkokiaa

namespace Go.Proofs.Ytdimlpcbbkokiaa
open Go.RowKit
/-- an image over fresh memory, of N pixels -/
def OutN (w w' : World) (W H : Int) (N : Nat) (q : Int → Int) (v : Value) : Prop :=
  ∃ g, v = .agg #[.int .i64 W, .int .i64 H, .slice (some ⟨g, 0, none⟩) N N] ∧ w.heap.size ≤ g ∧ Blk w' g 5 (u8s N q)
theorem OutN.mk {w w' : World} {W H : Int} {N : Nat} {q : Int → Int} {g : Nat} (h : w.heap.size ≤ g) (hb : Blk w' g 5 (u8s N q)) :
    OutN w w' W H N q (.agg #[.int .i64 W, .int .i64 H, .slice (some ⟨g, 0, none⟩) N N]) := ⟨g, rfl, h, hb⟩
/-- a list of numbers as a function of the index -/
def lit (l : List Int) : Int → Int := fun i => l.getD i.toNat 0
theorem isB_lit {l : List Int} (h : l.all (fun x => decide (0 ≤ x ∧ x ≤ 255)) = true) : IsB (lit l) := by
  intro i
  unfold lit
  rw [List.getD_eq_getElem?_getD]
  by_cases hi : i.toNat < l.length
  · rw [List.getElem?_eq_getElem hi]
    have := List.all_eq_true.1 h _ (List.getElem_mem hi)
    simpa using this
  · rw [List.getElem?_eq_none (by omega)]; simp
theorem u8s_lit {l : List Int} : (l.map (Value.int .u8)).toArray = u8s l.length (lit l) :=
  cellsF_eq (by simp) fun j hj => by simp [lit, hj]
theorem i64s_lit {l : List Int} : (l.map (Value.int .i64)).toArray = i64s l.length (lit l) :=
  cellsF_eq (by simp) fun j hj => by simp [lit, hj]
end Go.Proofs.Ytdimlpcbbkokiaa

/- More plain lemmas on memory: rows that the call owns. No program in sight. -/
namespace Go.Proofs.Ytdimlpcbbkokiaa
open Go.RowKit
set_option linter.unusedVariables false
theorem own_ge {w : World} {base : Nat} {e : TypeId} {size n k : Nat} {v : Value} {xs : List Value} (h : w.ownsRow base e size v n xs) (hk : v.ownBlock = some k) : base ≤ k ∧ k < w.heap.size := by
  rcases h.2 with ⟨rfl, _⟩ | ⟨g, cap, cur, rfl, hb, hh, _⟩
  · simp [Value.ownBlock] at hk
  · simp [Value.ownBlock] at hk
    subst hk
    exact ⟨hb, (Array.getElem?_eq_some_iff.1 hh).1⟩
theorem own_ne {w : World} {base : Nat} {e : TypeId} {size n g : Nat} {v : Value} {xs : List Value} (h : w.ownsRow base e size v n xs) (hg : g < base) : some g ≠ v.ownBlock := fun e => by
  have := (own_ge h e.symm).1; omega
theorem own_below {w w' : World} {base n : Nat} {e : TypeId} {v : Value} {xs : List Value} (h : w.ownsRow base e 1 v n xs) (hb : Below w.heap.size w w') : w'.ownsRow base e 1 v n xs := by
  refine ⟨h.1, ?_⟩
  rcases h.2 with h2 | ⟨g, cap, cur, hv, hg, hh, r⟩
  · exact .inl h2
  · exact .inr ⟨g, cap, cur, hv, hg, (hb.block g (Array.getElem?_eq_some_iff.1 hh).1).trans hh, r⟩
/-- an owned row of one-cell elements, read as a list -/
theorem own_arr {w : World} {base n : Nat} {e : TypeId} {v : Value} {xs : List Value} (h : w.ownsRow base e 1 v n xs) : ∃ A c, v = .slice A n c ∧ n ≤ c ∧ Arr w w.heap.size A n (fun i => xs.getD i.toNat default) := by
  rcases h.2 with ⟨rfl, rfl⟩ | ⟨g, cap, cur, rfl, hb, hh, hc, _, hs, ht⟩
  · exact ⟨none, 0, rfl, Nat.le_refl _, Arr.nil⟩
  · refine ⟨_, _, rfl, hc, fun _ => ⟨g, 0, rfl, (Array.getElem?_eq_some_iff.1 hh).1, fun i h0 hi => ?_⟩⟩
    rw [Nat.zero_add, cell_of_row w g _ cur e (0, 0) hh]
    have hl : xs.length = n := by rw [h.1]; omega
    have hi' : i.toNat < xs.length := by omega
    show cur[i.toNat]? = some (xs.getD i.toNat default)
    rw [List.getD_eq_getElem?_getD, List.getElem?_eq_getElem hi']
    have : xs[i.toNat]? = cur.toList[i.toNat]? := by
      rw [← ht, List.getElem?_take]
      simp; omega
    rw [List.getElem?_eq_getElem hi'] at this
    simpa using this.symm
end Go.Proofs.Ytdimlpcbbkokiaa

/- Plain: runs of columns; neighbours that are alike struck from a list. No program in sight. -/
namespace Go.Proofs.Ytdimlpcbbkokiaa
open Go.RowKit
set_option linter.unusedVariables false
abbrev Rn := Int × Int × Int
def encR (r : Rn) : List Value := [.int .i64 r.1, .int .i64 r.2.1, .int .i64 r.2.2]
/-- neighbours that are alike are struck -/
def dd : List Rn → List Rn
  | [] => []
  | [a] => [a]
  | a :: b :: t => if a = b then dd (b :: t) else a :: dd (b :: t)
theorem dd_cons_ne (a : Rn) : ∀ t : List Rn, dd (a :: t) ≠ []
  | [] => by simp [dd]
  | b :: t => by
    unfold dd
    split
    · exact dd_cons_ne b t
    · simp
theorem dd_snoc : ∀ (l : List Rn) (a b : Rn), dd (l ++ [a] ++ [b]) = if a = b then dd (l ++ [a]) else dd (l ++ [a]) ++ [b]
  | [], a, b => by
    by_cases h : a = b
    · subst h; simp [dd]
    · simp [dd, h]
  | [c], a, b => by
    have ih := dd_snoc [] a b
    simp only [List.nil_append, List.cons_append] at ih ⊢
    show dd (c :: a :: [b]) = if a = b then dd (c :: [a]) else dd (c :: [a]) ++ [b]
    unfold dd
    by_cases h : c = a
    · rw [if_pos h, if_pos h]; exact ih
    · rw [if_neg h, if_neg h, ih]
      split <;> simp
  | c :: d :: l, a, b => by
    have ih := dd_snoc (d :: l) a b
    simp only [List.cons_append] at ih ⊢
    have e1 : ∀ t, dd (c :: d :: t) = if c = d then dd (d :: t) else c :: dd (d :: t) := fun t => by rw [dd]
    rw [e1, e1, ih]
    by_cases h : c = d
    · rw [if_pos h, if_pos h]
    · rw [if_neg h, if_neg h]
      split <;> simp
theorem mem_dd : ∀ (l : List Rn) (r : Rn), r ∈ dd l ↔ r ∈ l
  | [], r => by simp [dd]
  | [a], r => by simp [dd]
  | a :: b :: t, r => by
    rw [dd]
    by_cases h : a = b
    · rw [if_pos h, mem_dd (b :: t) r]
      subst h; simp
    · rw [if_neg h, List.mem_cons, mem_dd (b :: t) r, List.mem_cons (a := r) (b := a)]
theorem dd_sub : ∀ l : List Rn, (dd l).Sublist l
  | [] => by simp [dd]
  | [a] => by simp [dd]
  | a :: b :: t => by
    rw [dd]
    split
    · exact (dd_sub (b :: t)).cons _
    · exact (dd_sub (b :: t)).cons_cons _
theorem dd_len (l : List Rn) : (dd l).length ≤ l.length := (dd_sub l).length_le
/-- before, by column and first row -/
def ltR (a b : Rn) : Prop := a.1 < b.1 ∨ (a.1 = b.1 ∧ a.2.1 < b.2.1)
def leR (a b : Rn) : Prop := a.1 < b.1 ∨ (a.1 = b.1 ∧ a.2.1 ≤ b.2.1)
theorem leR_trans {a b c : Rn} (h : leR a b) (h' : leR b c) : leR a c := by unfold leR at *; omega
/-- a list in order, of runs that their column and first row tell apart, has each once behind the striking -/
theorem dd_sorted : ∀ (l : List Rn), l.Pairwise leR → (∀ a ∈ l, ∀ b ∈ l, a.1 = b.1 → a.2.1 = b.2.1 → a = b) → (dd l).Pairwise ltR
  | [], _, _ => by simp [dd]
  | [a], _, _ => by simp [dd]
  | a :: b :: t, h, hk => by
    rw [dd]
    have h2 := (List.pairwise_cons.1 h).2
    have hk2 : ∀ x ∈ b :: t, ∀ y ∈ b :: t, x.1 = y.1 → x.2.1 = y.2.1 → x = y := fun x hx y hy => hk x (List.mem_cons_of_mem _ hx) y (List.mem_cons_of_mem _ hy)
    by_cases e : a = b
    · rw [if_pos e]; exact dd_sorted (b :: t) h2 hk2
    · rw [if_neg e, List.pairwise_cons]
      refine ⟨fun r hr => ?_, dd_sorted (b :: t) h2 hk2⟩
      have hr2 := (mem_dd _ r).1 hr
      have hab := (List.pairwise_cons.1 h).1 b (by simp)
      have hne : ltR a b := by
        unfold leR at hab
        unfold ltR
        by_cases c : a.1 = b.1 ∧ a.2.1 = b.2.1
        · exact absurd (hk a (by simp) b (by simp) c.1 c.2) e
        · omega
      rcases List.mem_cons.1 hr2 with rfl | hr3
      · exact hne
      · have := (List.pairwise_cons.1 h2).1 r hr3
        unfold leR at this
        unfold ltR at *
        omega
/-- strictly sorted lists with the same members are one -/
theorem ltR_uniq : ∀ {l l' : List Rn}, l.Pairwise ltR → l'.Pairwise ltR → (∀ r, r ∈ l ↔ r ∈ l') → l = l'
  | [], [], _, _, _ => rfl
  | [], b :: t, _, _, h => by have := (h b).2 (by simp); simp at this
  | a :: t, [], _, _, h => by have := (h a).1 (by simp); simp at this
  | a :: s, b :: t, h1, h2, h => by
    have irr : ∀ x : Rn, ¬ ltR x x := fun x hx => by unfold ltR at hx; omega
    have asy : ∀ x y : Rn, ltR x y → ¬ ltR y x := fun x y hx hy => by unfold ltR at *; omega
    have e : a = b := by
      rcases List.mem_cons.1 ((h a).1 (by simp)) with e | e
      · exact e
      · rcases List.mem_cons.1 ((h b).2 (by simp)) with e2 | e2
        · exact e2.symm
        · exact absurd ((List.pairwise_cons.1 h1).1 b e2) (asy _ _ ((List.pairwise_cons.1 h2).1 a e))
    subst e
    congr 1
    refine ltR_uniq (List.pairwise_cons.1 h1).2 (List.pairwise_cons.1 h2).2 fun r => ?_
    constructor
    · intro hr
      rcases List.mem_cons.1 ((h r).1 (List.mem_cons_of_mem _ hr)) with e | e
      · subst e; exact absurd ((List.pairwise_cons.1 h1).1 r hr) (irr r)
      · exact e
    · intro hr
      rcases List.mem_cons.1 ((h r).2 (List.mem_cons_of_mem _ hr)) with e | e
      · subst e; exact absurd ((List.pairwise_cons.1 h2).1 r hr) (irr r)
      · exact e
/-! ### the run of a column that holds a row -/
/-- its first row -/
def topN (p : Int → Int) (W x : Int) : Nat → Nat
  | 0 => 0
  | y + 1 => if p ((y : Int) * W + x) = 1 then topN p W x y else y + 1
/-- its last row: k rows lie below -/
def botN (p : Int → Int) (W x : Int) : Nat → Nat → Nat
  | 0, y => y
  | k + 1, y => if p (((y : Int) + 1) * W + x) = 1 then botN p W x k (y + 1) else y
theorem topN_le (p : Int → Int) (W x : Int) : ∀ y, topN p W x y ≤ y
  | 0 => Nat.le_refl _
  | y + 1 => by
    unfold topN; split
    · have := topN_le p W x y; omega
    · exact Nat.le_refl _
theorem botN_bd (p : Int → Int) (W x : Int) : ∀ k y, y ≤ botN p W x k y ∧ botN p W x k y ≤ y + k
  | 0, y => by simp [botN]
  | k + 1, y => by
    unfold botN; split
    · have := botN_bd p W x k (y + 1); omega
    · omega
/-- all rows between are ink -/
theorem topN_ink (p : Int → Int) (W x : Int) : ∀ y j, topN p W x y ≤ j → j < y → p ((j : Int) * W + x) = 1
  | 0, j, _, h => by omega
  | y + 1, j, h1, h2 => by
    unfold topN at h1
    by_cases c : p ((y : Int) * W + x) = 1
    · rw [if_pos c] at h1
      by_cases e : j = y
      · subst e; exact c
      · exact topN_ink p W x y j h1 (by omega)
    · rw [if_neg c] at h1; omega
/-- above it is no ink -/
theorem topN_up (p : Int → Int) (W x : Int) : ∀ y j, j + 1 = topN p W x y → p ((j : Int) * W + x) ≠ 1
  | 0, j, h => by simp [topN] at h
  | y + 1, j, h => by
    unfold topN at h
    by_cases c : p ((y : Int) * W + x) = 1
    · rw [if_pos c] at h; exact topN_up p W x y j h
    · rw [if_neg c] at h
      obtain rfl : j = y := by omega
      exact c
theorem botN_ink (p : Int → Int) (W x : Int) : ∀ k y j, y < j → j ≤ botN p W x k y → p ((j : Int) * W + x) = 1
  | 0, y, j, h1, h2 => by simp [botN] at h2; omega
  | k + 1, y, j, h1, h2 => by
    unfold botN at h2
    by_cases c : p (((y : Int) + 1) * W + x) = 1
    · rw [if_pos c] at h2
      by_cases e : j = y + 1
      · subst e; simpa using c
      · exact botN_ink p W x k (y + 1) j (by omega) h2
    · rw [if_neg c] at h2; omega
theorem botN_down (p : Int → Int) (W x : Int) : ∀ k y, botN p W x k y < y + k → p (((botN p W x k y : Nat) + 1 : Int) * W + x) ≠ 1
  | 0, y, h => by simp [botN] at h
  | k + 1, y, h => by
    unfold botN at h ⊢
    by_cases c : p (((y : Int) + 1) * W + x) = 1
    · rw [if_pos c] at h ⊢; exact botN_down p W x k (y + 1) (by omega)
    · rw [if_neg c]; exact c
end Go.Proofs.Ytdimlpcbbkokiaa

/- Plain laws of the cheapest paths: least costs column by column, once with the program's number for 'never', once with the reference's. No program in sight. -/
namespace Go.Proofs.Ytdimlpcbbkokiaa
open Go.RowKit
set_option linter.unusedVariables false

/-- the least of N and of f at j places from lo on -/
def mfold (N : Int) (f : Int → Int) (lo : Int) : Nat → Int
  | 0 => N
  | j + 1 => min (mfold N f lo j) (f (lo + j))
theorem mfold_le (N : Int) (f : Int → Int) (lo : Int) (j : Nat) : mfold N f lo j ≤ N := by
  induction j with
  | zero => exact Int.le_refl _
  | succ j ih => rw [mfold]; omega
theorem mfold_ge {N m : Int} {f : Int → Int} {lo : Int} {j : Nat} (hN : m ≤ N) (h : ∀ i : Nat, i < j → m ≤ f (lo + i)) : m ≤ mfold N f lo j := by
  induction j with
  | zero => exact hN
  | succ j ih => rw [mfold]; have := ih (fun i hi => h i (by omega)); have := h j (by omega); omega
theorem mfold_at {N : Int} {f : Int → Int} {lo : Int} {j i : Nat} (h : i < j) : mfold N f lo j ≤ f (lo + i) := by
  induction j with
  | zero => omega
  | succ j ih =>
    rw [mfold]
    by_cases e : i = j
    · subst e; omega
    · have := ih (by omega); omega
theorem mfold_is {N : Int} {f : Int → Int} {lo : Int} {j : Nat} : mfold N f lo j = N ∨ ∃ i : Nat, i < j ∧ mfold N f lo j = f (lo + i) := by
  induction j with
  | zero => exact .inl rfl
  | succ j ih =>
    rw [mfold]
    rcases Int.le_total (mfold N f lo j) (f (lo + j)) with h | h
    · rw [Int.min_eq_left h]
      rcases ih with e | ⟨i, hi, e⟩
      · exact .inl e
      · exact .inr ⟨i, by omega, e⟩
    · rw [Int.min_eq_right h]
      exact .inr ⟨j, by omega, rfl⟩

/-- what it costs to go on to a row -/
def goTo (d : Int → Int) (y : Int) : Int → Int := fun u => d u + if u = y then 0 else 1
/-- the first of the rows next to a row, and how many there are -/
def nxLo (y : Int) : Int := if y - 1 < 0 then 0 else y - 1
def nxN (H y : Int) : Nat := ((if y + 1 < H - 1 then y + 1 else H - 1) - nxLo y + 1).toNat
/-- the least costs to the last column: k columns are to the right -/
def gcol (N W H : Int) (c : Int → Int → Int) (F : Int → Int → Bool) : Nat → Int → Int
  | 0, y => if F (W - 1) y then N else min (c (W - 1) y) N
  | k + 1, y => if F (W - 1 - (k + 1 : Nat)) y then N else min (mfold N (goTo (gcol N W H c F k) y) (nxLo y) (nxN H y) + c (W - 1 - (k + 1 : Nat)) y) N
/-- the same as the reference has it -/
def rgo (N H cc : Int) (d : Int → Int) (y : Int) : Int → Int := fun u => if u < 0 ∨ H ≤ u ∨ d u = N then N else cc + d u + if u = y then 0 else 1
def rcol (N W H : Int) (c : Int → Int → Int) (F : Int → Int → Bool) : Nat → Int → Int
  | 0, y => if F (W - 1) y then N else c (W - 1) y
  | k + 1, y => if F (W - 1 - (k + 1 : Nat)) y then N else mfold N (rgo N H (c (W - 1 - (k + 1 : Nat)) y) (rcol N W H c F k) y) (y - 1) 3
/-- two numbers are the same cost, or both are none -/
def Alike (N M b x y : Int) : Prop := (0 ≤ x ∧ x ≤ b ∧ y = x) ∨ (x = N ∧ y = M)
theorem nx_in {H y : Int} (h0 : 0 ≤ y) (h : y < H) (i : Nat) : i < nxN H y ↔ nxLo y + i < H ∧ nxLo y + i ≤ y + 1 := by
  unfold nxN nxLo; split <;> split <;> omega
theorem alike_N (N M b : Int) : Alike N M b N M := .inr ⟨rfl, rfl⟩
theorem alike_min {N M b x y x' y' : Int} (hN : b < N) (hM : b < M) (h : Alike N M b x y) (h' : Alike N M b x' y') : Alike N M b (min x x') (min y y') := by
  rcases h with ⟨h1, h2, h3⟩ | ⟨h1, h2⟩ <;> rcases h' with ⟨g1, g2, g3⟩ | ⟨g1, g2⟩
  · left; omega
  · left; omega
  · left; omega
  · right; omega
theorem alike_capR {N M b x y : Int} (hM : b < M) (h : Alike N M b x y) : Alike N M b x (min y M) := by
  rcases h with ⟨h1, h2, h3⟩ | ⟨h1, h2⟩
  · left; omega
  · right; omega
theorem alike_term {N M b d e cc z : Int} (hN : b + 3 < N) (hc0 : 0 ≤ cc) (hc : cc ≤ 2) (z0 : 0 ≤ z) (z1 : z ≤ 1) (hM : b + 3 < M) (h : Alike N M b d e) :
    Alike N M (b + 3) (min (d + z + cc) N) (if e = M then M else cc + e + z) := by
  rcases h with ⟨h1, h2, h3⟩ | ⟨h1, h2⟩
  · left; rw [if_neg (by omega)]; omega
  · right; rw [if_pos h2]; exact ⟨by omega, rfl⟩
theorem mfold_cap {N cc : Int} (hc0 : 0 ≤ cc) (f : Int → Int) (lo : Int) (j : Nat) : min (mfold N f lo j + cc) N = mfold N (fun t => min (f t + cc) N) lo j := by
  induction j with
  | zero => simp only [mfold]; omega
  | succ j ih =>
    simp only [mfold]
    rw [← ih]
    generalize mfold N f lo j = a
    generalize f (lo + j) = b
    omega
theorem step_alike {N M H b cc : Int} {d e : Int → Int} {y : Int} (h0 : 0 ≤ y) (h : y < H) (hN : b + 3 < N) (hM : b + 3 < M) (hc0 : 0 ≤ cc) (hc : cc ≤ 2) (ha : ∀ t, 0 ≤ t → t < H → Alike N M b (d t) (e t)) :
    Alike N M (b + 3) (min (mfold N (goTo d y) (nxLo y) (nxN H y) + cc) N) (mfold M (rgo M H cc e y) (y - 1) 3) := by
  have e3 : mfold M (rgo M H cc e y) (y - 1) 3 = min (min (min M (rgo M H cc e y (y - 1))) (rgo M H cc e y y)) (rgo M H cc e y (y + 1)) := by
    simp only [mfold]
    rw [show y - 1 + ((0 : Nat) : Int) = y - 1 by omega, show y - 1 + ((1 : Nat) : Int) = y by omega, show y - 1 + ((2 : Nat) : Int) = y + 1 by omega]
  rw [e3, mfold_cap hc0]
  have g0 : goTo d y y = d y + 0 := by unfold goTo; rw [if_pos rfl]
  have gm : goTo d y (y - 1) = d (y - 1) + 1 := by unfold goTo; rw [if_neg (by omega)]
  have gp : goTo d y (y + 1) = d (y + 1) + 1 := by unfold goTo; rw [if_neg (by omega)]
  have r0 : rgo M H cc e y y = if e y = M then M else cc + e y + 0 := by
    unfold rgo; rw [if_pos rfl]
    by_cases h1 : e y = M
    · rw [if_pos (.inr (.inr h1)), if_pos h1]
    · rw [if_neg (by omega), if_neg h1]
  have T0 := alike_term (z := 0) hN hc0 hc (by omega) (by omega) hM (ha y h0 h)
  have rm : 0 ≤ y - 1 → rgo M H cc e y (y - 1) = if e (y - 1) = M then M else cc + e (y - 1) + 1 := by
    intro hm
    unfold rgo; rw [if_neg (by omega : ¬ y - 1 = y)]
    by_cases h1 : e (y - 1) = M
    · rw [if_pos (.inr (.inr h1)), if_pos h1]
    · rw [if_neg (by omega), if_neg h1]
  have rp : y + 1 < H → rgo M H cc e y (y + 1) = if e (y + 1) = M then M else cc + e (y + 1) + 1 := by
    intro hp
    unfold rgo; rw [if_neg (by omega : ¬ y + 1 = y)]
    by_cases h1 : e (y + 1) = M
    · rw [if_pos (.inr (.inr h1)), if_pos h1]
    · rw [if_neg (by omega), if_neg h1]
  by_cases hm : 0 ≤ y - 1
  · have Tm := alike_term (z := 1) hN hc0 hc (by omega) (by omega) hM (ha (y - 1) hm (by omega))
    have lo : nxLo y = y - 1 := by unfold nxLo; rw [if_neg (by omega)]
    rw [rm hm, r0]
    by_cases hp : y + 1 < H
    · have Tp := alike_term (z := 1) hN hc0 hc (by omega) (by omega) hM (ha (y + 1) (by omega) hp)
      have nn : nxN H y = 3 := by
        have := (nx_in h0 h 2).2 (by rw [lo]; omega)
        have := mt (nx_in h0 h 3).1 (by rw [lo]; omega)
        omega
      rw [rp hp, nn, lo]
      simp only [mfold]
      rw [show y - 1 + ((0 : Nat) : Int) = y - 1 by omega, show y - 1 + ((1 : Nat) : Int) = y by omega, show y - 1 + ((2 : Nat) : Int) = y + 1 by omega, g0, gm, gp]
      exact alike_min hN hM (alike_min hN hM (alike_min hN hM (alike_N _ _ _) Tm) T0) Tp
    · have rq : rgo M H cc e y (y + 1) = M := by unfold rgo; rw [if_pos (by omega)]
      have nn : nxN H y = 2 := by
        have := (nx_in h0 h 1).2 (by rw [lo]; omega)
        have := mt (nx_in h0 h 2).1 (by rw [lo]; omega)
        omega
      rw [rq, nn, lo]
      simp only [mfold]
      rw [show y - 1 + ((0 : Nat) : Int) = y - 1 by omega, show y - 1 + ((1 : Nat) : Int) = y by omega, g0, gm]
      exact alike_capR hM (alike_min hN hM (alike_min hN hM (alike_N _ _ _) Tm) T0)
  · have rq : rgo M H cc e y (y - 1) = M := by unfold rgo; rw [if_pos (by omega)]
    have lo : nxLo y = y := by unfold nxLo; rw [if_pos (by omega)]; omega
    rw [rq, r0, show min M M = M from Int.min_self M]
    by_cases hp : y + 1 < H
    · have Tp := alike_term (z := 1) hN hc0 hc (by omega) (by omega) hM (ha (y + 1) (by omega) hp)
      have nn : nxN H y = 2 := by
        have := (nx_in h0 h 1).2 (by rw [lo]; omega)
        have := mt (nx_in h0 h 2).1 (by rw [lo]; omega)
        omega
      rw [rp hp, nn, lo]
      simp only [mfold]
      rw [show y + ((0 : Nat) : Int) = y by omega, show y + ((1 : Nat) : Int) = y + 1 by omega, g0, gp]
      exact alike_min hN hM (alike_min hN hM (alike_N _ _ _) T0) Tp
    · have rs : rgo M H cc e y (y + 1) = M := by unfold rgo; rw [if_pos (by omega)]
      have nn : nxN H y = 1 := by
        have := (nx_in h0 h 0).2 (by rw [lo]; omega)
        have := mt (nx_in h0 h 1).1 (by rw [lo]; omega)
        omega
      rw [rs, nn, lo]
      simp only [mfold]
      rw [show y + ((0 : Nat) : Int) = y by omega, g0]
      exact alike_capR hM (alike_min hN hM (alike_N _ _ _) T0)
theorem cols_alike {N M W H : Int} {c : Int → Int → Int} {F : Int → Int → Bool} (hc : ∀ x y, 0 ≤ c x y ∧ c x y ≤ 2) (hN : 3 * W < N) (hM : 3 * W < M) (k : Nat) (hk : (k : Int) < W) (y : Int) (h0 : 0 ≤ y) (h : y < H) :
    Alike N M (3 * (k + 1)) (gcol N W H c F k y) (rcol M W H c F k y) := by
  induction k generalizing y with
  | zero =>
    rw [gcol, rcol]
    have := hc (W - 1) y
    unfold Alike
    split <;> omega
  | succ k ih =>
    rw [gcol, rcol]
    by_cases hF : F (W - 1 - (k + 1 : Nat)) y = true
    · rw [if_pos hF, if_pos hF]; exact .inr ⟨rfl, rfl⟩
    · rw [if_neg hF, if_neg hF]
      have hcc := hc (W - 1 - (k + 1 : Nat)) y
      have := step_alike (N := N) (M := M) (H := H) (b := 3 * (k + 1)) (cc := c (W - 1 - (k + 1 : Nat)) y) (d := gcol N W H c F k) (e := rcol M W H c F k) h0 h (by omega) (by omega) hcc.1 hcc.2 (fun t a b => ih (by omega) t a b)
      rw [show (3 * (((k + 1 : Nat) : Int) + 1)) = 3 * ((k : Int) + 1) + 3 by omega]
      exact this
end Go.Proofs.Ytdimlpcbbkokiaa

/- Walks of the small functions of package image that every statement reaches: what each returns, and that it leaves the memory of its caller alone. -/
namespace Go.Proofs.Ytdimlpcbbkokiaa
open Go.RowKit
set_option linter.unusedVariables false

def sidesB (W H n : Int) : Bool := decide (0 ≤ W ∧ W ≤ 640 ∧ 0 ≤ H ∧ H ≤ 640 ∧ n = W * H)
theorem sidesB_iff {W H n : Int} : sidesB W H n = true ↔ 0 ≤ W ∧ W ≤ 640 ∧ 0 ≤ H ∧ H ≤ 640 ∧ n = W * H := by simp [sidesB]

set_option maxHeartbeats 400000 in
theorem sides_any (W H n : Int) (w : World) :
    Calls Try.prog 99 #[.int .i64 W, .int .i64 H, .int .i64 n] w fun e w' => e = .returned (.bool (sidesB W H n)) ∧ w = w' := by
  by_cases h : 0 ≤ W ∧ W ≤ 640 ∧ 0 ≤ H ∧ H ≤ 640
  · obtain ⟨h1, h2, h3, h4⟩ := h
    have hm : 0 ≤ W * H ∧ W * H ≤ 409600 := ⟨Int.mul_nonneg h1 h3, Int.le_trans (Int.mul_le_mul h2 h4 h3 (by omega)) (by omega)⟩
    obtain ⟨m1, m2⟩ := hm
    go_enter Try.func99, Try.ntmps99
    go_wp2
    go_ret
    exact ⟨by simp [sidesB, h1, h2, h3, h4]; rfl, rfl⟩
  · have h' : sidesB W H n = false := by simp [sidesB]; intro a b c d; exact absurd ⟨a, b, c, d⟩ h
    rw [h']
    by_cases a : 0 ≤ W
    · by_cases b : W ≤ 640
      · by_cases c : 0 ≤ H
        · have d : ¬ H ≤ 640 := fun d => h ⟨a, b, c, d⟩
          clear h h'
          go_enter Try.func99, Try.ntmps99
          go_wp2
          go_ret
          exact ⟨rfl, rfl⟩
        · clear h h'
          go_enter Try.func99, Try.ntmps99
          go_wp2
          go_ret
          exact ⟨rfl, rfl⟩
      · clear h h'
        go_enter Try.func99, Try.ntmps99
        go_wp2
        go_ret
        exact ⟨rfl, rfl⟩
    · clear h h'
      go_enter Try.func99, Try.ntmps99
      go_wp2
      go_ret
      exact ⟨rfl, rfl⟩

/-- the first index at which f holds; -1 if there is none -/
def idxF (f : Int → Bool) : Nat → Int
  | 0 => -1
  | n + 1 => if 0 ≤ idxF f n then idxF f n else if f n then n else -1
theorem idxF_none {f : Int → Bool} {n : Nat} (h : ∀ i : Int, 0 ≤ i → i < n → f i = false) : idxF f n = -1 := by
  induction n with
  | zero => rfl
  | succ n ih => rw [idxF, ih (fun i a b => h i a (by omega)), h n (by omega) (by omega)]; simp
theorem idxF_some {f : Int → Bool} {n k : Nat} (h : ∀ i : Int, 0 ≤ i → i < k → f i = false) (hk : f k = true) (hn : k < n) : idxF f n = k := by
  induction n with
  | zero => omega
  | succ n ih =>
    rw [idxF]
    by_cases e : k = n
    · subst e; rw [idxF_none h, hk]; simp
    · rw [ih (by omega)]; simp
theorem idxF_iff {f : Int → Bool} {n : Nat} : (0 ≤ idxF f n) ↔ ∃ i : Int, 0 ≤ i ∧ i < n ∧ f i = true := by
  induction n with
  | zero => simp [idxF]; intro i h1 h2; omega
  | succ n ih =>
    rw [idxF]
    by_cases h : 0 ≤ idxF f n
    · rw [if_pos h]
      simp only [h, true_iff]
      obtain ⟨i, a, b, c⟩ := ih.1 h
      exact ⟨i, a, by omega, c⟩
    · rw [if_neg h]
      by_cases c : f n = true
      · simp only [c, if_true]
        exact ⟨fun _ => ⟨n, by omega, by omega, c⟩, fun _ => by omega⟩
      · simp only [c]
        constructor
        · intro x; simp at x
        · rintro ⟨i, a, b, d⟩
          exfalso
          by_cases e : i = n
          · subst e; exact c d
          · exact h (ih.2 ⟨i, a, by omega, d⟩)

set_option maxHeartbeats 400000 in
theorem idxFuncB (fid : Nat) (hent : ∀ args w, (callFunc fid args).run Try.prog w = .ok (.enter fid args) w) (f : Int → Bool) (hf : ∀ v W, Calls Try.prog fid #[.int .u8 v] W fun e W' => e = .returned (.bool (f v)) ∧ W = W')
    (A : Option Addr) (n c : Nat) (p : Int → Int) (w : World) (hA : ArrB w w.heap.size A n p) (hn : n ≤ maxLen) :
    Calls Try.prog 120 #[.slice A n c, .func (.func fid) #[] #[]] w fun e w' => e = .returned (.int .i64 (idxF (fun i => f (p i)) n)) ∧ w = w' := by
  unfold maxLen at hn
  have HF := Lib.hid hf; clear hf
  go_enter Try.func120, Try.ntmps120
  go_wp2
  go_loop [8] (fun i => ∃ k : Int, 0 ≤ k ∧ k ≤ n ∧ i = .int .i64 k ∧ ∀ j : Int, 0 ≤ j → j < k → f (p j) = false) (fun i => n - (intOf i).toNat)
  case atStart => exact ⟨0, by omega, by omega, rfl, fun j a b => by omega⟩
  case round =>
    obtain ⟨k, h0, hk, rfl, hno⟩ := hrel
    have HN := Lib.hid hno; clear hno
    by_cases hlt : k < n
    · obtain ⟨b, off, rfl, hb, hc⟩ := hA.at_ h0 hlt
      cases hfk : f (p k)
      · have HK := Lib.hid hfk; clear hfk
        go_wp2_with fail
        refine (HF.out _ _).mono ?_
        rintro e w' ⟨rfl, rfl⟩
        rw [HK.out]
        go_wp2
        go_round
        case rel =>
          refine ⟨k + 1, by omega, by omega, by go_num, fun j a b => ?_⟩
          by_cases e : j = k
          · rw [e]; exact HK.out
          · exact HN.out j a (by omega)
        case measure => simp [intOf]; omega
      · have HK := Lib.hid hfk; clear hfk
        go_wp2_with fail
        refine (HF.out _ _).mono ?_
        rintro e w' ⟨rfl, rfl⟩
        rw [HK.out]
        go_wp2
        go_ret
        refine ⟨ret_int ?_, rfl⟩
        obtain ⟨k', rfl⟩ := Int.eq_ofNat_of_zero_le h0
        rw [idxF_some HN.out HK.out (by omega)]
    · go_wp2
      go_ret
      refine ⟨ret_int ?_, rfl⟩
      rw [idxF_none fun i a b => HN.out i a (by omega)]
end Go.Proofs.Ytdimlpcbbkokiaa

/- Plain laws of the cheapest paths: the path that is read off the costs, its cost, and that the reference reads off the same. No program in sight. -/
namespace Go.Proofs.Ytdimlpcbbkokiaa
open Go.RowKit
set_option linter.unusedVariables false

/-- the first place at which g is least -/
def fmin (g : Int → Int) : Nat → Int
  | 0 => 0
  | y + 1 => if g y < g (fmin g y) then y else fmin g y
theorem fmin_bd (g : Int → Int) (n : Nat) : 0 ≤ fmin g n ∧ (0 < n → fmin g n < n) := by
  induction n with
  | zero => simp [fmin]
  | succ n ih =>
    rw [fmin]
    split
    · omega
    · refine ⟨ih.1, fun _ => ?_⟩
      by_cases h : 0 < n
      · have := ih.2 h; omega
      · obtain rfl : n = 0 := by omega
        show (0 : Int) < _; omega
theorem fmin_le {g : Int → Int} {n : Nat} {i : Int} (h0 : 0 ≤ i) (h : i < n) : g (fmin g n) ≤ g i := by
  induction n with
  | zero => omega
  | succ n ih =>
    rw [fmin]
    by_cases e : i = n
    · subst e; split <;> omega
    · have := ih (by omega)
      split <;> omega
theorem fmin_first {g : Int → Int} {n : Nat} {i : Int} (h0 : 0 ≤ i) (h : i < fmin g n) : g (fmin g n) < g i := by
  induction n with
  | zero => simp [fmin] at h; omega
  | succ n ih =>
    rw [fmin] at h ⊢
    by_cases e : g n < g (fmin g n)
    · rw [if_pos e] at h ⊢
      have := fmin_le (g := g) h0 h
      omega
    · rw [if_neg e] at h ⊢
      exact ih h

section
variable (N W H : Int) (c : Int → Int → Int) (F : Int → Int → Bool)
/-- the least cost from a pixel on -/
def gAt (x y : Int) : Int := gcol N W H c F (W - 1 - x).toNat y
def rAt (x y : Int) : Int := rcol N W H c F (W - 1 - x).toNat y
/-- the row in which the path goes on -/
def nxt (x a : Int) : Int :=
  if 0 ≤ idxF (fun i => decide (goTo (gAt N W H c F (x + 1)) a (nxLo a + i) = gAt N W H c F x a - c x a)) (nxN H a)
  then nxLo a + idxF (fun i => decide (goTo (gAt N W H c F (x + 1)) a (nxLo a + i) = gAt N W H c F x a - c x a)) (nxN H a) else a
def pathP : Nat → Int
  | 0 => fmin (gAt N W H c F 0) H.toNat
  | x + 1 => nxt N W H c F x (pathP x)
end
/-- the cost of a path up to a column -/
def costP (c : Int → Int → Int) (l : Int → Int) : Nat → Int
  | 0 => 0
  | x + 1 => costP c l x + c x (l x) + if 0 < x ∧ l x ≠ l ((x : Int) - 1) then 1 else 0

section
variable {N W H : Int} {c : Int → Int → Int} {F : Int → Int → Bool}
theorem gAt_last (y : Int) : gAt N W H c F (W - 1) y = if F (W - 1) y then N else min (c (W - 1) y) N := by
  unfold gAt; rw [show (W - 1 - (W - 1)).toNat = 0 by omega, gcol]
theorem gAt_step {x : Int} (h0 : 0 ≤ x) (h : x < W - 1) (y : Int) : gAt N W H c F x y = if F x y then N else min (mfold N (goTo (gAt N W H c F (x + 1)) y) (nxLo y) (nxN H y) + c x y) N := by
  unfold gAt
  obtain ⟨k, hk⟩ : ∃ k : Nat, (W - 1 - x).toNat = k + 1 := ⟨(W - 1 - x).toNat - 1, by omega⟩
  rw [hk, gcol, show W - 1 - ((k + 1 : Nat) : Int) = x by omega, show (W - 1 - (x + 1)).toNat = k by omega]
theorem gAt_bd (hc : ∀ x y, 0 ≤ c x y ∧ c x y ≤ 2) (hN : 3 * W < N) {x y : Int} (h0 : 0 ≤ x) (h : x < W) (y0 : 0 ≤ y) (y1 : y < H) : (0 ≤ gAt N W H c F x y ∧ gAt N W H c F x y ≤ 3 * (W - x)) ∨ gAt N W H c F x y = N := by
  have := cols_alike (F := F) hc hN hN (W - 1 - x).toNat (by omega) y y0 y1
  unfold gAt
  unfold Alike at this
  omega
/-- where the cost is finite there is a row to go on to -/
theorem nxt_ex (hc : ∀ x y, 0 ≤ c x y ∧ c x y ≤ 2) {x a : Int} (h0 : 0 ≤ x) (h : x < W - 1) (hf : gAt N W H c F x a < N) :
    ∃ i : Nat, i < nxN H a ∧ goTo (gAt N W H c F (x + 1)) a (nxLo a + i) = gAt N W H c F x a - c x a := by
  rw [gAt_step h0 h] at hf ⊢
  by_cases hF : F x a = true
  · rw [if_pos hF] at hf; omega
  · rw [if_neg hF] at hf ⊢
    have hcc := hc x a
    rcases mfold_is (N := N) (f := goTo (gAt N W H c F (x + 1)) a) (lo := nxLo a) (j := nxN H a) with e | ⟨i, hi, e⟩
    · rw [e] at hf; omega
    · exact ⟨i, hi, by omega⟩
theorem nxt_spec (hc : ∀ x y, 0 ≤ c x y ∧ c x y ≤ 2) {x a : Int} (h0 : 0 ≤ x) (h : x < W - 1) (a0 : 0 ≤ a) (a1 : a < H) (hf : gAt N W H c F x a < N) :
    goTo (gAt N W H c F (x + 1)) a (nxt N W H c F x a) = gAt N W H c F x a - c x a ∧ 0 ≤ nxt N W H c F x a ∧ nxt N W H c F x a < H ∧ a - 1 ≤ nxt N W H c F x a ∧ nxt N W H c F x a ≤ a + 1 ∧
      ∀ y, 0 ≤ y → a - 1 ≤ y → y < nxt N W H c F x a → goTo (gAt N W H c F (x + 1)) a y ≠ gAt N W H c F x a - c x a := by
  obtain ⟨i, hi, e⟩ := nxt_ex hc h0 h hf
  have hex : 0 ≤ idxF (fun i => decide (goTo (gAt N W H c F (x + 1)) a (nxLo a + i) = gAt N W H c F x a - c x a)) (nxN H a) := idxF_iff.2 ⟨i, by omega, by omega, by simpa using e⟩
  have sp : ∀ n : Nat, ∀ f : Int → Bool, 0 ≤ idxF f n → idxF f n < n ∧ f (idxF f n) = true ∧ ∀ j : Int, 0 ≤ j → j < idxF f n → f j = false := by
    intro n f
    induction n with
    | zero => intro h; simp [idxF] at h
    | succ n ih =>
      intro h
      rw [idxF] at h ⊢
      by_cases h1 : 0 ≤ idxF f n
      · rw [if_pos h1]; have := ih h1; exact ⟨by omega, this.2.1, this.2.2⟩
      · rw [if_neg h1] at h ⊢
        by_cases h2 : f n = true
        · rw [if_pos h2]
          exact ⟨by omega, h2, fun j j0 j1 => Bool.eq_false_iff.2 fun h3 => h1 (idxF_iff.2 ⟨j, j0, j1, h3⟩)⟩
        · rw [if_neg h2] at h; omega
  obtain ⟨s1, s2, s3⟩ := sp _ _ hex
  have hn : nxt N W H c F x a = nxLo a + idxF (fun i => decide (goTo (gAt N W H c F (x + 1)) a (nxLo a + i) = gAt N W H c F x a - c x a)) (nxN H a) := by unfold nxt; rw [if_pos hex]
  generalize idxF (fun i => decide (goTo (gAt N W H c F (x + 1)) a (nxLo a + i) = gAt N W H c F x a - c x a)) (nxN H a) = k at *
  rw [hn]
  obtain ⟨k', rfl⟩ := Int.eq_ofNat_of_zero_le hex
  have hin := (nx_in a0 a1 k').1 (by omega)
  have lo : nxLo a = if a - 1 < 0 then 0 else a - 1 := rfl
  have lo2 : 0 ≤ nxLo a ∧ a - 1 ≤ nxLo a ∧ (0 < nxLo a → nxLo a = a - 1) := by rw [lo]; split <;> omega
  refine ⟨by simpa using s2, by omega, hin.1, by omega, hin.2, fun y y0 y1 y2 hy => ?_⟩
  have h4 : nxLo a ≤ y := by rw [lo]; split <;> omega
  have := s3 (y - nxLo a) (by omega) (by omega)
  rw [show nxLo a + (y - nxLo a) = y by omega] at this
  simp at this
  exact this hy
/-- the path stays in the image and its costs stay finite -/
theorem path_ok (hc : ∀ x y, 0 ≤ c x y ∧ c x y ≤ 2) (hN : 3 * W < N) (hH : 0 < H) (hW : 0 < W) (hf : gAt N W H c F 0 (pathP N W H c F 0) < N) (x : Nat) (hx : (x : Int) < W) :
    0 ≤ pathP N W H c F x ∧ pathP N W H c F x < H ∧ gAt N W H c F x (pathP N W H c F x) < N := by
  induction x with
  | zero =>
    have := fmin_bd (gAt N W H c F 0) H.toNat
    refine ⟨this.1, ?_, hf⟩
    have := this.2 (by omega)
    show fmin _ _ < H
    omega
  | succ x ih =>
    obtain ⟨i1, i2, i3⟩ := ih (by omega)
    obtain ⟨s1, s2, s3, s4, s5, -⟩ := nxt_spec hc (by omega) (by omega : (x : Int) < W - 1) i1 i2 i3
    refine ⟨s2, s3, ?_⟩
    show gAt N W H c F ((x + 1 : Nat) : Int) (nxt N W H c F x (pathP N W H c F x)) < N
    have hcc := hc x (pathP N W H c F x)
    unfold goTo at s1
    rw [show ((x + 1 : Nat) : Int) = (x : Int) + 1 by omega]
    split at s1 <;> omega
theorem path_cost (hc : ∀ x y, 0 ≤ c x y ∧ c x y ≤ 2) (hN : 3 * W < N) (hH : 0 < H) (hW : 0 < W) (hf : gAt N W H c F 0 (pathP N W H c F 0) < N) (x : Nat) (hx : (x : Int) < W) :
    costP c (fun i => pathP N W H c F i.toNat) (x + 1) + gAt N W H c F x (pathP N W H c F x) = gAt N W H c F 0 (pathP N W H c F 0) + c x (pathP N W H c F x) := by
  induction x with
  | zero => simp [costP]; omega
  | succ x ih =>
    have ih := ih (by omega)
    obtain ⟨i1, i2, i3⟩ := path_ok hc hN hH hW hf x (by omega)
    obtain ⟨s1, -, -, -, -, -⟩ := nxt_spec hc (by omega) (by omega : (x : Int) < W - 1) i1 i2 i3
    rw [costP]
    have e : pathP N W H c F (x + 1) = nxt N W H c F x (pathP N W H c F x) := rfl
    rw [← e] at s1
    unfold goTo at s1
    simp only [Int.toNat_natCast, show ((x + 1 : Nat) : Int) - 1 = (x : Int) by omega]
    rw [show ((x + 1 : Nat) : Int) = (x : Int) + 1 by omega] at *
    by_cases hq : pathP N W H c F (x + 1) = pathP N W H c F x
    · rw [if_pos hq] at s1
      rw [if_neg (by simp [hq])]
      omega
    · rw [if_neg hq] at s1
      rw [if_pos ⟨by omega, hq⟩]
      omega
/-- the whole path costs what stands at its start -/
theorem path_total (hc : ∀ x y, 0 ≤ c x y ∧ c x y ≤ 2) (hN : 3 * W < N) (hH : 0 < H) (hW : 0 < W) (hf : gAt N W H c F 0 (pathP N W H c F 0) < N) :
    costP c (fun i => pathP N W H c F i.toNat) W.toNat = gAt N W H c F 0 (pathP N W H c F 0) := by
  obtain ⟨x, hx⟩ : ∃ x : Nat, W.toNat = x + 1 := ⟨W.toNat - 1, by omega⟩
  have h1 := path_cost hc hN hH hW hf x (by omega)
  obtain ⟨i1, i2, i3⟩ := path_ok hc hN hH hW hf x (by omega)
  have e : (x : Int) = W - 1 := by omega
  rw [hx]
  have hl := gAt_last (N := N) (W := W) (H := H) (c := c) (F := F) (pathP N W H c F x)
  rw [← e] at hl
  rw [hl] at h1 i3
  by_cases hF : F x (pathP N W H c F x) = true
  · rw [if_pos hF] at i3; omega
  · rw [if_neg hF] at h1 i3; omega
end
end Go.Proofs.Ytdimlpcbbkokiaa

/- Plain laws of the cheapest paths: the reference finds the same path. No program in sight. -/
namespace Go.Proofs.Ytdimlpcbbkokiaa
open Go.RowKit
set_option linter.unusedVariables false
section
variable {N M W H : Int} {c : Int → Int → Int} {F : Int → Int → Bool}
theorem gr_alike (hc : ∀ x y, 0 ≤ c x y ∧ c x y ≤ 2) (hN : 3 * W < N) (hM : 3 * W < M) {x y : Int} (h0 : 0 ≤ x) (h : x < W) (y0 : 0 ≤ y) (y1 : y < H) :
    (gAt N W H c F x y < N ∧ rAt M W H c F x y = gAt N W H c F x y ∧ gAt N W H c F x y ≤ 3 * W ∧ 0 ≤ gAt N W H c F x y) ∨ (gAt N W H c F x y = N ∧ rAt M W H c F x y = M) := by
  have := cols_alike (F := F) hc hN hM (W - 1 - x).toNat (by omega) y y0 y1
  unfold gAt rAt
  unfold Alike at this
  omega
/-- the least cost of the first column, as the reference reckons it -/
def rleast (M W H : Int) (c : Int → Int → Int) (F : Int → Int → Bool) : Int := mfold M (rAt M W H c F 0) 0 H.toNat
theorem rleast_eq (hc : ∀ x y, 0 ≤ c x y ∧ c x y ≤ 2) (hN : 3 * W < N) (hM : 3 * W < M) (hW : 0 < W) (hH : 0 < H) :
    (gAt N W H c F 0 (pathP N W H c F 0) < N ∧ rleast M W H c F = gAt N W H c F 0 (pathP N W H c F 0) ∧ rleast M W H c F < M) ∨ (gAt N W H c F 0 (pathP N W H c F 0) = N ∧ rleast M W H c F = M) := by
  have hp := fmin_bd (gAt N W H c F 0) H.toNat
  have h2 := hp.2 (by omega)
  have e : pathP N W H c F 0 = fmin (gAt N W H c F 0) H.toNat := rfl
  rw [← e] at hp h2
  have ha := gr_alike (H := H) (F := F) hc hN hM (x := 0) (y := pathP N W H c F 0) (by omega) hW hp.1 (by omega)
  have hle : ∀ i : Nat, i < H.toNat → gAt N W H c F 0 (pathP N W H c F 0) ≤ gAt N W H c F 0 i := fun i hi => fmin_le (by omega) (by omega)
  have hat := mfold_at (N := M) (f := rAt M W H c F 0) (lo := 0) (j := H.toNat) (i := (pathP N W H c F 0).toNat) (by omega)
  rw [show (0 : Int) + ((pathP N W H c F 0).toNat : Int) = pathP N W H c F 0 by omega] at hat
  have hlM := mfold_le M (rAt M W H c F 0) 0 H.toNat
  rcases ha with ⟨a1, a2, a3, a4⟩ | ⟨a1, a2⟩
  · left
    have hge : gAt N W H c F 0 (pathP N W H c F 0) ≤ mfold M (rAt M W H c F 0) 0 H.toNat := mfold_ge (by omega) fun i hi => by
      have hi2 := hle i hi
      rw [Int.zero_add]
      have := gr_alike (H := H) (F := F) hc hN hM (x := 0) (y := i) (by omega) hW (by omega) (by omega)
      omega
    unfold rleast
    omega
  · right
    refine ⟨a1, ?_⟩
    unfold rleast
    rcases mfold_is (N := M) (f := rAt M W H c F 0) (lo := 0) (j := H.toNat) with h | ⟨i, hi, h⟩
    · exact h
    · have hi2 := hle i hi
      rw [Int.zero_add] at h
      have := gr_alike (H := H) (F := F) hc hN hM (x := 0) (y := i) (by omega) hW (by omega) (by omega)
      omega
/-- the reference's test in the first column -/
theorem rfirst (hc : ∀ x y, 0 ≤ c x y ∧ c x y ≤ 2) (hN : 3 * W < N) (hM : 3 * W < M) (hW : 0 < W) (hH : 0 < H) (hf : gAt N W H c F 0 (pathP N W H c F 0) < N) :
    (rAt M W H c F 0 (pathP N W H c F 0) ≠ M ∧ rAt M W H c F 0 (pathP N W H c F 0) = rleast M W H c F) ∧ ∀ y, 0 ≤ y → y < pathP N W H c F 0 → ¬ (rAt M W H c F 0 y ≠ M ∧ rAt M W H c F 0 y = rleast M W H c F) := by
  have hp := fmin_bd (gAt N W H c F 0) H.toNat
  have h2 := hp.2 (by omega)
  have e : pathP N W H c F 0 = fmin (gAt N W H c F 0) H.toNat := rfl
  rw [← e] at hp h2
  have hl := rleast_eq (H := H) (F := F) hc hN hM hW hH
  have ha := gr_alike (H := H) (F := F) hc hN hM (x := 0) (y := pathP N W H c F 0) (by omega) hW hp.1 (by omega)
  refine ⟨by omega, fun y y0 y1 => ?_⟩
  have hy := gr_alike (H := H) (F := F) hc hN hM (x := 0) (y := y) (by omega) hW y0 (by omega)
  have := fmin_first (g := gAt N W H c F 0) (n := H.toNat) y0 (by rw [← e]; exact y1)
  rw [← e] at this
  omega
/-- the reference's test in a later column: what is left is the cost of the last pixel's rest -/
theorem rnext (hc : ∀ x y, 0 ≤ c x y ∧ c x y ≤ 2) (hN : 3 * W < N) (hM : 3 * W < M) (hW : 0 < W) (hH : 0 < H) (hf : gAt N W H c F 0 (pathP N W H c F 0) < N) (x : Nat) (hx : (x : Int) + 1 < W) :
    (rAt M W H c F (x + 1) (pathP N W H c F (x + 1)) ≠ M ∧ rAt M W H c F (x + 1) (pathP N W H c F (x + 1)) + (if pathP N W H c F (x + 1) = pathP N W H c F x then 0 else 1) = rAt M W H c F x (pathP N W H c F x) - c x (pathP N W H c F x)) ∧
    (0 ≤ pathP N W H c F (x + 1) ∧ pathP N W H c F (x + 1) < H ∧ pathP N W H c F x - 1 ≤ pathP N W H c F (x + 1) ∧ pathP N W H c F (x + 1) ≤ pathP N W H c F x + 1) ∧
    ∀ y, 0 ≤ y → y < H → pathP N W H c F x - 1 ≤ y → y < pathP N W H c F (x + 1) → ¬ (rAt M W H c F (x + 1) y ≠ M ∧ rAt M W H c F (x + 1) y + (if y = pathP N W H c F x then 0 else 1) = rAt M W H c F x (pathP N W H c F x) - c x (pathP N W H c F x)) := by
  obtain ⟨i1, i2, i3⟩ := path_ok hc hN hH hW hf x (by omega)
  obtain ⟨j1, j2, j3⟩ := path_ok hc hN hH hW hf (x + 1) (by omega)
  obtain ⟨s1, s2, s3, s4, s5, s6⟩ := nxt_spec hc (by omega) (by omega : (x : Int) < W - 1) i1 i2 i3
  have e : nxt N W H c F x (pathP N W H c F x) = pathP N W H c F (x + 1) := rfl
  rw [e] at s1 s2 s3 s4 s5 s6
  have ha := gr_alike (H := H) (F := F) hc hN hM (x := x) (by omega) (by omega) i1 i2
  have hb := gr_alike (H := H) (F := F) hc hN hM (x := (x : Int) + 1) (by omega) (by omega) j1 j2
  rw [show ((x + 1 : Nat) : Int) = (x : Int) + 1 by omega] at j3
  have hcc := hc x (pathP N W H c F x)
  unfold goTo at s1 s6
  refine ⟨⟨by omega, ?_⟩, ⟨s2, s3, s4, s5⟩, fun y y0 y1 y2 y3 ⟨h1, h2⟩ => ?_⟩
  · split at s1 <;> split <;> omega
  · have hy := gr_alike (H := H) (F := F) hc hN hM (x := (x : Int) + 1) (y := y) (by omega) (by omega) y0 y1
    have := s6 y y0 y2 y3
    split at h2 <;> split at this <;> omega
end
end Go.Proofs.Ytdimlpcbbkokiaa

/- Walks: the checks of an image, new images, the drops of the columns. -/
namespace Go.Proofs.Ytdimlpcbbkokiaa
open Go.RowKit
set_option linter.unusedVariables false

theorem enter49 (args : Array Value) (w : World) : (callFunc 101 args).run Try.prog w = .ok (.enter 101 args) w := by kernel_rfl

theorem check1_any (v : Int) (w : World) : Calls Try.prog 101 #[.int .u8 v] w fun e w' => e = .returned (.bool (decide (1 < v))) ∧ w = w' := by
  go_enter Try.func101, Try.ntmps101
  go_wp2
  go_ret
  exact ⟨rfl, rfl⟩

def pixB (n : Nat) (p : Int → Int) : Bool := allN n fun i => decide (p i ≤ 1)
theorem pixB_idx (n : Nat) (p : Int → Int) : decide (0 ≤ idxF (fun i => decide (1 < p i)) n) = !pixB n p := by
  rw [Bool.eq_iff_iff, decide_eq_true_iff, idxF_iff, Bool.not_eq_true', ← Bool.not_eq_true, pixB, allN_iff]
  constructor
  · rintro ⟨i, a, b, c⟩ h
    have := h i a b
    simp at c this; omega
  · intro h
    refine Classical.byContradiction fun hno => h fun i a b => ?_
    simp only [decide_eq_true_iff]
    refine Classical.byContradiction fun hc => hno ⟨i, a, b, by simp; omega⟩

theorem containsB (fid : Nat) (hent : ∀ args w, (callFunc fid args).run Try.prog w = .ok (.enter fid args) w) (f : Int → Bool) (hf : ∀ v W, Calls Try.prog fid #[.int .u8 v] W fun e W' => e = .returned (.bool (f v)) ∧ W = W')
    (A : Option Addr) (n c : Nat) (p : Int → Int) (w : World) (hA : ArrB w w.heap.size A n p) (hn : n ≤ maxLen) :
    Calls Try.prog 100 #[.slice A n c, .func (.func fid) #[] #[]] w fun e w' => e = .returned (.bool (decide (0 ≤ idxF (fun i => f (p i)) n))) ∧ w = w' := by
  go_enter Try.func100, Try.ntmps100
  go_wp2_with (go_at_call 120; refine (idxFuncB fid hent f hf A n c p _ hA hn).mono ?_; rintro e w' ⟨rfl, rfl⟩)
  go_ret
  exact ⟨rfl, rfl⟩

def chk (W H : Int) (n : Nat) (p : Int → Int) : Int := if sidesB W H n then (if pixB n p then 0 else 3) else 2

set_option maxHeartbeats 400000 in
theorem check_any (W H : Int) (A : Option Addr) (n c : Nat) (p : Int → Int) (w : World) (hA : ArrB w w.heap.size A n p) (hn : n ≤ maxLen) :
    Calls Try.prog 58 #[.agg #[.int .i64 W, .int .i64 H, .slice A n c]] w fun e w' => e = .returned (.int .i64 (chk W H n p)) ∧ Below w.heap.size w w' := by
  have HB : Below w.heap.size w (w.alloc (.cells #[.int .i64 W, .int .i64 H, .slice A n c] 24)) := by (repeat (first | exact Below.refl _ _ | assumption | refine Below.drew ?_ | refine below_drewN ?_ _ | refine Below.alloc ?_ (by first | omega | (simp; done) | (simp; omega)) _ | refine Below.setCell ?_ (by first | omega | (simp; done) | (simp; omega)) _ | refine below_setRow ?_ (by first | omega | (simp; done) | (simp; omega)) _ ))
  cases hs : sidesB W H n
  · have hr : Hid (chk W H n p = 2) := by show _ = _; unfold chk; rw [hs]; rfl
    have hs' := Lib.hid hs; clear hs
    go_enter Try.func58, Try.ntmps58
    go_wp2_with (go_at_call 99; refine (sides_any _ _ _ _).mono ?_; rintro e w' ⟨rfl, rfl⟩; rw [hs'.out])
    go_ret
    exact ⟨ret_int hr.out.symm, HB⟩
  · have hs' := Lib.hid hs; clear hs
    cases hq : pixB n p
    · have hr : Hid (chk W H n p = 3) := by show _ = _; unfold chk; rw [hs'.out, hq]; rfl
      have hq' : Hid (decide (0 ≤ idxF (fun i => decide (1 < p i)) n) = true) := by show _ = _; rw [pixB_idx, hq]; rfl
      clear hq
      go_enter Try.func58, Try.ntmps58
      go_wp2_with (first
        | (go_at_call 99; refine (sides_any _ _ _ _).mono ?_; rintro e w' ⟨rfl, rfl⟩; rw [hs'.out])
        | (go_at_call 100; refine (containsB 101 enter49 _ check1_any A n c p _ (hA.to HB) hn).mono ?_; rintro e w' ⟨rfl, rfl⟩; rw [hq'.out]))
      go_ret
      exact ⟨ret_int hr.out.symm, HB⟩
    · have hr : Hid (chk W H n p = 0) := by show _ = _; unfold chk; rw [hs'.out, hq]; rfl
      have hq' : Hid (decide (0 ≤ idxF (fun i => decide (1 < p i)) n) = false) := by show _ = _; rw [pixB_idx, hq]; rfl
      clear hq
      go_enter Try.func58, Try.ntmps58
      go_wp2_with (first
        | (go_at_call 99; refine (sides_any _ _ _ _).mono ?_; rintro e w' ⟨rfl, rfl⟩; rw [hs'.out])
        | (go_at_call 100; refine (containsB 101 enter49 _ check1_any A n c p _ (hA.to HB) hn).mono ?_; rintro e w' ⟨rfl, rfl⟩; rw [hq'.out]))
      go_ret
      exact ⟨ret_int hr.out.symm, HB⟩

end Go.Proofs.Ytdimlpcbbkokiaa

/- Walks: new images; the drops of the columns. -/
namespace Go.Proofs.Ytdimlpcbbkokiaa
open Go.RowKit
set_option linter.unusedVariables false

theorem infoU8 : (Try.prog.info? 5).map (fun i => (i.zero, i.size, i.bytes)) = some (some (.int .u8 0), 1, 1) := by kernel_rfl
theorem infoInt : (Try.prog.info? 3).map (fun i => (i.zero, i.size, i.bytes)) = some (some (.int .i64 0), 1, 8) := by kernel_rfl
theorem makeB (n : Int) (h0 : 0 ≤ n) (h : n ≤ 140737488355328) (w : World) : (Instr.makeSlice 22 (.int .i64 n) (.int .i64 n)).run Try.prog w =
    .ok (.slice (some ⟨w.heap.size, 0, none⟩) n.toNat n.toNat) (w.alloc (.cells (u8s n.toNat (fun _ => 0)) 5)) := by
  obtain ⟨i, hi, hz, hs, hb⟩ := info_parts infoU8
  have := run_make (P := Try.prog) w 22 5 i _ Try.underlying22 hi hz .i64 .i64 n n h0 (Int.le_refl _) (by rw [hb]; omega) (by omega)
  rw [this, hs]
  have e : madeCells (Value.int .u8 0).cells (n.toNat * 1) = u8s n.toNat (fun _ => 0) := by
    rw [← u8s_zero]
    apply Array.ext_getElem?
    intro j
    simp only [madeCells, Value.cells, Nat.mul_one]
    by_cases hj : j < n.toNat <;> simp [hj, Nat.mod_one]
  rw [e]
theorem makeI (n : Int) (h0 : 0 ≤ n) (h : n ≤ 17592186044416) (w : World) : (Instr.makeSlice 25 (.int .i64 n) (.int .i64 n)).run Try.prog w =
    .ok (.slice (some ⟨w.heap.size, 0, none⟩) n.toNat n.toNat) (w.alloc (.cells (i64s n.toNat (fun _ => 0)) 3)) := by
  obtain ⟨i, hi, hz, hs, hb⟩ := info_parts infoInt
  have := run_make (P := Try.prog) w 25 3 i _ Try.underlying25 hi hz .i64 .i64 n n h0 (Int.le_refl _) (by rw [hb]; omega) (by omega)
  rw [this, hs]
  have e : madeCells (Value.int .i64 0).cells (n.toNat * 1) = i64s n.toNat (fun _ => 0) := by
    rw [← i64s_zero]
    apply Array.ext_getElem?
    intro j
    simp only [madeCells, Value.cells, Nat.mul_one]
    by_cases hj : j < n.toNat <;> simp [hj, Nat.mod_one]
  rw [e]

def New (w : World) (R : Value → World → Prop) (e : Ending) (w' : World) : Prop := ∃ v, e = .returned v ∧ R v w' ∧ Below w.heap.size w w'

set_option maxHeartbeats 400000 in
theorem blank_any (W H : Int) (w : World) (h1 : 0 ≤ W) (h2 : W ≤ 640) (h3 : 0 ≤ H) (h4 : H ≤ 640) :
    Calls Try.prog 109 #[.int .i64 W, .int .i64 H] w (New w fun v w' => OutImg w w' W H (fun _ => 0) v) := by
  obtain ⟨m1, m2⟩ := area_bd h1 h2 h3 h4
  have hmk := makeB (W * H) m1 (by omega)
  go_enter Try.func109, Try.ntmps109
  go_wp2
  refine bodyPost_ret (v := .agg #[.int .i64 W, .int .i64 H, .slice (some ⟨w.heap.size + 1, 0, none⟩) (W * H).toNat (W * H).toNat]) (by simp [results, Try.results109, go_sem]) rfl ?_
  exact ⟨_, rfl, OutImg.mk (by omega) (Blk.new' (by simp) _ _), by (repeat (first | exact Below.refl _ _ | assumption | refine Below.drew ?_ | refine below_drewN ?_ _ | refine Below.alloc ?_ (by first | omega | (simp; done) | (simp; omega)) _ | refine Below.setCell ?_ (by first | omega | (simp; done) | (simp; omega)) _ | refine below_setRow ?_ (by first | omega | (simp; done) | (simp; omega)) _ ))⟩

def newE (W H : Int) : Int := if W < 0 ∨ 640 < W ∨ H < 0 ∨ 640 < H then 2 else 0
theorem newE_bad {W H : Int} : newE W H ≠ 0 ↔ (W < 0 ∨ 640 < W ∨ H < 0 ∨ 640 < H) := by unfold newE; split <;> simp_all
theorem newE_ok {W H : Int} : newE W H = 0 ↔ (0 ≤ W ∧ W ≤ 640 ∧ 0 ≤ H ∧ H ≤ 640) := by unfold newE; split <;> simp_all <;> omega

set_option maxHeartbeats 400000 in
theorem new_ok (W H : Int) (w : World) (h1 : 0 ≤ W) (h2 : W ≤ 640) (h3 : 0 ≤ H) (h4 : H ≤ 640) :
    Calls Try.prog 84 #[.int .i64 W, .int .i64 H] w (New w fun v w' => ∃ g, v = .tuple #[g, .int .i64 0] ∧ OutImg w w' W H (fun _ => 0) g) := by
  go_enter Try.func84, Try.ntmps84
  go_wp2_with (go_at_call 109; refine (blank_any W H _ h1 h2 h3 h4).mono ?_; rintro e w1 ⟨_, rfl, ⟨g, rfl, hg, hb⟩, hbl⟩; have hc := (Blk.new w 24 #[.int .i64 0, .int .i64 0, .slice none 0 0]).below' hbl; obtain ⟨c1, c2, c3⟩ := hc.cells3; obtain ⟨d1, d2, d3⟩ := hc.frozen3)
  refine bodyPost_ret (v := .tuple #[.agg #[.int .i64 W, .int .i64 H, .slice (some ⟨g, 0, none⟩) (W * H).toNat (W * H).toNat], .int .i64 0]) (by simp [results, Try.results84, go_sem, c1, c2, c3]) rfl ?_
  rw [World.size_alloc] at hg
  refine ⟨_, rfl, ⟨_, rfl, OutImg.mk (by omega) (((hb.far (by simp; omega) _).far (by simp; omega) _).far (by simp; omega) _)⟩, ?_⟩
  have hbl' : Below w.heap.size w w1 := below_call (by (repeat (first | exact Below.refl _ _ | assumption | refine Below.drew ?_ | refine below_drewN ?_ _ | refine Below.alloc ?_ (by first | omega | (simp; done) | (simp; omega)) _ | refine Below.setCell ?_ (by first | omega | (simp; done) | (simp; omega)) _ | refine below_setRow ?_ (by first | omega | (simp; done) | (simp; omega)) _ ))) (by simp) hbl
  (repeat (first | exact Below.refl _ _ | assumption | refine Below.drew ?_ | refine below_drewN ?_ _ | refine Below.alloc ?_ (by first | omega | (simp; done) | (simp; omega)) _ | refine Below.setCell ?_ (by first | omega | (simp; done) | (simp; omega)) _ | refine below_setRow ?_ (by first | omega | (simp; done) | (simp; omega)) _ ))
set_option maxHeartbeats 400000 in
theorem new_bad (W H : Int) (w : World) (h : newE W H ≠ 0) :
    Calls Try.prog 84 #[.int .i64 W, .int .i64 H] w fun e w' => e = .returned (.tuple #[noImg, .int .i64 2]) ∧ Below w.heap.size w w' := by
  rw [newE_bad] at h
  go_enter Try.func84, Try.ntmps84
  go_wp2_with fail
  all_goals
    refine bodyPost_ret (v := .tuple #[noImg, .int .i64 2]) (by simp [results, Try.results84, go_sem, noImg]) rfl ?_
    exact ⟨rfl, by (repeat (first | exact Below.refl _ _ | assumption | refine Below.drew ?_ | refine below_drewN ?_ _ | refine Below.alloc ?_ (by first | omega | (simp; done) | (simp; omega)) _ | refine Below.setCell ?_ (by first | omega | (simp; done) | (simp; omega)) _ | refine below_setRow ?_ (by first | omega | (simp; done) | (simp; omega)) _ ))⟩

/-- the drop of a column -/
def dropI (w k x : Int) : Int := (if k < 0 then (w - 1 - x) * (-k) else x * k) / 64
def grt (W k : Int) : Int := (if W ≤ 1 then 0 else W - 1) * (if k < 0 then -k else k) / 64

theorem mul_bd {a b m n : Int} (h0 : 0 ≤ a) (h1 : a ≤ m) (k0 : 0 ≤ b) (k1 : b ≤ n) : 0 ≤ a * b ∧ a * b ≤ m * n :=
  ⟨Int.mul_nonneg h0 k0, Int.mul_le_mul h1 k1 k0 (by omega)⟩
theorem grt_bd {W k : Int} (h1 : 0 ≤ W) (h2 : W ≤ 640) (h3 : -3 ≤ k) (h4 : k ≤ 3) : 0 ≤ grt W k ∧ grt W k ≤ 29 := by
  unfold grt
  have := mul_bd (a := if W ≤ 1 then 0 else W - 1) (b := if k < 0 then -k else k) (m := 639) (n := 3) (by split <;> omega) (by split <;> omega) (by split <;> omega) (by split <;> omega)
  omega
theorem drop_bd {W k x : Int} (h2 : W ≤ 640) (h3 : -3 ≤ k) (h4 : k ≤ 3) (h5 : 0 ≤ x) (h6 : x < W) : 0 ≤ dropI W k x ∧ dropI W k x ≤ 29 := by
  unfold dropI
  split
  · have := mul_bd (a := W - 1 - x) (b := -k) (m := 639) (n := 3) (by omega) (by omega) (by omega) (by omega)
    omega
  · have := mul_bd (a := x) (b := k) (m := 639) (n := 3) (by omega) (by omega) (by omega) (by omega)
    omega

def zeros640 : Array Value := i64s 640 (fun _ => 0)
theorem upd_drop (W k x j : Int) : upd (fun j => if j < x then dropI W k j else 0) x (dropI W k x) j = if j < x + 1 then dropI W k j else 0 := by
  show (if j = x then _ else (if j < x then _ else _)) = _
  by_cases e : j = x
  · subst e; rw [if_pos rfl, if_pos (by omega)]
  · by_cases e' : j < x
    · rw [if_neg e, if_pos e', if_pos (by omega)]
    · rw [if_neg e, if_neg e', if_neg (by omega)]

end Go.Proofs.Ytdimlpcbbkokiaa

/- Walk of clean.moved: what an image becomes when its columns are moved. -/
namespace Go.Proofs.Ytdimlpcbbkokiaa
open Go.RowKit
set_option linter.unusedVariables false

def movE (W H : Int) (n : Nat) (p : Int → Int) (k way : Int) : Int :=
  if chk W H n p ≠ 0 then chk W H n p else if k < -3 ∨ 3 < k then 1 else if H + way * grt W k < 0 ∨ 640 < H + way * grt W k then 2 else 0
def movQ (W H : Int) (p : Int → Int) (k way : Int) : Int → Int := fun i =>
  if 0 ≤ i / W - way * dropI W k (i % W) ∧ i / W - way * dropI W k (i % W) < H then p ((i / W - way * dropI W k (i % W)) * W + i % W) else 0
theorem chk_ok {W H : Int} {n : Nat} {p : Int → Int} (h : chk W H n p = 0) : 0 ≤ W ∧ W ≤ 640 ∧ 0 ≤ H ∧ H ≤ 640 ∧ (n : Int) = W * H ∧ ∀ i : Int, 0 ≤ i → i < n → p i ≤ 1 := by
  unfold chk at h
  split at h
  · rename_i hs
    split at h
    · rename_i hp
      obtain ⟨a, b, c, d, e⟩ := sidesB_iff.1 hs
      exact ⟨a, b, c, d, e, fun i h0 h1 => by simpa using allN_iff.1 hp i h0 h1⟩
    · omega
  · omega
theorem movE_ok {W H : Int} {n : Nat} {p : Int → Int} {k way : Int} (h : movE W H n p k way = 0) :
    chk W H n p = 0 ∧ -3 ≤ k ∧ k ≤ 3 ∧ 0 ≤ H + way * grt W k ∧ H + way * grt W k ≤ 640 := by
  unfold movE at h
  split at h
  · rename_i h1; exact absurd h h1
  · rename_i h1
    split at h
    · omega
    · split at h
      · omega
      · refine ⟨?_, by omega, by omega, by omega, by omega⟩
        exact Decidable.not_not.1 h1

/-- what has been moved before the pixel (x, y) -/
def movP (W : Int) (p : Int → Int) (k way y x : Int) : Int → Int := fun i =>
  if 0 ≤ i / W - way * dropI W k (i % W) ∧ (i / W - way * dropI W k (i % W) < y ∨ i / W - way * dropI W k (i % W) = y ∧ i % W < x) then p ((i / W - way * dropI W k (i % W)) * W + i % W) else 0
theorem emod_nn {i W : Int} (h0 : 0 ≤ i) (hW : 0 ≤ W) : 0 ≤ i % W := by
  by_cases e : W = 0
  · subst e; simpa using h0
  · exact Int.emod_nonneg _ e
theorem movP_start {W : Int} (p : Int → Int) (k way : Int) {i : Int} (h0 : 0 ≤ i) (hW : 0 ≤ W) : movP W p k way 0 0 i = 0 := by
  have := emod_nn h0 hW
  unfold movP; rw [if_neg]; omega
theorem movP_in {W : Int} {p : Int → Int} {k way y x t : Int} (hx0 : 0 ≤ x) (hx : x < W) (hy : 0 ≤ y) (ht : t = y + way * dropI W k x) (i : Int) :
    upd (movP W p k way y x) (t * W + x) (p (y * W + x)) i = movP W p k way y (x + 1) i := by
  unfold upd
  by_cases e : i = t * W + x
  · rw [if_pos e]
    unfold movP
    rw [e, idx_div hx0 hx, idx_mod hx0 hx]
    have hs : t - way * dropI W k x = y := by omega
    rw [hs, if_pos (by omega)]
  · rw [if_neg e]
    unfold movP
    have hX : ¬ (i / W - way * dropI W k (i % W) = y ∧ i % W = x) := by
      rintro ⟨h1, h2⟩
      rw [h2] at h1
      have h3 : i / W = t := by omega
      have h4 := Int.emod_add_mul_ediv i W
      rw [h2, h3, Int.mul_comm] at h4
      omega
    generalize i / W - way * dropI W k (i % W) = s at *
    generalize hq : p (s * W + i % W) = v
    clear hq
    generalize i % W = X at *
    by_cases c1 : 0 ≤ s ∧ (s < y ∨ s = y ∧ X < x)
    · rw [if_pos c1, if_pos (by omega)]
    · rw [if_neg c1, if_neg (by omega)]
theorem movP_out {W h : Int} {p : Int → Int} {k way y x t : Int} (hx0 : 0 ≤ x) (hx : x < W) (ht : t = y + way * dropI W k x) (ho : ¬ (0 ≤ t ∧ t < h)) {i : Int} (h0 : 0 ≤ i) (hi : i < W * h) :
    movP W p k way y x i = movP W p k way y (x + 1) i := by
  unfold movP
  have hX : ¬ (i / W - way * dropI W k (i % W) = y ∧ i % W = x) := by
    rintro ⟨h1, h2⟩
    rw [h2] at h1
    have h3 : 0 ≤ i / W := Int.ediv_nonneg h0 (by omega)
    have h4 : i / W < h := Int.ediv_lt_of_lt_mul (by omega) (by rw [Int.mul_comm]; exact hi)
    omega
  generalize i / W - way * dropI W k (i % W) = s at *
  generalize hq : p (s * W + i % W) = v
  clear hq
  generalize i % W = X at *
  by_cases c1 : 0 ≤ s ∧ (s < y ∨ s = y ∧ X < x)
  · rw [if_pos c1, if_pos (by omega)]
  · rw [if_neg c1, if_neg (by omega)]
theorem movP_row {W h : Int} {p : Int → Int} {k way y i : Int} (hW : 0 ≤ W) (h0 : 0 ≤ i) (hi : i < W * h) : movP W p k way y W i = movP W p k way (y + 1) 0 i := by
  unfold movP
  have hp : 0 < W := by
    rcases Int.lt_or_le 0 W with h | h
    · exact h
    · have : W = 0 := by omega
      subst this; simp at hi; omega
  have h1 := Int.emod_lt_of_pos i hp
  have h2 := Int.emod_nonneg i (show W ≠ 0 by omega)
  generalize i / W - way * dropI W k (i % W) = s at *
  generalize hq : p (s * W + i % W) = v
  clear hq
  generalize i % W = X at *
  by_cases c1 : 0 ≤ s ∧ (s < y ∨ s = y ∧ X < W)
  · rw [if_pos c1, if_pos (by omega)]
  · rw [if_neg c1, if_neg (by omega)]
theorem movP_end {W H h : Int} {p : Int → Int} {k way i : Int} (hW : 0 ≤ W) (h0 : 0 ≤ i) (hi : i < W * h) : movP W p k way H 0 i = movQ W H p k way i := by
  unfold movP movQ
  have h2 := emod_nn h0 hW
  generalize i / W - way * dropI W k (i % W) = s at *
  generalize hq : p (s * W + i % W) = v
  clear hq
  generalize i % W = X at *
  by_cases c1 : 0 ≤ s ∧ s < H
  · rw [if_pos c1, if_pos (by omega)]
  · rw [if_neg c1, if_neg (by omega)]
end Go.Proofs.Ytdimlpcbbkokiaa

/- Walks: Skew and Unskew; the profile of an image; its full rows. -/
namespace Go.Proofs.Ytdimlpcbbkokiaa
open Go.RowKit
set_option linter.unusedVariables false

end Go.Proofs.Ytdimlpcbbkokiaa

/- Walks: the profile of an image; its full rows. -/
namespace Go.Proofs.Ytdimlpcbbkokiaa
open Go.RowKit
set_option linter.unusedVariables false

def rowS (W : Int) (n : Nat) (p : Int → Int) (y : Int) : Int := sumN n fun j => if j / W = y then p j else 0
def colS (W : Int) (n : Nat) (p : Int → Int) (x : Int) : Int := sumN n fun j => if j % W = x then p j else 0

theorem rowS_bd {W : Int} {n : Nat} {p : Int → Int} (hB : IsB p) (h : ∀ i : Int, 0 ≤ i → i < n → p i ≤ 1) (y : Int) : 0 ≤ rowS W n p y ∧ rowS W n p y ≤ n := by
  have := sumN_bd (n := n) (f := fun j => if j / W = y then p j else 0) (m := 1) (fun i a b => by
    have := hB i; have := h i a b
    show 0 ≤ (if i / W = y then p i else 0) ∧ (if i / W = y then p i else 0) ≤ 1
    split <;> omega)
  unfold rowS; omega
theorem colS_bd {W : Int} {n : Nat} {p : Int → Int} (hB : IsB p) (h : ∀ i : Int, 0 ≤ i → i < n → p i ≤ 1) (y : Int) : 0 ≤ colS W n p y ∧ colS W n p y ≤ n := by
  have := sumN_bd (n := n) (f := fun j => if j % W = y then p j else 0) (m := 1) (fun i a b => by
    have := hB i; have := h i a b
    show 0 ≤ (if i % W = y then p i else 0) ∧ (if i % W = y then p i else 0) ≤ 1
    split <;> omega)
  unfold colS; omega
theorem rowS_step {W : Int} {k : Nat} {p : Int → Int} (y : Int) : upd (rowS W k p) (k / W) (rowS W k p (k / W) + p k) y = rowS W (k + 1) p y := by
  show (if y = k / W then _ else _) = sumN (k + 1) _
  rw [sumN]
  by_cases e : y = k / W
  · subst e; rw [if_pos rfl, if_pos rfl]; rfl
  · rw [if_neg e, if_neg (fun h => e h.symm)]; simp [rowS]
theorem colS_step {W : Int} {k : Nat} {p : Int → Int} (y : Int) : upd (colS W k p) (k % W) (colS W k p (k % W) + p k) y = colS W (k + 1) p y := by
  show (if y = k % W then _ else _) = sumN (k + 1) _
  rw [sumN]
  by_cases e : y = k % W
  · subst e; rw [if_pos rfl, if_pos rfl]; rfl
  · rw [if_neg e, if_neg (fun h => e h.symm)]; simp [colS]

set_option maxRecDepth 100000 in
set_option maxHeartbeats 1000000 in
theorem profile_ok (W H : Int) (A : Option Addr) (n c : Nat) (p : Int → Int) (w : World) (hA : ArrB w w.heap.size A n p) (hn : n ≤ maxLen) (hB : IsB p) (hE : chk W H n p = 0) :
    Calls Try.prog 26 #[.agg #[.int .i64 W, .int .i64 H, .slice A n c]] w
      (New w fun v w' => ∃ g1 g2, v = .tuple #[.slice (some ⟨g1, 0, none⟩) H.toNat H.toNat, .slice (some ⟨g2, 0, none⟩) W.toNat W.toNat, .int .i64 0] ∧ w.heap.size ≤ g1 ∧ w.heap.size ≤ g2 ∧ g1 ≠ g2 ∧
        Blk w' g1 3 (i64s H.toNat (rowS W n p)) ∧ Blk w' g2 3 (i64s W.toNat (colS W n p))) := by
  obtain ⟨hW1, hW2, hH1, hH2, hnn, hp⟩ := chk_ok hE
  have HC := Lib.hid hE
  have hn4 : n ≤ 409600 := by have := (area_bd hW1 hW2 hH1 hH2).2; omega
  have HN := Lib.hid hnn
  clear hE hnn
  have hmk1 := makeI H hH1 (by omega)
  have hmk2 := makeI W hW1 (by omega)
  go_enter Try.func26, Try.ntmps26
  go_wp2_with fail
  refine (check_any W H A n c p _ (hA.to (by (repeat (first | exact Below.refl _ _ | assumption | refine Below.drew ?_ | refine below_drewN ?_ _ | refine Below.alloc ?_ (by first | omega | (simp; done) | (simp; omega)) _ | refine Below.setCell ?_ (by first | omega | (simp; done) | (simp; omega)) _ | refine below_setRow ?_ (by first | omega | (simp; done) | (simp; omega)) _ )))) hn).mono ?_
  rintro e w1 ⟨rfl, hb1⟩
  rw [HC.out]
  have k1 : Blk w1 w.heap.size 24 #[.int .i64 W, .int .i64 H, .slice A n c] := (Blk.new _ _ _).below' hb1
  have z1 : w.heap.size < w1.heap.size := by have := hb1.size; simp at this; omega
  have b1 : Below w.heap.size w w1 := below_call (by (repeat (first | exact Below.refl _ _ | assumption | refine Below.drew ?_ | refine below_drewN ?_ _ | refine Below.alloc ?_ (by first | omega | (simp; done) | (simp; omega)) _ | refine Below.setCell ?_ (by first | omega | (simp; done) | (simp; omega)) _ | refine below_setRow ?_ (by first | omega | (simp; done) | (simp; omega)) _ ))) (by simp; try omega) hb1
  obtain ⟨p1, p2, p3⟩ := k1.cells3
  clear hb1
  go_upto_region 4 with fail
  go_cut [2, 3] (fun a b wx => ∃ g1 g2, a = .slice (some ⟨g1, 0, none⟩) H.toNat H.toNat ∧ b = .slice (some ⟨g2, 0, none⟩) W.toNat W.toNat ∧ g1 ≠ g2 ∧ w1.heap.size ≤ g1 ∧ w1.heap.size ≤ g2 ∧
    Blk wx g1 3 (i64s H.toNat (fun _ => 0)) ∧ Blk wx g2 3 (i64s W.toNat (fun _ => 0)) ∧ Below w1.heap.size w1 wx)
  case first =>
    go_region
    · go_wp2_with fail
      go_meet
      exact ⟨w1.heap.size, w1.heap.size + 1, rfl, rfl, by omega, by omega, by omega, ((Blk.new _ _ _).alloc _).drew, (Blk.new' (by simp) _ _).drew, by (repeat (first | exact Below.refl _ _ | assumption | refine Below.drew ?_ | refine below_drewN ?_ _ | refine Below.alloc ?_ (by first | omega | (simp; done) | (simp; omega)) _ | refine Below.setCell ?_ (by first | omega | (simp; done) | (simp; omega)) _ | refine below_setRow ?_ (by first | omega | (simp; done) | (simp; omega)) _ ))⟩
    · go_wp2_with fail
      go_meet
      exact ⟨w1.heap.size + 1, w1.heap.size, rfl, rfl, by omega, by omega, by omega, (Blk.new' (by simp) _ _).drew, ((Blk.new _ _ _).alloc _).drew, by (repeat (first | exact Below.refl _ _ | assumption | refine Below.drew ?_ | refine below_drewN ?_ _ | refine Below.alloc ?_ (by first | omega | (simp; done) | (simp; omega)) _ | refine Below.setCell ?_ (by first | omega | (simp; done) | (simp; omega)) _ | refine below_setRow ?_ (by first | omega | (simp; done) | (simp; omega)) _ ))⟩
  case rest =>
    obtain ⟨g1, g2, rfl, rfl, hne, hg1, hg2, kg1, kg2, hb2⟩ := hcut
    have k1 := k1.below' hb2
    have b1 := below_call b1 (by omega) hb2
    clear hb2 p1 p2 p3 hmk1 hmk2
    obtain ⟨p1, p2, p3⟩ := k1.cells3
    go_wp2
    go_loopw [22] (fun s wr => ∃ i : Nat, i ≤ n ∧ s = .int .i64 i ∧ Below w.heap.size w wr ∧ Blk wr w.heap.size 24 #[.int .i64 W, .int .i64 H, .slice A n c] ∧
      Blk wr g1 3 (i64s H.toNat (rowS W i p)) ∧ Blk wr g2 3 (i64s W.toNat (colS W i p))) (fun s _ => n - (intOf s).toNat)
    case atStart => exact ⟨0, by omega, rfl, b1, k1, kg1, kg2⟩
    case round =>
      obtain ⟨i, hi, rfl, b2, k2, kr, kc⟩ := hrel
      clear p1 p2 p3 k1 b1 kg1 kg2
      obtain ⟨p1, p2, p3⟩ := k2.cells3
      by_cases hlt : i < n
      · have hi0 : (0 : Int) ≤ i := by omega
        have hiN : (i : Int) < n := by omega
        have hWp : 0 < W := by
          rcases Int.lt_or_le 0 W with h | h
          · exact h
          · have e : W = 0 := by omega
            have := HN.out; rw [e] at this; simp at this; omega
        have hW0 : ¬ W = 0 := by omega
        obtain ⟨_, _, hx0, hx, hy0, hy, -, rfl, rfl⟩ := idx_of hi0 hWp (H := H) (by have := HN.out; rw [Int.mul_comm] at this; omega)
        have SR := Lib.hid (fun y => rowS_step (W := W) (k := i) (p := p) y)
        have SC := Lib.hid (fun y => colS_step (W := W) (k := i) (p := p) y)
        have hr := kr.i64at hy0 (by omega)
        have hc := kc.i64at hx0 (by omega)
        have fr := kr.frozen (↑i / W).toNat
        have fc := kc.frozen (↑i % W).toNat
        obtain ⟨br1, br2⟩ := rowS_bd (W := W) (n := i) hB (fun j a b => hp j a (by omega)) (↑i / W)
        obtain ⟨bc1, bc2⟩ := colS_bd (W := W) (n := i) hB (fun j a b => hp j a (by omega)) (↑i % W)
        obtain ⟨pb1, pb2⟩ := hB i
        obtain ⟨b, off, rfl, hbB, hcell⟩ := ArrB.at_ (ArrB.below hA b2) hi0 hiN
        rw [Int.toNat_natCast] at hcell
        have UR := Lib.hid (kr.i64set _ hy0 (rowS W i p (↑i / W) + p i))
        have hp1 := hp i hi0 hiN
        go_wp2
        go_roundw
        case rel =>
          refine ⟨i + 1, by omega, by go_num, by (repeat (first | exact Below.refl _ _ | assumption | refine Below.drew ?_ | refine below_drewN ?_ _ | refine Below.alloc ?_ (by first | omega | (simp; done) | (simp; omega)) _ | refine Below.setCell ?_ (by first | omega | (simp; done) | (simp; omega)) _ | refine below_setRow ?_ (by first | omega | (simp; done) | (simp; omega)) _ )), (k2.far (by simp; omega) _).far (by simp; omega) _, ?_, ?_⟩
          · exact (UR.out.far (by simpa using hne) _).i64conv fun y _ _ => SR.out y
          · exact ((kc.far (by simpa using hne.symm) _).i64set _ hx0 _).i64conv fun y _ _ => SC.out y
        case measure => simp [intOf]; omega
      · obtain rfl : i = n := by omega
        go_wp2
        go_ret3
        exact ⟨_, rfl, ⟨g1, g2, rfl, by omega, by omega, hne, kr, kc⟩, b2⟩

set_option maxHeartbeats 400000 in
theorem profile_bad (W H : Int) (A : Option Addr) (n c : Nat) (p : Int → Int) (z : Int) (w : World) (hA : ArrB w w.heap.size A n p) (hn : n ≤ maxLen) (hE : chk W H n p = z) (hz : z ≠ 0) :
    Calls Try.prog 26 #[.agg #[.int .i64 W, .int .i64 H, .slice A n c]] w
      fun e w' => e = .returned (.tuple #[.slice none 0 0, .slice none 0 0, .int .i64 z]) ∧ Below w.heap.size w w' := by
  have CA := fun w' hA' => check_any W H A n c p w' hA' hn
  rw [hE] at CA
  clear hE
  have CA := Lib.hid CA
  go_enter Try.func26, Try.ntmps26
  go_wp2_with fail
  refine (CA.out _ (hA.to (by (repeat (first | exact Below.refl _ _ | assumption | refine Below.drew ?_ | refine below_drewN ?_ _ | refine Below.alloc ?_ (by first | omega | (simp; done) | (simp; omega)) _ | refine Below.setCell ?_ (by first | omega | (simp; done) | (simp; omega)) _ | refine below_setRow ?_ (by first | omega | (simp; done) | (simp; omega)) _ ))))).mono ?_
  rintro e w1 ⟨rfl, hb1⟩
  have b1 : Below w.heap.size w w1 := below_call (by (repeat (first | exact Below.refl _ _ | assumption | refine Below.drew ?_ | refine below_drewN ?_ _ | refine Below.alloc ?_ (by first | omega | (simp; done) | (simp; omega)) _ | refine Below.setCell ?_ (by first | omega | (simp; done) | (simp; omega)) _ | refine below_setRow ?_ (by first | omega | (simp; done) | (simp; omega)) _ ))) (by simp; try omega) hb1
  go_wp2_with fail
  go_ret3
  exact ⟨rfl, b1⟩

/-- how many of the first m rows are full -/
def fullP (W : Int) (n : Nat) (p : Int → Int) (m : Nat) : Int := if 0 < W then sumN m (fun y => if rowS W n p y = W then 1 else 0) else 0
def fullS (W H : Int) (n : Nat) (p : Int → Int) : Int := fullP W n p H.toNat
theorem fullP_bd (W : Int) (n m : Nat) (p : Int → Int) : 0 ≤ fullP W n p m ∧ fullP W n p m ≤ m := by
  have := sumN_bd (n := m) (f := fun y => if rowS W n p y = W then 1 else 0) (m := 1) (fun i a b => by
    show 0 ≤ (if rowS W n p i = W then (1 : Int) else 0) ∧ (if rowS W n p i = W then (1 : Int) else 0) ≤ 1
    split <;> omega)
  unfold fullP
  split <;> omega
theorem fullP_yes {W : Int} {n m : Nat} {p : Int → Int} (h : 0 < W) (e : rowS W n p m = W) : fullP W n p (m + 1) = fullP W n p m + 1 := by
  unfold fullP; rw [if_pos h, if_pos h, sumN, if_pos e]
theorem fullP_no {W : Int} {n m : Nat} {p : Int → Int} (h : ¬ (0 < W ∧ rowS W n p m = W)) : fullP W n p (m + 1) = fullP W n p m := by
  unfold fullP
  by_cases hW : 0 < W
  · rw [if_pos hW, if_pos hW, sumN, if_neg (fun e => h ⟨hW, e⟩)]; simp
  · rw [if_neg hW, if_neg hW]

end Go.Proofs.Ytdimlpcbbkokiaa

/- Walks: how many pixels have each level; the threshold of a grey image. -/
namespace Go.Proofs.Ytdimlpcbbkokiaa
open Go.RowKit
set_option linter.unusedVariables false

def cntS (n : Nat) (p : Int → Int) (v : Int) : Int := sumN n fun j => if p j = v then 1 else 0
theorem cntS_bd (n : Nat) (p : Int → Int) (v : Int) : 0 ≤ cntS n p v ∧ cntS n p v ≤ n := by
  have := sumN_bd (n := n) (f := fun j => if p j = v then 1 else 0) (m := 1) (fun i a b => by
    show 0 ≤ (if p i = v then (1 : Int) else 0) ∧ (if p i = v then (1 : Int) else 0) ≤ 1
    split <;> omega)
  unfold cntS; omega
theorem cntS_step {n : Nat} {p : Int → Int} (v : Int) : upd (cntS n p) (p n) (cntS n p (p n) + 1) v = cntS (n + 1) p v := by
  show (if v = p n then _ else _) = sumN (n + 1) _
  rw [sumN]
  by_cases e : v = p n
  · subst e; rw [if_pos rfl, if_pos rfl]; rfl
  · rw [if_neg e, if_neg (fun h => e h.symm)]; simp [cntS]

theorem make256 (w : World) : (Instr.makeSlice 25 (.int .i64 256) (.int .i64 256)).run Try.prog w =
    .ok (.slice (some ⟨w.heap.size, 0, none⟩) 256 256) (w.alloc (.cells (i64s 256 (fun _ => 0)) 3)) := makeI 256 (by omega) (by omega) w

/-- threshold, gap and last level behind m levels -/
def levP (c : Int → Int) : Nat → Int × Int × Int
  | 0 => (128, 0, -1)
  | m + 1 =>
    if c m = 0 then levP c m
    else if 0 ≤ (levP c m).2.2 ∧ (levP c m).2.1 < m - (levP c m).2.2 then (((levP c m).2.2 + m + 1) / 2, m - (levP c m).2.2, m)
    else ((levP c m).1, (levP c m).2.1, m)
def levelS (n : Nat) (p : Int → Int) : Int := (levP (cntS n p) 256).1
theorem levP_bd (c : Int → Int) (m : Nat) : 0 ≤ (levP c m).1 ∧ (levP c m).1 ≤ 128 + m ∧ 0 ≤ (levP c m).2.1 ∧ (levP c m).2.1 ≤ m ∧ -1 ≤ (levP c m).2.2 ∧ (levP c m).2.2 < m := by
  induction m with
  | zero => simp [levP]
  | succ m ih =>
    rw [levP]
    split
    · omega
    · split
      · simp only; omega
      · simp only; omega

end Go.Proofs.Ytdimlpcbbkokiaa

/- Walks: the skews in their order; FindSkew. -/
namespace Go.Proofs.Ytdimlpcbbkokiaa
open Go.RowKit Go.Shelf
set_option linter.unusedVariables false
attribute [local go_sem] Oper.semAt_some

def skp : Nat → List Int
  | 0 => []
  | 1 => [0]
  | n + 2 => skp (n + 1) ++ [(n : Int) + 1, -((n : Int) + 1)]
theorem skp_len (n : Nat) : (skp n).length ≤ 2 * n := by
  induction n using skp.induct with
  | case1 => simp [skp]
  | case2 => simp [skp]
  | case3 n ih => simp [skp]; omega

theorem keeps_of_below {W W' : World} (h : Below W.heap.size W W') : KeepsOthers W W' :=
  ⟨h.size, fun k o hk _ => (h.block k (Array.getElem?_eq_some_iff.1 hk).1).trans hk⟩

theorem isB_mov {W H : Int} {p : Int → Int} {k way : Int} (hB : IsB p) : IsB (movQ W H p k way) := by
  intro i; unfold movQ; split
  · exact hB _
  · omega
theorem chk_mk {W H : Int} {n : Nat} {p : Int → Int} (h1 : 0 ≤ W) (h2 : W ≤ 640) (h3 : 0 ≤ H) (h4 : H ≤ 640) (hn : (n : Int) = W * H) (hp : ∀ i : Int, 0 ≤ i → i < n → p i ≤ 1) : chk W H n p = 0 := by
  unfold chk
  have hq : pixB n p = true := allN_iff.2 fun i a b => by simpa using hp i a b
  rw [if_pos (sidesB_iff.2 ⟨h1, h2, h3, h4, hn⟩), hq]; rfl
theorem chk_mov {W H h : Int} {n : Nat} {p : Int → Int} {k way : Int} (hE : movE W H n p k way = 0) (hh : h = H + way * grt W k) : chk W h (W * h).toNat (movQ W H p k way) = 0 := by
  obtain ⟨hc, hk1, hk2, hh1, hh2⟩ := movE_ok hE
  obtain ⟨hW1, hW2, hH1, hH2, hnn, hp⟩ := chk_ok hc
  subst hh
  refine chk_mk hW1 hW2 hh1 hh2 (Int.toNat_of_nonneg (area_bd hW1 hW2 hh1 hh2).1) fun i h0 hi => ?_
  rw [Int.toNat_of_nonneg (area_bd hW1 hW2 hh1 hh2).1] at hi
  unfold movQ
  split
  · rename_i hs
    have hp' : 0 < W := by
      rcases Int.lt_or_le 0 W with h | h
      · exact h
      · have : W = 0 := by omega
        subst this; simp at hi; omega
    obtain ⟨j1, j2, -⟩ := idx_lt (Int.emod_nonneg i (show W ≠ 0 by omega)) (Int.emod_lt_of_pos i hp') hs.1 hs.2
    rw [Int.mul_comm H W] at j2
    exact hp _ j1 (by omega)
  · omega

/-- how many full rows an image has when it is straightened by k; -1 if it cannot be -/
def fsN (W H : Int) (n : Nat) (p : Int → Int) (k : Int) : Int :=
  if movE W H n p k (-1) = 0 then fullS W (H - grt W k) (W * (H - grt W k)).toNat (movQ W H p k (-1)) else -1
def fsStep (f : Int → Int) (s : Int × Int) (k : Int) : Int × Int := if s.2 < f k then (k, f k) else s
def fsL (f : Int → Int) (l : List Int) : Int × Int := l.foldl (fsStep f) (0, -1)
theorem fsL_snoc (f : Int → Int) (l : List Int) (k : Int) : fsL f (l ++ [k]) = fsStep f (fsL f l) k := by simp [fsL]
def findS (W H : Int) (n : Nat) (p : Int → Int) : Int := (fsL (fsN W H n p) [0, 1, -1, 2, -2, 3, -3]).1
theorem fsL_bd {f : Int → Int} (hf : ∀ k, -1 ≤ f k ∧ f k ≤ 640) (l : List Int) : -1 ≤ (fsL f l).2 ∧ (fsL f l).2 ≤ 640 := by
  unfold fsL
  suffices ∀ s : Int × Int, (-1 ≤ s.2 ∧ s.2 ≤ 640) → -1 ≤ (l.foldl (fsStep f) s).2 ∧ (l.foldl (fsStep f) s).2 ≤ 640 from this _ (by simp)
  induction l with
  | nil => exact fun s h => h
  | cons k l ih =>
    intro s h
    refine ih _ ?_
    unfold fsStep
    split
    · exact hf k
    · exact h
theorem fsN_bd (W H : Int) (n : Nat) (p : Int → Int) (k : Int) : -1 ≤ fsN W H n p k ∧ fsN W H n p k ≤ 640 := by
  unfold fsN
  split
  · rename_i hE
    obtain ⟨hc, hk1, hk2, hh1, hh2⟩ := movE_ok hE
    have := fullP_bd W (W * (H - grt W k)).toNat (H - grt W k).toNat (movQ W H p k (-1))
    unfold fullS
    omega
  · omega

theorem ownFrom_of_below {β : Type} {B : Nat} {I : β → World → Prop} (hI : ∀ s W W', I s W → Below B W W' → I s W') (hsz : ∀ s W, I s W → B ≤ W.heap.size) : OwnFrom B I :=
  fun s W W' row hs hg hr => hI s W W' hs ((Below.refl B W).grown hg (hsz s W hs) fun k e => (hr k e).1)

end Go.Proofs.Ytdimlpcbbkokiaa

/- Walk: FindSkew. -/
namespace Go.Proofs.Ytdimlpcbbkokiaa
open Go.RowKit Go.Shelf
set_option linter.unusedVariables false
attribute [local go_sem] Oper.semAt_some

structure FsR (w : World) (V1 V2 V3 : Value) (f : Int → Int) (B5 : Nat) (pre : List Int) (W : World) : Prop where
  bl : Below w.heap.size w W
  k1 : Blk W w.heap.size 24 #[V1, V2, V3]
  k5 : Blk W B5 3 #[.int .i64 (fsL f pre).1]
  k6 : Blk W (B5 + 1) 3 #[.int .i64 (fsL f pre).2]

end Go.Proofs.Ytdimlpcbbkokiaa

/- Walks: two lists of bytes, two images compared. -/
namespace Go.Proofs.Ytdimlpcbbkokiaa
open Go.RowKit
set_option linter.unusedVariables false

def sameB (n m : Nat) (p q : Int → Int) : Bool := decide (n = m) && allN n fun i => decide (p i = q i)
theorem sameB_iff {n m : Nat} {p q : Int → Int} : sameB n m p q = true ↔ n = m ∧ ∀ i : Int, 0 ≤ i → i < n → p i = q i := by
  unfold sameB; rw [Bool.and_eq_true, decide_eq_true_iff, allN_iff]; simp

set_option maxHeartbeats 400000 in
theorem sameBytes_any (A B : Option Addr) (n m c d : Nat) (p q : Int → Int) (w : World) (hA : ArrB w w.heap.size A n p) (hB : ArrB w w.heap.size B m q) (hn : n ≤ maxLen) (hm : m ≤ maxLen) :
    Calls Try.prog 67 #[.slice A n c, .slice B m d] w fun e w' => e = .returned (.bool (sameB n m p q)) ∧ ∃ k, w' = w.drewN k := by
  unfold maxLen at hn hm
  by_cases hnm : n = m
  · subst hnm
    go_enter Try.func67, Try.ntmps67
    go_wp2
    go_loopw [5] (fun s wr => ∃ i : Int, 0 ≤ i ∧ i ≤ n ∧ s = .int .i64 i ∧ (∀ j : Int, 0 ≤ j → j < i → p j = q j) ∧ ∃ k, wr = w.drewN k) (fun s _ => n - (intOf s).toNat)
    case atStart => exact ⟨0, by omega, by omega, rfl, fun j a b => by omega, 0, rfl⟩
    case round =>
      obtain ⟨i, h0, hi, rfl, hall, k, rfl⟩ := hrel
      have HA := Lib.hid hall; clear hall
      by_cases hlt : i < n
      · obtain ⟨b, off, rfl, hb, hc⟩ := hA.at_ h0 hlt
        obtain ⟨b', off', rfl, hb', hc'⟩ := hB.at_ h0 hlt
        by_cases he : p i = q i
        · have hbool : (p i != q i) = false := by simp [he]
          have HE := Lib.hid he; clear he
          go_wp2_with fail
          go_quiet (fail)
          go_wp2
          go_roundw
          case rel =>
            refine ⟨i + 1, by omega, by omega, by go_num, fun j a b => ?_, _, rfl⟩
            by_cases e : j = i
            · rw [e]; exact HE.out
            · exact HA.out j a (by omega)
          case measure => simp [intOf]; omega
        · have hbool : (p i != q i) = true := by simp [he]
          have HE := Lib.hid he; clear he
          have hr : Hid (sameB n n p q = false) := by
            show _ = _
            rw [Bool.eq_false_iff]; intro h; exact HE.out ((sameB_iff.1 h).2 i h0 hlt)
          go_wp2_with fail
          go_quiet (fail)
          go_wp2
          go_ret
          exact ⟨ret_bool hr.out.symm, _, World.drewN_drewN _ _ _⟩
      · have hr : Hid (sameB n n p q = true) := by
          show _ = _
          exact sameB_iff.2 ⟨rfl, fun j a b => HA.out j a (by omega)⟩
        go_wp2
        go_ret
        exact ⟨ret_bool hr.out.symm, _, rfl⟩
  · have hr : Hid (sameB n m p q = false) := by
      show _ = _
      rw [Bool.eq_false_iff]; intro h; exact hnm (sameB_iff.1 h).1
    go_enter Try.func67, Try.ntmps67
    go_wp2
    all_goals
      go_ret
      exact ⟨ret_bool hr.out.symm, 0, rfl⟩

theorem drewN_below {w : World} (k : Nat) : Below w.heap.size w (w.drewN k) := below_drewN (Below.refl _ _) k

set_option maxHeartbeats 1000000 in
theorem sameInk_any (W H W' H' : Int) (A B : Option Addr) (n m c d : Nat) (p q : Int → Int) (w : World) (hA : ArrB w w.heap.size A n p) (hB : ArrB w w.heap.size B m q) (hn : n ≤ maxLen) (hm : m ≤ maxLen) :
    Calls Try.prog 21 #[.agg #[.int .i64 W, .int .i64 H, .slice A n c], .agg #[.int .i64 W', .int .i64 H', .slice B m d]] w
      fun e w' => e = .returned (.bool (decide (W = W') && decide (H = H') && sameB n m p q)) ∧ Below w.heap.size w w' := by
  have SA := Lib.hid fun w1 h1 h2 => sameBytes_any A B n m c d p q w1 h1 h2 hn hm
  by_cases hW : W = W'
  · subst hW
    by_cases hH : H = H'
    · subst hH
      have hr : Hid ((decide (W = W) && decide (H = H) && sameB n m p q) = sameB n m p q) := by show _ = _; simp
      rw [hr.out]
      go_enter Try.func21, Try.ntmps21
      go_wp2_with fail
      refine (SA.out _ (hA.to (by (repeat (first | exact Below.refl _ _ | assumption | refine Below.drew ?_ | refine below_drewN ?_ _ | refine Below.alloc ?_ (by first | omega | (simp; done) | (simp; omega)) _ | refine Below.setCell ?_ (by first | omega | (simp; done) | (simp; omega)) _ | refine below_setRow ?_ (by first | omega | (simp; done) | (simp; omega)) _ )))) (hB.to (by (repeat (first | exact Below.refl _ _ | assumption | refine Below.drew ?_ | refine below_drewN ?_ _ | refine Below.alloc ?_ (by first | omega | (simp; done) | (simp; omega)) _ | refine Below.setCell ?_ (by first | omega | (simp; done) | (simp; omega)) _ | refine below_setRow ?_ (by first | omega | (simp; done) | (simp; omega)) _ ))))).mono ?_
      rintro e w' ⟨rfl, k, rfl⟩
      generalize hb : sameB n m p q = b
      have HBB := Lib.hid hb; clear hb
      cases b <;> (go_wp2; go_ret; exact ⟨ret_bool HBB.out.symm, by (repeat (first | exact Below.refl _ _ | assumption | refine Below.drew ?_ | refine below_drewN ?_ _ | refine Below.alloc ?_ (by first | omega | (simp; done) | (simp; omega)) _ | refine Below.setCell ?_ (by first | omega | (simp; done) | (simp; omega)) _ | refine below_setRow ?_ (by first | omega | (simp; done) | (simp; omega)) _ ))⟩)
    · have hb : (H == H') = false := by simp [hH]
      have hr : Hid ((decide (W = W) && decide (H = H') && sameB n m p q) = false) := by show _ = _; simp [hH]
      rw [hr.out]
      have HH := Lib.hid hH; clear hH
      go_enter Try.func21, Try.ntmps21
      go_wp2
      go_ret
      exact ⟨rfl, by (repeat (first | exact Below.refl _ _ | assumption | refine Below.drew ?_ | refine below_drewN ?_ _ | refine Below.alloc ?_ (by first | omega | (simp; done) | (simp; omega)) _ | refine Below.setCell ?_ (by first | omega | (simp; done) | (simp; omega)) _ | refine below_setRow ?_ (by first | omega | (simp; done) | (simp; omega)) _ ))⟩
  · have hb : (W == W') = false := by simp [hW]
    have hr : Hid ((decide (W = W') && decide (H = H') && sameB n m p q) = false) := by show _ = _; simp [hW]
    rw [hr.out]
    have HW := Lib.hid hW; clear hW
    go_enter Try.func21, Try.ntmps21
    go_wp2
    go_ret
    exact ⟨rfl, by (repeat (first | exact Below.refl _ _ | assumption | refine Below.drew ?_ | refine below_drewN ?_ _ | refine Below.alloc ?_ (by first | omega | (simp; done) | (simp; omega)) _ | refine Below.setCell ?_ (by first | omega | (simp; done) | (simp; omega)) _ | refine below_setRow ?_ (by first | omega | (simp; done) | (simp; omega)) _ ))⟩

theorem sameInk_true (W H : Int) (A B : Option Addr) (n c d : Nat) (p q : Int → Int) (w : World) (hA : ArrB w w.heap.size A n p) (hB : ArrB w w.heap.size B n q) (hn : n ≤ maxLen) (he : ∀ i : Int, 0 ≤ i → i < n → p i = q i) :
    Calls Try.prog 21 #[.agg #[.int .i64 W, .int .i64 H, .slice A n c], .agg #[.int .i64 W, .int .i64 H, .slice B n d]] w
      fun e w' => e = .returned (.bool true) ∧ Below w.heap.size w w' :=
  (sameInk_any W H W H A B n n c d p q w hA hB hn hn).mono fun e w' ⟨h, hb⟩ => ⟨by rw [h, sameB_iff.2 ⟨rfl, he⟩]; simp, hb⟩
end Go.Proofs.Ytdimlpcbbkokiaa

/- Walks: a line of ink; the examples of the chapter. -/
namespace Go.Proofs.Ytdimlpcbbkokiaa
open Go.RowKit
set_option linter.unusedVariables false

def gA : Int → Int := movQ 129 1 (fun _ => 1) (-1) 1
theorem awA1 : movE 129 1 129 (fun _ => 1) (-1) 1 = 0 := by decide +kernel
theorem awA2 : (3 : Int) = 1 + grt 129 (-1) := by decide +kernel
theorem awA3 : findS 129 3 387 gA = -1 := by decide +kernel
theorem awA4 : chk 129 3 387 gA = 0 := by decide +kernel
theorem awB1 : movE 64 1 64 (fun _ => 1) 1 1 = 0 := by decide +kernel
theorem awB2 : (1 : Int) = 1 + grt 64 1 := by decide +kernel
theorem awB3 : allN 64 (fun i => decide (movQ 64 1 (fun _ => 1) 1 1 i = 1)) = true := by decide +kernel
theorem awL1 : levelS 4 (lit [10, 20, 200, 210]) = 110 := by decide +kernel
theorem awL2 : levelS 3 (lit [200, 0, 100]) = 50 := by decide +kernel
theorem awS1 : sidesB 4 1 (4 : Nat) = true := by decide
theorem awS2 : sidesB 3 1 (3 : Nat) = true := by decide

theorem cells_a : #[Value.int .u8 10, .int .u8 20, .int .u8 200, .int .u8 210] = u8s 4 (lit [10, 20, 200, 210]) := u8s_lit (l := [10, 20, 200, 210])
theorem cells_b : #[Value.int .u8 200, .int .u8 0, .int .u8 100] = u8s 3 (lit [200, 0, 100]) := u8s_lit (l := [200, 0, 100])
theorem isB_1 : IsB (fun _ => 1) := fun _ => by simp
theorem Blk.to {w : World} {g : Nat} {t : TypeId} {cs cs' : Array Value} (h : Blk w g t cs) (e : cs = cs') : Blk w g t cs' := e ▸ h

end Go.Proofs.Ytdimlpcbbkokiaa

/- Walk: Ruled: images of full rows. -/
namespace Go.Proofs.Ytdimlpcbbkokiaa
open Go.RowKit
set_option linter.unusedVariables false

/-- the place of row number i -/
def ruY (r : Int → Int) : Nat → Int
  | 0 => r 0 % 6
  | i + 1 => ruY r i + (3 + r (i + 1) % 4)
/-- the places of the first m rows -/
def ruL (r : Int → Int) (m : Nat) : List Int := (List.range m).map (ruY r)
theorem ruL_snoc (r : Int → Int) (m : Nat) : ruL r (m + 1) = ruL r m ++ [ruY r m] := by simp [ruL, List.range_succ]
theorem ruY_bd {r : Int → Int} (hr : IsB r) (i : Nat) : 0 ≤ ruY r i ∧ ruY r i ≤ 5 + 6 * i := by
  induction i with
  | zero => have := hr 0; simp only [ruY]; omega
  | succ i ih => have := hr (i + 1); simp only [ruY]; omega
/-- y behind m rows -/
def ruE (r : Int → Int) : Nat → Int
  | 0 => 0
  | m + 1 => ruY r m

def ruM (r : Int → Int) (m : Nat) : List Int := if m = 0 then [2] else ruL r m
def ruYe (r : Int → Int) (m : Nat) : Int := if m = 0 then 2 else ruE r m
theorem ruL_len (r : Int → Int) (m : Nat) : (ruL r m).length = m := by simp [ruL]
theorem ruYe_bd {r : Int → Int} (hr : IsB r) {m : Nat} (hm : m ≤ 12) : 0 ≤ ruYe r m ∧ ruYe r m ≤ 77 := by
  unfold ruYe
  split
  · omega
  · obtain ⟨j, rfl⟩ : ∃ j, m = j + 1 := ⟨m - 1, by omega⟩
    have := ruY_bd hr j
    simp only [ruE]; omega
theorem ruY_mono {r : Int → Int} (hr : IsB r) {i j : Nat} (h : i ≤ j) : ruY r i ≤ ruY r j := by
  induction j with
  | zero => have : i = 0 := by omega
            subst this; exact Int.le_refl _
  | succ j ih =>
    by_cases e : i = j + 1
    · subst e; exact Int.le_refl _
    · have := ih (by omega)
      have := hr ((j + 1 : Nat) : Int)
      simp only [ruY]
      simp only [Int.natCast_add, Int.natCast_one] at this
      omega
theorem ruM_bd {r : Int → Int} (hr : IsB r) {m : Nat} (y : Int) (h : y ∈ ruM r m) : 0 ≤ y ∧ y ≤ ruYe r m := by
  unfold ruM ruYe at *
  split at h
  · rename_i e; rw [if_pos e]; simp at h; omega
  · rename_i e
    rw [if_neg e]
    obtain ⟨i, hi, rfl⟩ := List.mem_map.1 h
    have hi := List.mem_range.1 hi
    obtain ⟨j, rfl⟩ : ∃ j, m = j + 1 := ⟨m - 1, by omega⟩
    exact ⟨(ruY_bd hr i).1, ruY_mono hr (by omega)⟩
theorem getD_lit {l : List Int} {i : Int} (h0 : 0 ≤ i) (hi : i < l.length) : (l.map (Value.int .i64)).getD i.toNat default = .int .i64 (lit l i) := by
  unfold lit
  simp only [List.getD_eq_getElem?_getD, List.getElem?_map]
  rw [List.getElem?_eq_getElem (by omega)]
  simp

/-- the pixels of an image whose full rows are L -/
def ruQ (W : Int) (L : List Int) : Int → Int := fun k => if k / W ∈ L then 1 else 0
def ruP (W : Int) (L : List Int) (t : Nat) (x : Int) : Int → Int := fun k => if k / W ∈ L.take t ∨ (L[t]? = some (k / W) ∧ k % W < x) then 1 else 0
theorem ruP_start {W : Int} (L : List Int) {k : Int} (h0 : 0 ≤ k) (hW : 0 < W) : ruP W L 0 0 k = 0 := by
  have := Int.emod_nonneg k (show W ≠ 0 by omega)
  unfold ruP; rw [if_neg]; simp; intro _; omega
theorem ruP_end (W : Int) (L : List Int) (k : Int) : ruP W L L.length 0 k = ruQ W L k := by
  unfold ruP ruQ; simp
theorem ruP_row {W : Int} {L : List Int} {t : Nat} (ht : t < L.length) {k : Int} (hW : 0 < W) : ruP W L t W k = ruP W L (t + 1) 0 k := by
  unfold ruP
  have h1 := Int.emod_lt_of_pos k hW
  have h2 := Int.emod_nonneg k (show W ≠ 0 by omega)
  rw [List.take_add_one]
  by_cases h : L[t]? = some (k / W)
  · rw [if_pos (.inr ⟨h, h1⟩), if_pos (.inl (by rw [h]; simp))]
  · have e1 : (k / W ∈ L.take t ∨ L[t]? = some (k / W) ∧ k % W < W) ↔ k / W ∈ L.take t := ⟨fun x => x.elim id fun y => absurd y.1 h, .inl⟩
    have e2 : (k / W ∈ L.take t ++ L[t]?.toList ∨ L[t + 1]? = some (k / W) ∧ k % W < 0) ↔ k / W ∈ L.take t := by
      constructor
      · rintro (x | x)
        · rcases List.mem_append.1 x with x | x
          · exact x
          · exfalso; apply h
            cases hh : L[t]? with
            | none => rw [hh] at x; simp at x
            | some v => rw [hh] at x; simp at x; rw [x]
        · omega
      · exact fun x => .inl (List.mem_append.2 (.inl x))
    simp only [e1, e2]
theorem ruP_set {W : Int} {L : List Int} {t : Nat} (ht : t < L.length) {x k : Int} (hx0 : 0 ≤ x) (hx : x < W) :
    upd (ruP W L t x) (lit L t * W + x) 1 k = ruP W L t (x + 1) k := by
  have hL : L[t]? = some (lit L t) := by unfold lit; simp [List.getElem?_eq_getElem ht]
  unfold upd
  by_cases e : k = lit L t * W + x
  · rw [if_pos e]
    unfold ruP
    rw [e, idx_div hx0 hx, idx_mod hx0 hx, if_pos (.inr ⟨hL, by omega⟩)]
  · rw [if_neg e]
    unfold ruP
    have hne : ¬ (lit L t = k / W ∧ k % W = x) := by
      rintro ⟨h1, h2⟩
      have := Int.emod_add_mul_ediv k W
      rw [h2, ← h1, Int.mul_comm] at this
      omega
    rw [hL]
    by_cases c1 : k / W ∈ L.take t
    · rw [if_pos (.inl c1), if_pos (.inl c1)]
    · by_cases c2 : some (lit L t) = some (k / W) ∧ k % W < x
      · rw [if_pos (.inr c2), if_pos (.inr ⟨c2.1, by omega⟩)]
      · rw [if_neg (fun h => h.elim c1 c2), if_neg]
        rintro (h | ⟨h1, h2⟩)
        · exact c1 h
        · have h1' : lit L t = k / W := by simpa using h1
          by_cases h3 : k % W = x
          · exact hne ⟨h1', h3⟩
          · exact c2 ⟨h1, by omega⟩

end Go.Proofs.Ytdimlpcbbkokiaa
