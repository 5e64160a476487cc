/- Plain lemmas on memory and on numbers, for all walks of this seat: whole blocks, arrays as functions of an index, sums and counts. No program in sight. -/
import Derived.WalkKit
import Derived.WalkSpells
import Derived.WalkLawsBesides
import Derived.Lib.Hide
import Derived.Deep.Draws
import Derived.Laws.Rows
import Derived.Laws.Tables
namespace Go.Proofs.Ytdimlpcbbkokiaa
open Go.RowKit
set_option linter.unusedVariables false

/-! ### whole blocks: block g is just these cells of element type t, and none of them is frozen -/
def Blk (w : World) (g : Nat) (t : TypeId) (cs : Array Value) : Prop := w.heap[g]? = some (.cells cs t (0, 0))
section
variable {w w' : World} {g : Nat} {t : TypeId} {cs : Array Value}
theorem Blk.lt (h : Blk w g t cs) : g < w.heap.size := (Array.getElem?_eq_some_iff.1 h).1
theorem Blk.cell (h : Blk w g t cs) (i : Nat) : w.cell? ⟨g, i, none⟩ = cs[i]? := cell_of_row w g i cs t (0, 0) h
theorem Blk.frozen (h : Blk w g t cs) (i : Nat) : w.frozen? ⟨g, i, none⟩ = false := frozen_of_row w g i cs t h
/-- what leaves the heap alone at g leaves the block alone -/
theorem Blk.move (h : Blk w g t cs) (e : w'.heap[g]? = w.heap[g]?) : Blk w' g t cs := e.trans h
theorem Blk.new (w : World) (t : TypeId) (cs : Array Value) : Blk (w.alloc (.cells cs t)) w.heap.size t cs := heap_alloc_new w _
theorem Blk.new' {w : World} {n : Nat} (hn : w.heap.size = n) (t : TypeId) (cs : Array Value) : Blk (w.alloc (.cells cs t)) n t cs := hn ▸ heap_alloc_new w _
theorem Blk.drew (h : Blk w g t cs) : Blk w.drew g t cs := h.move rfl
theorem Blk.drewN (h : Blk w g t cs) (n : Nat) : Blk (w.drewN n) g t cs := h.move rfl
theorem Blk.alloc (h : Blk w g t cs) (o : Obj) : Blk (w.alloc o) g t cs := h.move (Below.heap_alloc w o g h.lt)
theorem Blk.set_ (h : Blk w g t cs) (i : Nat) (u : Value) : Blk (w.setCell ⟨g, i, none⟩ u) g t (cs.setIfInBounds i u) := heap_setCell_same w g i cs t u h
theorem Blk.far (h : Blk w g t cs) {p : Addr} (hp : g ≠ p.block) (u : Value) : Blk (w.setCell p u) g t cs := h.move (heap_setCell_other w p g u hp)
theorem Blk.setRow (h : Blk w g t cs) (cs' : Array Value) : Blk (w.setRow g cs') g t cs' := setRow_heap w g cs cs' t (0, 0) h
theorem Blk.farRow (h : Blk w g t cs) {g' : Nat} (hg : g ≠ g') (cs' : Array Value) : Blk (w.setRow g' cs') g t cs := h.move (setRow_other w g' g cs' hg)
theorem Blk.below {B : Nat} (h : Blk w g t cs) (hb : Below B w w') (hg : g < B) : Blk w' g t cs := h.move (hb.block g hg)
theorem Blk.below' (h : Blk w g t cs) (hb : Below w.heap.size w w') : Blk w' g t cs := h.below hb h.lt
theorem Blk.grown {row : Option Nat} (h : Blk w g t cs) (hb : w.grownBy w' row) (hg : some g ≠ row) : Blk w' g t cs := h.move (hb.block g h.lt hg)
end
theorem below_drewN {B : Nat} {a w : World} (h : Below B a w) (n : Nat) : Below B a (w.drewN n) := h.trans ⟨rfl, rfl, rfl, Nat.le_refl _, fun _ _ => rfl⟩
theorem below_setRow {B : Nat} {a w : World} (h : Below B a w) {g : Nat} (hg : B ≤ g) (cs : Array Value) : Below B a (w.setRow g cs) :=
  h.trans ⟨rfl, rfl, rfl, by simp, fun k hk => setRow_other w g k cs (by omega)⟩
/-- behind a callee that has left all of its caller's memory alone -/
theorem below_call {B : Nat} {a w w' : World} (h : Below B a w) (hB : B ≤ w.heap.size) (hc : Below w.heap.size w w') : Below B a w' := h.trans (hc.mono hB)

/-! ### cells as a function of their index -/
def cellsF (n : Nat) (f : Int → Value) : Array Value := ((List.range n).map fun (j : Nat) => f (j : Int)).toArray
theorem cellsF_size (n f) : (cellsF n f).size = n := by simp [cellsF]
theorem cellsF_get {n f i} (h : i < n) : (cellsF n f)[i]? = some (f i) := by simp [cellsF, h]
theorem cellsF_none {n f i} (h : n ≤ i) : (cellsF n f)[i]? = none := by simp [cellsF]; omega
theorem cellsF_at {n : Nat} {f : Int → Value} {i : Int} (h0 : 0 ≤ i) (h : i < n) : (cellsF n f)[i.toNat]? = some (f i) := by
  rw [cellsF_get (by omega), Int.toNat_of_nonneg h0]
theorem cellsF_congr {n : Nat} {f g : Int → Value} (h : ∀ j : Int, 0 ≤ j → j < n → f j = g j) : cellsF n f = cellsF n g := by
  unfold cellsF; congr 1; exact List.map_congr_left (fun j hj => h j (by omega) (by have := List.mem_range.1 hj; omega))
theorem cellsF_set (n f) (i : Int) (h0 : 0 ≤ i) (v) : (cellsF n f).setIfInBounds i.toNat v = cellsF n (fun j => if j = i then v else f j) := by
  apply Array.ext_getElem?
  intro j
  rw [Array.getElem?_setIfInBounds, cellsF_size]
  by_cases hj : j < n
  · rw [cellsF_get hj]
    by_cases e : i.toNat = j
    · have e' : (j : Int) = i := by omega
      subst e; rw [if_pos rfl, if_pos hj, cellsF_get hj, if_pos e']
    · have e' : ¬ (j : Int) = i := by omega
      rw [if_neg e, cellsF_get hj, if_neg e']
  · rw [cellsF_none (by omega)]
    by_cases e : i.toNat = j
    · rw [if_pos e, if_neg (by omega), cellsF_none (by omega)]
    · rw [if_neg e, cellsF_none (by omega)]
theorem cellsF_one (n : Nat) (f : Int → Value) (h : ∀ j : Int, 0 ≤ j → j < n → (f j).oneCell' = true) : (cellsF n f).all (·.oneCell') = true := by
  rw [Array.all_eq_true_iff_forall_mem]
  intro v hv
  simp [cellsF] at hv
  obtain ⟨j, hj, rfl⟩ := hv
  exact h j (by omega) (by omega)
theorem cellsF_eq {n : Nat} {cs : Array Value} {f : Int → Value} (hs : cs.size = n) (h : ∀ j : Nat, j < n → cs[j]? = some (f j)) : cs = cellsF n f := by
  apply Array.ext_getElem?
  intro j
  by_cases hj : j < n
  · rw [h j hj, cellsF_get hj]
  · rw [cellsF_none (by omega)]; simp; omega
theorem replicate_cellsF (n : Nat) (v : Value) : Array.replicate n v = cellsF n (fun _ => v) :=
  cellsF_eq (by simp) fun j hj => by simp [hj]
/-- a block of bytes, a block of ints -/
def u8s (n : Nat) (q : Int → Int) : Array Value := cellsF n fun j => .int .u8 (q j)
def i64s (n : Nat) (q : Int → Int) : Array Value := cellsF n fun j => .int .i64 (q j)
theorem u8s_size (n q) : (u8s n q).size = n := cellsF_size _ _
theorem i64s_size (n q) : (i64s n q).size = n := cellsF_size _ _
theorem u8s_at {n : Nat} {q : Int → Int} {i : Int} (h0 : 0 ≤ i) (h : i < n) : (u8s n q)[i.toNat]? = some (.int .u8 (q i)) := cellsF_at h0 h
theorem i64s_at {n : Nat} {q : Int → Int} {i : Int} (h0 : 0 ≤ i) (h : i < n) : (i64s n q)[i.toNat]? = some (.int .i64 (q i)) := cellsF_at h0 h
theorem u8s_congr {n : Nat} {q r : Int → Int} (h : ∀ j : Int, 0 ≤ j → j < n → q j = r j) : u8s n q = u8s n r := cellsF_congr fun j a b => by rw [h j a b]
theorem i64s_congr {n : Nat} {q r : Int → Int} (h : ∀ j : Int, 0 ≤ j → j < n → q j = r j) : i64s n q = i64s n r := cellsF_congr fun j a b => by rw [h j a b]
theorem u8s_set (n q) (i : Int) (h0 : 0 ≤ i) (v : Int) : (u8s n q).setIfInBounds i.toNat (.int .u8 v) = u8s n (fun j => if j = i then v else q j) := by
  unfold u8s; rw [cellsF_set n _ i h0]; congr 1; funext j; show _ = Value.int _ (if j = i then v else q j); split <;> rfl
theorem i64s_set (n q) (i : Int) (h0 : 0 ≤ i) (v : Int) : (i64s n q).setIfInBounds i.toNat (.int .i64 v) = i64s n (fun j => if j = i then v else q j) := by
  unfold i64s; rw [cellsF_set n _ i h0]; congr 1; funext j; show _ = Value.int _ (if j = i then v else q j); split <;> rfl
theorem u8s_one (n q) : (u8s n q).all (·.oneCell') = true := cellsF_one _ _ fun _ _ _ => rfl
theorem i64s_one (n q) : (i64s n q).all (·.oneCell') = true := cellsF_one _ _ fun _ _ _ => rfl
theorem u8s_zero (n : Nat) : Array.replicate n (Value.int .u8 0) = u8s n (fun _ => 0) := replicate_cellsF _ _
theorem i64s_zero (n : Nat) : Array.replicate n (Value.int .i64 0) = i64s n (fun _ => 0) := replicate_cellsF _ _
def upd (q : Int → Int) (i v : Int) : Int → Int := fun j => if j = i then v else q j
theorem Blk.u8set {w : World} {g t n : Nat} {q : Int → Int} (h : Blk w g t (u8s n q)) (i : Int) (h0 : 0 ≤ i) (v : Int) : Blk (w.setCell ⟨g, i.toNat, none⟩ (.int .u8 v)) g t (u8s n (upd q i v)) := by
  have := h.set_ i.toNat (.int .u8 v); rwa [u8s_set _ _ _ h0] at this
theorem Blk.i64set {w : World} {g t n : Nat} {q : Int → Int} (h : Blk w g t (i64s n q)) (i : Int) (h0 : 0 ≤ i) (v : Int) : Blk (w.setCell ⟨g, i.toNat, none⟩ (.int .i64 v)) g t (i64s n (upd q i v)) := by
  have := h.set_ i.toNat (.int .i64 v); rwa [i64s_set _ _ _ h0] at this
theorem Blk.u8at {w : World} {g t n : Nat} {q : Int → Int} (h : Blk w g t (u8s n q)) {i : Int} (h0 : 0 ≤ i) (hi : i < n) : w.cell? ⟨g, i.toNat, none⟩ = some (.int .u8 (q i)) := by rw [h.cell, u8s_at h0 hi]
theorem Blk.i64at {w : World} {g t n : Nat} {q : Int → Int} (h : Blk w g t (i64s n q)) {i : Int} (h0 : 0 ≤ i) (hi : i < n) : w.cell? ⟨g, i.toNat, none⟩ = some (.int .i64 (q i)) := by rw [h.cell, i64s_at h0 hi]

theorem Blk.u8conv {w : World} {g t n : Nat} {q r : Int → Int} (h : Blk w g t (u8s n q)) (he : ∀ j : Int, 0 ≤ j → j < n → q j = r j) : Blk w g t (u8s n r) := u8s_congr he ▸ h
theorem Blk.i64conv {w : World} {g t n : Nat} {q r : Int → Int} (h : Blk w g t (i64s n q)) (he : ∀ j : Int, 0 ≤ j → j < n → q j = r j) : Blk w g t (i64s n r) := i64s_congr he ▸ h
theorem upd_at (q : Int → Int) (i v : Int) : upd q i v i = v := by simp [upd]
theorem upd_ne {q : Int → Int} {i v j : Int} (h : j ≠ i) : upd q i v j = q j := by simp [upd, h]

/-! ### a slice that reads as a function of the index -/
def Arr (w : World) (B : Nat) (A : Option Addr) (n : Nat) (f : Int → Value) : Prop :=
  0 < n → ∃ b off, A = some ⟨b, off, none⟩ ∧ b < B ∧ ∀ i : Int, 0 ≤ i → i < n → w.cell? ⟨b, off + i.toNat, none⟩ = some (f i)
def ArrB (w : World) (B : Nat) (A : Option Addr) (n : Nat) (q : Int → Int) : Prop := Arr w B A n fun j => .int .u8 (q j)
def ArrI (w : World) (B : Nat) (A : Option Addr) (n : Nat) (q : Int → Int) : Prop := Arr w B A n fun j => .int .i64 (q j)
section
variable {w w' : World} {B B' n : Nat} {A : Option Addr} {f : Int → Value} {q : Int → Int}
theorem Arr.nil : Arr w B A 0 f := fun h => absurd h (by omega)
theorem Arr.keep (h : Arr w B A n f) (hk : ∀ p : Addr, p.block < B → w'.cell? p = w.cell? p) (hB : B ≤ B') : Arr w' B' A n f := fun hn => by
  obtain ⟨b, off, e, hb, hc⟩ := h hn
  exact ⟨b, off, e, by omega, fun i h0 hi => (hk _ hb).trans (hc i h0 hi)⟩
theorem Arr.more (h : Arr w B A n f) (hB : B ≤ B') : Arr w B' A n f := h.keep (fun _ _ => rfl) hB
theorem Arr.below (h : Arr w B A n f) (hb : Below B w w') : Arr w' B A n f := h.keep (fun _ hp => hb.cell hp) (Nat.le_refl _)
theorem Arr.drewN (h : Arr w B A n f) (k : Nat) : Arr (w.drewN k) B A n f := h
theorem Arr.congr {g : Int → Value} (h : Arr w B A n f) (he : ∀ i : Int, 0 ≤ i → i < n → f i = g i) : Arr w B A n g := fun hn => by
  obtain ⟨b, off, e, hb, hc⟩ := h hn
  exact ⟨b, off, e, hb, fun i h0 hi => by rw [hc i h0 hi, he i h0 hi]⟩
theorem Arr.at_ (h : Arr w B A n f) {i : Int} (h0 : 0 ≤ i) (hi : i < n) : ∃ b off, A = some ⟨b, off, none⟩ ∧ b < B ∧ w.cell? ⟨b, off + i.toNat, none⟩ = some (f i) := by
  obtain ⟨b, off, e, hb, hc⟩ := h (by omega)
  exact ⟨b, off, e, hb, hc i h0 hi⟩
theorem Blk.arr {g t : Nat} (h : Blk w g t (cellsF n f)) (hB : g < B) : Arr w B (some ⟨g, 0, none⟩) n f := fun _ =>
  ⟨g, 0, rfl, hB, fun i h0 hi => by rw [h.cell, Nat.zero_add, cellsF_at h0 hi]⟩
theorem Blk.arrB {g t : Nat} (h : Blk w g t (u8s n q)) (hB : g < B) : ArrB w B (some ⟨g, 0, none⟩) n q := Blk.arr h hB
theorem Blk.arrI {g t : Nat} (h : Blk w g t (i64s n q)) (hB : g < B) : ArrI w B (some ⟨g, 0, none⟩) n q := Blk.arr h hB
theorem ArrB.nil : ArrB w B A 0 q := Arr.nil
theorem ArrB.more (h : ArrB w B A n q) (hB : B ≤ B') : ArrB w B' A n q := Arr.more h hB
theorem ArrB.below (h : ArrB w B A n q) (hb : Below B w w') : ArrB w' B A n q := Arr.below h hb
theorem ArrB.to (h : ArrB w w.heap.size A n q) (hb : Below w.heap.size w w') : ArrB w' w'.heap.size A n q := Arr.more (Arr.below h hb) hb.size
theorem ArrB.at_ (h : ArrB w B A n q) {i : Int} (h0 : 0 ≤ i) (hi : i < n) : ∃ b off, A = some ⟨b, off, none⟩ ∧ b < B ∧ w.cell? ⟨b, off + i.toNat, none⟩ = some (.int .u8 (q i)) := Arr.at_ h h0 hi
theorem ArrB.congr {r : Int → Int} (h : ArrB w B A n q) (he : ∀ i : Int, 0 ≤ i → i < n → q i = r i) : ArrB w B A n r := Arr.congr h fun i a b => by rw [he i a b]
theorem ArrI.nil : ArrI w B A 0 q := Arr.nil
theorem ArrI.more (h : ArrI w B A n q) (hB : B ≤ B') : ArrI w B' A n q := Arr.more h hB
theorem ArrI.below (h : ArrI w B A n q) (hb : Below B w w') : ArrI w' B A n q := Arr.below h hb
theorem ArrI.to (h : ArrI w w.heap.size A n q) (hb : Below w.heap.size w w') : ArrI w' w'.heap.size A n q := Arr.more (Arr.below h hb) hb.size
theorem ArrI.at_ (h : ArrI w B A n q) {i : Int} (h0 : 0 ≤ i) (hi : i < n) : ∃ b off, A = some ⟨b, off, none⟩ ∧ b < B ∧ w.cell? ⟨b, off + i.toNat, none⟩ = some (.int .i64 (q i)) := Arr.at_ h h0 hi
theorem ArrI.congr {r : Int → Int} (h : ArrI w B A n q) (he : ∀ i : Int, 0 ≤ i → i < n → q i = r i) : ArrI w B A n r := Arr.congr h fun i a b => by rw [he i a b]
end
/-- bytes -/
def IsB (q : Int → Int) : Prop := ∀ i, 0 ≤ q i ∧ q i ≤ 255
/-- pixels -/
def Is01 (q : Int → Int) : Prop := ∀ i, q i = 0 ∨ q i = 1

/-! ### endings -/
theorem ret_int {k : IntKind} {a b : Int} (h : a = b) : Ending.returned (.int k a) = .returned (.int k b) := by rw [h]
theorem ret_bool {a b : Bool} (h : a = b) : Ending.returned (.bool a) = .returned (.bool b) := by rw [h]

/-! ### sums, counts, all -/
def sumN : Nat → (Int → Int) → Int
  | 0, _ => 0
  | n + 1, f => sumN n f + f n
def allN : Nat → (Int → Bool) → Bool
  | 0, _ => true
  | n + 1, f => allN n f && f n
theorem allN_iff {n : Nat} {f : Int → Bool} : allN n f = true ↔ ∀ i : Int, 0 ≤ i → i < n → f i = true := by
  induction n with
  | zero => simp [allN]; intro i h1 h2; omega
  | succ n ih =>
    rw [allN, Bool.and_eq_true, ih]
    constructor
    · rintro ⟨h1, h2⟩ i h0 hi
      by_cases e : i = n
      · subst e; exact h2
      · exact h1 i h0 (by omega)
    · intro h
      exact ⟨fun i h0 hi => h i h0 (by omega), h n (by omega) (by omega)⟩
theorem sumN_congr {n : Nat} {f g : Int → Int} (h : ∀ i : Int, 0 ≤ i → i < n → f i = g i) : sumN n f = sumN n g := by
  induction n with
  | zero => rfl
  | succ n ih => rw [sumN, sumN, ih (fun i a b => h i a (by omega)), h n (by omega) (by omega)]
theorem sumN_bd {n : Nat} {f : Int → Int} {m : Int} (h : ∀ i : Int, 0 ≤ i → i < n → 0 ≤ f i ∧ f i ≤ m) : 0 ≤ sumN n f ∧ sumN n f ≤ n * m := by
  induction n with
  | zero => simp [sumN]
  | succ n ih =>
    have h1 := ih (fun i a b => h i a (by omega))
    have h2 := h n (by omega) (by omega)
    have e : ((n + 1 : Nat) : Int) * m = n * m + m := by rw [Int.natCast_add, Int.add_mul]; simp
    rw [sumN, e]
    omega

/-! ### places in a grid -/
theorem idx_lt {x y W H : Int} (hx0 : 0 ≤ x) (hx : x < W) (hy0 : 0 ≤ y) (hy : y < H) : 0 ≤ y * W + x ∧ y * W + x < H * W ∧ 0 ≤ y * W := by
  have h1 : 0 ≤ y * W := Int.mul_nonneg hy0 (by omega)
  have h2 : (y + 1) * W ≤ H * W := Int.mul_le_mul_of_nonneg_right (by omega) (by omega)
  rw [Int.add_mul] at h2
  omega
theorem idx_div {x y W : Int} (hx0 : 0 ≤ x) (hx : x < W) : (y * W + x) / W = y := by
  rw [Int.add_comm, Int.mul_comm, Int.add_mul_ediv_left _ _ (by omega), Int.ediv_eq_zero_of_lt hx0 hx]; omega
theorem idx_mod {x y W : Int} (hx0 : 0 ≤ x) (hx : x < W) : (y * W + x) % W = x := by
  rw [Int.add_comm, Int.mul_comm, Int.add_mul_emod_self_left, Int.emod_eq_of_lt hx0 hx]
theorem idx_of {k W H : Int} (h0 : 0 ≤ k) (hW : 0 < W) (h : k < H * W) : ∃ x y, 0 ≤ x ∧ x < W ∧ 0 ≤ y ∧ y < H ∧ k = y * W + x ∧ y = k / W ∧ x = k % W := by
  refine ⟨k % W, k / W, Int.emod_nonneg _ (by omega), Int.emod_lt_of_pos _ hW, Int.ediv_nonneg h0 (by omega), Int.ediv_lt_of_lt_mul hW h, ?_, rfl, rfl⟩
  have := Int.emod_add_mul_ediv k W
  rw [Int.mul_comm (k / W)]; omega
theorem idx_inj {x y u v W : Int} (hx0 : 0 ≤ x) (hx : x < W) (hu0 : 0 ≤ u) (hu : u < W) (h : y * W + x = v * W + u) : x = u ∧ y = v := by
  have a := idx_mod (y := y) hx0 hx
  have b := idx_mod (y := v) hu0 hu
  have c := idx_div (y := y) hx0 hx
  have d := idx_div (y := v) hu0 hu
  rw [h] at a c
  exact ⟨a.symm.trans b, c.symm.trans d⟩
end Go.Proofs.Ytdimlpcbbkokiaa
namespace Go.Proofs.Ytdimlpcbbkokiaa
open Go.RowKit
theorem Blk.cells3 {w : World} {g : Nat} {t : TypeId} {a b c : Value} (h : Blk w g t #[a, b, c]) : w.cell? ⟨g, 0, none⟩ = some a ∧ w.cell? ⟨g, 1, none⟩ = some b ∧ w.cell? ⟨g, 2, none⟩ = some c :=
  ⟨by rw [h.cell]; rfl, by rw [h.cell]; rfl, by rw [h.cell]; rfl⟩
theorem Blk.frozen3 {w : World} {g : Nat} {t : TypeId} {a b c : Value} (h : Blk w g t #[a, b, c]) : w.frozen? ⟨g, 0, none⟩ = false ∧ w.frozen? ⟨g, 1, none⟩ = false ∧ w.frozen? ⟨g, 2, none⟩ = false :=
  ⟨h.frozen _, h.frozen _, h.frozen _⟩
theorem Blk.cells1 {w : World} {g : Nat} {t : TypeId} {a : Value} (h : Blk w g t #[a]) : w.cell? ⟨g, 0, none⟩ = some a := by rw [h.cell]; rfl
/-- a value of type Ink or Grey over fresh memory -/
def OutImg (w w' : World) (W H : Int) (q : Int → Int) (v : Value) : Prop :=
  ∃ g, v = .agg #[.int .i64 W, .int .i64 H, .slice (some ⟨g, 0, none⟩) (W * H).toNat (W * H).toNat] ∧ w.heap.size ≤ g ∧ Blk w' g 5 (u8s (W * H).toNat q)
theorem OutImg.mk {w w' : World} {W H : Int} {q : Int → Int} {g : Nat} (h : w.heap.size ≤ g) (hb : Blk w' g 5 (u8s (W * H).toNat q)) :
    OutImg w w' W H q (.agg #[.int .i64 W, .int .i64 H, .slice (some ⟨g, 0, none⟩) (W * H).toNat (W * H).toNat]) := ⟨g, rfl, h, hb⟩
/-- the image that is returned with an error -/
def noImg : Value := .agg #[.int .i64 0, .int .i64 0, .slice none 0 0]
theorem area_bd {W H : Int} (h1 : 0 ≤ W) (h2 : W ≤ 640) (h3 : 0 ≤ H) (h4 : H ≤ 640) : 0 ≤ W * H ∧ W * H ≤ 409600 :=
  ⟨Int.mul_nonneg h1 h3, Int.le_trans (Int.mul_le_mul h2 h4 h3 (by omega)) (by omega)⟩
end Go.Proofs.Ytdimlpcbbkokiaa
namespace Go.Proofs.Ytdimlpcbbkokiaa
theorem qcall {P : Program} {f : FuncId} {args : Array Value} {w : World} {v : Value}
    (h : Calls P f args w fun e w' => e = .returned v ∧ w = w') : Calls P f args w fun e w'' => e = .returned v ∧ ∃ m, w'' = w.drewN m :=
  h.mono fun _ _ ⟨he, hm⟩ => ⟨he, 0, hm ▸ rfl⟩
theorem qcallN {P : Program} {f : FuncId} {args : Array Value} {w : World} {n : Nat} {v : Value}
    (h : Calls P f args (w.drewN n) fun e w' => e = .returned v ∧ w.drewN n = w') : Calls P f args (w.drewN n) fun e w'' => e = .returned v ∧ ∃ m, w'' = w.drewN m :=
  h.mono fun _ _ ⟨he, hm⟩ => ⟨he, n, hm.symm⟩
theorem qcallA {P : Program} {f : FuncId} {args : Array Value} {w : World} {a n : Nat} {v : Value}
    (h : Calls P f args (w.drewN (a + n)) fun e w' => e = .returned v ∧ w.drewN (a + n) = w') : Calls P f args (w.drewN (a + n)) fun e w'' => e = .returned v ∧ ∃ m, w'' = w.drewN (a + m) :=
  h.mono fun _ _ ⟨he, hm⟩ => ⟨he, n, hm.symm⟩
end Go.Proofs.Ytdimlpcbbkokiaa

namespace Go.Proofs.Ytdimlpcbbkokiaa
open Go.RowKit
/-- an image over fresh memory, of N pixels -/
def OutN (w w' : World) (W H : Int) (N : Nat) (q : Int → Int) (v : Value) : Prop :=
  ∃ g, v = .agg #[.int .i64 W, .int .i64 H, .slice (some ⟨g, 0, none⟩) N N] ∧ w.heap.size ≤ g ∧ Blk w' g 5 (u8s N q)
theorem OutN.mk {w w' : World} {W H : Int} {N : Nat} {q : Int → Int} {g : Nat} (h : w.heap.size ≤ g) (hb : Blk w' g 5 (u8s N q)) :
    OutN w w' W H N q (.agg #[.int .i64 W, .int .i64 H, .slice (some ⟨g, 0, none⟩) N N]) := ⟨g, rfl, h, hb⟩
/-- a list of numbers as a function of the index -/
def lit (l : List Int) : Int → Int := fun i => l.getD i.toNat 0
theorem isB_lit {l : List Int} (h : l.all (fun x => decide (0 ≤ x ∧ x ≤ 255)) = true) : IsB (lit l) := by
  intro i
  unfold lit
  rw [List.getD_eq_getElem?_getD]
  by_cases hi : i.toNat < l.length
  · rw [List.getElem?_eq_getElem hi]
    have := List.all_eq_true.1 h _ (List.getElem_mem hi)
    simpa using this
  · rw [List.getElem?_eq_none (by omega)]; simp
theorem u8s_lit {l : List Int} : (l.map (Value.int .u8)).toArray = u8s l.length (lit l) :=
  cellsF_eq (by simp) fun j hj => by simp [lit, hj]
theorem i64s_lit {l : List Int} : (l.map (Value.int .i64)).toArray = i64s l.length (lit l) :=
  cellsF_eq (by simp) fun j hj => by simp [lit, hj]
end Go.Proofs.Ytdimlpcbbkokiaa
