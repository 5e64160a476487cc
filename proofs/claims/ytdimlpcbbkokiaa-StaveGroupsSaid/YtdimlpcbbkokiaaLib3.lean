/- Plain lemmas on memory: a list of blocks and of arrays that is kept as one fact. No program in sight. -/
import Derived.Test.YtdimlpcbbkokiaaLib2
namespace Go.Proofs.Ytdimlpcbbkokiaa
open Go.RowKit
set_option linter.unusedVariables false

/-- these blocks are known whole, and these slices of bytes read as these functions -/
def Kp (w : World) (bs : List (Nat × TypeId × Array Value)) (as : List (Option Addr × Nat × (Int → Int))) : Prop :=
  (∀ b ∈ bs, Blk w b.1 b.2.1 b.2.2) ∧ ∀ a ∈ as, ArrB w w.heap.size a.1 a.2.1 a.2.2
section
variable {w w' : World} {bs : List (Nat × TypeId × Array Value)} {as : List (Option Addr × Nat × (Int → Int))}
theorem Kp.nil (w : World) : Kp w [] [] := ⟨fun _ h => by simp at h, fun _ h => by simp at h⟩
theorem Kp.below (h : Kp w bs as) (hb : Below w.heap.size w w') : Kp w' bs as :=
  ⟨fun b hm => (h.1 b hm).below' hb, fun a hm => (h.2 a hm).to hb⟩
theorem Kp.alloc (h : Kp w bs as) (o : Obj) : Kp (w.alloc o) bs as := h.below ((Below.refl _ _).alloc (Nat.le_refl _) _)
theorem Kp.drew (h : Kp w bs as) : Kp w.drew bs as := h
theorem Kp.addB (h : Kp w bs as) {g : Nat} {t : TypeId} {cs : Array Value} (hk : Blk w g t cs) : Kp w ((g, t, cs) :: bs) as :=
  ⟨fun b hm => by rcases List.mem_cons.1 hm with rfl | hm <;> first | exact hk | exact h.1 b hm, h.2⟩
theorem Kp.addA (h : Kp w bs as) {A : Option Addr} {n : Nat} {q : Int → Int} (hk : ArrB w w.heap.size A n q) : Kp w bs ((A, n, q) :: as) :=
  ⟨h.1, fun b hm => by rcases List.mem_cons.1 hm with rfl | hm <;> first | exact hk | exact h.2 b hm⟩
/-- one more block, just made -/
theorem Kp.new (h : Kp w bs as) (t : TypeId) (cs : Array Value) : Kp (w.alloc (.cells cs t)) ((w.heap.size, t, cs) :: bs) as := (h.alloc _).addB (Blk.new _ _ _)
theorem Kp.b (h : Kp w bs as) (i : Nat) {g : Nat} {t : TypeId} {cs : Array Value} (hi : bs[i]? = some (g, t, cs)) : Blk w g t cs := h.1 _ (List.mem_of_getElem? hi)
theorem Kp.a (h : Kp w bs as) (i : Nat) {A : Option Addr} {n : Nat} {q : Int → Int} (hi : as[i]? = some (A, n, q)) : ArrB w w.heap.size A n q := h.2 _ (List.mem_of_getElem? hi)
end
/-! ### a box of three cells that is filled -/
def fill3 (w : World) (g : Nat) (a b c : Value) : World := ((w.setCell ⟨g, 0, none⟩ a).setCell ⟨g, 1, none⟩ b).setCell ⟨g, 2, none⟩ c
section
variable {w w' : World} {g : Nat} {t : TypeId} {a b c x y z : Value}
theorem Blk.fill3 (h : Blk w g t #[x, y, z]) : Blk (((w.setCell ⟨g, 0, none⟩ a).setCell ⟨g, 1, none⟩ b).setCell ⟨g, 2, none⟩ c) g t #[a, b, c] := ((h.set_ 0 a).set_ 1 b).set_ 2 c
theorem Blk.far3 {k : Nat} {cs : Array Value} (h : Blk w k t cs) (hk : k ≠ g) : Blk (((w.setCell ⟨g, 0, none⟩ a).setCell ⟨g, 1, none⟩ b).setCell ⟨g, 2, none⟩ c) k t cs := ((h.far hk _).far hk _).far hk _
theorem ArrB.far1 {B n : Nat} {A : Option Addr} {q : Int → Int} (h : ArrB w B A n q) {p : Addr} (hp : ∀ a, A = some a → a.block ≠ p.block) (u : Value) : ArrB (w.setCell p u) B A n q := fun hn => by
  obtain ⟨b, off, e, hb, hc⟩ := h hn
  exact ⟨b, off, e, hb, fun i h0 hi => (World.cell?_of_block (heap_setCell_other w p b u (hp _ e))).trans (hc i h0 hi)⟩
theorem ArrB.far3 {B n : Nat} {A : Option Addr} {q : Int → Int} (h : ArrB w B A n q) (hg : ∀ a, A = some a → a.block ≠ g) : ArrB (((w.setCell ⟨g, 0, none⟩ a).setCell ⟨g, 1, none⟩ b).setCell ⟨g, 2, none⟩ c) B A n q := ((h.far1 (p := ⟨g, 0, none⟩) hg a).far1 (p := ⟨g, 1, none⟩) hg b).far1 (p := ⟨g, 2, none⟩) hg c
theorem fill3_size : (((w.setCell ⟨g, 0, none⟩ a).setCell ⟨g, 1, none⟩ b).setCell ⟨g, 2, none⟩ c).heap.size = w.heap.size := by simp
theorem below_fill3 {B : Nat} {v : World} (h : Below B v w) (hg : B ≤ g) : Below B v (((w.setCell ⟨g, 0, none⟩ a).setCell ⟨g, 1, none⟩ b).setCell ⟨g, 2, none⟩ c) := ((h.setCell hg _).setCell hg _).setCell hg _
end
/-! ### chains: facts carried from world to world by the shape of the world -/
theorem bcell {W W1 : World} (hb : Below W.heap.size W W1) : (∀ b o, b < W.heap.size → W1.cell? ⟨b, o, none⟩ = W.cell? ⟨b, o, none⟩) ∧ (∀ b o, b < W.heap.size → W1.frozen? ⟨b, o, none⟩ = W.frozen? ⟨b, o, none⟩) :=
  ⟨fun b o h => hb.cell (p := ⟨b, o, none⟩) h, fun b o h => hb.frozen (p := ⟨b, o, none⟩) h⟩
theorem ArrB.alloc1 {w : World} {n : Nat} {A : Option Addr} {q : Int → Int} (h : ArrB w w.heap.size A n q) (o : Obj) : ArrB (w.alloc o) (w.alloc o).heap.size A n q := h.to ((Below.refl _ _).alloc (Nat.le_refl _) _)
theorem ArrB.drew1 {w : World} {n : Nat} {A : Option Addr} {q : Int → Int} (h : ArrB w w.heap.size A n q) : ArrB w.drew w.drew.heap.size A n q := h
theorem ArrB.fill1 {w : World} {g n : Nat} {A : Option Addr} {q : Int → Int} {a b c : Value} (h : ArrB w w.heap.size A n q) (hg : ∀ x, A = some x → x.block ≠ g) : ArrB (((w.setCell ⟨g, 0, none⟩ a).setCell ⟨g, 1, none⟩ b).setCell ⟨g, 2, none⟩ c) (((w.setCell ⟨g, 0, none⟩ a).setCell ⟨g, 1, none⟩ b).setCell ⟨g, 2, none⟩ c).heap.size A n q := by
  rw [fill3_size]; exact h.far3 hg
/-! the same with their side conditions first, for the chains -/
section
variable {w w' v : World} {n g B : Nat} {A : Option Addr} {q : Int → Int} {t : TypeId} {cs : Array Value} {a b c : Value}
theorem ArrB.to' (hb : Below w.heap.size w w') (h : ArrB w w.heap.size A n q) : ArrB w' w'.heap.size A n q := h.to hb
theorem ArrB.fill1' (hg : ∀ x, A = some x → x.block ≠ g) (h : ArrB w w.heap.size A n q) : ArrB (((w.setCell ⟨g, 0, none⟩ a).setCell ⟨g, 1, none⟩ b).setCell ⟨g, 2, none⟩ c) (((w.setCell ⟨g, 0, none⟩ a).setCell ⟨g, 1, none⟩ b).setCell ⟨g, 2, none⟩ c).heap.size A n q := h.fill1 hg
theorem ArrB.fillN (h0 : ArrB v v.heap.size A n q) (hv : v.heap.size ≤ g) (h : ArrB w w.heap.size A n q) : ArrB (((w.setCell ⟨g, 0, none⟩ a).setCell ⟨g, 1, none⟩ b).setCell ⟨g, 2, none⟩ c) (((w.setCell ⟨g, 0, none⟩ a).setCell ⟨g, 1, none⟩ b).setCell ⟨g, 2, none⟩ c).heap.size A n q := fun hn => by
  obtain ⟨k, off, rfl, hk, _⟩ := h0 hn
  exact (h.fill1 (fun x e => by cases e; show k ≠ g; omega)) hn
theorem ArrB.fillL {m : Nat} (hge : ∀ x, A = some x → m ≤ x.block) (hm : g < m) (h : ArrB w w.heap.size A n q) : ArrB (((w.setCell ⟨g, 0, none⟩ a).setCell ⟨g, 1, none⟩ b).setCell ⟨g, 2, none⟩ c) (((w.setCell ⟨g, 0, none⟩ a).setCell ⟨g, 1, none⟩ b).setCell ⟨g, 2, none⟩ c).heap.size A n q :=
  h.fill1 fun x e => by have := hge x e; omega
theorem Blk.far3' {k : Nat} (hk : k ≠ g) (h : Blk w k t cs) : Blk (((w.setCell ⟨g, 0, none⟩ a).setCell ⟨g, 1, none⟩ b).setCell ⟨g, 2, none⟩ c) k t cs := h.far3 hk
theorem Blk.below2 (hb : Below w.heap.size w w') (h : Blk w g t cs) : Blk w' g t cs := h.below' hb
theorem below_alloc' {o : Obj} (hB : B ≤ w.heap.size) (h : Below B v w) : Below B v (w.alloc o) := h.alloc hB o
theorem below_fill3' (hg : B ≤ g) (h : Below B v w) : Below B v (((w.setCell ⟨g, 0, none⟩ a).setCell ⟨g, 1, none⟩ b).setCell ⟨g, 2, none⟩ c) := below_fill3 h hg
theorem below_setCell' {p : Addr} {u : Value} (hg : B ≤ p.block) (h : Below B v w) : Below B v (w.setCell p u) := h.setCell hg u
theorem below_call' (hc : Below w.heap.size w w') (hB : B ≤ w.heap.size) (h : Below B v w) : Below B v w' := below_call h hB hc
end
theorem ArrI.fn {w : World} {B n : Nat} {A : Option Addr} {q : Int → Int} (h : ArrI w B A n q) (hn : 0 < n) : ∃ b off, A = some ⟨b, off, none⟩ ∧ b < B ∧ ∀ i : Int, 0 ≤ i → i < n → w.cell? ⟨b, off + i.toNat, none⟩ = some (.int .i64 (q i)) := h hn
theorem ArrB.fn {w : World} {B n : Nat} {A : Option Addr} {q : Int → Int} (h : ArrB w B A n q) (hn : 0 < n) : ∃ b off, A = some ⟨b, off, none⟩ ∧ b < B ∧ ∀ i : Int, 0 ≤ i → i < n → w.cell? ⟨b, off + i.toNat, none⟩ = some (.int .u8 (q i)) := h hn
theorem new_size_lt (w : World) (o : Obj) : w.heap.size < (w.alloc o).heap.size := by simp
end Go.Proofs.Ytdimlpcbbkokiaa
