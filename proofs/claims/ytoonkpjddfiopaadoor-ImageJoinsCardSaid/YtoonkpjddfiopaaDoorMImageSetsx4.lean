/- Texts of mine in build order: T14, T27, T28, T35, T36, B1, T37, T47, G2, I3, C5, C6, J2. Conditions: each theorem's own. -/
import Derived.Test.YtoonkpjddfiopaaDoorMImageSetsx3
import Derived.Deep.RegionHeld3
import Derived.Deep.AppendLies
import Derived.StillTailTactics
import Derived.Lib.LazyBuf
import Derived.Shelf.SlSortCmp.WholeK
import Derived.Shelf.SlSortCmp.NoneTotal
import Derived.Deep.CutBlock
import Derived.Outline
/- Walks: the least and the greatest of a list of numbers; whether five lines have gaps that are alike (stave.even). -/
namespace Go.Proofs.YtoonkpjddfiopaaDoor
open Go.RowKit Go.Shelf
set_option linter.unusedVariables false
attribute [local go_sem] Oper.semAt_some

def minA (q : Int → Int) : Nat → Int
  | 0 => q 0
  | i + 1 => if q ((i : Int) + 1) < minA q i then q ((i : Int) + 1) else minA q i
def maxA (q : Int → Int) : Nat → Int
  | 0 => q 0
  | i + 1 => if maxA q i < q ((i : Int) + 1) then q ((i : Int) + 1) else maxA q i
/-- lines that came in: a slice of slices -/
def Lines (w : World) (B : Nat) (A : Option Addr) (K : Nat) (m : Nat → Nat) (ln : Nat → Nat → Int) : Prop :=
  ∃ vs : Nat → Value, Arr w B A K (fun j => vs j.toNat) ∧ ∀ i, i < K → ∃ A' c', vs i = .slice A' (m i) c' ∧ ArrI w B A' (m i) (fun j => ln i j.toNat)
theorem Lines.below {w w' : World} {A : Option Addr} {K : Nat} {m : Nat → Nat} {ln : Nat → Nat → Int} (h : Lines w w.heap.size A K m ln) (hb : Below w.heap.size w w') : Lines w' w'.heap.size A K m ln := by
  obtain ⟨vs, h1, h2⟩ := h
  exact ⟨vs, (Arr.below h1 hb).more hb.size, fun i hi => by obtain ⟨A', c', e, ha⟩ := h2 i hi; exact ⟨A', c', e, ha.to hb⟩⟩
theorem Lines.at_ {w : World} {B : Nat} {A : Option Addr} {K : Nat} {m : Nat → Nat} {ln : Nat → Nat → Int} (h : Lines w B A K m ln) {i : Nat} (hi : i < K) :
    ∃ b off A' c', A = some ⟨b, off, none⟩ ∧ b < B ∧ w.cell? ⟨b, off + i, none⟩ = some (.slice A' (m i) c') ∧ ArrI w B A' (m i) (fun j => ln i j.toNat) := by
  obtain ⟨vs, h1, h2⟩ := h
  obtain ⟨b, off, e, hb, hc⟩ := Arr.at_ h1 (i := (i : Int)) (by omega) (by omega)
  rw [Int.toNat_natCast] at hc
  obtain ⟨A', c', e', ha⟩ := h2 i hi
  exact ⟨b, off, A', c', e, hb, by rw [hc, e'], ha⟩

/-- the gaps of lines at both ends, two of a pair of lines -/
def gapF (ln : Nat → Nat → Int) (m : Nat) (j : Nat) : Int := if j % 2 = 0 then ln (j / 2 + 1) 0 - ln (j / 2) 0 else ln (j / 2 + 1) (m - 1) - ln (j / 2) (m - 1)
def evenV (ln : Nat → Nat → Int) (m : Nat) : Bool := decide (2 ≤ minA (fun j => gapF ln m j.toNat) 7 ∧ maxA (fun j => gapF ln m j.toNat) 7 ≤ 64 ∧ maxA (fun j => gapF ln m j.toNat) 7 - minA (fun j => gapF ln m j.toNat) 7 ≤ 2)
def evenB (m : Nat → Nat) (ln : Nat → Nat → Int) : Bool := ((List.range 5).all fun i => decide (0 < m i ∧ m i = m 0)) && evenV ln (m 0)
theorem gap_snoc (ln : Nat → Nat → Int) (m i : Nat) : (List.range (2 * (i + 1))).map (fun j => Value.int .i64 (gapF ln m j)) = (List.range (2 * i)).map (fun j => Value.int .i64 (gapF ln m j)) ++ [.int .i64 (ln (i + 1) 0 - ln i 0), .int .i64 (ln (i + 1) (m - 1) - ln i (m - 1))] := by
  rw [show 2 * (i + 1) = 2 * i + 1 + 1 by omega, range_snoc, range_snoc, List.append_assoc]
  have e1 : gapF ln m (2 * i) = ln (i + 1) 0 - ln i 0 := by unfold gapF; rw [if_pos (by omega), show 2 * i / 2 = i by omega]
  have e2 : gapF ln m (2 * i + 1) = ln (i + 1) (m - 1) - ln i (m - 1) := by unfold gapF; rw [if_neg (by omega), show (2 * i + 1) / 2 = i by omega]
  rw [e1, e2]; rfl
theorem minA_bd {q : Int → Int} {b : Int} (n : Nat) (h : ∀ i : Int, 0 ≤ i → i ≤ n → -b ≤ q i ∧ q i ≤ b) : -b ≤ minA q n ∧ minA q n ≤ b := by
  induction n with
  | zero => exact h 0 (by omega) (by omega)
  | succ n ih =>
    have := ih fun i a c => h i a (by omega)
    have := h ((n : Int) + 1) (by omega) (by omega)
    rw [minA]; split <;> omega
theorem maxA_bd {q : Int → Int} {b : Int} (n : Nat) (h : ∀ i : Int, 0 ≤ i → i ≤ n → -b ≤ q i ∧ q i ≤ b) : -b ≤ maxA q n ∧ maxA q n ≤ b := by
  induction n with
  | zero => exact h 0 (by omega) (by omega)
  | succ n ih =>
    have := ih fun i a c => h i a (by omega)
    have := h ((n : Int) + 1) (by omega) (by omega)
    rw [maxA]; split <;> omega

end Go.Proofs.YtoonkpjddfiopaaDoor

/- Walks: whether a stave fits an image (stave.fits, stave.Check; the reference's Fits, Check). -/
namespace Go.Proofs.YtoonkpjddfiopaaDoor
open Go.RowKit Go.Shelf
set_option linter.unusedVariables false
attribute [local go_sem] Oper.semAt_some

/-- five lines are paths of the image and lie one under the other -/
def StP (W H : Int) (K : Nat) (m : Nat → Nat) (ln : Nat → Nat → Int) : Prop :=
  K = 5 ∧ (∀ i, i < 5 → isPathB W H (m i) (fun j => ln i j.toNat) = true) ∧ ∀ i, i + 1 < 5 → ∀ x : Nat, (x : Int) < W → ln i x < ln (i + 1) x
def stFits (W H : Int) (K : Nat) (m : Nat → Nat) (ln : Nat → Nat → Int) : Bool :=
  decide (K = 5) && (((List.range 5).all fun i => isPathB W H (m i) fun j => ln i j.toNat) && (List.range 4).all fun i => (List.range W.toNat).all fun x => decide (ln i x < ln (i + 1) x))
theorem stFits_iff {W H : Int} {K : Nat} {m : Nat → Nat} {ln : Nat → Nat → Int} : stFits W H K m ln = true ↔ StP W H K m ln := by
  unfold stFits StP
  rw [Bool.and_eq_true, Bool.and_eq_true, decide_eq_true_iff, List.all_eq_true, List.all_eq_true]
  refine and_congr_right fun _ => and_congr ⟨fun h i hi => h i (List.mem_range.2 hi), fun h i hi => h i (List.mem_range.1 hi)⟩ ⟨fun h i hi x hx => ?_, fun h i hi => ?_⟩
  · have := List.all_eq_true.1 (h i (List.mem_range.2 (by omega))) x (List.mem_range.2 (by omega))
    simpa using this
  · rw [List.all_eq_true]
    intro x hx
    have := List.mem_range.1 hi
    have := List.mem_range.1 hx
    exact decide_eq_true (h i (by omega) x (by omega))
theorem stFits_no {W H : Int} {K : Nat} {m : Nat → Nat} {ln : Nat → Nat → Int} (h : ¬ StP W H K m ln) : stFits W H K m ln = false := Bool.eq_false_iff.2 fun e => h (stFits_iff.1 e)
theorem Blk.cells0 {w : World} {g : Nat} {t : TypeId} {a : Value} (h : Blk w g t #[a]) : w.cell? ⟨g, 0, none⟩ = some a := by rw [h.cell]; rfl

end Go.Proofs.YtoonkpjddfiopaaDoor

/- Walks: the reference's Fits; the checks of a stave, the program's and the reference's. -/
namespace Go.Proofs.YtoonkpjddfiopaaDoor
open Go.RowKit Go.Shelf
set_option linter.unusedVariables false
attribute [local go_sem] Oper.semAt_some

/-- the error of a stave's check -/
def stChk (W H : Int) (n : Nat) (p : Int → Int) (K : Nat) (m : Nat → Nat) (ln : Nat → Nat → Int) : Int := if chk W H n p ≠ 0 then chk W H n p else if stFits W H K m ln = true then 0 else 10
end Go.Proofs.YtoonkpjddfiopaaDoor

/- Walk: a strip cut out along a stave (stave.Rectify), where it is refused. -/
namespace Go.Proofs.YtoonkpjddfiopaaDoor
open Go.RowKit Go.Shelf
set_option linter.unusedVariables false
attribute [local go_sem] Oper.semAt_some

end Go.Proofs.YtoonkpjddfiopaaDoor

/- Walk: a strip cut out along a stave (stave.Rectify), where it is made. -/
namespace Go.Proofs.YtoonkpjddfiopaaDoor
open Go.RowKit Go.Shelf
set_option linter.unusedVariables false
attribute [local go_sem] Oper.semAt_some

end Go.Proofs.YtoonkpjddfiopaaDoor

/- Memory: a block of bytes of which the first cells are known; bytes.Clone. -/
namespace Go.Proofs.YtoonkpjddfiopaaDoor
open Go.RowKit
set_option linter.unusedVariables false

/-- block g holds bytes, the first n of which are q -/
def ArrO (w : World) (g n : Nat) (q : Int → Int) : Prop := ∃ cs, Blk w g 5 cs ∧ ∀ i : Int, 0 ≤ i → i < n → cs[i.toNat]? = some (.int .u8 (q i))
section
variable {w w' : World} {g n : Nat} {q r : Int → Int}
theorem ArrO.lt (h : ArrO w g n q) : g < w.heap.size := by obtain ⟨cs, hb, -⟩ := h; exact hb.lt
theorem ArrO.cell (h : ArrO w g n q) {i : Int} (h0 : 0 ≤ i) (hi : i < n) : w.cell? ⟨g, i.toNat, none⟩ = some (.int .u8 (q i)) := by obtain ⟨cs, hb, hc⟩ := h; rw [hb.cell, hc i h0 hi]
theorem ArrO.frozen (h : ArrO w g n q) (i : Nat) : w.frozen? ⟨g, i, none⟩ = false := by obtain ⟨cs, hb, -⟩ := h; exact hb.frozen i
theorem ArrO.move (h : ArrO w g n q) (e : w'.heap[g]? = w.heap[g]?) : ArrO w' g n q := by obtain ⟨cs, hb, hc⟩ := h; exact ⟨cs, hb.move e, hc⟩
theorem ArrO.drew (h : ArrO w g n q) : ArrO w.drew g n q := h.move rfl
theorem ArrO.alloc (h : ArrO w g n q) (o : Obj) : ArrO (w.alloc o) g n q := h.move (Below.heap_alloc w o g h.lt)
theorem ArrO.far (h : ArrO w g n q) {p : Addr} (hp : g ≠ p.block) (u : Value) : ArrO (w.setCell p u) g n q := h.move (heap_setCell_other w p g u hp)
theorem ArrO.below (h : ArrO w g n q) (hb : Below w.heap.size w w') : ArrO w' g n q := h.move (hb.block g h.lt)
theorem ArrO.conv (h : ArrO w g n q) (he : ∀ i : Int, 0 ≤ i → i < n → q i = r i) : ArrO w g n r := by
  obtain ⟨cs, hb, hc⟩ := h; exact ⟨cs, hb, fun i a b => by rw [hc i a b, he i a b]⟩
theorem ArrO.set (h : ArrO w g n q) (i : Int) (h0 : 0 ≤ i) (hi : i < n) (v : Int) : ArrO (w.setCell ⟨g, i.toNat, none⟩ (.int .u8 v)) g n (upd q i v) := by
  obtain ⟨cs, hb, hc⟩ := h
  refine ⟨cs.setIfInBounds i.toNat (.int .u8 v), hb.set_ _ _, fun j j0 j1 => ?_⟩
  rw [Array.getElem?_setIfInBounds]
  have hs : i.toNat < cs.size := (Array.getElem?_eq_some_iff.1 (hc i h0 hi)).1
  by_cases e : i.toNat = j.toNat
  · have e' : j = i := by omega
    subst e'
    rw [if_pos rfl, if_pos hs, upd_at]
  · rw [if_neg e, hc j j0 j1, upd_ne (by omega)]
theorem ArrO.arr (h : ArrO w g n q) : ArrB w w.heap.size (some ⟨g, 0, none⟩) n q := fun _ => ⟨g, 0, rfl, h.lt, fun i a b => by rw [Nat.zero_add]; exact h.cell a b⟩
theorem Blk.arrO {N : Nat} (h : Blk w g 5 (u8s N q)) : ArrO w g N q := ⟨_, h, fun i a b => u8s_at a b⟩
end
theorem own_arrO {w : World} {B n : Nat} {v : Value} {q : Int → Int} (h : w.ownsRow B 5 1 v n ((List.range n).map fun (j : Nat) => Value.int .u8 (q j))) (hn : 0 < n) : ∃ g c, v = .slice (some ⟨g, 0, none⟩) n c ∧ n ≤ c ∧ B ≤ g ∧ ArrO w g n q := by
  rcases h.2 with ⟨-, h2⟩ | ⟨g, cap, cur, hv, hb, hh, hc, _, hs, ht⟩
  · omega
  · refine ⟨g, cap, hv, hc, hb, cur, hh, fun i a b => ?_⟩
    have e : cur[i.toNat]? = (cur.toList.take ((List.range n).map fun (j : Nat) => Value.int .u8 (q j)).length)[i.toNat]? := by
      rw [List.getElem?_take, if_pos (by simp; omega)]; simp
    rw [e]
    have : (cur.toList.take ((List.range n).map fun (j : Nat) => Value.int .u8 (q j)).length) = (List.range n).map fun (j : Nat) => Value.int .u8 (q j) := by
      simpa using ht
    rw [this, List.getElem?_map, List.getElem?_range (by omega)]
    simp [Int.toNat_of_nonneg a]

def ClOut (A : Option Addr) (n : Nat) (p : Int → Int) (w : World) (v : Value) (w' : World) : Prop := (A = none ∧ n = 0 ∧ v = .slice none 0 0 ∧ w = w') ∨ w'.ownsRow w.heap.size 5 1 v n ((List.range n).map fun (j : Nat) => Value.int .u8 (p j))
set_option maxRecDepth 100000 in
set_option maxHeartbeats 1000000 in
theorem bclone_own (A : Option Addr) (n c : Nat) (p : Int → Int) (w : World) (hA : ArrB w w.heap.size A n p) (hn : n ≤ 140737488355328) :
    Calls Tryd.prog 83 #[.slice A n c] w (New w fun v w' => ClOut A n p w v w') := by
  obtain ⟨i0, hi0, hz0, hz1, hz2⟩ := info_parts infoU8
  cases A with
  | none =>
    have hn0 : n = 0 := by
      rcases Nat.eq_zero_or_pos n with h | h
      · exact h
      · obtain ⟨b, off, e, _⟩ := hA h; cases e
    subst hn0
    have E1 : ∀ W, (binOp .eql 22 (.slice none 0 c) (.slice none 0 0)).run Tryd.prog W = .ok (.bool true) W := fun W => Go.run_eql_slice_nil W _ _ _ _ _ Tryd.underlying22
    clear hA
    go_enter Tryd.func83, Tryd.ntmps83
    go_wp2
    go_ret
    exact ⟨_, rfl, .inl ⟨rfl, rfl, rfl, rfl⟩, Below.refl _ _⟩
  | some ad =>
    have E1 : ∀ W, (binOp .eql 22 (.slice (some ad) n c) (.slice none 0 0)).run Tryd.prog W = .ok (.bool false) W := fun W => Go.run_eql_slice_nil W _ _ _ _ _ Tryd.underlying22
    have HA := Lib.hid hA
    clear hA
    go_enter Tryd.func83, Tryd.ntmps83
    go_wp2_with (at_builtin; refine wpList_append_own _ rfl (.tmp 5) (.tmp 6) 22 rfl w.heap.size 5 i0 (.int .u8 0) 1 1 Tryd.underlying22 hi0 hz0 hz1 hz2 rfl (by decide) _ 0 [] rfl (World.ownsRow_made w #[] 0 (Nat.le_refl _) (by decide) rfl) ad n c ((List.range n).map (fun (j : Nat) => Value.int .u8 (p j))) rfl (by simp) ?c1 ?c2 ?c3 ?c4 ?c5 ?_)
    case c1 =>
      intro j u hj
      have hjn : j < n := by
        rcases Nat.lt_or_ge j n with h | h
        · exact h
        · rw [List.getElem?_eq_none (by simpa using h)] at hj; cases hj
      obtain ⟨b, off, e, hb, hcell⟩ := HA.out (by omega)
      injection e with e; subst e
      have := hcell j (by omega) (by omega)
      simp [hjn] at hj
      subst hj
      rw [Int.toNat_natCast] at this
      have hadd : (⟨b, off, none⟩ : Addr).add j = ⟨b, off + j, none⟩ := by unfold Addr.add; split <;> simp_all
      rw [hadd, ← this]
      exact (Below.cell ((Below.refl _ _).alloc (Nat.le_refl _) _) (p := ⟨b, off + j, none⟩) hb)
    case c2 => intro u hu; simp at hu; obtain ⟨j, _, rfl⟩ := hu; rfl
    case c3 => unfold maxLen; omega
    case c4 => omega
    case c5 => simp
    intro v' w7 own7 hg7 _
    have b7 : Below w.heap.size w w7 := ((Below.refl w.heap.size w).alloc (Nat.le_refl _) (.cells #[] 5)).grown hg7 (by simp) (fun k hk => by cases hk; exact Nat.le_refl _)
    go_wp2
    go_ret
    try rw [Nat.zero_add, List.nil_append] at own7
    exact ⟨_, rfl, .inr own7, b7⟩
theorem bclone_pos (A : Option Addr) (n c : Nat) (p : Int → Int) (w : World) (hA : ArrB w w.heap.size A n p) (hn : n ≤ 140737488355328) (h0 : 0 < n) :
    Calls Tryd.prog 83 #[.slice A n c] w (New w fun v w' => ∃ g c', v = .slice (some ⟨g, 0, none⟩) n c' ∧ n ≤ c' ∧ w.heap.size ≤ g ∧ ArrO w' g n p) :=
  (bclone_own A n c p w hA hn).mono fun e w' ⟨v, he, h, hb⟩ => by
    rcases h with ⟨-, h, -, -⟩ | h
    · omega
    · exact ⟨v, he, own_arrO h h0, hb⟩
theorem outSl_nil (w w' : World) (q : Int → Int) : OutSl w w' 0 q (.slice none 0 0) := ⟨none, 0, rfl, Nat.le_refl _, fun _ => rfl, (fun _ h => by cases h), ArrB.nil⟩
theorem bclone_any (A : Option Addr) (n c : Nat) (p : Int → Int) (w : World) (hA : ArrB w w.heap.size A n p) (hn : n ≤ 140737488355328) :
    Calls Tryd.prog 83 #[.slice A n c] w (New w fun v w' => OutSl w w' n p v) :=
  (bclone_own A n c p w hA hn).mono fun e w' ⟨v, he, h, hb⟩ => by
    refine ⟨v, he, ?_, hb⟩
    rcases h with ⟨-, rfl, rfl, rfl⟩ | h
    · exact outSl_nil _ _ _
    · exact own_out h rfl
end Go.Proofs.YtoonkpjddfiopaaDoor

/- Walk: the first of two errors (cmp.Or). -/
namespace Go.Proofs.YtoonkpjddfiopaaDoor
open Go.RowKit Go.Shelf
set_option linter.unusedVariables false
attribute [local go_sem] Oper.semAt_some

/-- the first of two that is not zero -/
def orE (a b : Int) : Int := if a = 0 then b else a
end Go.Proofs.YtoonkpjddfiopaaDoor

/- Walks: the order of runs (stave.Runs's comparing function), cmp.Or of two numbers; rows of runs. -/
namespace Go.Proofs.YtoonkpjddfiopaaDoor
open Go.RowKit Go.Shelf Go.Lib Go.Sort
set_option linter.unusedVariables false
attribute [local go_sem] Oper.semAt_some

set_option maxHeartbeats 1000000 in
theorem or2i_any (g : Nat) (a b : Int) (w : World) (h : Blk w g 3 #[.int .i64 a, .int .i64 b]) :
    Calls Tryd.prog 94 #[.slice (some ⟨g, 0, none⟩) 2 2] w fun e w' => e = .returned (.int .i64 (orE a b)) ∧ w = w' := by
  have p1 : w.cell? ⟨g, 0, none⟩ = some (.int .i64 a) := by rw [h.cell]; rfl
  have p2 : w.cell? ⟨g, 1, none⟩ = some (.int .i64 b) := by rw [h.cell]; rfl
  have HO : Hid (orE a b = if a = 0 then b else a) := rfl
  generalize orE a b = z at *
  clear h
  by_cases ha : a = 0
  · have hz : z = b := by rw [HO.out, if_pos ha]
    subst hz
    subst ha
    by_cases hb : z = 0
    · subst hb
      clear HO
      go_enter Tryd.func94, Tryd.ntmps94
      go_wp2_with fail
      go_loop [8] (fun i => ∃ k : Nat, k ≤ 2 ∧ i = .int .i64 k) (fun i => 2 - (intOf i).toNat)
      case atStart => exact ⟨0, by omega, rfl⟩
      case round =>
        obtain ⟨k, hk, rfl⟩ := hrel
        by_cases k2 : k = 2
        · subst k2
          go_wp2
          go_ret
          exact ⟨rfl, rfl⟩
        · have hc : w.cell? ⟨g, k, none⟩ = some (.int .i64 0) := by
            by_cases k0 : k = 0
            · subst k0; exact p1
            · obtain rfl : k = 1 := by omega
              exact p2
          have kl : (k : Int) < 2 := by omega
          clear p1 p2
          go_wp2
          go_round
          case rel => exact ⟨k + 1, by omega, by go_num⟩
          case measure => simp [intOf]; omega
    · have hb' : (z == 0) = false := by simp [hb]
      have hb2 : (z != 0) = true := by simp [hb]
      have HB := Lib.hid hb
      clear HO hb
      go_enter Tryd.func94, Tryd.ntmps94
      go_wp2_with fail
      go_loop [8] (fun i => ∃ k : Nat, k ≤ 1 ∧ i = .int .i64 k) (fun i => 2 - (intOf i).toNat)
      case atStart => exact ⟨0, by omega, rfl⟩
      case round =>
        obtain ⟨k, hk, rfl⟩ := hrel
        by_cases k0 : k = 0
        · subst k0
          go_wp2
          go_round
          case rel => exact ⟨1, by omega, by go_num⟩
          case measure => simp [intOf]
        · obtain rfl : k = 1 := by omega
          go_wp2
          go_ret
          exact ⟨rfl, rfl⟩
  · have hz : z = a := by rw [HO.out, if_neg ha]
    subst hz
    have hb' : (z == 0) = false := by simp [ha]
    have hb2 : (z != 0) = true := by simp [ha]
    have HA := Lib.hid ha
    clear HO ha
    go_enter Tryd.func94, Tryd.ntmps94
    go_wp2_with fail
    go_loop [8] (fun i => i = .int .i64 0) (fun i => 2 - (intOf i).toNat)
    case atStart => exact rfl
    case round =>
      subst hrel
      go_wp2
      go_ret
      exact ⟨rfl, rfl⟩
/-- numbers that do not wrap when they are subtracted -/
def Small (x : Int) : Prop := -1000000 ≤ x ∧ x ≤ 1000000
def cmpR (a b : Rn) : Int := orE (a.1 - b.1) (a.2.1 - b.2.1)
end Go.Proofs.YtoonkpjddfiopaaDoor

/- The order of points (the comparing function of image.Components), and the library's sort at points. -/
namespace Go.Proofs.YtoonkpjddfiopaaDoor
open Go.RowKit Go.Shelf Go.Lib Go.Sort
set_option linter.unusedVariables false
attribute [local go_sem] Oper.semAt_some

def cmpP (W i j : Nat) : Int := orE (((i / W : Nat) : Int) - ((j / W : Nat) : Int)) (((i % W : Nat) : Int) - ((j % W : Nat) : Int))
set_option maxRecDepth 100000 in
set_option maxHeartbeats 1000000 in
/-- the comparing function lays three blocks and turns nothing -/
theorem cmpPts_any (a1 a2 b1 b2 : Int) (w : World) (ha : Small a1 ∧ Small a2) (hb : Small b1 ∧ Small b2) :
    Calls Tryd.prog 93 #[.agg #[.int .i64 a1, .int .i64 a2], .agg #[.int .i64 b1, .int .i64 b2]] w fun e w' => e = .returned (.int .i64 (orE (a2 - b2) (a1 - b1))) ∧ ∃ q os', w' = grow (w.drewN q) os' := by
  obtain ⟨⟨x1, x2⟩, ⟨x3, x4⟩⟩ := ha
  obtain ⟨⟨x5, x6⟩, ⟨x7, x8⟩⟩ := hb
  have OR := Lib.hid fun g w' h => or2i_any g (a2 - b2) (a1 - b1) w' h
  generalize orE (a2 - b2) (a1 - b1) = r at *
  go_enter Tryd.func93, Tryd.ntmps93
  go_wp2_with fail
  refine (OR.out (w.heap.size + 1 + 1) _ (Blk.new' (by simp) _ _)).mono ?_
  rintro e w' ⟨rfl, rfl⟩
  go_wp2
  go_ret
  exact ⟨rfl, 0, _, by rw [alloc_eq_grow, alloc_eq_grow, alloc_eq_grow, grow_grow, grow_grow]; rfl⟩

def Tryd.sortPts_ren : Go.Shelf.Ren := ⟨fun | 6 => 92 | 15 => 136 | 14 => 135 | 28 => 156 | 29 => 157 | 20 => 148 | 21 => 149 | 22 => 150 | 23 => 151 | 24 => 152 | 25 => 153 | 26 => 154 | 27 => 155 | 46 => 166 | 47 => 167 | 48 => 168 | 49 => 169 | 50 => 170 | 57 => 177 | n => n, fun | 22 => 45 | 24 => 51 | 25 => 124 | 3 => 3 | 39 => 163 | 0 => 0 | 53 => 179 | 55 => 181 | 4 => 4 | 46 => 172 | 45 => 171 | 50 => 176 | 5 => 5 | 9 => 9 | 66 => 187 | 70 => 191 | 76 => 199 | 77 => 200 | n => n, fun | n => n⟩
theorem Tryd.sortPts : Go.Proofs.SlLaysF0.n6 Tryd.prog Tryd.sortPts_ren := {
  mixed := by kernel_rfl
  f6 := ⟨Tryd.f92.name, by decide, Tryd.func92.trans (congrArg some (by kernel_rfl))⟩
  f14 := ⟨Tryd.f135.name, by decide, Tryd.func135.trans (congrArg some (by kernel_rfl))⟩
  f15 := Tryd.func136.trans (congrArg some (by kernel_rfl))
  f20 := ⟨Tryd.f148.name, by decide, Tryd.func148.trans (congrArg some (by kernel_rfl))⟩
  f21 := ⟨Tryd.f149.name, by decide, Tryd.func149.trans (congrArg some (by kernel_rfl))⟩
  f22 := ⟨Tryd.f150.name, by decide, Tryd.func150.trans (congrArg some (by kernel_rfl))⟩
  f23 := ⟨Tryd.f151.name, by decide, Tryd.func151.trans (congrArg some (by kernel_rfl))⟩
  f24 := ⟨Tryd.f152.name, by decide, Tryd.func152.trans (congrArg some (by kernel_rfl))⟩
  f25 := ⟨Tryd.f153.name, by decide, Tryd.func153.trans (congrArg some (by kernel_rfl))⟩
  f26 := ⟨Tryd.f154.name, by decide, Tryd.func154.trans (congrArg some (by kernel_rfl))⟩
  f27 := ⟨Tryd.f155.name, by decide, Tryd.func155.trans (congrArg some (by kernel_rfl))⟩
  f28 := Tryd.func156.trans (congrArg some (by kernel_rfl))
  f29 := Tryd.func157.trans (congrArg some (by kernel_rfl))
  f46 := ⟨Tryd.f166.name, by decide, Tryd.func166.trans (congrArg some (by kernel_rfl))⟩
  f47 := Tryd.func167.trans (congrArg some (by kernel_rfl))
  f48 := Tryd.func168.trans (congrArg some (by kernel_rfl))
  f49 := ⟨Tryd.f169.name, by decide, Tryd.func169.trans (congrArg some (by kernel_rfl))⟩
  f50 := ⟨Tryd.f170.name, by decide, Tryd.func170.trans (congrArg some (by kernel_rfl))⟩
  f57 := ⟨Tryd.f177.name, by decide, Tryd.func177.trans (congrArg some (by kernel_rfl))⟩
  t0 := Tryd.underlying0
  a0 := Tryd.isAgg0
  z0 := Tryd.sizeOf0
  v0 := Tryd.zeroValue0
  t3 := Tryd.underlying3
  a3 := Tryd.isAgg3
  z3 := Tryd.sizeOf3
  v3 := Tryd.zeroValue3
  t4 := Tryd.underlying4
  a4 := Tryd.isAgg4
  z4 := Tryd.sizeOf4
  v4 := Tryd.zeroValue4
  t5 := Tryd.underlying5
  a5 := Tryd.isAgg5
  z5 := Tryd.sizeOf5
  v5 := Tryd.zeroValue5
  t9 := Tryd.underlying9
  a9 := Tryd.isAgg9
  z9 := Tryd.sizeOf9
  v9 := Tryd.zeroValue9
  t22 := Tryd.underlying45
  a22 := Tryd.isAgg45
  z22 := Tryd.sizeOf45
  v22 := Tryd.zeroValue45
  t25 := Tryd.underlying124
  a25 := Tryd.isAgg124
  z25 := Tryd.sizeOf124
  v25 := Tryd.zeroValue124
  t39 := Tryd.underlying163
  a39 := Tryd.isAgg163
  z39 := Tryd.sizeOf163
  v39 := Tryd.zeroValue163
  t45 := Tryd.underlying171
  a45 := Tryd.isAgg171
  z45 := Tryd.sizeOf171
  v45 := Tryd.zeroValue171
  t46 := Tryd.underlying172
  a46 := Tryd.isAgg172
  z46 := Tryd.sizeOf172
  v46 := Tryd.zeroValue172
  t50 := Tryd.underlying176
  a50 := Tryd.isAgg176
  z50 := Tryd.sizeOf176
  v50 := Tryd.zeroValue176
  t53 := Tryd.underlying179
  a53 := Tryd.isAgg179
  z53 := Tryd.sizeOf179
  v53 := Tryd.zeroValue179
  t55 := Tryd.underlying181
  a55 := Tryd.isAgg181
  z55 := Tryd.sizeOf181
  v55 := Tryd.zeroValue181
  t66 := Tryd.underlying187
  a66 := Tryd.isAgg187
  z66 := Tryd.sizeOf187
  v66 := Tryd.zeroValue187
  t70 := Tryd.underlying191
  a70 := Tryd.isAgg191
  z70 := Tryd.sizeOf191
  v70 := Tryd.zeroValue191
  t76 := Tryd.underlying199
  a76 := Tryd.isAgg199
  z76 := Tryd.sizeOf199
  v76 := Tryd.zeroValue199
  t77 := Tryd.underlying200
  a77 := Tryd.isAgg200
  z77 := Tryd.sizeOf200
  v77 := Tryd.zeroValue200 }

abbrev SPt := { i : Nat // i < 1000000 }
instance : Inhabited SPt := ⟨⟨0, by decide⟩⟩
def encS2 (W : Nat) (r : SPt) : List Value := encP W r.1
theorem pt_lift : ∀ l : List Nat, (∀ r ∈ l, r < 1000000) → ∃ s : List SPt, s.map Subtype.val = l
  | [], _ => ⟨[], rfl⟩
  | a :: l, h => by
    obtain ⟨s, hs⟩ := pt_lift l fun r hr => h r (List.mem_cons_of_mem _ hr)
    exact ⟨⟨a, h a (List.mem_cons_self ..)⟩ :: s, by rw [List.map_cons, hs]⟩
theorem small_div (W i : Nat) (h : i < 1000000) : Small ((i % W : Nat) : Int) ∧ Small ((i / W : Nat) : Int) := by
  have h1 : i % W ≤ i := Nat.mod_le _ _
  have h2 : i / W ≤ i := Nat.div_le_self _ _
  generalize i % W = a at *
  generalize i / W = b at *
  unfold Small; omega
theorem swo_pts (W : Nat) : SWO (ltOf fun (x y : SPt) => cmpP W x.1 y.1) := by
  refine ⟨fun x => ?_, fun x y z a b => ?_, fun x y z a b => ?_⟩ <;>
    simp only [ltOf, decide_eq_true_eq, decide_eq_false_iff_not] at * <;> simp only [cmpP, orE] at * <;> (repeat' split at *) <;> omega
theorem flat_at2 {W : Nat} {d : Array SPt} {i t : Nat} (hi : i < d.size) (ht : t < 2) : (flatK (encS2 W) 2 d)[i * 2 + t]! = (encS2 W d[i]!)[t]! := by
  rw [get_flatK _ _ _ _ (by omega), show (i * 2 + t) / 2 = i by omega, show (i * 2 + t) % 2 = t by omega]
theorem cmpP_le {W i j : Nat} (hne : i ≠ j) (h : ¬ cmpP W j i < 0) : i < j := by
  unfold cmpP orE at h
  rcases Nat.lt_trichotomy i j with c | c | c
  · exact c
  · exact absurd c hne
  · exfalso
    have h1 : j / W ≤ i / W := Nat.div_le_div_right (by omega)
    have e1 := Nat.div_add_mod i W
    have e2 := Nat.div_add_mod j W
    generalize i / W = a at *
    generalize j / W = b at *
    generalize i % W = u at *
    generalize j % W = v at *
    by_cases e : a = b
    · subst e
      rw [if_pos (by omega)] at h
      generalize W * a = z at *
      omega
    · rw [if_neg (by omega)] at h
      omega
/-- the cells of a block are these points -/
def PtC (W : Nat) (cs : Array Value) (l : List Nat) : Prop := ∀ i, i < l.length → ∀ t, t < 2 → cs[i * 2 + t]? = (encP W (l.toArray[i]!))[t]?
theorem ptC_of {W : Nat} {cs : Array Value} {l : List Nat} (h : cs.toList.take (l.length * 2) = flatE (encP W) l) : PtC W cs l := fun i hi t ht => by
  have hg : l[i]? = some (l.toArray[i]!) := by simp [hi]
  have r1 := flatE_at (encP_len W) l i _ hg t ht
  rw [← h, List.getElem?_take, if_pos (by omega), Array.getElem?_toList] at r1
  exact r1
theorem ptC_take {W : Nat} {cs : Array Value} {l : List Nat} (h : PtC W cs l) (hs : l.length * 2 ≤ cs.size) : cs.toList.take (l.length * 2) = flatE (encP W) l := by
  apply List.ext_getElem?
  intro j
  rw [List.getElem?_take]
  by_cases hj : j < l.length * 2
  · rw [if_pos hj]
    obtain ⟨i, t, ht, rfl⟩ : ∃ i t, t < 2 ∧ j = i * 2 + t := ⟨j / 2, j % 2, by omega, by omega⟩
    have hi : i < l.length := by omega
    have hg : l[i]? = some (l.toArray[i]!) := by simp [hi]
    rw [Array.getElem?_toList, h i hi t ht, flatE_at (encP_len W) l i _ hg t ht]
  · rw [if_neg hj, List.getElem?_eq_none (by rw [flatE_len (encP_len W)]; omega)]
set_option maxHeartbeats 1000000 in
/-- the points are put in order -/
theorem sortPts_any (W g c : Nat) (l : List Nat) (cs : Array Value) (w : World) (hk : Blk w g 51 cs) (hC : PtC W cs l) (hsz : l.length * 2 ≤ cs.size) (hs : ∀ r ∈ l, r < 1000000) (hnd : l.Nodup) (hn : l.length ≤ 1000000000) :
    Calls Tryd.prog 92 #[.slice (some ⟨g, 0, none⟩) l.length c, .func (.func 93) #[] #[]] w fun e w' => e = .returned (.tuple #[]) ∧
      ∃ l' : List Nat, l'.Perm l ∧ l'.Pairwise (· < ·) ∧ ∃ cs', Blk w' g 51 cs' ∧ PtC W cs' l' ∧ cs'.size = cs.size ∧ But w.heap.size g w w' := by
  obtain ⟨s, hs⟩ := pt_lift l hs
  have hlen : s.toArray.size = l.length := by rw [← hs]; simp
  have hget : ∀ i, i < l.length → s.toArray[i]!.1 = l.toArray[i]! := fun i hi => by
    have h1 : i < s.length := by rw [← List.size_toArray, hlen]; exact hi
    simp [← hs, h1]
  have hlt := (Array.getElem?_eq_some_iff.1 hk).1
  have hH : HoldsK (encS2 W) 2 w g 0 s.toArray := fun j hj => by
    rw [size_flatK, hlen] at hj
    refine ⟨?_, by rw [Nat.zero_add]; exact hk.frozen _⟩
    obtain ⟨i, t, ht, rfl⟩ : ∃ i t, t < 2 ∧ j = i * 2 + t := ⟨j / 2, j % 2, by omega, by omega⟩
    rw [flat_at2 (by omega) ht, Nat.zero_add, hk.cell, hC i (by omega) t ht, ← hget i (by omega)]
    show _ = some ((encP W s.toArray[i]!.1)[t]!)
    match t, ht with
    | 0, _ => rfl
    | 1, _ => rfl
  have eg : ∀ args w, (callFunc 93 args).run Tryd.prog w = .ok (.enter 93 args) w := enters_of Tryd.func93 (by kernel_rfl) rfl
  have hcmp : CmpLays Tryd.prog 93 #[] (encS2 W) 2 (fun x y => cmpP W x.1 y.1) g 0 s.toArray.size w := fun m os dk _ x y => cmpPts_any _ _ _ _ _ (small_div W x.1 x.2) (small_div W y.1 y.2)
  have hcon := AnyQ.slices_SortFunc Tryd.sortPts 2 (fun _ => by kernel_rfl) (fun _ => by kernel_rfl) (encS2 W) (fun _ => rfl) (fun x v hv => by
    have : v ∈ encP W x.1 := hv
    simp [encP] at this
    rcases this with h | h <;> rw [h] <;> rfl) (fun x y => cmpP W x.1 y.1) (swo_pts W) 93 #[] g 0 c s.toArray w eg hcmp hH hlt (by rw [hlen]; omega)
  rw [hlen] at hcon
  refine hcon.mono ?_
  rintro e w' ⟨rfl, d', n, os, hp, hs2, rfl⟩
  obtain ⟨p1, -, p3⟩ := hp
  have p1 : d'.size = l.length := by rw [p1, hlen]
  have p3 : d'.toList.Perm s := by
    have e1 : d'.extract 0 l.length = d' := by rw [← p1]; exact Array.extract_size
    have e2 : s.toArray.extract 0 l.length = s.toArray := by rw [← hlen]; exact Array.extract_size
    rw [e1, e2] at p3
    exact p3
  have hl' : (d'.toList.map Subtype.val).length = l.length := by simp [p1]
  have hpm : (d'.toList.map Subtype.val).Perm l := hs ▸ p3.map _
  have hnd' : (d'.toList.map Subtype.val).Nodup := hpm.nodup_iff.2 hnd
  refine ⟨rfl, d'.toList.map Subtype.val, hpm, ?_, putCells id 0 (flatK (encS2 W) 2 d') cs, heap_sortWorld_row id w g 0 n (flatK (encS2 W) 2 d') os hk, ?_, by simp [putCells], ⟨rfl, rfl, rfl, size_sortWorld id w g 0 n (flatK (encS2 W) 2 d') os, fun j hj hn => heap_sortWorld id w g 0 n (flatK (encS2 W) 2 d') os hj hn⟩⟩
  · rw [List.pairwise_iff_getElem]
    intro i j hi hj hij
    rw [hl'] at hi hj
    have hne : (d'.toList.map Subtype.val)[i]'(by rw [hl']; exact hi) ≠ (d'.toList.map Subtype.val)[j]'(by rw [hl']; exact hj) := fun e => by
      have := (List.getElem_inj hnd').1 e
      omega
    simp only [List.getElem_map, Array.getElem_toList] at hne ⊢
    have := hs2 i j (Nat.zero_le _) hij hj
    rw [getElem!_pos d' i (by omega), getElem!_pos d' j (by omega)] at this
    simp only [ltOf, decide_eq_false_iff_not] at this
    exact cmpP_le hne this
  · intro i hi t ht
    rw [hl'] at hi
    have e9 : (d'.toList.map Subtype.val).toArray[i]! = d'[i]!.1 := by
      have : i < d'.size := by omega
      simp [this]
    rw [e9]
    unfold putCells
    rw [Array.getElem?_mapIdx, Array.getElem?_eq_getElem (by omega), Option.map_some, if_pos (by rw [size_flatK]; omega), Nat.sub_zero, flat_at2 (by omega) ht]
    show some ((encP W d'[i]!.1)[t]!) = _
    match t, ht with
    | 0, _ => rfl
    | 1, _ => rfl
theorem sortPtRow_any (W B : Nat) (v : Value) (l : List Nat) (w : World) (h : ERow w B 51 2 (encP W) v l) (hB : B ≤ w.heap.size) (hs : ∀ r ∈ l, r < 1000000) (hnd : l.Nodup) (hl : l ≠ []) :
    Calls Tryd.prog 92 #[v, .func (.func 93) #[] #[]] w fun e w' => e = .returned (.tuple #[]) ∧
      ∃ l' : List Nat, l'.Perm l ∧ l'.Pairwise (· < ·) ∧ ERow w' B 51 2 (encP W) v l' ∧ Below B w w' := by
  obtain ⟨g, c, cs, rfl, hc, hg, hk, hsz, hm, ht⟩ := h.blk hl
  have hn : l.length ≤ 1000000 := nodup_len 1000000 l hnd hs
  refine (sortPts_any W g c l cs w hk (ptC_of ht) (by omega) hs hnd (by omega)).mono ?_
  rintro e w' ⟨rfl, l', hp, hq, cs', hk', hC', hs', hb⟩
  have e1 := hp.length_eq
  refine ⟨rfl, l', hp, hq, ?_, hb.to rfl hg hB⟩
  rw [← e1]
  exact ERow.of (encP_len W) hk' hg (by omega) hm (by omega) (ptC_take hC' (by omega))
end Go.Proofs.YtoonkpjddfiopaaDoor

/- Walk: the components of an image (image.Components). Written by gen/i3.py. -/
namespace Go.Proofs.YtoonkpjddfiopaaDoor
open Go.RowKit Go.Shelf
set_option linter.unusedVariables false
attribute [local go_sem] Oper.semAt_some

/-- a component's cells: the rectangle and the pixels -/
def encC (t : Nat × (Int × Int × Int × Int) × Value) : List Value := [.int .i64 t.2.1.1, .int .i64 t.2.1.2.1, .int .i64 t.2.1.2.2.1, .int .i64 t.2.1.2.2.2, t.2.2]
theorem encC_len (t : Nat × (Int × Int × Int × Int) × Value) : (encC t).length = 5 := rfl
/-- a row of the components that begin ahead of k -/
def CRow (w : World) (B : Nat) (T : TypeId) (W n : Nat) (e : Bool) (p : Int → Int) (k : Nat) (vo : Value) : Prop :=
  ∃ L : List (Nat × (Int × Int × Int × Int) × Value), L.map (·.1) = rootK k (InkN n p) (AdjN W e) ∧ ERow w B T 5 encC vo L ∧
    ∀ t ∈ L, IsBox W (partN n (InkN n p) (AdjN W e) t.1) t.2.1 ∧ ERow w B 51 2 (encP W) t.2.2 (partN n (InkN n p) (AdjN W e) t.1)
section
variable {α : Type} {w w' : World} {B T k : Nat} {enc : α → List Value} {v : Value} {l : List α}
theorem own_cellsE (h : ERow w B T k enc v l) {j : Nat} (hj : v.ownBlock = some j) : ∃ cs, Blk w j T cs := own_cells h hj
theorem ERow.but {gl gp t : Nat} {cs : Array Value} (h : ERow w B T k enc v l) (hb : But gl gp w w') (hB : w.heap.size = gl) (hp : Blk w gp t cs) (ht : t ≠ T) : ERow w' B T k enc v l :=
  h.move fun j hj => hb.block j (hB ▸ (own_ge h hj).2) fun e => by
    obtain ⟨cs', hc⟩ := own_cellsE h hj
    subst e
    have e1 : w.heap[j]? = _ := hc
    have e2 : w.heap[j]? = _ := hp
    rw [e1] at e2
    exact ht (show T = t from congrArg (fun o : Option Obj => match o with | some (.cells _ t _) => t | _ => 0) e2).symm
theorem ERow.far {g t : Nat} {cs : Array Value} (h : ERow w B T k enc v l) (hp : Blk w g t cs) (ht : t ≠ T) (o : Nat) (u : Value) : ERow (w.setCell ⟨g, o, none⟩ u) B T k enc v l :=
  h.move fun j hj => heap_setCell_other w ⟨g, o, none⟩ j u fun e => by
    obtain ⟨cs', hc⟩ := own_cellsE h hj
    have e : j = g := e
    subst e
    have e1 : w.heap[j]? = _ := hc
    have e2 : w.heap[j]? = _ := hp
    rw [e1] at e2
    exact ht (show T = t from congrArg (fun o : Option Obj => match o with | some (.cells _ t _) => t | _ => 0) e2).symm
end
section
variable {w w' : World} {B T W n k : Nat} {e : Bool} {p : Int → Int} {vo : Value}
theorem CRow.below (h : CRow w B T W n e p k vo) (hb : Below w.heap.size w w') : CRow w' B T W n e p k vo := by
  obtain ⟨L, h1, h2, h3⟩ := h
  exact ⟨L, h1, h2.below hb, fun t ht => ⟨(h3 t ht).1, (h3 t ht).2.below hb⟩⟩
theorem CRow.base {B' : Nat} (h : CRow w B T W n e p k vo) (hB : B' ≤ B) : CRow w B' T W n e p k vo := by
  obtain ⟨L, h1, h2, h3⟩ := h
  exact ⟨L, h1, h2.base hB, fun t ht => ⟨(h3 t ht).1, (h3 t ht).2.base hB⟩⟩
theorem CRow.but {gl gp t : Nat} {cs : Array Value} (h : CRow w B T W n e p k vo) (hb : But gl gp w w') (hB : w.heap.size = gl) (hp : Blk w gp t cs) (ht : t ≠ T) (ht2 : t ≠ 51) : CRow w' B T W n e p k vo := by
  obtain ⟨L, h1, h2, h3⟩ := h
  exact ⟨L, h1, h2.but hb hB hp ht, fun t ht => ⟨(h3 t ht).1, (h3 t ht).2.but hb hB hp ht2⟩⟩
theorem CRow.zero (w : World) (B T W n : Nat) (e : Bool) (p : Int → Int) : CRow w B T W n e p 0 (.slice none 0 0) := ⟨[], rfl, ERow.nil _ _ _ _ _, fun t ht => by simp at ht⟩
theorem CRow.skip (h : CRow w B T W n e p k vo) (hr : ¬ Root (InkN n p) (AdjN W e) k) : CRow w B T W n e p (k + 1) vo := by
  obtain ⟨L, h1, h2, h3⟩ := h
  exact ⟨L, by rw [h1, rootK_no hr], h2, h3⟩
theorem CRow.val (h : CRow w B T W n e p k vo) : ∃ A c, vo = .slice A (rootK k (InkN n p) (AdjN W e)).length c ∧ (rootK k (InkN n p) (AdjN W e)).length ≤ c := by
  obtain ⟨L, h1, h2, h3⟩ := h
  obtain ⟨A, c, e, hc⟩ := h2.val
  rw [← h1, List.length_map]
  exact ⟨A, c, e, hc⟩
end
theorem But.grow {B g : Nat} {w w' w'' : World} {row : Option Nat} (h : But B g w w') (hg : w'.grownBy w'' row) (hr : ∀ j, row = some j → B ≤ j) : But B g w w'' :=
  ⟨hg.os.trans h.os, hg.tape.trans h.tape, hg.output.trans h.output, Nat.le_trans h.size hg.size, fun j hj hk => (hg.block j (Nat.lt_of_lt_of_le hj h.size) fun e => by have := hr j e.symm; omega).trans (h.block j hj hk)⟩
theorem But.trans' {B B' g : Nat} {w w' w'' : World} (h : But B g w w') (h' : But B' g w' w'') (hB : B ≤ B') : But B g w w'' :=
  ⟨h'.os.trans h.os, h'.tape.trans h.tape, h'.output.trans h.output, Nat.le_trans hB h'.size, fun j hj hk => (h'.block j (by omega) hk).trans (h.block j hj hk)⟩
theorem ERow.apart {α β : Type} {w : World} {B B' T T' k k' : Nat} {enc : α → List Value} {enc' : β → List Value} {v v' : Value} {l : List α} {l' : List β} (h : ERow w B T k enc v l) (h' : ERow w B' T' k' enc' v' l') (ht : T ≠ T') {j : Nat} (hj : v.ownBlock = some j) : some j ≠ v'.ownBlock := fun e => by
  obtain ⟨c1, h1⟩ := own_cellsE h hj
  obtain ⟨c2, h2⟩ := own_cellsE h' e.symm
  have e1 : w.heap[j]? = _ := h1
  have e2 : w.heap[j]? = _ := h2
  rw [e1] at e2
  exact ht (show T = T' from congrArg (fun o : Option Obj => match o with | some (.cells _ t _) => t | _ => 0) e2)
theorem ERow.neB {α : Type} {w : World} {B T k g t : Nat} {enc : α → List Value} {v : Value} {l : List α} {cs : Array Value} (h : ERow w B T k enc v l) (hb : Blk w g t cs) (ht : t ≠ T) : some g ≠ v.ownBlock := fun e => by
  obtain ⟨c1, h1⟩ := own_cellsE h e.symm
  have e1 : w.heap[g]? = _ := h1
  have e2 : w.heap[g]? = _ := hb
  rw [e1] at e2
  exact ht (show T = t from congrArg (fun o : Option Obj => match o with | some (.cells _ t _) => t | _ => 0) e2).symm
/-- a component more -/
theorem crow_snoc {w w' : World} {B T W n k : Nat} {e : Bool} {p : Int → Int} {vo v' vl : Value} {b : Int × Int × Int × Int} {L : List (Nat × (Int × Int × Int × Int) × Value)} (hT : T ≠ 51) (h1 : L.map (·.1) = rootK k (InkN n p) (AdjN W e)) (h2 : ERow w B T 5 encC vo L)
    (h3 : ∀ t ∈ L, IsBox W (partN n (InkN n p) (AdjN W e) t.1) t.2.1 ∧ ERow w B 51 2 (encP W) t.2.2 (partN n (InkN n p) (AdjN W e) t.1)) (hr : Root (InkN n p) (AdjN W e) k)
    (hb : IsBox W (partN n (InkN n p) (AdjN W e) k) b) (hv : ERow w B 51 2 (encP W) vl (partN n (InkN n p) (AdjN W e) k)) (hg : w.grownBy w' vo.ownBlock) (ho : w'.ownsRow B T 5 v' (L.length + 1) (flatE encC L ++ [.int .i64 b.1, .int .i64 b.2.1, .int .i64 b.2.2.1, .int .i64 b.2.2.2, vl])) : CRow w' B T W n e p (k + 1) v' := by
  have mv : ∀ {vx : Value} {l : List Nat}, ERow w B 51 2 (encP W) vx l → ERow w' B 51 2 (encP W) vx l := fun h => h.move fun j hj => hg.block j (own_ge h hj).2 (h.apart h2 hT.symm hj)
  refine ⟨L ++ [(k, b, vl)], by rw [List.map_append, h1, rootK_yes hr]; rfl, ?_, fun t ht => ?_⟩
  · unfold ERow
    rw [flatE_snoc, List.length_append]
    exact ho
  · rcases List.mem_append.1 ht with ht | ht
    · exact ⟨(h3 t ht).1, mv (h3 t ht).2⟩
    · rw [List.mem_singleton] at ht
      subst ht
      exact ⟨hb, mv hv⟩
theorem enterC1 (args : Array Value) (w : World) : (callFunc 89 args).run Tryd.prog w = .ok (.enter 89 args) w := by kernel_rfl
set_option maxHeartbeats 1000000 in
theorem comp1_any (W H x y : Int) (A : Option Addr) (n c bx : Nat) (p : Int → Int) (w : World) (hk : Blk w bx 24 #[.int .i64 W, .int .i64 H, .slice A n c]) (hA : ArrB w w.heap.size A n p) (hE : chk W H n p = 0) (x0 : 0 ≤ x) (x1 : x < W) (y0 : 0 ≤ y) (y1 : y < H) :
    Calls Tryd.prog 89 #[.int .i64 x, .int .i64 y, .pointer (some ⟨bx, 0, none⟩)] w fun e w' => e = .returned (.int .u8 (p (y * W + x))) ∧ Below w.heap.size w w' := by
  obtain ⟨hW1, hW2, hH1, hH2, hnn, hp⟩ := chk_ok hE
  obtain ⟨p1, p2, p3⟩ := hk.cells3
  obtain ⟨j1, j2, j3⟩ := idx_lt x0 x1 y0 y1
  rw [Int.mul_comm H W] at j2
  have j4 : y * W + x < (n : Int) := by omega
  have nb := (area_bd hW1 hW2 hH1 hH2).2
  obtain ⟨b, off, rfl, hb, hc⟩ := ArrB.at_ hA j1 j4
  generalize p (y * W + x) = v at *
  clear hE hnn hp hA
  go_enter Tryd.func89, Tryd.ntmps89
  go_wp2_with fail
  go_ret
  exact ⟨rfl, Below.refl _ _⟩
theorem around_at (j : Nat) (h : j < 8) (w : World) : (Instr.index 119 aroundV (.int .i64 (j : Int))).run Tryd.prog w = .ok (.agg #[.int .i64 (dX j), .int .i64 (dY j)]) w := by
  rcases (show j = 0 ∨ j = 1 ∨ j = 2 ∨ j = 3 ∨ j = 4 ∨ j = 5 ∨ j = 6 ∨ j = 7 by omega) with rfl | rfl | rfl | rfl | rfl | rfl | rfl | rfl <;> kernel_rfl
theorem info_Pt : (Tryd.prog.info? 51).map (fun i => (i.zero, i.size, i.bytes)) = some (some (.agg #[.int .i64 0, .int .i64 0]), 2, 16) := by kernel_rfl
theorem info_Co : (Tryd.prog.info? 47).map (fun i => (i.zero, i.size, i.bytes)) = some (some (.agg #[.int .i64 0, .int .i64 0, .int .i64 0, .int .i64 0, .slice none 0 0]), 5, 56) := by kernel_rfl

set_option maxRecDepth 100000 in
set_option maxHeartbeats 8000000 in
theorem comps_any (W H : Nat) (e : Bool) (A : Option Addr) (n c : Nat) (p : Int → Int) (w : World) (hA : ArrB w w.heap.size A n p) (hW : W ≤ 640) (hH : H ≤ 640) (hn : n = W * H) (hp : ∀ i : Int, 0 ≤ i → i < n → p i = 0 ∨ p i = 1) :
    Calls Tryd.prog 25 #[.agg #[.int .i64 W, .int .i64 H, .slice A n c], .bool e] w (New w fun v w' => ∃ vo, v = .tuple #[vo, .int .i64 0] ∧ CRow w' w.heap.size 47 W n e p n vo) := by
  have hn9 : n ≤ 409600 := by rw [hn]; exact Nat.mul_le_mul hW hH
  have hnI : (n : Int) = (W : Int) * H := by rw [hn]; push_cast; rfl
  have hE : chk W H n p = 0 := chk_mk (by omega) (by omega) (by omega) (by omega) hnI fun i a b => by have := hp i a b; omega
  have CK := Lib.hid fun w' hA' => check_any W H A n c p w' hA' (by unfold maxLen; omega)
  rw [hE] at CK
  have C1 := Lib.hid fun x y bx w' hk hA' => comp1_any W H x y A n c bx p w' hk hA' hE
  have MD := Lib.hid fun (w' : World) (hk : Blk w' w.heap.size 24 #[.int .i64 W, .int .i64 H, .slice A n c]) (hA' : ArrB w' w'.heap.size A n p) => pixmade_any W H n 89 #[.pointer (some ⟨w.heap.size, 0, none⟩)] (fun x y => p (y * W + x)) w' enterC1 (by omega) (by omega) (by omega) (by omega) hnI
    (fun x y v x0 x1 y0 y1 hb => by
      show Calls _ _ #[_, _, _] _ _
      exact C1.out x y w.heap.size v (hk.below' hb) (hA'.to hb) x0 x1 y0 y1)
  have HP := Lib.hid hp
  have HN := Lib.hid hn
  have HNI := Lib.hid hnI
  have HA := Lib.hid hA
  obtain ⟨r0, hr0, hrz0, hrz1, hrz2⟩ := info_parts info_Pt
  obtain ⟨r1, hs0, hsz0, hsz1, hsz2⟩ := info_parts info_Co
  clear hE hp hA hn hnI
  go_enter Tryd.func25, Tryd.ntmps25
  go_wp2_with fail
  have k1 := Blk.new w 24 #[.int .i64 W, .int .i64 H, .slice A n c]
  have b1 : Below w.heap.size w (w.alloc (.cells #[.int .i64 W, .int .i64 H, .slice A n c] 24)) := (Below.refl _ _).alloc (Nat.le_refl _) _
  generalize w.alloc (.cells #[.int .i64 W, .int .i64 H, .slice A n c] 24) = w1 at *
  refine (CK.out w1 (HA.out.to b1)).mono ?_
  rintro ee w2 ⟨rfl, hb2⟩
  have k2 := k1.below' hb2
  have b2 := below_call b1 b1.size hb2
  have hA2 := Lib.hid (HA.out.to b2)
  have K2 := Lib.hid k2
  have g2 := k2.lt
  obtain ⟨p1, p2, p3⟩ := k2.cells3
  have hmf : ∀ (fn : Fn) (first cap : Array Value) (w : World), (Instr.makeFunc fn first cap).run Tryd.prog w = .ok (.func fn first cap) w := fun _ _ _ _ => rfl
  clear k1 b1 hb2 k2 CK
  go_wp2_with fail
  refine (MD.out _ K2.out hA2.out).mono ?_
  rintro ee w3 ⟨_, rfl, ⟨gp, rfl, hgp, kp⟩, hb3⟩
  have b3 := below_call b2 b2.size hb3
  have K3 := K2.out.below' hb3
  have kp3 : Blk w3 gp 5 (u8s n p) := kp.u8conv fun i i0 i1 => by
    unfold byPix
    have := Int.emod_add_mul_ediv i W
    rw [Int.mul_comm] at this
    show p (i / W * W + i % W) = p i
    rw [show i / (W : Int) * W + i % W = i by omega]
  clear kp p1 p2 p3 K2 hA2 C1 MD hb3 b2 hmf HA
  have x7 := Blk.new w3 24 #[.int .i64 W, .int .i64 H, .slice (some ⟨gp, 0, none⟩) n n]
  have b7 : Below w3.heap.size w3 (w3.alloc (.cells #[.int .i64 W, .int .i64 H, .slice (some ⟨gp, 0, none⟩) n n] 24)) := (Below.refl _ _).alloc (Nat.le_refl _) _
  have KG := Lib.hid (K3.below' b7)
  have kp4 := kp3.below' b7
  have B4 := Lib.hid (below_call b3 b3.size b7)
  have zgp := kp3.lt
  obtain ⟨g7, hg7⟩ : ∃ g, w3.heap.size = g := ⟨_, rfl⟩
  go_upto_region 6 with fail
  rw [hg7] at x7 zgp
  have z7 := x7.lt
  generalize w3.alloc (.cells #[.int .i64 W, .int .i64 H, .slice (some ⟨gp, 0, none⟩) n n] 24) = w4 at *
  have KX := Lib.hid x7
  obtain ⟨p1, p2, p3⟩ := x7.cells3
  clear b3 K3 kp3 x7 b7 hg7
  obtain ⟨gl0, hgl0⟩ : ∃ g, w4.heap.size = g := ⟨_, rfl⟩
  have HG := Lib.hid hgl0
  rw [hgl0] at z7
  clear hgl0
  go_wp2_with fail
  clear p1 p2 p3
  go_loopw [29, 8] (fun s vo wr => ∃ (i : Nat) (lf : Int → Int), i ≤ n ∧ s = .int .i64 i ∧ Hid (LfI n W e p i lf) ∧ But gl0 gp w4 wr ∧ Blk wr gp 5 (u8s n lf) ∧ CRow wr gl0 47 W n e p i vo) (fun s _ _ => n - (intOf s).toNat)
  case atStart => exact ⟨0, p, by omega, rfl, Lib.hid (LfI.start HP.out), But.refl _ (by rw [HG.out]; exact Nat.le_refl _), kp4, CRow.zero _ _ _ _ _ _ _⟩
  case round =>
    obtain ⟨i, lf, hi, rfl, HLf, bu, mp, hC⟩ := hrel
    clear kp4
    have m7 := KX.out.but bu z7 (by omega)
    have m2 := KG.out.but bu (by omega) (by omega)
    obtain ⟨p1, p2, p3⟩ := m7.cells3
    obtain ⟨q1, q2, q3⟩ := m2.cells3
    by_cases il : (i : Int) < n
    · have hc := mp.u8at (i := (i : Int)) (by omega) il
      rw [Int.toNat_natCast] at hc
      have HC := Lib.hid hC
      clear hC
      rcases (HLf.out i (by omega)).2 with h0 | h1
      · rw [h0] at hc
        have HS := Lib.hid (HLf.out.skip (by omega) (by omega))
        clear h0
        go_wp2_with fail
        go_roundw
        case rel => exact ⟨i + 1, lf, by omega, by go_num, Lib.hid HS.out.2, bu, mp, HC.out.skip HS.out.1⟩
        case measure => simp [intOf]; omega
      · rw [h1] at hc
        have hW0 : 0 < W := by
          rcases Nat.eq_zero_or_pos W with h | h
          · have := HN.out; rw [h, Nat.zero_mul] at this; omega
          · exact h
        obtain ⟨HR, hbf⟩ := Bfs.start HLf.out (by omega : i < n) h1
        have HBF := Lib.hid hbf
        have HR := Lib.hid HR
        clear h1 hbf
        obtain ⟨X, hX⟩ : ∃ X : Int, ((i % W : Nat) : Int) = X := ⟨_, rfl⟩
        obtain ⟨Y, hY⟩ : ∃ Y : Int, ((i / W : Nat) : Int) = Y := ⟨_, rfl⟩
        have t1 : (i : Int).tmod W = X := by rw [← hX]; exact (Int.ofNat_tmod i W).symm
        have t2 : (i : Int).tdiv W = Y := by rw [← hY]; exact (Int.ofNat_tdiv i W).symm
        have Yb : Y ≤ 1000000 := by rw [← hY]; have := Nat.div_le_self i W; omega
        have Y0 : 0 ≤ Y := by rw [← hY]; exact Int.natCast_nonneg _
        have t3 : IntKind.i64.wrap Y = Y := IntWalk.i64_in _ (by omega)
        have wz : ¬ (W : Int) = 0 := by omega
        have wz' : ((W : Int) == 0) = false := by simp; omega
        have wz2 : ¬ W = 0 := by omega
        have HX := Lib.hid hX; have HY := Lib.hid hY
        obtain ⟨gl, hgl⟩ : ∃ g, wr.heap.size = g := ⟨_, rfl⟩
        clear hX hY
        go_upto_region 10 with fail
        go_cut [10] (fun v wx => ∃ gq, v = .slice (some ⟨gq, 0, none⟩) 1 1 ∧ gl ≤ gq ∧ Blk wx gq 51 #[.int .i64 X, .int .i64 Y] ∧ Below wr.heap.size wr wx)
        case first =>
          refine wp_region_held_drew (S := fun w' => w'.cell? ⟨w.heap.size, 0, none⟩ = some (.int .i64 W)) (by kernel_rfl) (by simp [go_sem, *]) (fun hHeld => ?_)
          refine wpAnyH_take (i := 0) (oi := _) (v := ?_) (by simp only [List.getElem?_toArray, List.getElem?_cons_zero]; exact rfl) (by kernel_rfl) (by kernel_rfl) (by kernel_rfl) (by exact fun _ _ _ h => h) (Or.inl ⟨by rfl, ?_⟩) (by assumption) ?_
          rotate_left 1
          · intro w hSw
            (try dsimp only at hSw)
            go_simp
            try with_reducible rfl
          try simp only [Act.put, List.setIfInBounds_toArray, List.set_cons_zero, List.set_cons_succ]
          refine wpAnyH_take (i := 1) (oi := _) (v := ?_) (by simp only [List.getElem?_toArray, List.getElem?_cons_zero, List.getElem?_cons_succ]; exact rfl) (by kernel_rfl) (by kernel_rfl) (by kernel_rfl) (by exact fun _ _ _ h => h) (Or.inl ⟨by rfl, ?_⟩) (by assumption) ?_
          rotate_left 1
          · intro w hSw
            (try dsimp only at hSw)
            go_simp
            try with_reducible rfl
          try simp only [Act.put, List.setIfInBounds_toArray, List.set_cons_zero, List.set_cons_succ]
          refine wpAnyH_take (i := 2) (oi := _) (v := ?_) (by simp only [List.getElem?_toArray, List.getElem?_cons_zero, List.getElem?_cons_succ]; exact rfl) (by kernel_rfl) (by kernel_rfl) (by kernel_rfl) (by exact fun _ _ _ h => h) (Or.inl ⟨by rfl, ?_⟩) (by assumption) ?_
          rotate_left 1
          · intro w hSw
            (try dsimp only at hSw)
            go_simp
            try with_reducible rfl
          try simp only [Act.put, List.setIfInBounds_toArray, List.set_cons_zero, List.set_cons_succ]
          refine wpAnyH_take (i := 3) (oi := _) (v := ?_) (by simp only [List.getElem?_toArray, List.getElem?_cons_zero, List.getElem?_cons_succ]; exact rfl) (by kernel_rfl) (by kernel_rfl) (by kernel_rfl) (by exact fun _ _ _ h => h) (Or.inl ⟨by rfl, ?_⟩) (by assumption) ?_
          rotate_left 1
          · intro w hSw
            (try dsimp only at hSw)
            go_simp
            try with_reducible rfl
          try simp only [Act.put, List.setIfInBounds_toArray, List.set_cons_zero, List.set_cons_succ]
          refine wpAnyH_take (i := 4) (oi := _) (v := ?_) (by simp only [List.getElem?_toArray, List.getElem?_cons_zero, List.getElem?_cons_succ]; exact rfl) (by kernel_rfl) (by kernel_rfl) (by kernel_rfl) (by exact fun _ _ _ h => h) (Or.inl ⟨by rfl, ?_⟩) (by assumption) ?_
          rotate_left 1
          · intro w hSw
            (try dsimp only at hSw)
            go_simp
            try with_reducible rfl
          try simp only [Act.put, List.setIfInBounds_toArray, List.set_cons_zero, List.set_cons_succ]
          refine wpAnyH_take (i := 5) (oi := _) (v := ?_) (by simp only [List.getElem?_toArray, List.getElem?_cons_zero, List.getElem?_cons_succ]; exact rfl) (by kernel_rfl) (by kernel_rfl) (by kernel_rfl) (by exact fun _ _ _ h => h) (Or.inl ⟨by rfl, ?_⟩) (by assumption) ?_
          rotate_left 1
          · intro w hSw
            (try dsimp only at hSw)
            go_simp
            try with_reducible rfl
          try simp only [Act.put, List.setIfInBounds_toArray, List.set_cons_zero, List.set_cons_succ]
          refine wpAnyH_take (i := 6) (oi := _) (v := ?_) (by simp only [List.getElem?_toArray, List.getElem?_cons_zero, List.getElem?_cons_succ]; exact rfl) (by kernel_rfl) (by kernel_rfl) (by kernel_rfl) (by exact fun _ _ _ h => h) (Or.inl ⟨by rfl, ?_⟩) (by assumption) ?_
          rotate_left 1
          · intro w hSw
            (try dsimp only at hSw)
            go_simp
            try with_reducible rfl
          try simp only [Act.put, List.setIfInBounds_toArray, List.set_cons_zero, List.set_cons_succ]
          refine wpAnyH_take (i := 7) (oi := _) (v := ?_) (by simp only [List.getElem?_toArray, List.getElem?_cons_zero, List.getElem?_cons_succ]; exact rfl) (by kernel_rfl) (by kernel_rfl) (by kernel_rfl) (by exact fun _ _ _ h => h) (Or.inl ⟨by rfl, ?_⟩) (by assumption) ?_
          rotate_left 1
          · intro w hSw
            (try dsimp only at hSw)
            go_simp
            try with_reducible rfl
          try simp only [Act.put, List.setIfInBounds_toArray, List.set_cons_zero, List.set_cons_succ]
          refine wpAnyH_take (i := 8) (oi := _) (v := ?_) (by simp only [List.getElem?_toArray, List.getElem?_cons_zero, List.getElem?_cons_succ]; exact rfl) (by kernel_rfl) (by kernel_rfl) (by kernel_rfl) (by exact fun _ _ _ h => h) (Or.inl ⟨by rfl, ?_⟩) (by assumption) ?_
          rotate_left 1
          · intro w hSw
            (try dsimp only at hSw)
            go_simp
            try with_reducible rfl
          try simp only [Act.put, List.setIfInBounds_toArray, List.set_cons_zero, List.set_cons_succ]
          refine wpAnyH_ready (rs := [9]) (by kernel_rfl) (by simp) ?_
          refine AllReadyH.cons (o := _) (by simp only [List.getElem?_toArray, List.getElem?_cons_zero, List.getElem?_cons_succ]; exact rfl) (fun K' hK => ?_) AllReadyH.nil
          go_simp
          refine hK.out _ _ (by first | (simp [go_sem, *]; done) | (go_keep; done)) (fun hHeld => ?_)
          clear hK K'
          try simp only [Act.put, List.setIfInBounds_toArray, List.set_cons_zero, List.set_cons_succ]
          refine wpAnyH_take (i := 10) (oi := _) (v := ?_) (by simp only [List.getElem?_toArray, List.getElem?_cons_zero, List.getElem?_cons_succ]; exact rfl) (by kernel_rfl) (by kernel_rfl) (by kernel_rfl) (by exact fun _ _ _ h => h) (Or.inl ⟨by rfl, ?_⟩) (by assumption) ?_
          rotate_left 1
          · intro w hSw
            (try dsimp only at hSw)
            go_simp
            try with_reducible rfl
          try simp only [Act.put, List.setIfInBounds_toArray, List.set_cons_zero, List.set_cons_succ]
          refine wpAnyH_done (by kernel_rfl) ?_ _
          go_wp2_with fail
          go_meet
          have kn := (Blk.new wr 51 #[.int .i64 X, .int .i64 Y]).drew
          rw [hgl] at kn
          exact ⟨gl, rfl, Nat.le_refl _, kn, by (repeat (first | exact Below.refl _ _ | assumption | refine Below.drew ?_ | refine below_drewN ?_ _ | refine Below.alloc ?_ (by first | omega | (simp; done) | (simp; omega)) _ | refine Below.setCell ?_ (by first | omega | (simp; done) | (simp; omega)) _ | refine below_setRow ?_ (by first | omega | (simp; done) | (simp; omega)) _ ))⟩
        case rest =>
        obtain ⟨gq, rfl, hgq, kq, hb5⟩ := hcut
        generalize wc = w5 at *
        rw [hgl] at hb5
        have zg0 : gl0 ≤ gl := by rw [← hgl]; exact bu.size
        have mp5 := mp.move (hb5.block gp (by omega))
        have m75 := m7.move (hb5.block g7 (by omega))
        have m25 := m2.move (hb5.block w.heap.size (by omega))
        have bu5 : But gl gp wr w5 := (But.refl gp (by rw [hgl]; exact Nat.le_refl _)).then hb5
        have ng : gq ≠ gp := by omega
        have n7 : g7 ≠ gp := by omega
        have n2 : w.heap.size ≠ gp := by omega
        have hf := mp5.frozen i
        have hc5 := mp5.u8at (i := (i : Int)) (by omega) il
        have mp6 := mp5.u8set (i : Int) (by omega) 0
        have kq6 := kq.far (p := ⟨gp, i, none⟩) ng (.int .u8 0)
        have m76 := m75.far (p := ⟨gp, i, none⟩) n7 (.int .u8 0)
        have m26 := m25.far (p := ⟨gp, i, none⟩) n2 (.int .u8 0)
        have bu6 := bu5.set i (.int .u8 0)
        rw [Int.toNat_natCast] at hc5 mp6
        clear hc p1 p2 p3 q1 q2 q3 mp5 kq hb5 bu5 m25
        obtain ⟨p1, p2, p3⟩ := m75.cells3
        go_upto_region 12 with fail
        generalize w5.setCell ⟨gp, i, none⟩ (.int .u8 0) = w6 at *
        have R6 : ERow w6 gl 51 2 (encP W) (.slice (some ⟨gq, 0, none⟩) 1 1) [i] := ERow.of (encP_len W) kq6 hgq (Nat.le_refl _) (by unfold maxLen; omega) rfl (by
          show [Value.int .i64 X, .int .i64 Y] = [Value.int .i64 _, .int .i64 _]
          rw [HX.out, HY.out])
        have m7w := Lib.hid m7
        have m2w := Lib.hid m2
        have mpw := Lib.hid mp
        have BU := Lib.hid bu
        clear hf hc5 p1 p2 p3 m75 m76 m26 kq6 m7 m2 mp bu t1 t2 t3 Yb Y0
        go_wp2_with fail
        generalize wr = wA at *
        go_loopw [11, 10] (fun s v wx => ∃ (k : Nat) (l : List Nat) (lf' : Int → Int), k ≤ l.length ∧ s = .int .i64 k ∧ Hid (Bfs n W e p i l k 0 lf') ∧ But gl gp wA wx ∧ Blk wx gp 5 (u8s n lf') ∧ ERow wx gl 51 2 (encP W) v l) (fun s _ _ => n - (intOf s).toNat)
        case atStart => exact ⟨0, [i], _, by omega, rfl, HBF, bu6, mp6, R6⟩
        case round =>
          obtain ⟨k, l, lf2, hk, rfl, HB2, bu7, mp7, R7⟩ := hrel
          clear bu6 mp6 R6
          obtain ⟨gL, cL, cs, rfl, hcL, hgL, kL, hsL, hmL, htL⟩ := R7.blk (List.ne_nil_of_mem HB2.out.mem)
          have hln := HB2.out.len
          obtain ⟨L, hL⟩ : ∃ L, l.length = L := ⟨_, rfl⟩
          rw [hL] at hk hln hcL
          rw [hL]
          have HL := Lib.hid hL
          by_cases kl : (k : Int) < L
          · obtain ⟨x, hx⟩ : ∃ x, l[k]? = some x := ⟨l[k]'(by omega), List.getElem?_eq_getElem _⟩
            have HXX := Lib.hid hx
            go_wp2_with fail
            refine (around_any _).mono ?_
            rintro ee w8 ⟨rfl, hb8⟩
            have bu8 := bu7.then (hb8.mono bu7.size)
            have mp8 := mp7.below' hb8
            have R8 : ERow w8 gl 51 2 (encP W) (.slice (some ⟨gL, 0, none⟩) L cL) l := by rw [← hL]; exact R7.below hb8
            clear bu7 mp7 R7 hb8 kL htL hx hsL hmL hgL hL
            go_wp2_with fail
            go_loopw [59, 10] (fun s v wx => ∃ (j : Nat) (l : List Nat) (lf' : Int → Int), j ≤ 8 ∧ s = .int .i64 j ∧ Hid (Bfs n W e p i l k j lf') ∧ Hid (l[k]? = some x) ∧ But gl gp wA wx ∧ Blk wx gp 5 (u8s n lf') ∧ ERow wx gl 51 2 (encP W) v l) (fun s _ _ => 8 - (intOf s).toNat)
            case atStart => exact ⟨0, l, lf2, by omega, rfl, HB2, HXX, bu8, mp8, R8⟩
            case round =>
              obtain ⟨j, l3, lf3, hj, rfl, HB3, HX3, bu9, mp9, R9⟩ := hrel
              clear bu8 mp8 R8
              by_cases jl : (j : Int) < 8
              · obtain ⟨g3, c3, cs3, rfl, hc3, hg3, k3, hs3, hm3, ht3⟩ := R9.blk (List.ne_nil_of_mem HB3.out.mem)
                have hkl : k < l3.length := (List.getElem?_eq_some_iff.1 HX3.out).1
                have hl3n := HB3.out.len
                have e0 := ERow.cell (encP_len W) k3 ht3 HX3.out (t := 0) (by omega)
                have e1 := ERow.cell (encP_len W) k3 ht3 HX3.out (t := 1) (by omega)
                change _ = some (Value.int .i64 ((x % W : Nat) : Int)) at e0
                change _ = some (Value.int .i64 ((x / W : Nat) : Int)) at e1
                rw [Nat.add_zero] at e0
                have hxn : x < n := HB3.out.in_ x (List.mem_of_getElem? HX3.out)
                obtain ⟨x0, hx0⟩ : ∃ x0 : Int, ((x % W : Nat) : Int) = x0 := ⟨_, rfl⟩
                obtain ⟨y0, hy0⟩ : ∃ y0 : Int, ((x / W : Nat) : Int) = y0 := ⟨_, rfl⟩
                have xb : 0 ≤ x0 ∧ x0 ≤ 409600 := by rw [← hx0]; have h9 : x % W ≤ 409600 := Nat.le_trans (Nat.mod_le x W) (by omega); exact ⟨Int.natCast_nonneg _, Int.ofNat_le.2 h9⟩
                have yb : 0 ≤ y0 ∧ y0 ≤ 409600 := by rw [← hy0]; have h9 : x / W ≤ 409600 := Nat.le_trans (Nat.div_le_self x W) (by omega); exact ⟨Int.natCast_nonneg _, Int.ofNat_le.2 h9⟩
                rw [hx0] at e0
                rw [hy0] at e1
                have db := dXY_bd j
                obtain ⟨dx, hdx⟩ : ∃ d, dX j = d := ⟨_, rfl⟩
                obtain ⟨dy, hdy⟩ : ∃ d, dY j = d := ⟨_, rfl⟩
                rw [hdx, hdy] at db
                obtain ⟨px, hpx⟩ : ∃ q, x0 + dx = q := ⟨_, rfl⟩
                obtain ⟨py, hpy⟩ : ∃ q, y0 + dy = q := ⟨_, rfl⟩
                have v1 : IntKind.i64.wrap (x0 + dx) = px := (IntWalk.i64_in _ (by omega)).trans hpx
                have v2 : IntKind.i64.wrap (y0 + dy) = py := (IntWalk.i64_in _ (by omega)).trans hpy
                have HX0 := Lib.hid hx0; have HY0 := Lib.hid hy0; have HDX := Lib.hid hdx; have HDY := Lib.hid hdy; have HPX := Lib.hid hpx; have HPY := Lib.hid hpy
                have PB := Lib.hid (show px ≤ 500000 ∧ py ≤ 500000 ∧ -10 ≤ px ∧ -10 ≤ py by omega)
                clear hx0 hy0 hpx hpy hxn
                obtain ⟨L3, hL3⟩ : ∃ L, l3.length = L := ⟨_, rfl⟩
                have HL3 := Lib.hid hL3
                have R9' : ERow wr gl 51 2 (encP W) (.slice (some ⟨g3, 0, none⟩) L3 c3) l3 := by rw [← hL3]; exact R9
                rw [hL3] at hkl hl3n
                rw [hL3]
                clear R9 hL3 ht3 hs3 hm3 hc3
                go_upto_region 17 with fail
                go_cut [12, 13] (fun a b wx => a = .int .i64 j ∧ ∃ gd, b = .pointer (some ⟨gd, 0, none⟩) ∧ wr.heap.size ≤ gd ∧ Blk wx gd 51 #[.int .i64 dx, .int .i64 dy] ∧ Below wr.heap.size wr wx)
                case first =>
                  clear v1 v2 e0 e1
                  have RI := fun w => around_at j (by omega) w
                  rw [hdx, hdy] at RI
                  go_wp2_with fail
                  go_meet
                  exact ⟨rfl, _, rfl, Nat.le_refl _, Blk.new _ _ _, by (repeat (first | exact Below.refl _ _ | assumption | refine Below.drew ?_ | refine below_drewN ?_ _ | refine Below.alloc ?_ (by first | omega | (simp; done) | (simp; omega)) _ | refine Below.setCell ?_ (by first | omega | (simp; done) | (simp; omega)) _ | refine below_setRow ?_ (by first | omega | (simp; done) | (simp; omega)) _ ))⟩
                case rest =>
                obtain ⟨rfl, gd, rfl, hgd, kd, hb10⟩ := hcut
                generalize wc = w10 at *
                clear hdx hdy
                have bu10 := bu9.then (hb10.mono bu9.size)
                have mp10 := mp9.below' hb10
                have R10 := R9'.below hb10
                have k310 := k3.below' hb10
                have e0' := (hb10.cell (p := ⟨g3, k * 2, none⟩) k3.lt).trans e0
                have e1' := (hb10.cell (p := ⟨g3, k * 2 + 1, none⟩) k3.lt).trans e1
                obtain ⟨d0, d1⟩ := kd.cells2
                have KS := Lib.hid fun w' (hb : Below w10.heap.size w10 w') => (show w'.cell? ⟨g3, k * 2, none⟩ = some (.int .i64 x0) ∧ w'.cell? ⟨g3, k * 2 + 1, none⟩ = some (.int .i64 y0) ∧ w'.cell? ⟨gd, 0, none⟩ = some (.int .i64 dx) ∧ w'.cell? ⟨gd, 1, none⟩ = some (.int .i64 dy) from
                  ⟨(hb.cell (p := ⟨g3, k * 2, none⟩) k310.lt).trans e0', (hb.cell (p := ⟨g3, k * 2 + 1, none⟩) k310.lt).trans e1', (hb.cell (p := ⟨gd, 0, none⟩) kd.lt).trans d0, (hb.cell (p := ⟨gd, 1, none⟩) kd.lt).trans d1⟩)
                have m710 := m7w.out.but bu10 (by omega) n7
                have m210 := m2w.out.but bu10 (by omega) n2
                have hkl' : (k : Int) < (L3 : Int) := by omega
                clear e0 e1 k3 mp9 bu9 R9' hb10 hgd
                go_upto_region 18 with fail
                obtain ⟨gt, hgt⟩ : ∃ g, w10.heap.size = g := ⟨_, rfl⟩
                go_cut [14] (fun a wx => a = .pointer (some ⟨gt, 0, none⟩) ∧ Blk wx gt 51 #[.int .i64 px, .int .i64 py] ∧ Below gt w10 wx)
                case first =>
                  refine wp_region_held_drew (S := fun w' => w'.cell? ⟨g3, k * 2, none⟩ = some (.int .i64 x0) ∧ w'.cell? ⟨g3, k * 2 + 1, none⟩ = some (.int .i64 y0) ∧ w'.cell? ⟨gd, 0, none⟩ = some (.int .i64 dx) ∧ w'.cell? ⟨gd, 1, none⟩ = some (.int .i64 dy)) (by kernel_rfl) (KS.out _ (Below.refl _ _).drew) (fun hHeld => ?_)
                  refine wpAnyH_take (i := 0) (oi := _) (v := ?_) (by simp only [List.getElem?_toArray, List.getElem?_cons_zero]; exact rfl) (by kernel_rfl) (by kernel_rfl) (by kernel_rfl) (by exact fun _ _ _ h => h) (Or.inl ⟨by rfl, ?_⟩) (by assumption) ?_
                  rotate_left 1
                  · intro w hSw
                    (try dsimp only at hSw)
                    go_simp
                    try with_reducible rfl
                  try simp only [Act.put, List.setIfInBounds_toArray, List.set_cons_zero, List.set_cons_succ]
                  refine wpAnyH_take (i := 1) (oi := _) (v := ?_) (by simp only [List.getElem?_toArray, List.getElem?_cons_zero, List.getElem?_cons_succ]; exact rfl) (by kernel_rfl) (by kernel_rfl) (by kernel_rfl) (by exact fun _ _ _ h => h) (Or.inl ⟨by rfl, ?_⟩) (by assumption) ?_
                  rotate_left 1
                  · intro w hSw
                    (try dsimp only at hSw)
                    go_simp
                    try with_reducible rfl
                  try simp only [Act.put, List.setIfInBounds_toArray, List.set_cons_zero, List.set_cons_succ]
                  refine wpAnyH_take (i := 2) (oi := _) (v := ?_) (by simp only [List.getElem?_toArray, List.getElem?_cons_zero, List.getElem?_cons_succ]; exact rfl) (by kernel_rfl) (by kernel_rfl) (by kernel_rfl) (by exact fun _ _ _ h => h) (Or.inl ⟨by rfl, ?_⟩) (by assumption) ?_
                  rotate_left 1
                  · intro w hSw
                    (try dsimp only at hSw)
                    go_simp
                    try with_reducible rfl
                  try simp only [Act.put, List.setIfInBounds_toArray, List.set_cons_zero, List.set_cons_succ]
                  refine wpAnyH_take (i := 3) (oi := _) (v := ?_) (by simp only [List.getElem?_toArray, List.getElem?_cons_zero, List.getElem?_cons_succ]; exact rfl) (by kernel_rfl) (by kernel_rfl) (by kernel_rfl) (by exact fun _ _ _ h => h) (Or.inl ⟨by rfl, ?_⟩) (by assumption) ?_
                  rotate_left 1
                  · intro w hSw
                    (try dsimp only at hSw)
                    go_simp
                    try with_reducible rfl
                  try simp only [Act.put, List.setIfInBounds_toArray, List.set_cons_zero, List.set_cons_succ]
                  refine wpAnyH_take (i := 4) (oi := _) (v := ?_) (by simp only [List.getElem?_toArray, List.getElem?_cons_zero, List.getElem?_cons_succ]; exact rfl) (by kernel_rfl) (by kernel_rfl) (by kernel_rfl) (by exact fun _ _ _ h => h) (Or.inl ⟨by rfl, ?_⟩) (by assumption) ?_
                  rotate_left 1
                  · intro w hSw
                    (try dsimp only at hSw)
                    go_simp
                    try with_reducible rfl
                  try simp only [Act.put, List.setIfInBounds_toArray, List.set_cons_zero, List.set_cons_succ]
                  refine wpAnyH_take (i := 5) (oi := _) (v := ?_) (by simp only [List.getElem?_toArray, List.getElem?_cons_zero, List.getElem?_cons_succ]; exact rfl) (by kernel_rfl) (by kernel_rfl) (by kernel_rfl) (by exact fun _ _ _ h => h) (Or.inl ⟨by rfl, ?_⟩) (by assumption) ?_
                  rotate_left 1
                  · intro w hSw
                    (try dsimp only at hSw)
                    go_simp
                    try with_reducible rfl
                  try simp only [Act.put, List.setIfInBounds_toArray, List.set_cons_zero, List.set_cons_succ]
                  refine wpAnyH_take (i := 6) (oi := _) (v := ?_) (by simp only [List.getElem?_toArray, List.getElem?_cons_zero, List.getElem?_cons_succ]; exact rfl) (by kernel_rfl) (by kernel_rfl) (by kernel_rfl) (by exact fun _ _ _ h => h) (Or.inl ⟨by rfl, ?_⟩) (by assumption) ?_
                  rotate_left 1
                  · intro w hSw
                    (try dsimp only at hSw)
                    go_simp
                    try with_reducible rfl
                  try simp only [Act.put, List.setIfInBounds_toArray, List.set_cons_zero, List.set_cons_succ]
                  refine wpAnyH_take (i := 7) (oi := _) (v := ?_) (by simp only [List.getElem?_toArray, List.getElem?_cons_zero, List.getElem?_cons_succ]; exact rfl) (by kernel_rfl) (by kernel_rfl) (by kernel_rfl) (by exact fun _ _ _ h => h) (Or.inl ⟨by rfl, ?_⟩) (by assumption) ?_
                  rotate_left 1
                  · intro w hSw
                    (try dsimp only at hSw)
                    go_simp
                    try with_reducible rfl
                  try simp only [Act.put, List.setIfInBounds_toArray, List.set_cons_zero, List.set_cons_succ]
                  refine wpAnyH_take (i := 8) (oi := _) (v := ?_) (by simp only [List.getElem?_toArray, List.getElem?_cons_zero, List.getElem?_cons_succ]; exact rfl) (by kernel_rfl) (by kernel_rfl) (by kernel_rfl) (by exact fun _ _ _ h => h) (Or.inl ⟨by rfl, ?_⟩) (by assumption) ?_
                  rotate_left 1
                  · intro w hSw
                    (try dsimp only at hSw)
                    go_simp
                    try with_reducible rfl
                  try simp only [Act.put, List.setIfInBounds_toArray, List.set_cons_zero, List.set_cons_succ]
                  refine wpAnyH_take (i := 9) (oi := _) (v := ?_) (by simp only [List.getElem?_toArray, List.getElem?_cons_zero, List.getElem?_cons_succ]; exact rfl) (by kernel_rfl) (by kernel_rfl) (by kernel_rfl) (by exact fun _ _ _ h => h) (Or.inl ⟨by rfl, ?_⟩) (by assumption) ?_
                  rotate_left 1
                  · intro w hSw
                    (try dsimp only at hSw)
                    go_simp
                    try with_reducible rfl
                  try simp only [Act.put, List.setIfInBounds_toArray, List.set_cons_zero, List.set_cons_succ]
                  refine wpAnyH_take (i := 10) (oi := _) (v := ?_) (by simp only [List.getElem?_toArray, List.getElem?_cons_zero, List.getElem?_cons_succ]; exact rfl) (by kernel_rfl) (by kernel_rfl) (by kernel_rfl) (by exact fun _ _ _ h => h) (Or.inl ⟨by rfl, ?_⟩) (by assumption) ?_
                  rotate_left 1
                  · intro w hSw
                    (try dsimp only at hSw)
                    go_simp
                    try with_reducible rfl
                  try simp only [Act.put, List.setIfInBounds_toArray, List.set_cons_zero, List.set_cons_succ]
                  refine wpAnyH_take (i := 11) (oi := _) (v := ?_) (by simp only [List.getElem?_toArray, List.getElem?_cons_zero, List.getElem?_cons_succ]; exact rfl) (by kernel_rfl) (by kernel_rfl) (by kernel_rfl) (by exact fun _ _ _ h => h) (Or.inl ⟨by rfl, ?_⟩) (by assumption) ?_
                  rotate_left 1
                  · intro w hSw
                    (try dsimp only at hSw)
                    go_simp
                    try with_reducible rfl
                  try simp only [Act.put, List.setIfInBounds_toArray, List.set_cons_zero, List.set_cons_succ]
                  refine wpAnyH_take (i := 12) (oi := _) (v := ?_) (by simp only [List.getElem?_toArray, List.getElem?_cons_zero, List.getElem?_cons_succ]; exact rfl) (by kernel_rfl) (by kernel_rfl) (by kernel_rfl) (by exact fun _ _ _ h => h) (Or.inl ⟨by rfl, ?_⟩) (by assumption) ?_
                  rotate_left 1
                  · intro w hSw
                    (try dsimp only at hSw)
                    go_simp
                    try with_reducible rfl
                  try simp only [Act.put, List.setIfInBounds_toArray, List.set_cons_zero, List.set_cons_succ]
                  refine wpAnyH_take (i := 13) (oi := _) (v := ?_) (by simp only [List.getElem?_toArray, List.getElem?_cons_zero, List.getElem?_cons_succ]; exact rfl) (by kernel_rfl) (by kernel_rfl) (by kernel_rfl) (by exact fun _ _ _ h => h) (Or.inl ⟨by rfl, ?_⟩) (by assumption) ?_
                  rotate_left 1
                  · intro w hSw
                    (try dsimp only at hSw)
                    go_simp
                    try with_reducible rfl
                  try simp only [Act.put, List.setIfInBounds_toArray, List.set_cons_zero, List.set_cons_succ]
                  refine wpAnyH_take (i := 14) (oi := _) (v := ?_) (by simp only [List.getElem?_toArray, List.getElem?_cons_zero, List.getElem?_cons_succ]; exact rfl) (by kernel_rfl) (by kernel_rfl) (by kernel_rfl) (by exact fun _ _ _ h => h) (Or.inl ⟨by rfl, ?_⟩) (by assumption) ?_
                  rotate_left 1
                  · intro w hSw
                    (try dsimp only at hSw)
                    go_simp
                    try with_reducible rfl
                  try simp only [Act.put, List.setIfInBounds_toArray, List.set_cons_zero, List.set_cons_succ]
                  refine wpAnyH_take (i := 15) (oi := _) (v := ?_) (by simp only [List.getElem?_toArray, List.getElem?_cons_zero, List.getElem?_cons_succ]; exact rfl) (by kernel_rfl) (by kernel_rfl) (by kernel_rfl) (by exact fun _ _ _ h => h) (Or.inl ⟨by rfl, ?_⟩) (by assumption) ?_
                  rotate_left 1
                  · intro w hSw
                    (try dsimp only at hSw)
                    go_simp
                    try with_reducible rfl
                  try simp only [Act.put, List.setIfInBounds_toArray, List.set_cons_zero, List.set_cons_succ]
                  refine wpAnyH_take (i := 16) (oi := _) (v := ?_) (by simp only [List.getElem?_toArray, List.getElem?_cons_zero, List.getElem?_cons_succ]; exact rfl) (by kernel_rfl) (by kernel_rfl) (by kernel_rfl) (by exact fun _ _ _ h => h) (Or.inl ⟨by rfl, ?_⟩) (by assumption) ?_
                  rotate_left 1
                  · intro w hSw
                    (try dsimp only at hSw)
                    go_simp
                    try with_reducible rfl
                  try simp only [Act.put, List.setIfInBounds_toArray, List.set_cons_zero, List.set_cons_succ]
                  refine wpAnyH_ready (rs := [17]) (by kernel_rfl) (by simp) ?_
                  refine AllReadyH.cons (o := _) (by simp only [List.getElem?_toArray, List.getElem?_cons_zero, List.getElem?_cons_succ]; exact rfl) (fun K' hK => ?_) AllReadyH.nil
                  go_simp
                  refine hK.out _ _ (KS.out _ (by (repeat (first | exact Below.refl _ _ | assumption | refine Below.drew ?_ | refine below_drewN ?_ _ | refine Below.alloc ?_ (by first | omega | (simp; done) | (simp; omega)) _ | refine Below.setCell ?_ (by first | omega | (simp; done) | (simp; omega)) _ | refine below_setRow ?_ (by first | omega | (simp; done) | (simp; omega)) _ )))) (fun hHeld => ?_)
                  clear hK K'
                  try simp only [Act.put, List.setIfInBounds_toArray, List.set_cons_zero, List.set_cons_succ]
                  refine wpAnyH_ready (rs := [18]) (by kernel_rfl) (by simp) ?_
                  refine AllReadyH.cons (o := _) (by simp only [List.getElem?_toArray, List.getElem?_cons_zero, List.getElem?_cons_succ]; exact rfl) (fun K' hK => ?_) AllReadyH.nil
                  go_simp
                  refine hK.out _ _ (KS.out _ (by (repeat (first | exact Below.refl _ _ | assumption | refine Below.drew ?_ | refine below_drewN ?_ _ | refine Below.alloc ?_ (by first | omega | (simp; done) | (simp; omega)) _ | refine Below.setCell ?_ (by first | omega | (simp; done) | (simp; omega)) _ | refine below_setRow ?_ (by first | omega | (simp; done) | (simp; omega)) _ )))) (fun hHeld => ?_)
                  clear hK K'
                  try simp only [Act.put, List.setIfInBounds_toArray, List.set_cons_zero, List.set_cons_succ]
                  refine wpAnyH_done (by kernel_rfl) ?_ _
                  go_wp2_with fail
                  go_meet
                  have kt := (Blk.new w10 51 #[.int .i64 px, .int .i64 py]).drew
                  rw [hgt] at kt
                  exact ⟨rfl, kt, by rw [← hgt]; (repeat (first | exact Below.refl _ _ | assumption | refine Below.drew ?_ | refine below_drewN ?_ _ | refine Below.alloc ?_ (by first | omega | (simp; done) | (simp; omega)) _ | refine Below.setCell ?_ (by first | omega | (simp; done) | (simp; omega)) _ | refine below_setRow ?_ (by first | omega | (simp; done) | (simp; omega)) _ ))⟩
                case rest =>
                obtain ⟨rfl, kt, hb11⟩ := hcut
                generalize wc = w11 at *
                rw [← hgt] at hb11
                have bu11 := bu10.then (hb11.mono bu10.size)
                have mp11 := mp10.below' hb11
                have R11 := R10.below hb11
                have m711 := m710.below' hb11
                have m211 := m210.below' hb11
                have AT := Lib.hid fun w' hA' => at_all W H (some ⟨gp, 0, none⟩) n n px py lf3 w' hA' (by omega) (by omega) (by omega) (by omega) HNI.out (fun i i0 i1 => by have := HB3.out.lz i.toNat (by omega); rwa [Int.toNat_of_nonneg i0] at this)
                clear k310 e0' e1' d0 d1 KS m710 m210 hkl' R10 mp10 bu10 hb11 kd v1 v2 db xb yb
                go_upto_region 19 with fail
                go_cut [94] (fun t wx => t = .bool ((e || decide (j % 2 = 0)) && inkB W H lf3 px py) ∧ Below w11.heap.size w11 wx)
                case first =>
                  obtain ⟨s1, s2, s3⟩ := m711.cells3
                  obtain ⟨f1, f2⟩ := kt.cells2
                  have AT1 := Lib.hid (AT.out w11 (mp11.arrB mp11.lt))
                  obtain ⟨bi, hbi⟩ : ∃ b, inkB W H lf3 px py = b := ⟨_, rfl⟩
                  rw [hbi] at AT1
                  have HBI := Lib.hid hbi
                  clear hbi
                  cases e with
                  | true =>
                    cases bi
                    all_goals
                      go_wp2_with fail
                      refine AT1.out.mono ?_
                      rintro ee w12 ⟨rfl, hb12⟩
                      go_wp2_with fail
                      go_meet
                      exact ⟨by rw [HBI.out]; rfl, hb12⟩
                  | false =>
                    by_cases j2 : j % 2 = 0
                    · have tj : (j : Int).tmod 2 = 0 := by rw [Int.tmod_eq_emod_of_nonneg (by omega)]; omega
                      have tj2 : (j : Int) % 2 = 0 := by omega
                      cases bi
                      all_goals
                        go_wp2_with fail
                        refine AT1.out.mono ?_
                        rintro ee w12 ⟨rfl, hb12⟩
                        go_wp2_with fail
                        go_meet
                        exact ⟨by rw [HBI.out, decide_eq_true j2]; rfl, hb12⟩
                    · have tj : (j : Int).tmod 2 = 1 := by rw [Int.tmod_eq_emod_of_nonneg (by omega)]; omega
                      have tj2 : (j : Int) % 2 = 1 := by omega
                      go_wp2_with fail
                      go_meet
                      exact ⟨by rw [decide_eq_false j2]; rfl, Below.refl _ _⟩
                case rest =>
                obtain ⟨rfl, hb12⟩ := hcut
                generalize wc = w12 at *
                have bu12 := bu11.then (hb12.mono bu11.size)
                have mp12 := mp11.below' hb12
                have R12 := R11.below hb12
                have m712 := m711.below' hb12
                have m212 := m211.below' hb12
                have kt12 := kt.below' hb12
                clear bu11 mp11 R11 m711 m211 kt hb12 AT
                obtain ⟨qq, hqq⟩ : ∃ q, ((e || decide (j % 2 = 0)) && inkB W H lf3 px py) = q := ⟨_, rfl⟩
                rw [hqq]
                cases qq with
                | false =>
                  have SK := Lib.hid (HB3.out.skip HR.out HX3.out (by omega) fun ask y hy h1 h2 h3 => by
                    rw [HX0.out, HDX.out, HPX.out] at h1
                    rw [HY0.out, HDY.out, HPY.out] at h2
                    have hy9 : (y : Int) = py * W + px := by
                      rw [← h1, ← h2]
                      have := Nat.div_add_mod y W
                      rw [Nat.mul_comm] at this
                      have h9 : ((y / W * W + y % W : Nat) : Int) = (y : Int) := by rw [this]
                      push_cast at h9 ⊢
                      exact h9.symm
                    have hin : inkB W H lf3 px py = true := inkB_iff.2 ⟨by rw [← h1]; exact Int.natCast_nonneg _, by rw [← h1]; exact Int.ofNat_lt.2 (Nat.mod_lt _ hW0), by rw [← h2]; exact Int.natCast_nonneg _, by rw [← h2]; exact Int.ofNat_lt.2 (Nat.div_lt_of_lt_mul (HN.out ▸ hy)), by rw [← hy9]; exact h3⟩
                    rw [hin, Bool.and_true] at hqq
                    rcases ask with h | h
                    · rw [h] at hqq; cases hqq
                    · rw [decide_eq_true h, Bool.or_true] at hqq; cases hqq)
                  clear hqq m712 m212 kt12
                  go_wp2_with fail
                  go_roundw
                  case rel => exact ⟨j + 1, l3, lf3, by omega, by go_num, SK, HX3, bu12, mp12, R12⟩
                  case measure => simp [intOf]; omega
                | true =>
                  rw [Bool.and_eq_true, Bool.or_eq_true, decide_eq_true_iff] at hqq
                  obtain ⟨ask, hin⟩ := hqq
                  obtain ⟨i1, i2, i3, i4, i5⟩ := inkB_iff.1 hin
                  obtain ⟨o1, o2, -⟩ := idx_lt i1 i2 i3 i4
                  rw [Int.mul_comm (H : Int) W, ← HNI.out] at o2
                  obtain ⟨y, hy⟩ : ∃ y : Nat, py * W + px = (y : Int) := ⟨(py * W + px).toNat, by omega⟩
                  have hyn : y < n := by omega
                  have ymod : ((y % W : Nat) : Int) = px := by
                    rw [Int.natCast_emod, ← hy]; exact idx_mod i1 i2
                  have ydiv : ((y / W : Nat) : Int) = py := by
                    rw [Int.natCast_ediv, ← hy]; exact idx_div i1 i2
                  have TK := Lib.hid (HB3.out.take HX3.out (by omega) ask hyn (by rw [ymod, HX0.out, HDX.out, HPX.out]) (by rw [ydiv, HY0.out, HDY.out, HPY.out]) (by rw [← hy]; exact i5))
                  have HYM := Lib.hid ymod; have HYD := Lib.hid ydiv
                  have wm := idx_lt i1 i2 i3 i4
                  have v3 : IntKind.i64.wrap (py * W) = py * W := IntWalk.i64_in _ (by omega)
                  have v4 : IntKind.i64.wrap (py * W + px) = (y : Int) := (IntWalk.i64_in _ (by omega)).trans hy
                  have yn : (y : Int) < n := by omega
                  clear hin i5 ymod ydiv hy ask wm o1 o2
                  go_upto_region 20 with fail
                  obtain ⟨s1, s2, s3⟩ := m712.cells3
                  obtain ⟨u1, u2, u3⟩ := m212.cells3
                  obtain ⟨f1, f2⟩ := kt12.cells2
                  have hc := mp12.u8at (i := (y : Int)) (by omega) yn
                  have hf := mp12.frozen y
                  rw [Int.toNat_natCast] at hc
                  have mp13 := mp12.u8set (y : Int) (by omega) 0
                  rw [Int.toNat_natCast] at mp13
                  have R13 := R12.far mp12 (by decide) y (.int .u8 0)
                  have ntp : gt ≠ gp := by
                    have := HG.out
                    have h9 := bu12.size
                    intro e9
                    have e1 : w12.heap[gt]? = _ := kt12
                    have e2 : w12.heap[gp]? = _ := mp12
                    rw [e9, e2] at e1
                    exact absurd (show 5 = 51 from congrArg (fun o : Option Obj => match o with | some (.cells _ t _) => t | _ => 0) e1) (by decide)
                  have kt13 := kt12.far (p := ⟨gp, y, none⟩) ntp (.int .u8 0)
                  have bu13 := bu12.set y (.int .u8 0)
                  go_upto_region 21 with fail
                  generalize w12.setCell ⟨gp, y, none⟩ (.int .u8 0) = w13 at *
                  clear s1 s2 s3 u1 u2 u3 f1 f2 hc hf m712 m212 bu12 R12 mp12 v3 v4 i1 i2 i3 i4 kt12
                  obtain ⟨f1, f2⟩ := kt13.cells2
                  have hl3m := HB3.out.len
                  go_wp2_with (at_builtin; refine wpList_append_own _ rfl (.tmp 106) (.tmp 108) 45 rfl gl 51 r0 (.agg #[.int .i64 0, .int .i64 0]) 2 16 Tryd.underlying45 hr0 hrz0 hrz1 hrz2 rfl (by decide) _ _ _ rfl (ERow.below R13 ((Below.refl _ _).alloc (Nat.le_refl _) _)) ⟨w13.heap.size, 0, none⟩ 1 1 [.int .i64 px, .int .i64 py] rfl rfl ?c1 ?c2 ?c3 ?c4 ?c5 ?_)
                  case c1 =>
                    intro t u ht
                    match t, ht with
                    | 0, ht => cases ht; exact (Blk.new w13 51 #[.int .i64 px, .int .i64 py]).cell 0
                    | 1, ht => cases ht; exact (Blk.new w13 51 #[.int .i64 px, .int .i64 py]).cell 1
                    | t + 2, ht => simp at ht
                  case c2 => simp [Value.oneCell']
                  case c3 => unfold maxLen; omega
                  case c4 => omega
                  case c5 => have := bu13.size; simp; omega
                  intro v' w14 own14 hg14 _
                  have bn : Below w13.heap.size w13 (w13.alloc (.cells #[.int .i64 px, .int .i64 py] 51)) := (Below.refl _ _).alloc (Nat.le_refl _) _
                  have bu14 := (bu13.then (bn.mono bu13.size)).grow hg14 (fun b hb => (own_ge R13 hb).1)
                  have mp14 := (mp13.below' bn).grown hg14 (ERow.neB (R13.below bn) (mp13.below' bn) (by decide))
                  have R14 : ERow w14 gl 51 2 (encP W) v' (l3 ++ [y]) := by
                    unfold ERow
                    rw [flatE_snoc, List.length_append]
                    show World.ownsRow _ _ _ _ _ _ (_ ++ [Value.int .i64 _, .int .i64 _])
                    rw [HYM.out, HYD.out]
                    exact own14
                  have HX4 : Hid ((l3 ++ [y])[k]? = some x) := Lib.hid (by rw [List.getElem?_append_left (by rw [HL3.out]; exact hkl)]; exact HX3.out)
                  clear own14 hg14 bn R13 mp13 bu13 kt13 f1 f2
                  go_wp2
                  go_roundw
                  case rel => exact ⟨j + 1, _, _, by omega, by go_num, TK, HX4, bu14, mp14, R14⟩
                  case measure => simp [intOf]; omega
              · obtain rfl : j = 8 := by omega
                have hkl : k < l3.length := (List.getElem?_eq_some_iff.1 HX3.out).1
                have NX := Lib.hid (HB3.out.next hkl)
                have hln3 := HB3.out.len
                clear HB3 HX3
                go_wp2_with fail
                go_roundw
                case rel => exact ⟨k + 1, l3, lf3, hkl, by go_num, NX, bu9, mp9, R9⟩
                case measure => simp [intOf]; omega
          · have ek : k = L := by omega
            have HB9 := Lib.hid (show Bfs n W e p i l l.length 0 lf2 from by rw [hL, ← ek]; exact HB2.out)
            have R7' : ERow wr gl 51 2 (encP W) (.slice (some ⟨gL, 0, none⟩) L cL) l := by rw [← hL]; exact R7
            have hlt : ∀ r ∈ l, r < 1000000 := fun r hr => by have := HB2.out.in_ r hr; omega
            have SO := Lib.hid (sortPtRow_any W gl _ l wr R7' (Nat.le_trans (by rw [← hgl]; exact Nat.le_refl _) bu7.size) hlt HB2.out.nd (List.ne_nil_of_mem HB2.out.mem))
            clear HB2 R7 R7' kL htL hsL hmL ek
            go_wp2_with fail
            refine SO.out.mono ?_
            rintro ee w8 ⟨rfl, l9, hp9, hs9, R9, hb9⟩
            have e9 : l9 = partN n (InkN n p) (AdjN W e) i := HB9.out.sorted hp9 (hs9.imp fun h => Nat.le_of_lt h)
            have hL9 : l9.length = L := by rw [hp9.length_eq, hL]
            have bu8 := bu7.then hb9
            have mp8 := mp7.move (hb9.block gp (by omega))
            obtain ⟨A9, c9, ev, -, hE9⟩ := R9.arr (encP_len W)
            have eA : A9 = some ⟨gL, 0, none⟩ := by cases ev; rfl
            subst eA
            clear ev
            have BXX := Lib.hid (box_any W (some ⟨gL, 0, none⟩) l9 cL w8 hE9 (fun r hr => hlt r (hp9.mem_iff.1 hr)) (by omega))
            rw [hL9] at BXX
            clear SO hp9 hs9 hE9 bu7 mp7 hb9 hlt
            go_wp2_with fail
            refine BXX.out.mono ?_
            rintro ee w10 ⟨⟨b1, b2, b3, b4⟩, rfl, hbx, hb10⟩
            have hbv : boxV (b1, b2, b3, b4) = .agg #[.int .i64 b1, .int .i64 b2, .int .i64 b3, .int .i64 b4] := rfl
            rw [hbv]
            have bu10 := bu8.then (hb10.mono bu8.size)
            have mp10 := mp8.below' hb10
            have R10 := R9.below hb10
            rw [e9] at R10 hbx
            obtain ⟨LC, hc1, hc2, hc3⟩ := HC.out
            have c2 := hc2.but bu10 hgl mpw.out (by decide)
            have hcl : LC.length ≤ n := by
              have := congrArg List.length hc1
              rw [List.length_map] at this
              have h9 := rootK_len i (InkN n p) (AdjN W e)
              omega
            have bnw : Below w10.heap.size w10 (w10.alloc (.cells #[.int .i64 b1, .int .i64 b2, .int .i64 b3, .int .i64 b4, .slice (some ⟨gL, 0, none⟩) L cL] 47)) := (Below.refl _ _).alloc (Nat.le_refl _) _
            have HBX := Lib.hid hbx
            clear BXX bu8 mp8 R9 hb10 hbv hbx
            have z10 := bu10.size
            go_wp2_with (at_builtin; refine wpList_append_own _ rfl (.tmp 113) (.tmp 118) 36 rfl gl0 47 r1 (.agg #[.int .i64 0, .int .i64 0, .int .i64 0, .int .i64 0, .slice none 0 0]) 5 56 Tryd.underlying36 hs0 hsz0 hsz1 hsz2 rfl (by decide) _ _ _ rfl (ERow.below c2 bnw) ⟨w10.heap.size, 0, none⟩ 1 1 [.int .i64 b1, .int .i64 b2, .int .i64 b3, .int .i64 b4, .slice (some ⟨gL, 0, none⟩) L cL] rfl rfl ?d1 ?d2 ?d3 ?d4 ?d5 ?_)
            case d1 =>
              intro t u ht
              match t, ht with
              | 0, ht => cases ht; exact (Blk.new w10 47 #[.int .i64 b1, .int .i64 b2, .int .i64 b3, .int .i64 b4, .slice (some ⟨gL, 0, none⟩) L cL]).cell 0
              | 1, ht => cases ht; exact (Blk.new w10 47 #[.int .i64 b1, .int .i64 b2, .int .i64 b3, .int .i64 b4, .slice (some ⟨gL, 0, none⟩) L cL]).cell 1
              | 2, ht => cases ht; exact (Blk.new w10 47 #[.int .i64 b1, .int .i64 b2, .int .i64 b3, .int .i64 b4, .slice (some ⟨gL, 0, none⟩) L cL]).cell 2
              | 3, ht => cases ht; exact (Blk.new w10 47 #[.int .i64 b1, .int .i64 b2, .int .i64 b3, .int .i64 b4, .slice (some ⟨gL, 0, none⟩) L cL]).cell 3
              | 4, ht => cases ht; exact (Blk.new w10 47 #[.int .i64 b1, .int .i64 b2, .int .i64 b3, .int .i64 b4, .slice (some ⟨gL, 0, none⟩) L cL]).cell 4
              | t + 5, ht => simp at ht
            case d2 => simp [Value.oneCell']
            case d3 => unfold maxLen; omega
            case d4 => omega
            case d5 => simp; omega
            intro v' w14 own14 hg14 _
            have C14 := crow_snoc (by decide) hc1 (c2.below bnw) (fun t ht => ⟨(hc3 t ht).1, ((hc3 t ht).2.but bu10 hgl mpw.out (by decide)).below bnw⟩) HR.out HBX.out ((R10.base zg0).below bnw) hg14 own14
            have bu14 : But gl0 gp w4 w14 := ((BU.out.trans' bu10 zg0).then (bnw.mono (by omega))).grow hg14 (fun b hb => (own_ge c2 hb).1)
            have mp14 := (mp10.below' bnw).grown hg14 (ERow.neB (c2.below bnw) (mp10.below' bnw) (by decide))
            have LF := Lib.hid (HB9.out.left HR.out)
            clear own14 hg14 bnw c2 hc1 hc2 hc3 bu10 mp10 R10 HBX
            go_wp2
            go_roundw
            case rel => exact ⟨i + 1, lf2, by omega, by go_num, LF, bu14, mp14, C14⟩
            case measure => simp [intOf]; omega
    · obtain rfl : i = n := by omega
      have zz := HG.out
      have bE := B4.out.trans (bu.to zz (by omega) (by omega))
      have zsz := B4.out.size
      clear HLf mp m7 m2 p1 p2 p3 q1 q2 q3
      go_wp2_with fail
      refine bodyPost_ret (results_tmp2 rfl _ _ _) rfl ?_
      exact ⟨_, rfl, ⟨_, rfl, hC.base (by omega)⟩, bE⟩
end Go.Proofs.YtoonkpjddfiopaaDoor

/- Plain: which pixels a thinning takes away. No program in sight. -/
namespace Go.Proofs.YtoonkpjddfiopaaDoor
set_option linter.unusedVariables false
/-- the program's test, by the ink in the eight directions -/
def cntD (b : Nat → Bool) : Nat → Int
  | 0 => 0
  | d + 1 => cntD b d + if b d then 1 else 0
def edgD (b : Nat → Bool) : Nat → Bool
  | 0 => false
  | d + 1 => edgD b d || (decide (d % 2 = 0) && !b d)
def parD (b : Nat → Bool) : Nat → Int
  | 0 => 0
  | k + 1 => parD b k + if !b (2 * k) && (b (2 * k + 1) || b ((2 * k + 2) % 8)) then 1 else 0
def goesB (b : Nat → Bool) : Bool := edgD b 8 && decide (1 < cntD b 8) && decide (parD b 4 = 1)
/-- the reference's test: the directions row by row, those with ink, whom the first one leads to -/
def dirsR : List Nat := [7, 0, 1, 6, 2, 5, 4, 3]
def nearD (c d : Nat) : Bool := decide (dX c - dX d ≤ 1 ∧ dX d - dX c ≤ 1 ∧ dY c - dY d ≤ 1 ∧ dY d - dY c ≤ 1)
def metK (l : List Nat) (i : Nat) : Nat → List Bool → List Bool
  | 0, m => m
  | k + 1, m => if (metK l i k m).getD i false && nearD (l.getD i 0) (l.getD k 0) then (metK l i k m).set k true else metK l i k m
def metI (l : List Nat) : Nat → List Bool → List Bool
  | 0, m => m
  | i + 1, m => metK l i l.length (metI l i m)
def metN (l : List Nat) : Nat → List Bool → List Bool
  | 0, m => m
  | n + 1, m => metI l l.length (metN l n m)
def met0 (n : Nat) : List Bool := (List.replicate n false).set 0 true
def goesR (b : Nat → Bool) : Bool := edgD b 8 && decide (2 ≤ (dirsR.filter b).length) && (metN (dirsR.filter b) (dirsR.filter b).length (met0 (dirsR.filter b).length)).all id
def bitD (n d : Nat) : Bool := n / 2 ^ d % 2 == 1
theorem goes_256 : ∀ n : Fin 256, goesB (bitD n.val) = goesR (bitD n.val) := by decide +kernel
theorem bits_ex (b : Nat → Bool) : ∃ n : Fin 256, ∀ d, d < 8 → b d = bitD n.val d := by
  have key : ∀ b0 b1 b2 b3 b4 b5 b6 b7 : Bool, ∃ n : Fin 256, b0 = bitD n.val 0 ∧ b1 = bitD n.val 1 ∧ b2 = bitD n.val 2 ∧ b3 = bitD n.val 3 ∧ b4 = bitD n.val 4 ∧ b5 = bitD n.val 5 ∧ b6 = bitD n.val 6 ∧ b7 = bitD n.val 7 := by
    intro b0 b1 b2 b3 b4 b5 b6 b7
    refine ⟨⟨b0.toNat + 2 * b1.toNat + 4 * b2.toNat + 8 * b3.toNat + 16 * b4.toNat + 32 * b5.toNat + 64 * b6.toNat + 128 * b7.toNat, ?_⟩, ?_⟩
    · cases b0 <;> cases b1 <;> cases b2 <;> cases b3 <;> cases b4 <;> cases b5 <;> cases b6 <;> cases b7 <;> decide
    · cases b0 <;> cases b1 <;> cases b2 <;> cases b3 <;> cases b4 <;> cases b5 <;> cases b6 <;> cases b7 <;> decide
  obtain ⟨n, h0, h1, h2, h3, h4, h5, h6, h7⟩ := key (b 0) (b 1) (b 2) (b 3) (b 4) (b 5) (b 6) (b 7)
  refine ⟨n, fun d hd => ?_⟩
  match d, hd with
  | 0, _ => exact h0
  | 1, _ => exact h1
  | 2, _ => exact h2
  | 3, _ => exact h3
  | 4, _ => exact h4
  | 5, _ => exact h5
  | 6, _ => exact h6
  | 7, _ => exact h7
theorem dirsR_filter {b c : Nat → Bool} (h : ∀ d, d < 8 → b d = c d) : dirsR.filter b = dirsR.filter c := by
  unfold dirsR
  simp only [List.filter, h 0 (by omega), h 1 (by omega), h 2 (by omega), h 3 (by omega), h 4 (by omega), h 5 (by omega), h 6 (by omega), h 7 (by omega)]
theorem goes_congr {b c : Nat → Bool} (h : ∀ d, d < 8 → b d = c d) : goesB b = goesB c ∧ goesR b = goesR c := by
  have e1 : edgD b 8 = edgD c 8 := by simp only [edgD, h 0 (by omega), h 1 (by omega), h 2 (by omega), h 3 (by omega), h 4 (by omega), h 5 (by omega), h 6 (by omega), h 7 (by omega)]
  have e2 : cntD b 8 = cntD c 8 := by simp only [cntD, h 0 (by omega), h 1 (by omega), h 2 (by omega), h 3 (by omega), h 4 (by omega), h 5 (by omega), h 6 (by omega), h 7 (by omega)]
  have e3 : parD b 4 = parD c 4 := by simp only [parD, Nat.reduceMul, Nat.reduceAdd, Nat.reduceMod, h 0 (by omega), h 1 (by omega), h 2 (by omega), h 3 (by omega), h 4 (by omega), h 5 (by omega), h 6 (by omega), h 7 (by omega)]
  exact ⟨by unfold goesB; rw [e1, e2, e3], by unfold goesR; rw [e1, dirsR_filter h]⟩
theorem goes_same (b : Nat → Bool) : goesB b = goesR b := by
  obtain ⟨n, hn⟩ := bits_ex b
  obtain ⟨h1, h2⟩ := goes_congr hn
  rw [h1, h2, goes_256]
theorem cntD_bd (b : Nat → Bool) : ∀ d, 0 ≤ cntD b d ∧ cntD b d ≤ d
  | 0 => by simp [cntD]
  | d + 1 => by
    have := cntD_bd b d
    rw [cntD]; split <;> omega
theorem parD_bd (b : Nat → Bool) : ∀ d, 0 ≤ parD b d ∧ parD b d ≤ d
  | 0 => by simp [parD]
  | d + 1 => by
    have := parD_bd b d
    rw [parD]; split <;> omega
theorem metK_len (l : List Nat) (i : Nat) : ∀ (k : Nat) (m : List Bool), (metK l i k m).length = m.length
  | 0, m => rfl
  | k + 1, m => by
    rw [metK]; split
    · rw [List.length_set, metK_len l i k m]
    · rw [metK_len l i k m]
theorem metI_len (l : List Nat) : ∀ (i : Nat) (m : List Bool), (metI l i m).length = m.length
  | 0, m => rfl
  | i + 1, m => by rw [metI, metK_len, metI_len l i m]
theorem metN_len (l : List Nat) : ∀ (n : Nat) (m : List Bool), (metN l n m).length = m.length
  | 0, m => rfl
  | n + 1, m => by rw [metN, metI_len, metN_len l n m]
end Go.Proofs.YtoonkpjddfiopaaDoor

/- Plain: thinning, pass by pass. No program in sight. -/
namespace Go.Proofs.YtoonkpjddfiopaaDoor
set_option linter.unusedVariables false
/-- the ink around a place -/
def bD (W H : Int) (p : Int → Int) (x y : Int) : Nat → Bool := fun d => inkB W H p (x + dX d) (y + dY d)
def thS (W H : Int) (x y : Int) (p : Int → Int) : Int → Int := if inkB W H p x y && goesB (bD W H p x y) then upd p (y * W + x) 0 else p
def thX (W H : Int) (y : Int) : Nat → (Int → Int) → Int → Int
  | 0, p => p
  | x + 1, p => thS W H x y (thX W H y x p)
def thY (W H : Int) (Wn : Nat) : Nat → (Int → Int) → Int → Int
  | 0, p => p
  | y + 1, p => thX W H y Wn (thY W H Wn y p)
/-- one pass -/
def thP (W H : Nat) (p : Int → Int) : Int → Int := thY W H W H p
def thI (W H : Nat) : Nat → (Int → Int) → Int → Int
  | 0, p => p
  | m + 1, p => thP W H (thI W H m p)
/-- what a thinning ends with -/
def Thinned (W H : Nat) (p q : Int → Int) : Prop := (∃ m, q = thI W H m p) ∧ thP W H q = q
theorem thI_fix {W H : Nat} {q : Int → Int} (h : thP W H q = q) : ∀ m, thI W H m q = q
  | 0 => rfl
  | m + 1 => by rw [thI, thI_fix h m, h]
theorem thI_add (W H : Nat) (p : Int → Int) (a : Nat) : ∀ b, thI W H (a + b) p = thI W H b (thI W H a p)
  | 0 => rfl
  | b + 1 => by rw [← Nat.add_assoc, thI, thI, thI_add W H p a b]
theorem Thinned.uniq {W H : Nat} {p q q' : Int → Int} (h : Thinned W H p q) (h' : Thinned W H p q') : q = q' := by
  obtain ⟨⟨m, rfl⟩, h1⟩ := h
  obtain ⟨⟨m', rfl⟩, h2⟩ := h'
  rcases Nat.le_total m m' with c | c
  · obtain ⟨b, rfl⟩ := Nat.exists_eq_add_of_le c
    rw [thI_add, thI_fix h1]
  · obtain ⟨b, rfl⟩ := Nat.exists_eq_add_of_le c
    rw [thI_add, thI_fix h2]
theorem thS_01 {W H x y : Int} {p : Int → Int} (h : ∀ i, p i = 0 ∨ p i = 1) (i : Int) : thS W H x y p i = 0 ∨ thS W H x y p i = 1 := by
  unfold thS
  split
  · unfold upd; split
    · exact .inl rfl
    · exact h i
  · exact h i
end Go.Proofs.YtoonkpjddfiopaaDoor

/- Walk: whether thinning takes a pixel (image.goes). -/
namespace Go.Proofs.YtoonkpjddfiopaaDoor
open Go.RowKit
set_option linter.unusedVariables false
attribute [local go_sem] Oper.semAt_some

/-- what is known of the neighbours, of which the first k were seen -/
def nbQ (b : Nat → Bool) (k : Nat) : Int → Int := fun i => if i < k then (if b i.toNat then 1 else 0) else 0
theorem nbQ_set (b : Nat → Bool) (k : Nat) {v : Int} (hv : v = if b k then 1 else 0) (i : Int) (h0 : 0 ≤ i) : upd (nbQ b k) k v i = nbQ b (k + 1) i := by
  unfold upd nbQ
  by_cases e : i = k
  · subst e; rw [if_pos rfl, if_pos (by omega), hv, Int.toNat_natCast]
  · rw [if_neg e]
    by_cases e2 : i < k
    · have e3 : i < ((k + 1 : Nat) : Int) := by omega
      rw [if_pos e2, if_pos e3]
    · have e3 : ¬ i < ((k + 1 : Nat) : Int) := by omega
      rw [if_neg e2, if_neg e3]
theorem nbQ_8 (b : Nat → Bool) {j : Nat} (h : j < 8) : nbQ b 8 (j : Int) = if b j then 1 else 0 := by
  unfold nbQ; rw [if_pos (by omega), Int.toNat_natCast]

set_option maxRecDepth 100000 in
set_option maxHeartbeats 4000000 in
theorem goes_any (W H x y : Int) (A : Option Addr) (n c : Nat) (p : Int → Int) (w : World) (hA : ArrB w w.heap.size A n p) (hW0 : 0 ≤ W) (hW : W ≤ 640) (hH0 : 0 ≤ H) (hH : H ≤ 640) (hn : (n : Int) = W * H) (hp : ∀ i : Int, 0 ≤ i → i < n → p i = 0 ∨ p i = 1) (x0 : 0 ≤ x) (x1 : x < 640) (y0 : 0 ≤ y) (y1 : y < 640) :
    Calls Tryd.prog 84 #[.agg #[.int .i64 W, .int .i64 H, .slice A n c], .int .i64 x, .int .i64 y] w fun e w' => e = .returned (.bool (goesB (bD W H p x y))) ∧ Below w.heap.size w w' := by
  have AT := Lib.hid fun k w' hA' => at_all W H A n c (x + dX k) (y + dY k) p w' hA' hW0 hW hH0 hH hn hp
  have hb : Hid (∀ k, inkB W H p (x + dX k) (y + dY k) = bD W H p x y k) := by intro k; rfl
  generalize bD W H p x y = b at *
  have GB : Hid (goesB b = (edgD b 8 && decide (1 < cntD b 8) && decide (parD b 4 = 1))) := by show _ = _; rfl
  have k1 : Blk ((w.alloc (.cells #[.int .i64 W, .int .i64 H, .slice A n c] 24)).alloc (.cells (u8s 8 (nbQ b 0)) 159)) w.heap.size 24 #[.int .i64 W, .int .i64 H, .slice A n c] := (Blk.new _ _ _).alloc _
  have k2 : Blk ((w.alloc (.cells #[.int .i64 W, .int .i64 H, .slice A n c] 24)).alloc (.cells (u8s 8 (nbQ b 0)) 159)) (w.heap.size + 1) 159 (u8s 8 (nbQ b 0)) := Blk.new' (by simp) _ _
  have b1 : Below w.heap.size w ((w.alloc (.cells #[.int .i64 W, .int .i64 H, .slice A n c] 24)).alloc (.cells (u8s 8 (nbQ b 0)) 159)) := by (repeat (first | exact Below.refl _ _ | assumption | refine Below.drew ?_ | refine below_drewN ?_ _ | refine Below.alloc ?_ (by first | omega | (simp; done) | (simp; omega)) _ | refine Below.setCell ?_ (by first | omega | (simp; done) | (simp; omega)) _ | refine below_setRow ?_ (by first | omega | (simp; done) | (simp; omega)) _ ))
  have ez : (u8s 8 (nbQ b 0)) = #[Value.int .u8 0, .int .u8 0, .int .u8 0, .int .u8 0, .int .u8 0, .int .u8 0, .int .u8 0, .int .u8 0] := by
    rw [u8s_congr (r := fun _ => 0) (fun j a _ => by unfold nbQ; rw [if_neg (by omega)]), ← u8s_zero]; rfl
  rw [ez] at k1 k2 b1
  clear hn hp
  go_enter Tryd.func84, Tryd.ntmps84
  go_wp2_with fail
  generalize (w.alloc (.cells #[.int .i64 W, .int .i64 H, .slice A n c] 24)).alloc (.cells #[Value.int .u8 0, .int .u8 0, .int .u8 0, .int .u8 0, .int .u8 0, .int .u8 0, .int .u8 0, .int .u8 0] 159) = w1 at *
  refine (around_any _).mono ?_
  rintro e w2 ⟨rfl, hb2⟩
  rw [← ez] at k2
  replace k1 := k1.below' hb2
  replace k2 := k2.below' hb2
  replace b1 := below_call b1 b1.size hb2
  clear hb2
  have HA := Lib.hid hA
  clear hA ez
  go_wp2_with fail
  go_loopw [8, 9, 15] (fun s8 s9 s15 wr => ∃ k : Nat, k ≤ 8 ∧ s15 = .int .i64 k ∧ s8 = .int .i64 (cntD b k) ∧ s9 = .bool (edgD b k) ∧ Below w.heap.size w wr ∧ Blk wr w.heap.size 24 #[.int .i64 W, .int .i64 H, .slice A n c] ∧ Blk wr (w.heap.size + 1) 159 (u8s 8 (nbQ b k))) (fun _ _ s _ => 8 - (intOf s).toNat)
  case atStart => exact ⟨0, by omega, rfl, rfl, rfl, b1, k1, k2⟩
  case round =>
    obtain ⟨k, hk, rfl, rfl, rfl, b2, m1, m2⟩ := hrel
    clear k1 k2 b1
    obtain ⟨cb1, cb2⟩ := cntD_bd b k
    by_cases hlt : k < 8
    · obtain ⟨d1, d2, d3, d4⟩ := dXY_bd k
      have RI := fun w => around_at k hlt w
      have BK := Lib.hid (hb.out k)
      obtain ⟨gd, hgd⟩ : ∃ g, wr.heap.size = g := ⟨_, rfl⟩
      have AK := Lib.hid (AT.out k)
      have CS : Hid (cntD b (k + 1) = cntD b k + if b k then 1 else 0) := by show _ = _; rfl
      have ES : Hid (edgD b (k + 1) = (edgD b k || (decide (k % 2 = 0) && !b k))) := by show _ = _; rfl
      have NS := Lib.hid fun v hv => nbQ_set b k (v := v) hv
      rw [show inkB W H p (x + dX k) (y + dY k) = b k from hb.out k] at AK
      obtain ⟨cn, hcn⟩ : ∃ v, cntD b k = v := ⟨_, rfl⟩
      obtain ⟨ed, hed⟩ : ∃ v, edgD b k = v := ⟨_, rfl⟩
      obtain ⟨bk, hbk⟩ : ∃ v, b k = v := ⟨_, rfl⟩
      obtain ⟨dx, hdx⟩ : ∃ v, dX k = v := ⟨_, rfl⟩
      obtain ⟨dy, hdy⟩ : ∃ v, dY k = v := ⟨_, rfl⟩
      rw [hcn] at CS cb1 cb2
      rw [hed] at ES
      rw [hbk] at CS ES NS AK
      rw [hdx] at RI AK d1 d2
      rw [hdy] at RI AK d3 d4
      have hn7 := m2.frozen k
      clear BK
      rw [hcn, hed]
      clear hcn hed hbk hdx hdy
      obtain ⟨p1, p2, p3⟩ := (m1.alloc (.cells #[.int .i64 dx, .int .i64 dy] 51)).cells3
      have o1 := m1.alloc (.cells #[.int .i64 dx, .int .i64 dy] 51)
      have o2 := m2.alloc (.cells #[.int .i64 dx, .int .i64 dy] 51)
      have b3 := b2.alloc b2.size (.cells #[.int .i64 dx, .int .i64 dy] 51)
      clear m1 m2 b2 hn7
      go_wp2_with fail
      generalize wr.alloc (.cells #[.int .i64 dx, .int .i64 dy] 51) = w5 at *
      refine (AK.out w5 (HA.out.to b3)).mono ?_
      rintro e w6 ⟨rfl, hb6⟩
      have q1 := o1.below' hb6
      have q2 := o2.below' hb6
      have b4 := below_call b3 b3.size hb6
      have hk0 : (0 : Int) ≤ (k : Int) := by omega
      have hk8 : (k : Int) < (8 : Nat) := by omega
      have hr := q2.u8at hk0 hk8
      have fr := q2.frozen k
      rw [Int.toNat_natCast] at hr
      obtain ⟨z, hz⟩ : ∃ v : Int, (if bk = true then (1 : Int) else 0) = v := ⟨_, rfl⟩
      rw [hz] at CS NS
      rw [hz]
      have U1 := q2.u8set k hk0 z
      rw [Int.toNat_natCast] at U1
      have hr2 := U1.u8at hk0 hk8
      rw [Int.toNat_natCast, upd_at] at hr2
      have U2 := Lib.hid U1
      have Q1 := Lib.hid (q1.far (p := ⟨w.heap.size + 1, k, none⟩) (by simp) (.int .u8 z))
      have B4 := Lib.hid (b4.setCell (p := ⟨w.heap.size + 1, k, none⟩) (by simp) (.int .u8 z))
      clear o1 o2 b3 AK hb6 q1 q2 b4 U1 p1 p2 p3 RI
      by_cases hpar : k % 2 = 0
      · have kt : (k : Int).tmod 2 = 0 := by rw [Int.tmod_eq_emod_of_nonneg hk0]; omega
        have ES1 : Hid (edgD b (k + 1) = (ed || !bk)) := by show _ = _; rw [ES.out]; simp [hpar]
        clear hpar ES
        cases bk <;> cases ed
        all_goals
          simp at hz
          subst hz
          go_wp2
          go_roundw
          case rel => exact ⟨k + 1, by omega, by go_num, by rw [CS.out] <;> simp, by rw [ES1.out] <;> simp, B4.out, Q1.out, U2.out.u8conv fun j a _ => NS.out _ rfl j a⟩
          case measure => simp [intOf]; omega
      · have kt : (k : Int).tmod 2 = 1 := by rw [Int.tmod_eq_emod_of_nonneg hk0]; omega
        have ES1 : Hid (edgD b (k + 1) = ed) := by show _ = _; rw [ES.out]; simp [hpar]
        clear hpar ES
        cases bk <;> cases ed
        all_goals
          simp at hz
          subst hz
          go_wp2
          go_roundw
          case rel => exact ⟨k + 1, by omega, by go_num, by rw [CS.out] <;> simp, by rw [ES1.out], B4.out, Q1.out, U2.out.u8conv fun j a _ => NS.out _ rfl j a⟩
          case measure => simp [intOf]; omega
    · obtain rfl : k = 8 := by omega
      obtain ⟨cn, hcn⟩ : ∃ v, cntD b 8 = v := ⟨_, rfl⟩
      obtain ⟨ed, hed⟩ : ∃ v, edgD b 8 = v := ⟨_, rfl⟩
      rw [hcn, hed] at GB
      rw [hcn] at cb1 cb2
      rw [hcn, hed]
      have nq : ∀ j : Nat, j < 8 → wr.cell? ⟨w.heap.size + 1, j, none⟩ = some (.int .u8 (if b j then 1 else 0)) := fun j hj => by
        have := m2.u8at (i := (j : Int)) (by omega) (by omega)
        rw [Int.toNat_natCast, nbQ_8 b hj] at this
        exact this
      have NQ := Lib.hid nq
      clear nq
      have B2 := Lib.hid b2
      clear m1 m2 hcn hed hb AT HA b2
      go_wp2
      go_loop [12, 13] (fun s12 s13 => ∃ k : Nat, k ≤ 4 ∧ s13 = .int .i64 (2 * k) ∧ s12 = .int .i64 (parD b k)) (fun _ s => 8 - (intOf s).toNat)
      case atStart => exact ⟨0, by omega, rfl, rfl⟩
      case round =>
        obtain ⟨k, hk, rfl, rfl⟩ := hrel
        obtain ⟨pb1, pb2⟩ := parD_bd b k
        by_cases hlt : k < 4
        · have PS : Hid (parD b (k + 1) = parD b k + if !b (2 * k) && (b (2 * k + 1) || b ((2 * k + 2) % 8)) then 1 else 0) := by show _ = _; rfl
          obtain ⟨j, hj⟩ : ∃ j, (2 * k + 2) % 8 = j := ⟨_, rfl⟩
          have hj8 : j < 8 := by omega
          have c0 := NQ.out (2 * k) (by omega)
          have c1 := NQ.out (2 * k + 1) (by omega)
          have c2 := NQ.out j hj8
          rw [hj] at PS
          have kt : (2 * (k : Int) + 2).tmod 8 = (j : Int) := by rw [Int.tmod_eq_emod_of_nonneg (by omega), ← hj]; omega
          have t0 : (2 * (k : Int)).toNat = 2 * k := by omega
          have t1 : (2 * (k : Int) + 1).toNat = 2 * k + 1 := by omega
          obtain ⟨pk, hpk⟩ : ∃ v, parD b k = v := ⟨_, rfl⟩
          obtain ⟨v0, h0⟩ : ∃ v, b (2 * k) = v := ⟨_, rfl⟩
          obtain ⟨v1, h1⟩ : ∃ v, b (2 * k + 1) = v := ⟨_, rfl⟩
          obtain ⟨v2, h2⟩ : ∃ v, b j = v := ⟨_, rfl⟩
          rw [h0] at c0 PS
          rw [h1] at c1 PS
          rw [h2] at c2 PS
          rw [hpk] at PS pb1 pb2
          rw [hpk]
          clear hj h0 h1 h2 hpk
          cases v0 <;> cases v1 <;> cases v2
          all_goals
            simp only [reduceIte, Bool.false_eq_true] at c0 c1 c2
            go_wp2
            go_round
            case rel => exact ⟨k + 1, by omega, by go_num, by rw [PS.out] <;> simp⟩
            case measure => simp [intOf]; omega
        · obtain rfl : k = 4 := by omega
          obtain ⟨pk, hpk⟩ : ∃ v, parD b 4 = v := ⟨_, rfl⟩
          rw [hpk] at GB pb1 pb2
          rw [hpk]
          clear hpk
          cases ed
          · go_wp2
            go_ret
            exact ⟨ret_bool (by rw [GB.out]; simp), B2.out⟩
          · by_cases hc : 1 < cn
            · by_cases hp1 : pk = 1
              · subst hp1
                go_wp2
                go_ret
                exact ⟨ret_bool (by rw [GB.out]; simp [hc]), B2.out⟩
              · have hpb : (pk == 1) = false := by simp [hp1]
                have HP := Lib.hid hp1
                clear hp1
                go_wp2
                go_ret
                exact ⟨ret_bool (by rw [GB.out]; simp [HP.out]), B2.out⟩
            · have HC : Hid (decide (1 < cn) = false) := by show _ = _; exact decide_eq_false hc
              go_wp2
              go_ret
              exact ⟨ret_bool (by rw [GB.out]; simp [HC.out]), B2.out⟩
end Go.Proofs.YtoonkpjddfiopaaDoor
