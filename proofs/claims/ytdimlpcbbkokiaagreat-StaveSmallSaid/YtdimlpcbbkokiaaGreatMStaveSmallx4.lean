/- Texts of mine in build order: T11, S5, T12, S6, T13, T14, T27. Conditions: each theorem's own. -/
import Derived.Test.YtdimlpcbbkokiaaGreatMStaveSmallx3
import Derived.Shelf.SlSortCmp.Whole1
import Derived.Shelf.SlSortCmp.NoneTotal
import Derived.Lib.LazyBuf
import Derived.Deep.RegionHeld3
import Derived.Deep.AppendLies
/- The library's sort at the lines: the contract laid at this program, and what it says of a row of slices. -/
namespace Go.Proofs.YtdimlpcbbkokiaaGreat
open Go.RowKit Go.Shelf Go.Sort
set_option linter.unusedVariables false
attribute [local go_sem] Oper.semAt_some

def Tryz.sortLines_ren : Go.Shelf.Ren := ⟨fun | 6 => 18 | 15 => 64 | 14 => 63 | 28 => 105 | 29 => 106 | 20 => 97 | 21 => 98 | 22 => 99 | 23 => 100 | 24 => 101 | 25 => 102 | 26 => 103 | 27 => 104 | 46 => 114 | 47 => 115 | 48 => 116 | 49 => 117 | 50 => 118 | 57 => 127 | n => n, fun | 22 => 25 | 24 => 37 | 25 => 52 | 3 => 3 | 39 => 97 | 0 => 0 | 53 => 131 | 55 => 133 | 4 => 4 | 46 => 124 | 45 => 123 | 50 => 128 | 5 => 5 | 9 => 9 | 66 => 138 | 70 => 142 | 76 => 149 | 77 => 31 | n => n, fun | n => n⟩
theorem Tryz.sortLines : Go.Proofs.SlLaysF.n6 Tryz.prog Tryz.sortLines_ren := {
  mixed := by kernel_rfl
  f6 := ⟨Tryz.f18.name, by decide, Tryz.func18.trans (congrArg some (by kernel_rfl))⟩
  f14 := ⟨Tryz.f63.name, by decide, Tryz.func63.trans (congrArg some (by kernel_rfl))⟩
  f15 := Tryz.func64.trans (congrArg some (by kernel_rfl))
  f20 := ⟨Tryz.f97.name, by decide, Tryz.func97.trans (congrArg some (by kernel_rfl))⟩
  f21 := ⟨Tryz.f98.name, by decide, Tryz.func98.trans (congrArg some (by kernel_rfl))⟩
  f22 := ⟨Tryz.f99.name, by decide, Tryz.func99.trans (congrArg some (by kernel_rfl))⟩
  f23 := ⟨Tryz.f100.name, by decide, Tryz.func100.trans (congrArg some (by kernel_rfl))⟩
  f24 := ⟨Tryz.f101.name, by decide, Tryz.func101.trans (congrArg some (by kernel_rfl))⟩
  f25 := ⟨Tryz.f102.name, by decide, Tryz.func102.trans (congrArg some (by kernel_rfl))⟩
  f26 := ⟨Tryz.f103.name, by decide, Tryz.func103.trans (congrArg some (by kernel_rfl))⟩
  f27 := ⟨Tryz.f104.name, by decide, Tryz.func104.trans (congrArg some (by kernel_rfl))⟩
  f28 := Tryz.func105.trans (congrArg some (by kernel_rfl))
  f29 := Tryz.func106.trans (congrArg some (by kernel_rfl))
  f46 := ⟨Tryz.f114.name, by decide, Tryz.func114.trans (congrArg some (by kernel_rfl))⟩
  f47 := Tryz.func115.trans (congrArg some (by kernel_rfl))
  f48 := Tryz.func116.trans (congrArg some (by kernel_rfl))
  f49 := ⟨Tryz.f117.name, by decide, Tryz.func117.trans (congrArg some (by kernel_rfl))⟩
  f50 := ⟨Tryz.f118.name, by decide, Tryz.func118.trans (congrArg some (by kernel_rfl))⟩
  f57 := ⟨Tryz.f127.name, by decide, Tryz.func127.trans (congrArg some (by kernel_rfl))⟩
  t0 := Tryz.underlying0
  a0 := Tryz.isAgg0
  z0 := Tryz.sizeOf0
  v0 := Tryz.zeroValue0
  t3 := Tryz.underlying3
  a3 := Tryz.isAgg3
  z3 := Tryz.sizeOf3
  v3 := Tryz.zeroValue3
  t4 := Tryz.underlying4
  a4 := Tryz.isAgg4
  z4 := Tryz.sizeOf4
  v4 := Tryz.zeroValue4
  t5 := Tryz.underlying5
  a5 := Tryz.isAgg5
  z5 := Tryz.sizeOf5
  v5 := Tryz.zeroValue5
  t9 := Tryz.underlying9
  a9 := Tryz.isAgg9
  z9 := Tryz.sizeOf9
  v9 := Tryz.zeroValue9
  t22 := Tryz.underlying25
  a22 := Tryz.isAgg25
  z22 := Tryz.sizeOf25
  v22 := Tryz.zeroValue25
  a24 := Tryz.isAgg37
  z24 := Tryz.sizeOf37
  t25 := Tryz.underlying52
  a25 := Tryz.isAgg52
  z25 := Tryz.sizeOf52
  v25 := Tryz.zeroValue52
  t39 := Tryz.underlying97
  a39 := Tryz.isAgg97
  z39 := Tryz.sizeOf97
  v39 := Tryz.zeroValue97
  t45 := Tryz.underlying123
  a45 := Tryz.isAgg123
  z45 := Tryz.sizeOf123
  v45 := Tryz.zeroValue123
  t46 := Tryz.underlying124
  a46 := Tryz.isAgg124
  z46 := Tryz.sizeOf124
  v46 := Tryz.zeroValue124
  t50 := Tryz.underlying128
  a50 := Tryz.isAgg128
  z50 := Tryz.sizeOf128
  v50 := Tryz.zeroValue128
  t53 := Tryz.underlying131
  a53 := Tryz.isAgg131
  z53 := Tryz.sizeOf131
  v53 := Tryz.zeroValue131
  t55 := Tryz.underlying133
  a55 := Tryz.isAgg133
  z55 := Tryz.sizeOf133
  v55 := Tryz.zeroValue133
  t66 := Tryz.underlying138
  a66 := Tryz.isAgg138
  z66 := Tryz.sizeOf138
  v66 := Tryz.zeroValue138
  t70 := Tryz.underlying142
  a70 := Tryz.isAgg142
  z70 := Tryz.sizeOf142
  v70 := Tryz.zeroValue142
  t76 := Tryz.underlying149
  a76 := Tryz.isAgg149
  z76 := Tryz.sizeOf149
  v76 := Tryz.zeroValue149
  t77 := Tryz.underlying31
  a77 := Tryz.isAgg31
  z77 := Tryz.sizeOf31
  v77 := Tryz.zeroValue31 }

set_option maxHeartbeats 1000000 in
theorem cmp_any (A A' : Option Addr) (m c m' c' : Nat) (q q' : Int → Int) (w : World) (h : ArrI w w.heap.size A m q) (h' : ArrI w w.heap.size A' m' q') (hm : 0 < m) (hm' : 0 < m') (hq : 0 ≤ q 0 ∧ q 0 ≤ 1000) (hq' : 0 ≤ q' 0 ∧ q' 0 ≤ 1000) :
    Calls Tryz.prog 19 #[.slice A m c, .slice A' m' c'] w fun e w' => e = .returned (.int .i64 (q 0 - q' 0)) ∧ ∃ k, w' = w.drewN k := by
  obtain ⟨b, off, rfl, hb, hc⟩ := ArrI.at_ h (i := 0) (by omega) (by omega)
  obtain ⟨b', off', rfl, hb', hc'⟩ := ArrI.at_ h' (i := 0) (by omega) (by omega)
  rw [show off + (0 : Int).toNat = off from rfl] at hc
  rw [show off' + (0 : Int).toNat = off' from rfl] at hc'
  obtain ⟨q1, q2⟩ := hq
  obtain ⟨q3, q4⟩ := hq'
  generalize q 0 = a at *
  generalize q' 0 = a' at *
  have v1 : IntKind.i64.wrap (a - a') = a - a' := IntWalk.i64_in _ (by omega)
  clear h h'
  go_enter Tryz.func19, Tryz.ntmps19
  go_wp2_with fail
  go_quiet (fail)
  go_wp2
  go_ret
  exact ⟨rfl, _, rfl⟩

theorem heap_sortWorld {α : Type} [Inhabited α] (enc : α → Value) (w : World) (blk off m : Nat) (d : Array α) (os : Array Obj) {k : Nat} (hk : k < w.heap.size) (hn : k ≠ blk) : (Go.Proofs.sortWorld enc w blk off m d os).heap[k]? = w.heap[k]? := by
  unfold Go.Proofs.sortWorld
  rw [heap_grow_old _ _ (by simpa [putRow, mapBlock, ahead] using hk)]
  show (w.heap.modify blk _)[k]? = _
  rw [Array.getElem?_modify, if_neg (fun e => hn e.symm)]
theorem heap_sortWorld_row {α : Type} [Inhabited α] (enc : α → Value) (w : World) (blk off m : Nat) (d : Array α) (os : Array Obj) {cs : Array Value} {e : TypeId} (h : w.heap[blk]? = some (.cells cs e (0, 0))) : (Go.Proofs.sortWorld enc w blk off m d os).heap[blk]? = some (.cells (putCells enc off d cs) e (0, 0)) := by
  have hk := (Array.getElem?_eq_some_iff.1 h).1
  unfold Go.Proofs.sortWorld
  rw [heap_grow_old _ _ (by simpa [putRow, mapBlock, ahead] using hk)]
  show (w.heap.modify blk _)[blk]? = _
  rw [Array.getElem?_modify, if_pos rfl, h]; rfl
theorem size_sortWorld {α : Type} [Inhabited α] (enc : α → Value) (w : World) (blk off m : Nat) (d : Array α) (os : Array Obj) : w.heap.size ≤ (Go.Proofs.sortWorld enc w blk off m d os).heap.size := by
  unfold Go.Proofs.sortWorld
  rw [size_grow]
  simp [putRow, mapBlock]
theorem putCells_take {α : Type} [Inhabited α] (enc : α → Value) (d : Array α) (cs : Array Value) (h : d.size ≤ cs.size) : (putCells enc 0 d cs).toList.take d.size = d.toList.map enc := by
  apply List.ext_getElem?
  intro i
  rw [List.getElem?_take]
  by_cases hi : i < d.size
  · rw [if_pos hi, List.getElem?_map]
    show (putCells enc 0 d cs).toList[i]? = _
    rw [Array.getElem?_toList]
    unfold putCells
    rw [Array.getElem?_mapIdx, Array.getElem?_eq_getElem (by omega), Option.map_some, if_pos (by omega), Nat.sub_zero, Array.getElem?_toList, Array.getElem?_eq_getElem hi, getElem!_pos d i hi]
    rfl
  · rw [if_neg hi, List.getElem?_map, Array.getElem?_toList, Array.getElem?_eq_none (by omega)]; rfl

set_option maxHeartbeats 1000000 in
/-- the lines are put in the order of their first rows -/
theorem sort_any (K cap blk base m : Nat) (v : Nat → Value) (q : Nat → Int → Int) (w : World) (h0 : 0 < K) (hK : K ≤ 60)
    (hown : w.ownsRow base 37 1 (.slice (some ⟨blk, 0, none⟩) K cap) K ((List.range K).map v))
    (hl : ∀ i, i < K → ∃ b off c, v i = .slice (some ⟨b, off, none⟩) m c ∧ b ≠ blk ∧ ArrI w w.heap.size (some ⟨b, off, none⟩) m (q i)) (hm : 0 < m) (hq : ∀ i, i < K → 0 ≤ q i 0 ∧ q i 0 ≤ 1000) :
    Calls Tryz.prog 18 #[.slice (some ⟨blk, 0, none⟩) K cap, .func (.func 19) #[] #[]] w fun e w' => e = .returned (.tuple #[]) ∧
      ∃ l : List Nat, l.Perm (List.range K) ∧ l.Pairwise (fun i j => q i 0 ≤ q j 0) ∧ w'.ownsRow base 37 1 (.slice (some ⟨blk, 0, none⟩) K cap) K (l.map v) ∧ But w.heap.size blk w w' := by
  obtain ⟨hlen, hh⟩ := hown
  rcases hh with ⟨h, -⟩ | ⟨g, cap', cur, hv, hg, hcell, hcap, hmax, hsz, htake⟩
  · cases h
  injection hv with hv1 hv2 hv3
  injection hv1 with hv1
  injection hv1 with hv1
  subst hv1 hv3
  rw [Nat.mul_one] at hsz htake
  obtain ⟨enc, henc⟩ : ∃ enc : Nat → Value, enc = fun i => v (if i < K then i else 0) := ⟨_, rfl⟩
  obtain ⟨key, hkey⟩ : ∃ key : Nat → Int, key = fun i => q (if i < K then i else 0) 0 := ⟨_, rfl⟩
  have hin : ∀ i, (if i < K then i else 0) < K := fun i => by split <;> omega
  have h1 : OneCell enc := fun x => by
    obtain ⟨b, off, c, e, -⟩ := hl _ (hin x)
    rw [henc]; show (v _).oneCell' = true
    rw [e]; rfl
  have hO : SWO (ltOf fun i j => key i - key j) := ⟨fun x => by simp [ltOf], fun x y z a b => by simp only [ltOf, decide_eq_true_eq] at *; omega, fun x y z a b => by simp only [ltOf, decide_eq_false_iff_not] at *; omega⟩
  have hH : Holds enc w blk 0 (List.range K).toArray := fun j hj => by
    rw [List.size_toArray, List.length_range] at hj
    rw [Nat.zero_add]
    refine ⟨?_, frozen_of_row w blk j cur _ hcell⟩
    rw [cell_of_row w blk j cur _ (0, 0) hcell, getElem!_pos _ j (by simpa using hj)]
    have : (cur.toList.take K)[j]? = ((List.range K).map v)[j]? := by rw [htake]
    rw [List.getElem?_take, if_pos hj, List.getElem?_map, List.getElem?_range hj, Array.getElem?_toList] at this
    rw [this]
    simp [henc, hj]
  have hcmp : CmpReads Tryz.prog 19 #[] enc (fun i j => key i - key j) blk 0 K w := fun n os dk hdk x y => by
    obtain ⟨b, off, c, e, hb, ha⟩ := hl _ (hin x)
    obtain ⟨b', off', c', e', hb', ha'⟩ := hl _ (hin y)
    rw [henc, hkey]
    show Calls Tryz.prog _ #[v _, v _] _ _
    rw [e, e']
    have hk : ∀ {b off : Nat} {f : Int → Int}, b ≠ blk → ArrI w w.heap.size (some ⟨b, off, none⟩) m f → ArrI (Go.Proofs.sortWorld (fun i => v (if i < K then i else 0)) w blk 0 n dk os) (Go.Proofs.sortWorld (fun i => v (if i < K then i else 0)) w blk 0 n dk os).heap.size (some ⟨b, off, none⟩) m f := fun hn hf hm => by
      obtain ⟨b1, off1, e1, hlt, hc⟩ := hf hm
      cases e1
      refine ⟨_, _, rfl, Nat.lt_of_lt_of_le hlt (size_sortWorld _ _ _ _ _ _ _), fun i i0 i1 => ?_⟩
      rw [← hc i i0 i1]
      exact World.cell?_of_block (heap_sortWorld _ _ _ _ _ _ _ hlt hn)
    exact cmp_any _ _ m c m c' _ _ _ (hk hb ha) (hk hb' ha') hm hm (hq _ (hin x)) (hq _ (hin y))
  have eg : ∀ args w, (callFunc 19 args).run Tryz.prog w = .ok (.enter 19 args) w := enters_of Tryz.func19 (by kernel_rfl) rfl
  have hlt := (Array.getElem?_eq_some_iff.1 hcell).1
  have hcon := Any.slices_SortFunc Tryz.sortLines enc h1 (fun i j => key i - key j) hO 19 #[] blk 0 cap (List.range K).toArray w eg (by rw [List.size_toArray, List.length_range]; exact hcmp.lays) hH hlt (by rw [List.size_toArray, List.length_range]; omega)
  rw [List.size_toArray, List.length_range] at hcon
  refine hcon.mono ?_
  rintro e w' ⟨rfl, d', n, os, hp, hs, rfl⟩
  obtain ⟨p1, -, p3⟩ := hp
  have p1 : d'.size = K := by simpa using p1
  have p3 : d'.toList.Perm (List.range K) := by
    have e1 : d'.extract 0 K = d' := by rw [← p1]; exact Array.extract_size
    have e2 : (List.range K).toArray.extract 0 K = (List.range K).toArray := by simp
    rw [e1, e2] at p3
    exact p3
  have hmem : ∀ i ∈ d'.toList, i < K := fun i hi => List.mem_range.1 (p3.mem_iff.1 hi)
  refine ⟨rfl, d'.toList, p3, ?_, ⟨by simp [p1], .inr ⟨blk, cap, putCells enc 0 d' cur, rfl, hg, heap_sortWorld_row _ _ _ _ _ _ _ hcell, hcap, hmax, by rw [Nat.mul_one]; simp [putCells, hsz], ?_⟩⟩, ⟨rfl, rfl, rfl, size_sortWorld _ _ _ _ _ _ _, fun j hj hn => heap_sortWorld _ _ _ _ _ _ _ hj hn⟩⟩
  · rw [List.pairwise_iff_getElem]
    intro i j hi hj hij
    rw [Array.length_toList, p1] at hi hj
    have := hs i j (Nat.zero_le _) hij hj
    rw [getElem!_pos d' i (by omega), getElem!_pos d' j (by omega)] at this
    simp only [ltOf, decide_eq_false_iff_not, hkey] at this
    have hi' := hmem d'[i] (by simp)
    have hj' := hmem d'[j] (by simp)
    rw [if_pos hi', if_pos hj'] at this
    simp only [Array.getElem_toList]
    omega
  · rw [Nat.mul_one, ← p1, putCells_take enc d' cur (by omega)]
    apply List.map_congr_left
    intro i hi
    rw [henc]; show v _ = v i
    rw [if_pos (hmem i hi)]
end Go.Proofs.YtdimlpcbbkokiaaGreat

/- Plain: the lines that are found one after the other, and what each marks as forbidden. No program in sight. -/
namespace Go.Proofs.YtdimlpcbbkokiaaGreat
open Go.RowKit
set_option linter.unusedVariables false

/-- what is forbidden behind a line -/
def mkF (W : Int) (f : Int → Bool) (P : Nat → Int) : Int → Bool := fun i => f i || decide (P (i % W).toNat - 2 ≤ i / W ∧ i / W ≤ P (i % W).toNat + 2)
/-- the same while it is marked: the columns before x, and column x up to row t -/
def mkR (W : Int) (f : Int → Bool) (P : Nat → Int) (x : Nat) (t : Int) : Int → Bool := fun i =>
  f i || decide ((i % W < x ∧ P (i % W).toNat - 2 ≤ i / W ∧ i / W ≤ P (i % W).toNat + 2) ∨ (i % W = x ∧ P (i % W).toNat - 2 ≤ i / W ∧ i / W < t))
section
variable {W H : Int} {f : Int → Bool} {P : Nat → Int}
theorem bool_or_congr {a : Bool} {p q : Prop} [Decidable p] [Decidable q] (h : p ↔ q) : (a || decide p) = (a || decide q) := by
  rw [show decide p = decide q from by simp [h]]
theorem mkR_zero {i : Int} (hW : 0 < W) : mkR W f P 0 (P 0 - 2) i = f i := by
  unfold mkR
  have h1 : 0 ≤ i % W := Int.emod_nonneg _ (by omega)
  rw [show decide _ = false from decide_eq_false ?_, Bool.or_false]
  rintro (⟨h, -, -⟩ | ⟨h, h2, h3⟩)
  · omega
  · rw [h] at h2
    simp only [Int.natCast_zero, Int.toNat_zero] at h2
    omega
theorem mkR_start {x : Nat} {t i : Int} (h0 : 0 ≤ i) (hW : 0 < W) (ht : t = if P x - 2 < 0 then 0 else P x - 2) : mkR W f P x (P x - 2) i = mkR W f P x t i := by
  unfold mkR
  have h2 : 0 ≤ i / W := Int.ediv_nonneg h0 (by omega)
  refine bool_or_congr (or_congr Iff.rfl ?_)
  refine and_congr_right fun h => ?_
  rw [h, Int.toNat_natCast]
  split at ht <;> omega
theorem mkR_set {x : Nat} {t : Int} (hx : (x : Int) < W) (h1 : P x - 2 ≤ t) (i : Int) : (if i = t * W + x then true else mkR W f P x t i) = mkR W f P x (t + 1) i := by
  have a := idx_mod (x := (x : Int)) (y := t) (W := W) (by omega) hx
  have b := idx_div (x := (x : Int)) (y := t) (W := W) (by omega) hx
  by_cases e : i = t * W + x
  · rw [if_pos e]
    subst e
    unfold mkR
    rw [a, b, Int.toNat_natCast, show decide _ = true from decide_eq_true (.inr ⟨rfl, h1, by omega⟩), Bool.or_true]
  · rw [if_neg e]
    unfold mkR
    refine bool_or_congr (or_congr Iff.rfl ?_)
    refine and_congr_right fun h => ?_
    have : i / W ≠ t := fun h2 => e (by
      have := Int.emod_add_mul_ediv i W
      rw [h, h2, Int.mul_comm] at this; omega)
    omega
theorem mkR_col {x : Nat} {t i : Int} (h0 : 0 ≤ i) (hi : i < W * H) (hW : 0 < W) (ht : (if P x + 2 < H - 1 then P x + 2 else H - 1) < t) (ht2 : t ≤ P x + 3) : mkR W f P x t i = mkR W f P (x + 1) (P (x + 1) - 2) i := by
  have h1 : i / W < H := Int.ediv_lt_of_lt_mul hW (by rw [Int.mul_comm]; exact hi)
  unfold mkR
  refine bool_or_congr ?_
  constructor
  · rintro (⟨a, b, c⟩ | ⟨a, b, c⟩)
    · exact .inl ⟨by omega, b, c⟩
    · refine .inl ⟨by omega, b, ?_⟩
      rw [a, Int.toNat_natCast]
      omega
  · rintro (⟨a, b, c⟩ | ⟨a, b, c⟩)
    · by_cases e : i % W = x
      · refine .inr ⟨e, b, ?_⟩
        rw [e, Int.toNat_natCast] at c
        split at ht <;> omega
      · exact .inl ⟨by omega, b, c⟩
    · rw [a, Int.toNat_natCast] at b
      omega
theorem mkR_end {n : Nat} {i : Int} (hW : 0 < W) (hn : (n : Int) = W) : mkR W f P n (P n - 2) i = mkF W f P i := by
  unfold mkR mkF
  have h1 : i % W < W := Int.emod_lt_of_pos _ hW
  refine bool_or_congr ?_
  constructor
  · rintro (⟨a, b, c⟩ | ⟨a, b, c⟩)
    · exact ⟨b, c⟩
    · omega
  · rintro ⟨b, c⟩
    exact .inl ⟨by omega, b, c⟩
end

section
variable (N W H : Int) (c : Int → Int → Int)
/-- what is forbidden when k lines are found -/
def FB : Nat → Int → Bool
  | 0 => fun _ => false
  | k + 1 => mkF W (FB k) (pathP N W H c fun x y => FB k (y * W + x))
/-- line number k, in the order of finding, and its cost -/
def LN (k : Nat) : Nat → Int := pathP N W H c fun x y => FB N W H c k (y * W + x)
def GC (k : Nat) : Int := gAt N W H c (fun x y => FB N W H c k (y * W + x)) 0 (LN N W H c k 0)
def Good (k : Nat) : Prop := GC N W H c k < N ∧ 8 * GC N W H c k ≤ W
/-- so many lines are found -/
def Many (k : Nat) : Prop := k ≤ 60 ∧ (∀ j, j < k → Good N W H c j) ∧ (k < 60 → ¬ Good N W H c k)
end
theorem Many.uniq {N W H : Int} {c : Int → Int → Int} {k k' : Nat} (h : Many N W H c k) (h' : Many N W H c k') : k = k' := by
  rcases Nat.lt_trichotomy k k' with g | g | g
  · exact absurd (h'.2.1 k g) (h.2.2 (by have := h'.1; omega))
  · exact g
  · exact absurd (h.2.1 k' g) (h'.2.2 (by have := h.1; omega))

theorem ln_ok {N W H : Int} {c : Int → Int → Int} {k : Nat} (hc : ∀ x y, 0 ≤ c x y ∧ c x y ≤ 2) (hN : 3 * W < N) (hW : 0 < W) (hH : 0 < H) (hg : GC N W H c k < N) (x : Nat) (hx : (x : Int) < W) :
    0 ≤ LN N W H c k x ∧ LN N W H c k x < H ∧ FB N W H c k (LN N W H c k x * W + x) = false := by
  obtain ⟨h1, h2, h3⟩ := path_ok (F := fun x y => FB N W H c k (y * W + x)) hc hN hH hW hg x hx
  refine ⟨h1, h2, ?_⟩
  cases hF : FB N W H c k (LN N W H c k x * W + x) with
  | false => rfl
  | true =>
    exfalso
    have hF' : (fun x y => FB N W H c k (y * W + x)) (x : Int) (pathP N W H c (fun x y => FB N W H c k (y * W + x)) x) = true := hF
    by_cases hl : (x : Int) < W - 1
    · rw [gAt_step (by omega) hl, if_pos hF'] at h3; omega
    · have e : (x : Int) = W - 1 := by omega
      rw [e] at h3 hF'
      rw [gAt_last, if_pos hF'] at h3; omega

/-- the cells of a row of truth values -/
def bools (n : Nat) (f : Int → Bool) : Array Value := cellsF n fun j => .bool (f j)
theorem bools_congr {n : Nat} {f f' : Int → Bool} (he : ∀ i : Int, 0 ≤ i → i < n → f i = f' i) : bools n f = bools n f' := cellsF_congr fun j a b => by rw [he j a b]
theorem Blk.bset {w : World} {g t n : Nat} {f : Int → Bool} (h : Blk w g t (bools n f)) (i : Int) (h0 : 0 ≤ i) (b : Bool) : Blk (w.setCell ⟨g, i.toNat, none⟩ (.bool b)) g t (bools n fun j => if j = i then b else f j) := by
  have e : (bools n f).setIfInBounds i.toNat (.bool b) = bools n fun j => if j = i then b else f j := by
    unfold bools
    rw [cellsF_set n _ i h0]
    exact cellsF_congr fun j _ _ => by
      show (if j = i then Value.bool b else Value.bool (f j)) = Value.bool (if j = i then b else f j)
      split <;> rfl
  rw [← e]
  exact h.set_ i.toNat (.bool b)
theorem Blk.bconv {w : World} {g t n : Nat} {f f' : Int → Bool} (h : Blk w g t (bools n f)) (he : ∀ i : Int, 0 ≤ i → i < n → f i = f' i) : Blk w g t (bools n f') := by
  rw [← bools_congr he]; exact h
theorem bools_zero (n : Nat) : Array.replicate n (Value.bool false) = bools n (fun _ => false) := replicate_cellsF _ _
end Go.Proofs.YtdimlpcbbkokiaaGreat

/- Walk: the lines of an image (stave.Trace). -/
namespace Go.Proofs.YtdimlpcbbkokiaaGreat
open Go.RowKit Go.Shelf
set_option linter.unusedVariables false
attribute [local go_sem] Oper.semAt_some

theorem infoBool : (Tryz.prog.info? 4).map (fun i => (i.zero, i.size, i.bytes)) = some (some (.bool false), 1, 1) := by kernel_rfl
theorem infoInts : (Tryz.prog.info? 37).map (fun i => (i.zero, i.size, i.bytes)) = some (some (.slice none 0 0), 1, 24) := by kernel_rfl
theorem makeO (n : Int) (h0 : 0 ≤ n) (h : n ≤ 140737488355328) (w : World) : (Instr.makeSlice 48 (.int .i64 n) (.int .i64 n)).run Tryz.prog w =
    .ok (.slice (some ⟨w.heap.size, 0, none⟩) n.toNat n.toNat) (w.alloc (.cells (bools n.toNat (fun _ => false)) 4)) := by
  obtain ⟨i, hi, hz, hs, hb⟩ := info_parts infoBool
  have := run_make (P := Tryz.prog) w 48 4 i _ Tryz.underlying48 hi hz .i64 .i64 n n h0 (Int.le_refl _) (by rw [hb]; omega) (by omega)
  rw [this, hs]
  have e : madeCells (Value.bool false).cells (n.toNat * 1) = bools n.toNat (fun _ => false) := by
    rw [← bools_zero]
    apply Array.ext_getElem?
    intro j
    simp only [madeCells, Value.cells, Nat.mul_one]
    by_cases hj : j < n.toNat <;> simp [hj, Nat.mod_one]
  rw [e]

/-- k lines, a slice each, in memory of the call's own -/
structure Found (B : Nat) (w : World) (m : Nat) (ln : Nat → Nat → Int) (k : Nat) (vo : Value) (v : Nat → Value) : Prop where
  row : w.ownsRow B 37 1 vo k ((List.range k).map v)
  lines : ∀ i, i < k → w.ownsRow B 3 1 (v i) m ((List.range m).map fun j => Value.int .i64 (ln i j))
theorem Found.below {B : Nat} {w w' : World} {m : Nat} {ln : Nat → Nat → Int} {k : Nat} {vo : Value} {v : Nat → Value} (h : Found B w m ln k vo v) (hb : Below w.heap.size w w') : Found B w' m ln k vo v :=
  ⟨own_below h.row hb, fun i hi => own_below (h.lines i hi) hb⟩
theorem Found.far {B : Nat} {w : World} {m g t : Nat} {cs : Array Value} {ln : Nat → Nat → Int} {k : Nat} {vo : Value} {v : Nat → Value} (h : Found B w m ln k vo v) (hb : Blk w g t cs) (h1 : t ≠ 37) (h2 : t ≠ 3) (o : Nat) (u : Value) : Found B (w.setCell ⟨g, o, none⟩ u) m ln k vo v :=
  ⟨own_far h.row hb h1.symm o u, fun i hi => own_far (h.lines i hi) hb h2.symm o u⟩

/-- an owned row of numbers, read -/
theorem own_arrI {w : World} {B m : Nat} {v : Value} {q : Nat → Int} (h : w.ownsRow B 3 1 v m ((List.range m).map fun j => Value.int .i64 (q j))) : ∃ A c, v = .slice A m c ∧ ArrI w w.heap.size A m (fun j => q j.toNat) := by
  obtain ⟨A, c, e, -, ha⟩ := own_arr h
  refine ⟨A, c, e, Arr.congr ha fun i i0 i1 => ?_⟩
  rw [List.getD_eq_getElem?_getD, List.getElem?_map, List.getElem?_range (by omega)]
  rfl
theorem own_some {w : World} {B e m : Nat} {v : Value} {xs : List Value} (h : w.ownsRow B e 1 v m xs) (hm : 0 < m) : ∃ g c, v = .slice (some ⟨g, 0, none⟩) m c := by
  rcases h.2 with ⟨-, h2⟩ | ⟨g, cap, cur, hv, -⟩
  · omega
  · exact ⟨g, cap, hv⟩

theorem sort_found (B m k : Nat) (ln : Nat → Nat → Int) (vo : Value) (v : Nat → Value) (w : World) (h : Found B w m ln k vo v) (hk : k ≤ 60) (hm : 0 < m) (hq : ∀ i, i < k → 0 ≤ ln i 0 ∧ ln i 0 ≤ 1000) :
    Calls Tryz.prog 18 #[vo, .func (.func 19) #[] #[]] w fun e w' => e = .returned (.tuple #[]) ∧
      ∃ l : List Nat, l.Perm (List.range k) ∧ l.Pairwise (fun i j => ln i 0 ≤ ln j 0) ∧ w'.ownsRow B 37 1 vo k (l.map v) ∧ (∀ i, i < k → w'.ownsRow B 3 1 (v i) m ((List.range m).map fun j => Value.int .i64 (ln i j))) ∧ w.grownBy w' vo.ownBlock := by
  by_cases h0 : 0 < k
  · obtain ⟨blk, cap, rfl⟩ := own_some h.row h0
    refine (sort_any k cap blk B m v (fun i j => ln i j.toNat) w h0 hk h.row (fun i hi => ?_) hm (fun i hi => hq i hi)).mono ?_
    · obtain ⟨g, c, e⟩ := own_some (h.lines i hi) hm
      obtain ⟨A, c', e', ha⟩ := own_arrI (h.lines i hi)
      rw [e] at e'
      cases e'
      refine ⟨g, 0, c, e, fun hg => ?_, ha⟩
      exact own_apart h.row (h.lines i hi) (by decide) (k := blk) rfl (by rw [e, hg]; rfl)
    · rintro e w' ⟨rfl, l, l1, l2, l3, l4⟩
      have hg : w.grownBy w' (Value.slice (some ⟨blk, 0, none⟩) k cap).ownBlock := ⟨l4.os, l4.tape, l4.output, l4.size, fun j hj hn => l4.block j hj (fun e => hn (by rw [e]; rfl))⟩
      exact ⟨rfl, l, l1, l2, l3, fun i hi => own_grown (h.lines i hi) h.row (by decide) hg, hg⟩
  · obtain rfl : k = 0 := by omega
    obtain ⟨A, c, rfl, -, -⟩ := own_arr h.row
    refine (AnyF.slices_SortFunc_none (P := Tryz.prog) (ρ := Tryz.sortLines_ren) { Tryz.sortLines with } A c (.func (.func 19) #[] #[]) w).mono ?_
    rintro e w' ⟨rfl, rfl⟩
    exact ⟨rfl, [], List.Perm.refl _, List.Pairwise.nil, h.row, h.lines, World.grownBy.refl _ _⟩

/-- what Trace returns: so many lines, in the order of their first rows -/
def TraceOut (w : World) (W H : Int) (p : Int → Int) (v : Value) (w' : World) : Prop :=
  ∃ (k : Nat) (l : List Nat) (vs : Nat → Value), Many 1073741824 W H (cst p W) k ∧ l.Perm (List.range k) ∧ l.Pairwise (fun i j => LN 1073741824 W H (cst p W) i 0 ≤ LN 1073741824 W H (cst p W) j 0) ∧
    w'.ownsRow w.heap.size 37 1 v k (l.map vs) ∧ ∀ i, i < k → w'.ownsRow w.heap.size 3 1 (vs i) W.toNat ((List.range W.toNat).map fun j => Value.int .i64 (LN 1073741824 W H (cst p W) i j))

set_option maxRecDepth 100000 in
set_option maxHeartbeats 4000000 in
theorem trace_ok (W H : Int) (A : Option Addr) (n c : Nat) (p : Int → Int) (w : World) (hA : ArrB w w.heap.size A n p) (hn : n ≤ maxLen) (hB : IsB p) (hE : chk W H n p = 0) (hW : 1 ≤ W) (hH : 1 ≤ H) :
    Calls Tryz.prog 4 #[.agg #[.int .i64 W, .int .i64 H, .slice A n c]] w (New w fun v w' => ∃ vo, v = .tuple #[vo, .int .i64 0] ∧ TraceOut w W H p vo w') := by
  obtain ⟨hW1, hW2, hH1, hH2, hnn, -⟩ := chk_ok hE
  obtain ⟨m1, m2⟩ := area_bd hW1 hW2 hH1 hH2
  have CK := Lib.hid fun w' hA' => check_any W H A n c p w' hA' hn
  rw [hE] at CK
  have BE := Lib.hid fun f fb w' hA' hF' => best_any W H A f n c n n fb p w' hA' hF' hB hE hnn hW hH
  have hmk := makeO (n : Int) (by omega) (by omega)
  rw [Int.toNat_natCast] at hmk
  have bW : (W == 0) = false := by simp; omega
  have bH : (H == 0) = false := by simp; omega
  have KI : Blk (w.alloc (.cells #[.int .i64 W, .int .i64 H, .slice A n c] 24)) w.heap.size 24 #[.int .i64 W, .int .i64 H, .slice A n c] := Blk.new _ _ _
  have KA := hA.alloc1 (.cells #[.int .i64 W, .int .i64 H, .slice A n c] 24)
  have B1 : Below w.heap.size w (w.alloc (.cells #[.int .i64 W, .int .i64 H, .slice A n c] 24)) := by (repeat (first | exact Below.refl _ _ | assumption | refine Below.drew ?_ | refine below_drewN ?_ _ | refine Below.alloc ?_ (by first | omega | (simp; done) | (simp; omega)) _ | refine Below.setCell ?_ (by first | omega | (simp; done) | (simp; omega)) _ | refine below_setRow ?_ (by first | omega | (simp; done) | (simp; omega)) _ ))
  have HN := Lib.hid hnn
  clear hE hnn hB
  go_enter Tryz.func4, Tryz.ntmps4
  go_wp2_with fail
  refine (CK.out _ KA).mono ?_
  rintro e w1 ⟨rfl, hb1⟩
  have b1 := below_call B1 B1.size hb1
  have k1 := KI.below' hb1
  have a1 := KA.to hb1
  have z1 := k1.lt
  clear KI KA B1 hb1
  obtain ⟨q1, q2, q3⟩ := k1.cells3
  go_wp2_with fail
  have E0 : ∀ W, (binOp .eql 37 (.slice none 0 0) (.slice none 0 0)).run Tryz.prog W = .ok (.bool true) W := fun W => Go.run_eql_slice_nil W _ _ _ _ _ Tryz.underlying37
  have E1 : ∀ W g l c, (binOp .eql 37 (.slice (some ⟨g, 0, none⟩) l c) (.slice none 0 0)).run Tryz.prog W = .ok (.bool false) W := fun W g l c => Go.run_eql_slice_nil W _ _ _ _ _ Tryz.underlying37
  obtain ⟨i0, hi0, hz0, hz1, hz2⟩ := info_parts infoInts
  have LB : Hid (∀ i, Good 1073741824 W H (cst p W) i → 0 ≤ LN 1073741824 W H (cst p W) i 0 ∧ LN 1073741824 W H (cst p W) i 0 ≤ 1000) := by
    show ∀ _, _
    intro i hi
    have := ln_ok (cst_bd p W) (by omega) (by omega) (by omega) hi.1 0 (by omega)
    omega
  have b2 : Below w.heap.size w (w1.alloc (.cells (bools n (fun _ => false)) 4)) := b1.alloc b1.size _
  have k2 := k1.alloc (.cells (bools n (fun _ => false)) 4)
  have kf2 : Blk (w1.alloc (.cells (bools n (fun _ => false)) 4)) w1.heap.size 4 (bools n (FB 1073741824 W H (cst p W) 0)) := Blk.new _ _ _
  have F2 : Found w.heap.size (w1.alloc (.cells (bools n (fun _ => false)) 4)) W.toNat (LN 1073741824 W H (cst p W)) 0 (.slice none 0 0) (fun _ => .slice none 0 0) := ⟨World.ownsRow_nil _ _ _ _, fun i hi => by omega⟩
  generalize hgf : w1.heap.size = gf at *
  clear hgf q1 q2 q3 k1 b1 a1
  go_loopw [5] (fun vo wr => ∃ (k : Nat) (v : Nat → Value), k ≤ 60 ∧ (∀ j, j < k → Good 1073741824 W H (cst p W) j) ∧ Found w.heap.size wr W.toNat (LN 1073741824 W H (cst p W)) k vo v ∧ Below w.heap.size w wr ∧ Blk wr w.heap.size 24 #[.int .i64 W, .int .i64 H, .slice A n c] ∧ Blk wr gf 4 (bools n (FB 1073741824 W H (cst p W) k))) (fun vo _ => 60 - lenV vo)
  case atStart => exact ⟨0, _, by omega, fun j hj => by omega, F2, b2, k2, kf2⟩
  case round =>
    obtain ⟨k, v, hk, hg, hF, b3, ki, kf⟩ := hrel
    clear b2 k2 kf2 F2
    have rl := own_len hF.row
    obtain ⟨Ao, co, rfl, -, -⟩ := own_arr hF.row
    obtain ⟨p1, p2, p3⟩ := ki.cells3
    have a3 := hA.to b3
    have HK := Lib.hid hk
    clear hk
    by_cases h60 : (k : Int) < 60
    · have CB : 0 ≤ GC 1073741824 W H (cst p W) k ∧ GC 1073741824 W H (cst p W) k ≤ 1073741824 := by
        have h0 : LN 1073741824 W H (cst p W) k 0 = fmin _ H.toNat := rfl
        have := fmin_bd (gAt 1073741824 W H (cst p W) (fun x y => FB 1073741824 W H (cst p W) k (y * W + x)) 0) H.toNat
        have := gAt_bd (N := 1073741824) (W := W) (H := H) (c := cst p W) (F := fun x y => FB 1073741824 W H (cst p W) k (y * W + x)) (cst_bd p W) (by omega) (x := 0) (y := LN 1073741824 W H (cst p W) k 0) (by omega) (by omega) (by rw [h0]; omega) (by rw [h0]; have := this.2 (by omega); omega)
        unfold GC
        omega
      go_wp2_with fail
      refine (BE.out (some ⟨gf, 0, none⟩) (FB 1073741824 W H (cst p W) k) _ a3 (Blk.arr (f := fun i => .bool (FB 1073741824 W H (cst p W) k i)) kf kf.lt)).mono ?_
      rintro e w6 ⟨hout, hb6⟩
      have F6 := hF.below hb6
      have b6 := below_call b3 b3.size hb6
      have k6 := ki.below' hb6
      have kf6 := kf.below' hb6
      have z6 := kf.lt
      have z7 := b3.size
      have z8 : w.heap.size ≤ wr.heap.size := b3.size
      have z9 := b6.size
      clear hF b3 ki kf hb6 a3 p1 p2 p3
      obtain ⟨p1, p2, p3⟩ := k6.cells3
      rcases hout with ⟨hN, rfl⟩ | ⟨hlt, vp, rfl, hown⟩
      · replace hN : GC 1073741824 W H (cst p W) k = 1073741824 := hN
        have HN2 := Lib.hid hN
        clear hN CB
        go_wp2_with fail
        have MK : Many 1073741824 W H (cst p W) k := ⟨HK.out, hg, fun _ h => by have := h.1; have := HN2.out; omega⟩
        refine (sort_found w.heap.size W.toNat k (LN 1073741824 W H (cst p W)) _ v _ F6 (by have := HK.out; omega) (by omega) (fun i hi => by have := LB.out i (hg i hi); omega)).mono ?_
        rintro e w9 ⟨rfl, l, l1, l2, l3, l4, l5⟩
        have b9 := b6.grown l5 b6.size (fun j hj => (own_ge F6.row hj).1)
        go_wp2
        refine bodyPost_ret (results_tmp2 rfl _ _ _) rfl ?_
        exact ⟨_, rfl, ⟨_, rfl, k, l, v, MK, l1, l2, l3, l4⟩, b9⟩
      · replace hlt : GC 1073741824 W H (cst p W) k < 1073741824 := hlt
        replace hown : w6.ownsRow wr.heap.size 3 1 vp W.toNat ((List.range W.toNat).map fun j => Value.int .i64 (LN 1073741824 W H (cst p W) k j)) := hown
        obtain ⟨g, cp, rfl⟩ := own_some hown (by omega)
        obtain ⟨CB1, CB2⟩ := CB
        have hC : Hid (GC 1073741824 W H (cst p W) k = gAt 1073741824 W H (cst p W) (fun x y => FB 1073741824 W H (cst p W) k (y * W + x)) 0 (pathP 1073741824 W H (cst p W) (fun x y => FB 1073741824 W H (cst p W) k (y * W + x)) 0)) := by show _ = _; rfl
        have PL := Lib.hid fun x hx => ln_ok (cst_bd p W) (by omega) (by omega) (by omega) hlt x hx
        rw [← hC.out]
        have GD := Lib.hid (show 8 * GC 1073741824 W H (cst p W) k ≤ W → Good 1073741824 W H (cst p W) k from fun h => ⟨hlt, h⟩)
        have NG := Lib.hid (show ¬ 8 * GC 1073741824 W H (cst p W) k ≤ W → ¬ Good 1073741824 W H (cst p W) k from fun h g => h g.2)
        generalize GC 1073741824 W H (cst p W) k = C at *
        clear hC
        have v1 : IntKind.i64.wrap (8 * C) = 8 * C := IntWalk.i64_in _ (by omega)
        by_cases hc : 8 * C ≤ W
        · go_wp2_with (at_builtin; refine wpList_append_own _ rfl (.tmp 47) (.tmp 49) 25 rfl w.heap.size 37 i0 (.slice none 0 0) 1 24 Tryz.underlying25 hi0 hz0 hz1 hz2 rfl (by decide) _ _ _ rfl (F6.row.alloc _) ⟨w6.heap.size, 0, none⟩ 1 1 [.slice (some ⟨g, 0, none⟩) W.toNat cp] rfl rfl ?c1 ?c2 ?c3 ?c4 ?c5 ?_)
          case c1 => exact cell_one_new _ _ _
          case c2 => simp [Value.oneCell']
          case c3 => unfold maxLen; omega
          case c4 => omega
          case c5 => simp; omega
          intro v' w7 own7 hg7 _
          have G1 := GD.out hc
          obtain ⟨vf, hv1⟩ : ∃ vf : Nat → Value, vf = fun i => if i = k then .slice (some ⟨g, 0, none⟩) W.toNat cp else v i := ⟨_, rfl⟩
          have F7 : Found w.heap.size w7 W.toNat (LN 1073741824 W H (cst p W)) (k + 1) v' vf := by
            refine ⟨?_, fun i hi => ?_⟩
            · rw [range_snoc, hv1]
              simp only [if_true]
              rw [show (List.range k).map (fun i => if i = k then Value.slice (some ⟨g, 0, none⟩) W.toNat cp else v i) = (List.range k).map v from List.map_congr_left fun i hi => by rw [if_neg]; have := List.mem_range.1 hi; omega]
              exact own7
            · rw [hv1]
              show World.ownsRow _ _ _ _ (if i = k then _ else v i) _ _
              by_cases e : i = k
              · subst e
                rw [if_pos rfl]
                exact own_grown ((own_base hown z8).alloc _) (F6.row.alloc _) (by decide) hg7
              · rw [if_neg e]
                exact own_grown ((F6.lines i (by omega)).alloc _) (F6.row.alloc _) (by decide) hg7
          have b7 : Below w.heap.size w w7 := (show Below w.heap.size w (w6.alloc (.cells #[.slice (some ⟨g, 0, none⟩) W.toNat cp] 37)) by (repeat (first | exact Below.refl _ _ | assumption | refine Below.drew ?_ | refine below_drewN ?_ _ | refine Below.alloc ?_ (by first | omega | (simp; done) | (simp; omega)) _ | refine Below.setCell ?_ (by first | omega | (simp; done) | (simp; omega)) _ | refine below_setRow ?_ (by first | omega | (simp; done) | (simp; omega)) _ ))).grown hg7 (by simp; omega) (fun j hj => (own_ge F6.row hj).1)
          have k7 := (k6.alloc (.cells #[.slice (some ⟨g, 0, none⟩) W.toNat cp] 37)).grown hg7 (own_neB F6.row k6 (by decide))
          have kf7 := (kf6.alloc (.cells #[.slice (some ⟨g, 0, none⟩) W.toNat cp] 37)).grown hg7 (own_neB F6.row kf6 (by decide))
          have v1k : vf k = .slice (some ⟨g, 0, none⟩) W.toNat cp := by rw [hv1]; simp
          have V1K := Lib.hid v1k
          have ZG : Hid (w.heap.size ≠ gf) := by
            show _ ≠ _
            intro e
            have h1 : w6.heap[gf]? = _ := kf6
            rw [← e] at h1
            have h2 : w6.heap[w.heap.size]? = _ := k6
            rw [h2] at h1
            exact absurd (congrArg (fun o : Option Obj => match o with | some (.cells _ t _) => t | _ => 0) h1) (show ¬ ((24 : Nat) = 4) by decide)
          have ln7 := own_len own7
          clear hv1 v1k k6 kf6 F6 b6 own7 hg7 hown v1 p1 p2 p3
          go_wp2_with fail
          go_loopw [53] (fun s wr => ∃ x : Nat, (x : Int) ≤ W ∧ s = .int .i64 x ∧ Found w.heap.size wr W.toNat (LN 1073741824 W H (cst p W)) (k + 1) v' vf ∧ Below w.heap.size w wr ∧ Blk wr w.heap.size 24 #[.int .i64 W, .int .i64 H, .slice A n c] ∧ Blk wr gf 4 (bools n (mkR W (FB 1073741824 W H (cst p W) k) (LN 1073741824 W H (cst p W) k) x (LN 1073741824 W H (cst p W) k x - 2)))) (fun s _ => (W - intOf s).toNat)
          case atStart => exact ⟨0, by omega, rfl, F7, b7, k7, kf7.bconv fun i i0 _ => (mkR_zero (by omega)).symm⟩
          case round =>
            obtain ⟨x, xm, rfl, F8, b8, k8, kf8⟩ := hrel
            clear F7 b7 k7 kf7
            by_cases xW : (x : Int) < W
            · have hl := F8.lines k (Nat.lt_succ_self k)
              rw [V1K.out] at hl
              obtain ⟨A9, c9, e9, ha9⟩ := own_arrI hl
              cases e9
              obtain ⟨b9', off9, e9, -, hc9⟩ := ArrI.at_ ha9 (i := (x : Int)) (by omega) (by omega)
              cases e9
              rw [Int.toNat_natCast, Nat.zero_add] at hc9
              obtain ⟨y0, y1, -⟩ := PL.out x xW
              have HY : Hid (∃ y, LN 1073741824 W H (cst p W) k x = y) := by show ∃ y, _; exact ⟨_, rfl⟩
              obtain ⟨y, hy⟩ := HY.out
              rw [hy] at hc9 y0 y1
              clear HY hl ha9
              have HY := Lib.hid hy
              clear hy
              have v2 : IntKind.i64.wrap (y - 2) = y - 2 := IntWalk.i64_in _ (by omega)
              have v3 : IntKind.i64.wrap (y + 2) = y + 2 := IntWalk.i64_in _ (by omega)
              have v4 : IntKind.i64.wrap (H - 1) = H - 1 := IntWalk.i64_in _ (by omega)
              by_cases hm : y - 2 < 0
              · go_wp2_with fail
                go_loopw [11] (fun s wr => ∃ t : Int, y - 2 ≤ t ∧ 0 ≤ t ∧ t ≤ y + 3 ∧ t ≤ H ∧ s = .int .i64 t ∧ Found w.heap.size wr W.toNat (LN 1073741824 W H (cst p W)) (k + 1) v' vf ∧ Below w.heap.size w wr ∧ Blk wr w.heap.size 24 #[.int .i64 W, .int .i64 H, .slice A n c] ∧ Blk wr gf 4 (bools n (mkR W (FB 1073741824 W H (cst p W) k) (LN 1073741824 W H (cst p W) k) x t))) (fun s _ => (H + 3 - intOf s).toNat)
                case atStart => exact ⟨0, by omega, by omega, by omega, by omega, by go_num, F8, b8, k8, kf8.bconv fun i i0 _ => mkR_start i0 (by omega) (by rw [HY.out]; split <;> omega)⟩
                case round =>
                  obtain ⟨t, t1, t2, t3, t4, rfl, F9, b9, k9, kf9⟩ := hrel
                  clear F8 b8 k8 kf8
                  obtain ⟨p1, p2, p3⟩ := k9.cells3
                  by_cases hM : y + 2 < H - 1
                  · by_cases hT : t ≤ y + 2
                    · obtain ⟨i1, i2, i3⟩ := idx_lt (x := (x : Int)) (y := t) (W := W) (H := H) (by omega) xW t2 (by omega)
                      rw [Int.mul_comm H W] at i2
                      have i4 : t * W + x < (n : Int) := by have := HN.out; omega
                      have v5 : IntKind.i64.wrap (t * W) = t * W := IntWalk.i64_in _ (by omega)
                      have v6 : IntKind.i64.wrap (t * W + x) = t * W + x := IntWalk.i64_in _ (by omega)
                      have fr := kf9.frozen (t * W + x).toNat
                      have cc : (wr.cell? ⟨gf, (t * W + x).toNat, none⟩).isSome = true := by rw [kf9.cell]; unfold bools; rw [cellsF_at i1 i4]; rfl
                      obtain ⟨u0, hu0⟩ := Option.isSome_iff_exists.1 cc
                      clear cc
                      go_wp2_with fail
                      go_roundw
                      case rel => exact ⟨t + 1, by omega, by omega, by omega, by omega, by go_num, F9.far kf9 (by decide) (by decide) _ _, by (repeat (first | exact Below.refl _ _ | assumption | refine Below.drew ?_ | refine below_drewN ?_ _ | refine Below.alloc ?_ (by first | omega | (simp; done) | (simp; omega)) _ | refine Below.setCell ?_ (by first | omega | (simp; done) | (simp; omega)) _ | refine below_setRow ?_ (by first | omega | (simp; done) | (simp; omega)) _ )), k9.far (p := ⟨gf, (t * W + x).toNat, none⟩) (by have := ZG.out; simp; omega) _, (kf9.bset (t * W + x) i1 true).bconv fun i _ _ => mkR_set xW (by rw [HY.out]; omega) i⟩
                      case measure => simp [intOf]; omega

                    · have hT' : y + 2 < t := by omega
                      clear hT
                      go_wp2_with fail
                      go_roundw
                      case rel => exact ⟨x + 1, by omega, by go_num, F9, b9, k9, kf9.bconv fun i i0 i1 => mkR_col (H := H) i0 (by have := HN.out; omega) (by omega) (by rw [HY.out]; split <;> omega) (by rw [HY.out]; omega)⟩
                      case measure => simp [intOf]; omega

                  · have hM' : H - 1 ≤ y + 2 := by omega
                    by_cases hT : t ≤ H - 1
                    · obtain ⟨i1, i2, i3⟩ := idx_lt (x := (x : Int)) (y := t) (W := W) (H := H) (by omega) xW t2 (by omega)
                      rw [Int.mul_comm H W] at i2
                      have i4 : t * W + x < (n : Int) := by have := HN.out; omega
                      have v5 : IntKind.i64.wrap (t * W) = t * W := IntWalk.i64_in _ (by omega)
                      have v6 : IntKind.i64.wrap (t * W + x) = t * W + x := IntWalk.i64_in _ (by omega)
                      have fr := kf9.frozen (t * W + x).toNat
                      have cc : (wr.cell? ⟨gf, (t * W + x).toNat, none⟩).isSome = true := by rw [kf9.cell]; unfold bools; rw [cellsF_at i1 i4]; rfl
                      obtain ⟨u0, hu0⟩ := Option.isSome_iff_exists.1 cc
                      clear cc
                      go_wp2_with fail
                      go_roundw
                      case rel => exact ⟨t + 1, by omega, by omega, by omega, by omega, by go_num, F9.far kf9 (by decide) (by decide) _ _, by (repeat (first | exact Below.refl _ _ | assumption | refine Below.drew ?_ | refine below_drewN ?_ _ | refine Below.alloc ?_ (by first | omega | (simp; done) | (simp; omega)) _ | refine Below.setCell ?_ (by first | omega | (simp; done) | (simp; omega)) _ | refine below_setRow ?_ (by first | omega | (simp; done) | (simp; omega)) _ )), k9.far (p := ⟨gf, (t * W + x).toNat, none⟩) (by have := ZG.out; simp; omega) _, (kf9.bset (t * W + x) i1 true).bconv fun i _ _ => mkR_set xW (by rw [HY.out]; omega) i⟩
                      case measure => simp [intOf]; omega

                    · have hT' : H - 1 < t := by omega
                      clear hT
                      go_wp2_with fail
                      go_roundw
                      case rel => exact ⟨x + 1, by omega, by go_num, F9, b9, k9, kf9.bconv fun i i0 i1 => mkR_col (H := H) i0 (by have := HN.out; omega) (by omega) (by rw [HY.out]; split <;> omega) (by rw [HY.out]; omega)⟩
                      case measure => simp [intOf]; omega
              · go_wp2_with fail
                go_loopw [11] (fun s wr => ∃ t : Int, y - 2 ≤ t ∧ 0 ≤ t ∧ t ≤ y + 3 ∧ t ≤ H ∧ s = .int .i64 t ∧ Found w.heap.size wr W.toNat (LN 1073741824 W H (cst p W)) (k + 1) v' vf ∧ Below w.heap.size w wr ∧ Blk wr w.heap.size 24 #[.int .i64 W, .int .i64 H, .slice A n c] ∧ Blk wr gf 4 (bools n (mkR W (FB 1073741824 W H (cst p W) k) (LN 1073741824 W H (cst p W) k) x t))) (fun s _ => (H + 3 - intOf s).toNat)
                case atStart => exact ⟨y - 2, by omega, by omega, by omega, by omega, by go_num, F8, b8, k8, kf8.bconv fun i i0 _ => mkR_start i0 (by omega) (by rw [HY.out]; split <;> omega)⟩
                case round =>
                  obtain ⟨t, t1, t2, t3, t4, rfl, F9, b9, k9, kf9⟩ := hrel
                  clear F8 b8 k8 kf8
                  obtain ⟨p1, p2, p3⟩ := k9.cells3
                  by_cases hM : y + 2 < H - 1
                  · by_cases hT : t ≤ y + 2
                    · obtain ⟨i1, i2, i3⟩ := idx_lt (x := (x : Int)) (y := t) (W := W) (H := H) (by omega) xW t2 (by omega)
                      rw [Int.mul_comm H W] at i2
                      have i4 : t * W + x < (n : Int) := by have := HN.out; omega
                      have v5 : IntKind.i64.wrap (t * W) = t * W := IntWalk.i64_in _ (by omega)
                      have v6 : IntKind.i64.wrap (t * W + x) = t * W + x := IntWalk.i64_in _ (by omega)
                      have fr := kf9.frozen (t * W + x).toNat
                      have cc : (wr.cell? ⟨gf, (t * W + x).toNat, none⟩).isSome = true := by rw [kf9.cell]; unfold bools; rw [cellsF_at i1 i4]; rfl
                      obtain ⟨u0, hu0⟩ := Option.isSome_iff_exists.1 cc
                      clear cc
                      go_wp2_with fail
                      go_roundw
                      case rel => exact ⟨t + 1, by omega, by omega, by omega, by omega, by go_num, F9.far kf9 (by decide) (by decide) _ _, by (repeat (first | exact Below.refl _ _ | assumption | refine Below.drew ?_ | refine below_drewN ?_ _ | refine Below.alloc ?_ (by first | omega | (simp; done) | (simp; omega)) _ | refine Below.setCell ?_ (by first | omega | (simp; done) | (simp; omega)) _ | refine below_setRow ?_ (by first | omega | (simp; done) | (simp; omega)) _ )), k9.far (p := ⟨gf, (t * W + x).toNat, none⟩) (by have := ZG.out; simp; omega) _, (kf9.bset (t * W + x) i1 true).bconv fun i _ _ => mkR_set xW (by rw [HY.out]; omega) i⟩
                      case measure => simp [intOf]; omega

                    · have hT' : y + 2 < t := by omega
                      clear hT
                      go_wp2_with fail
                      go_roundw
                      case rel => exact ⟨x + 1, by omega, by go_num, F9, b9, k9, kf9.bconv fun i i0 i1 => mkR_col (H := H) i0 (by have := HN.out; omega) (by omega) (by rw [HY.out]; split <;> omega) (by rw [HY.out]; omega)⟩
                      case measure => simp [intOf]; omega

                  · have hM' : H - 1 ≤ y + 2 := by omega
                    by_cases hT : t ≤ H - 1
                    · obtain ⟨i1, i2, i3⟩ := idx_lt (x := (x : Int)) (y := t) (W := W) (H := H) (by omega) xW t2 (by omega)
                      rw [Int.mul_comm H W] at i2
                      have i4 : t * W + x < (n : Int) := by have := HN.out; omega
                      have v5 : IntKind.i64.wrap (t * W) = t * W := IntWalk.i64_in _ (by omega)
                      have v6 : IntKind.i64.wrap (t * W + x) = t * W + x := IntWalk.i64_in _ (by omega)
                      have fr := kf9.frozen (t * W + x).toNat
                      have cc : (wr.cell? ⟨gf, (t * W + x).toNat, none⟩).isSome = true := by rw [kf9.cell]; unfold bools; rw [cellsF_at i1 i4]; rfl
                      obtain ⟨u0, hu0⟩ := Option.isSome_iff_exists.1 cc
                      clear cc
                      go_wp2_with fail
                      go_roundw
                      case rel => exact ⟨t + 1, by omega, by omega, by omega, by omega, by go_num, F9.far kf9 (by decide) (by decide) _ _, by (repeat (first | exact Below.refl _ _ | assumption | refine Below.drew ?_ | refine below_drewN ?_ _ | refine Below.alloc ?_ (by first | omega | (simp; done) | (simp; omega)) _ | refine Below.setCell ?_ (by first | omega | (simp; done) | (simp; omega)) _ | refine below_setRow ?_ (by first | omega | (simp; done) | (simp; omega)) _ )), k9.far (p := ⟨gf, (t * W + x).toNat, none⟩) (by have := ZG.out; simp; omega) _, (kf9.bset (t * W + x) i1 true).bconv fun i _ _ => mkR_set xW (by rw [HY.out]; omega) i⟩
                      case measure => simp [intOf]; omega

                    · have hT' : H - 1 < t := by omega
                      clear hT
                      go_wp2_with fail
                      go_roundw
                      case rel => exact ⟨x + 1, by omega, by go_num, F9, b9, k9, kf9.bconv fun i i0 i1 => mkR_col (H := H) i0 (by have := HN.out; omega) (by omega) (by rw [HY.out]; split <;> omega) (by rw [HY.out]; omega)⟩
                      case measure => simp [intOf]; omega
            · obtain rfl : (x : Int) = W := by omega
              go_wp2_with fail
              go_roundw
              case rel => exact ⟨k + 1, vf, by omega, fun j hj => by (rcases Nat.lt_succ_iff_lt_or_eq.1 hj with h | rfl; exact hg j h; exact G1), F8, b8, k8, kf8.bconv fun i _ _ => mkR_end (by omega) rfl⟩
              case measure => simp [rl, ln7]; omega
        · go_wp2_with fail
          have MK : Many 1073741824 W H (cst p W) k := ⟨HK.out, hg, fun _ => NG.out hc⟩
          refine (sort_found w.heap.size W.toNat k (LN 1073741824 W H (cst p W)) _ v _ F6 (by have := HK.out; omega) (by omega) (fun i hi => by have := LB.out i (hg i hi); omega)).mono ?_
          rintro e w9 ⟨rfl, l, l1, l2, l3, l4, l5⟩
          have b9 := b6.grown l5 b6.size (fun j hj => (own_ge F6.row hj).1)
          go_wp2
          refine bodyPost_ret (results_tmp2 rfl _ _ _) rfl ?_
          exact ⟨_, rfl, ⟨_, rfl, k, l, v, MK, l1, l2, l3, l4⟩, b9⟩
    · go_wp2_with fail
      have MK : Many 1073741824 W H (cst p W) k := ⟨HK.out, hg, fun h => by omega⟩
      refine (sort_found w.heap.size W.toNat k (LN 1073741824 W H (cst p W)) _ v _ hF (by have := HK.out; omega) (by omega) (fun i hi => by have := LB.out i (hg i hi); omega)).mono ?_
      rintro e w9 ⟨rfl, l, l1, l2, l3, l4, l5⟩
      have b9 := b3.grown l5 b3.size (fun j hj => (own_ge hF.row hj).1)
      go_wp2
      refine bodyPost_ret (results_tmp2 rfl _ _ _) rfl ?_
      exact ⟨_, rfl, ⟨_, rfl, k, l, v, MK, l1, l2, l3, l4⟩, b9⟩
end Go.Proofs.YtdimlpcbbkokiaaGreat

/- Plain: the least costs column by column as lists, to reckon examples. No program in sight. -/
namespace Go.Proofs.YtdimlpcbbkokiaaGreat
open Go.RowKit
set_option linter.unusedVariables false

section
variable (N W H : Int) (c : Int → Int → Int) (F : Int → Int → Bool)
def stepL (d : List Int) (x : Int) : List Int := (List.range H.toNat).map fun (y : Nat) => if F x y then N else min (mfold N (goTo (fun t => d.getD t.toNat 0) y) (nxLo y) (nxN H y) + c x y) N
def colL : Nat → List Int
  | 0 => (List.range H.toNat).map fun (y : Nat) => if F (W - 1) y then N else min (c (W - 1) y) N
  | k + 1 => stepL N H c F (colL k) (W - 1 - (k + 1 : Nat))
def nxtL (d : List Int) (g cc a : Int) : Int := ((nbT a (nxN H a)).find? fun t => decide (goTo (fun t => d.getD t.toNat 0) a t = g - cc)).getD a
def pathL : Nat → Int
  | 0 => fmin (fun t => (colL N W H c F (W - 1).toNat).getD t.toNat 0) H.toNat
  | x + 1 => nxtL H (colL N W H c F (W - 1 - (x + 1 : Nat)).toNat) ((colL N W H c F (W - 1 - x).toNat).getD (pathL x).toNat 0) (c x (pathL x)) (pathL x)
end
theorem mfold_congr {N : Int} {f g : Int → Int} {lo : Int} {j : Nat} (h : ∀ i : Nat, i < j → f (lo + i) = g (lo + i)) : mfold N f lo j = mfold N g lo j := by
  induction j with
  | zero => rfl
  | succ j ih => rw [mfold, mfold, ih (fun i hi => h i (by omega)), h j (by omega)]
theorem fmin_congr {f g : Int → Int} {n : Nat} (h : ∀ i : Int, 0 ≤ i → i < n → f i = g i) : fmin f n = fmin g n := by
  induction n with
  | zero => rfl
  | succ n ih =>
    have e := ih fun i a b => h i a (by omega)
    have b := fmin_bd g n
    rw [fmin, fmin, e, h n (by omega) (by omega)]
    by_cases hn : 0 < n
    · rw [h (fmin g n) b.1 (by have := b.2 hn; omega)]
    · obtain rfl : n = 0 := by omega
      rw [show fmin g 0 = (0 : Nat) from rfl, h (0 : Nat) (by omega) (by omega)]
theorem getD_range_map (n : Nat) (f : Nat → Int) (y : Int) (h0 : 0 ≤ y) (h : y < n) : ((List.range n).map f).getD y.toNat 0 = f y.toNat := by
  rw [List.getD_eq_getElem?_getD, List.getElem?_map, List.getElem?_range (by omega)]; rfl
theorem colL_eq {N W H : Int} {c : Int → Int → Int} {F : Int → Int → Bool} (k : Nat) (y : Int) (h0 : 0 ≤ y) (h : y < H) : gcol N W H c F k y = (colL N W H c F k).getD y.toNat 0 := by
  induction k generalizing y with
  | zero =>
    rw [colL, getD_range_map _ _ _ h0 (by omega), gcol, Int.toNat_of_nonneg h0]
  | succ k ih =>
    rw [colL, stepL, getD_range_map _ _ _ h0 (by omega), gcol, Int.toNat_of_nonneg h0]
    have : mfold N (goTo (gcol N W H c F k) y) (nxLo y) (nxN H y) = mfold N (goTo (fun t => (colL N W H c F k).getD t.toNat 0) y) (nxLo y) (nxN H y) := mfold_congr fun i hi => by
      have h1 := (nx_in h0 h i).1 hi
      unfold goTo
      rw [ih (nxLo y + i) (by unfold nxLo; split <;> omega) h1.1]
    rw [this]
theorem nb_mem {H a t : Int} (a0 : 0 ≤ a) (a1 : a < H) (h : t ∈ nbT a (nxN H a)) : 0 ≤ t ∧ t < H := by
  obtain ⟨j, hj, rfl⟩ := List.mem_map.1 h
  have h1 := (nx_in a0 a1 j).1 (List.mem_range.1 hj)
  have : 0 ≤ nxLo a := by unfold nxLo; split <;> omega
  omega
theorem find_congr {f g : Int → Bool} {l : List Int} (h : ∀ t ∈ l, f t = g t) : l.find? f = l.find? g := by
  induction l with
  | nil => rfl
  | cons a l ih => rw [List.find?_cons, List.find?_cons, h a (List.mem_cons_self ..), ih fun t ht => h t (List.mem_cons_of_mem _ ht)]
theorem nxt_in {N W H : Int} {c : Int → Int → Int} {F : Int → Int → Bool} {x a : Int} (a0 : 0 ≤ a) (a1 : a < H) : 0 ≤ nxt N W H c F x a ∧ nxt N W H c F x a < H := by
  rw [nxt_find]
  cases h : (nbT a (nxN H a)).find? (fun t => decide (goTo (gAt N W H c F (x + 1)) a t = gAt N W H c F x a - c x a)) with
  | none => exact ⟨a0, a1⟩
  | some t => exact nb_mem a0 a1 (List.mem_of_find?_eq_some h)
theorem pathL_eq {N W H : Int} {c : Int → Int → Int} {F : Int → Int → Bool} (hH : 0 < H) (x : Nat) : pathP N W H c F x = pathL N W H c F x ∧ 0 ≤ pathP N W H c F x ∧ pathP N W H c F x < H := by
  induction x with
  | zero =>
    have b := fmin_bd (gAt N W H c F 0) H.toNat
    refine ⟨?_, b.1, by have := b.2 (by omega); show fmin _ _ < _; omega⟩
    show fmin _ _ = fmin _ _
    refine fmin_congr fun i a b => ?_
    unfold gAt
    rw [colL_eq _ i a (by omega), Int.sub_zero]
  | succ x ih =>
    obtain ⟨e, i0, i1⟩ := ih
    refine ⟨?_, nxt_in i0 i1⟩
    show nxt N W H c F x (pathP N W H c F x) = _
    rw [nxt_find, pathL, ← e, nxtL]
    congr 1
    refine find_congr fun t ht => ?_
    obtain ⟨t0, t1⟩ := nb_mem i0 i1 ht
    have h1 : gAt N W H c F (x + 1) t = (colL N W H c F (W - 1 - (x + 1 : Nat)).toNat).getD t.toNat 0 := colL_eq _ t t0 t1
    have h2 : gAt N W H c F x (pathP N W H c F x) = (colL N W H c F (W - 1 - x).toNat).getD (pathP N W H c F x).toNat 0 := colL_eq _ _ i0 i1
    unfold goTo
    rw [h1, h2]

def rowQ (hole : Int) : Int → Int := fun i => if 32 ≤ i ∧ i < 48 ∧ i - 32 ≠ hole then 1 else 0
def rowQ2 : Int → Int := fun i => if i = 23 then 1 else rowQ 7 i
theorem rowQ_B (h : Int) : IsB (rowQ h) := fun i => by unfold rowQ; split <;> omega
theorem rowQ2_B : IsB rowQ2 := fun i => by unfold rowQ2; split; omega; exact rowQ_B 7 i
theorem aw1 : allN 16 (fun i => decide (pathL 1073741824 16 5 (cst (rowQ 7) 16) (fun _ _ => false) i.toNat = 2)) = true := by decide +kernel
theorem aw2 : (colL 1073741824 16 5 (cst (rowQ 7) 16) (fun _ _ => false) 15).getD 2 0 = 2 := by decide +kernel
theorem aw3 : pathL 1073741824 16 5 (cst rowQ2 16) (fun _ _ => false) 0 = 2 ∧ pathL 1073741824 16 5 (cst rowQ2 16) (fun _ _ => false) 7 = 1 := by decide +kernel
theorem aw4 : (colL 1073741824 16 5 (cst rowQ2 16) (fun _ _ => false) 15).getD 2 0 = 2 := by decide +kernel
theorem aw1' : pathL 1073741824 16 5 (cst (rowQ 7) 16) (fun _ _ => false) 0 = 2 := of_decide_eq_true (allN_iff.1 aw1 0 (by decide) (by decide))
theorem aw1'' (i : Int) (h0 : 0 ≤ i) (h : i < (16 : Nat)) : LN 1073741824 16 5 (cst (rowQ 7) 16) 0 i.toNat = 2 := (pathL_eq (by decide) i.toNat).1.trans (of_decide_eq_true (allN_iff.1 aw1 i h0 h))
theorem aw3' : LN 1073741824 16 5 (cst rowQ2 16) 0 7 = 1 := (pathL_eq (by decide) 7).1.trans aw3.2
/-- one line, if the first path is cheap and begins in row 2 of five rows -/
theorem many_one {p : Int → Int} (h0 : pathL 1073741824 16 5 (cst p 16) (fun _ _ => false) 0 = 2) (h1 : (colL 1073741824 16 5 (cst p 16) (fun _ _ => false) 15).getD 2 0 = 2) : Many 1073741824 16 5 (cst p 16) 1 := by
  have e0 : LN 1073741824 16 5 (cst p 16) 0 0 = 2 := (pathL_eq (by decide) 0).1.trans h0
  have g0 : GC 1073741824 16 5 (cst p 16) 0 = 2 := by
    unfold GC
    rw [e0]
    exact (colL_eq (15 : Nat) 2 (by decide) (by decide)).trans h1
  refine ⟨by decide, fun j hj => ?_, fun _ hg => ?_⟩
  · obtain rfl : j = 0 := by omega
    exact ⟨by rw [g0]; decide, by rw [g0]; decide⟩
  · have b := (pathL_eq (N := 1073741824) (W := 16) (H := 5) (c := cst p 16) (F := fun x y => FB 1073741824 16 5 (cst p 16) 1 (y * 16 + x)) (by decide) 0).2
    have h2 := hg.1
    unfold GC at h2
    rw [gAt_step (by decide) (by decide), if_pos] at h2
    · omega
    · show FB 1073741824 16 5 (cst p 16) (0 + 1) (LN 1073741824 16 5 (cst p 16) 1 0 * 16 + 0) = true
      have b' : 0 ≤ LN 1073741824 16 5 (cst p 16) 1 0 ∧ LN 1073741824 16 5 (cst p 16) 1 0 < 5 := b
      rw [FB]
      unfold mkF
      rw [show (LN 1073741824 16 5 (cst p 16) 1 0 * 16 + 0) % 16 = 0 by omega, show (LN 1073741824 16 5 (cst p 16) 1 0 * 16 + 0) / 16 = LN 1073741824 16 5 (cst p 16) 1 0 by omega]
      show (_ || decide (LN 1073741824 16 5 (cst p 16) 0 0 - 2 ≤ _ ∧ _ ≤ LN 1073741824 16 5 (cst p 16) 0 0 + 2)) = true
      rw [e0, Bool.or_eq_true]
      exact .inr (decide_eq_true (by omega))
end Go.Proofs.YtdimlpcbbkokiaaGreat

/- Walks: an image with one row of ink (custoslaw03.row), flat lines (custoslaw03.flat), slices.Clone of numbers. -/
namespace Go.Proofs.YtdimlpcbbkokiaaGreat
open Go.RowKit Go.Shelf
set_option linter.unusedVariables false
attribute [local go_sem] Oper.semAt_some

set_option maxHeartbeats 1000000 in
theorem row_any (hole : Int) (w : World) (h0 : 0 ≤ hole) (h1 : hole < 16) : Calls Tryz.prog 9 #[.int .i64 hole] w (New w fun v w' => OutN w w' 16 5 80 (rowQ hole) v) := by
  have hmk := makeB 80 (by omega) (by omega)
  rw [show (80 : Int).toNat = 80 from rfl] at hmk
  go_enter Tryz.func9, Tryz.ntmps9
  go_wp2
  go_loopw [7] (fun s wr => ∃ i : Nat, i ≤ 16 ∧ s = .int .i64 i ∧ Below w.heap.size w wr ∧ Blk wr w.heap.size 24 #[.int .i64 0, .int .i64 0, .slice none 0 0] ∧
     Blk wr (w.heap.size + 2) 24 #[.int .i64 16, .int .i64 5, .slice (some ⟨w.heap.size + 1, 0, none⟩) 80 80] ∧ Blk wr (w.heap.size + 1) 5 (u8s 80 (fun j => if j < 32 + i then rowQ hole j else 0))) (fun s _ => 16 - (intOf s).toNat)
  case atStart =>
    refine ⟨0, by omega, rfl, by (repeat (first | exact Below.refl _ _ | assumption | refine Below.drew ?_ | refine below_drewN ?_ _ | refine Below.alloc ?_ (by first | omega | (simp; done) | (simp; omega)) _ | refine Below.setCell ?_ (by first | omega | (simp; done) | (simp; omega)) _ | refine below_setRow ?_ (by first | omega | (simp; done) | (simp; omega)) _ )), ?_, ?_, ?_⟩
    · exact ((Blk.new _ _ _).alloc _).alloc _
    · exact Blk.new' (by simp) _ _
    · exact ((Blk.new' (by simp) _ _).alloc _).u8conv fun j h _ => by unfold rowQ; split <;> omega
  case round =>
    obtain ⟨i, hi, rfl, b1, k0, k2, kg⟩ := hrel
    obtain ⟨p1, p2, p3⟩ := k2.cells3
    by_cases hlt : i < 16
    · obtain ⟨J, hJ⟩ : ∃ J : Int, J = 32 + i := ⟨_, rfl⟩
      have v1 : IntKind.i64.wrap (32 + (i : Int)) = J := by rw [hJ]; exact IntWalk.i64_in _ (by omega)
      have J0 : 0 ≤ J := by omega
      have J1 : J < 80 := by omega
      have hr := kg.u8at (i := J) J0 J1
      have hf := kg.frozen J.toNat
      have KS := Lib.hid (kg.u8set J J0 1)
      have HJ := Lib.hid hJ
      clear hJ
      have KG := Lib.hid kg
      clear kg
      have hlt' : (i : Int) < 16 := by omega
      by_cases e : (i : Int) = hole
      · have E := Lib.hid e
        have e' : ((i : Int) != hole) = false := by simp [e]
        clear e
        go_wp2
        go_roundw
        case rel =>
          refine ⟨i + 1, by omega, by go_num, b1, k0, k2, KG.out.u8conv fun j _ _ => ?_⟩
          have := E.out
          by_cases e1 : j < 32 + i
          · rw [if_pos e1, if_pos (by omega)]
          · rw [if_neg e1]
            split
            · unfold rowQ; rw [if_neg (by omega)]
            · rfl
        case measure => simp [intOf]; omega
      · have E := Lib.hid e
        have e' : ((i : Int) != hole) = true := by simp [e]
        clear e
        go_wp2
        go_roundw
        case rel =>
          refine ⟨i + 1, by omega, by go_num, by (repeat (first | exact Below.refl _ _ | assumption | refine Below.drew ?_ | refine below_drewN ?_ _ | refine Below.alloc ?_ (by first | omega | (simp; done) | (simp; omega)) _ | refine Below.setCell ?_ (by first | omega | (simp; done) | (simp; omega)) _ | refine below_setRow ?_ (by first | omega | (simp; done) | (simp; omega)) _ )), k0.far (by simp) _, k2.far (by simp) _, KS.out.u8conv fun j _ _ => ?_⟩
          have := E.out
          have hJ := HJ.out
          show (if j = J then (1 : Int) else if j < 32 + i then rowQ hole j else 0) = _
          by_cases e : j = J
          · rw [if_pos e, if_pos (by omega)]
            unfold rowQ; rw [if_pos (by omega)]
          · rw [if_neg e]
            by_cases e' : j < 32 + i
            · rw [if_pos e', if_pos (by omega)]
            · rw [if_neg e', if_neg (by omega)]
        case measure => simp [intOf]; omega
    · obtain rfl : i = 16 := by omega
      obtain ⟨r1, r2, r3⟩ := k0.cells3
      obtain ⟨f1, f2, f3⟩ := k0.frozen3
      go_wp2
      refine bodyPost_ret (v := .agg #[.int .i64 16, .int .i64 5, .slice (some ⟨w.heap.size + 1, 0, none⟩) 80 80]) (by simp [results, Tryz.results9, go_sem, r1, r2, r3]) rfl ?_
      exact ⟨_, rfl, OutN.mk (by omega) ((((kg.u8conv fun j _ h => by (split; rfl; unfold rowQ; rw [if_neg (by omega)])).far (by simp) _).far (by simp) _).far (by simp) _), by (repeat (first | exact Below.refl _ _ | assumption | refine Below.drew ?_ | refine below_drewN ?_ _ | refine Below.alloc ?_ (by first | omega | (simp; done) | (simp; omega)) _ | refine Below.setCell ?_ (by first | omega | (simp; done) | (simp; omega)) _ | refine below_setRow ?_ (by first | omega | (simp; done) | (simp; omega)) _ ))⟩

theorem own_i64s {w : World} {g m base : Nat} {q : Int → Int} (h : Blk w g 3 (i64s m q)) (hb : base ≤ g) (hm : m ≤ maxLen) : w.ownsRow base 3 1 (.slice (some ⟨g, 0, none⟩) m m) m ((List.range m).map fun (j : Nat) => Value.int .i64 (q j)) := by
  refine ⟨by simp, .inr ⟨g, m, i64s m q, rfl, hb, h, Nat.le_refl _, hm, by rw [i64s_size, Nat.mul_one], ?_⟩⟩
  rw [Nat.mul_one]
  exact List.take_of_length_le (by simp [i64s, cellsF])
theorem Found.snoc {B m k : Nat} {w w' : World} {ln : Nat → Nat → Int} {vo v' : Value} {v : Nat → Value} {u : Value} (h : Found B w m ln k vo v) (hu : w.ownsRow B 3 1 u m ((List.range m).map fun j => Value.int .i64 (ln k j)))
    (hg : w.grownBy w' vo.ownBlock) (hr : w'.ownsRow B 37 1 v' (k + 1) ((List.range k).map v ++ [u])) : Found B w' m ln (k + 1) v' (fun i => if i = k then u else v i) := by
  refine ⟨?_, fun i hi => ?_⟩
  · rw [range_snoc]
    simp only [if_true]
    rw [show (List.range k).map (fun i => if i = k then u else v i) = (List.range k).map v from List.map_congr_left fun i hi => by rw [if_neg]; have := List.mem_range.1 hi; omega]
    exact hr
  · show World.ownsRow _ _ _ _ (if i = k then _ else v i) _ _
    by_cases e : i = k
    · subst e
      rw [if_pos rfl]
      exact own_grown hu h.row (by decide) hg
    · rw [if_neg e]
      exact own_grown (h.lines i (by omega)) h.row (by decide) hg

set_option maxRecDepth 100000 in
set_option maxHeartbeats 2000000 in
theorem flat_any (m K d : Nat) (R : Option Addr) (r : Int → Int) (w : World) (hR : ArrI w w.heap.size R K r) (hm : m ≤ 1000) (hK : K ≤ 1000) :
    Calls Tryz.prog 10 #[.int .i64 m, .slice R K d] w (New w fun v w' => ∃ vs, Found w.heap.size w' m (fun i _ => r i) K v vs) := by
  have hmk := makeI (m : Int) (by omega) (by omega)
  rw [Int.toNat_natCast] at hmk
  obtain ⟨i0, hi0, hz0, hz1, hz2⟩ := info_parts infoInts
  go_enter Tryz.func10, Tryz.ntmps10
  go_wp2
  go_loopw [5, 12] (fun vo s wr => ∃ (k : Nat) (v : Nat → Value), k ≤ K ∧ s = .int .i64 k ∧ Found w.heap.size wr m (fun i _ => r i) k vo v ∧ Below w.heap.size w wr) (fun _ s _ => K - (intOf s).toNat)
  case atStart => exact ⟨0, fun _ => .slice none 0 0, by omega, rfl, ⟨World.ownsRow_nil _ _ _ _, fun i hi => by omega⟩, Below.refl _ _⟩
  case round =>
    obtain ⟨k, v, hk, rfl, hF, b1⟩ := hrel
    by_cases hlt : (k : Int) < K
    · obtain ⟨b, off, rfl, hb, hc⟩ := ArrI.at_ (ArrI.below hR b1) (i := (k : Int)) (by omega) (by omega)
      rw [Int.toNat_natCast] at hc
      have kl := Blk.new wr 3 (i64s m (fun _ => 0))
      have b2 : Below wr.heap.size wr (wr.alloc (.cells (i64s m (fun _ => 0)) 3)) := (Below.refl _ _).alloc (Nat.le_refl _) _
      have HR := Lib.hid hR
      have zl := b1.size
      clear hR
      obtain ⟨w0, e0⟩ : ∃ w0 : World, w0 = wr := ⟨_, rfl⟩
      subst e0
      go_wp2
      clear hc
      go_loopw [20] (fun s w9 => ∃ x : Nat, x ≤ m ∧ s = .int .i64 x ∧ Below w0.heap.size w0 w9 ∧ Blk w9 w0.heap.size 3 (i64s m (fun j => if j < x then r k else 0))) (fun s _ => m - (intOf s).toNat)
      case atStart => exact ⟨0, by omega, rfl, b2, kl.i64conv fun j h _ => by rw [if_neg (by omega)]⟩
      case round =>
        obtain ⟨x, xm, rfl, b3, kl3⟩ := hrel
        clear b2 kl
        by_cases xl : (x : Int) < m
        · have c1 := kl3.i64at (i := (x : Int)) (by omega) (by omega)
          have f1 := kl3.frozen x
          rw [Int.toNat_natCast] at c1
          have KS := kl3.i64set (x : Int) (by omega) (r k)
          rw [Int.toNat_natCast] at KS
          have KS := Lib.hid KS
          go_wp2
          go_roundw
          case rel =>
            refine ⟨x + 1, by omega, by go_num, by (repeat (first | exact Below.refl _ _ | assumption | refine Below.drew ?_ | refine below_drewN ?_ _ | refine Below.alloc ?_ (by first | omega | (simp; done) | (simp; omega)) _ | refine Below.setCell ?_ (by first | omega | (simp; done) | (simp; omega)) _ | refine below_setRow ?_ (by first | omega | (simp; done) | (simp; omega)) _ )), KS.out.i64conv fun j _ _ => ?_⟩
            show (if j = x then r k else if j < x then r k else 0) = _
            split
            · rw [if_pos (by omega)]
            · by_cases e : j < x
              · rw [if_pos e, if_pos (by omega)]
              · rw [if_neg e, if_neg (by omega)]
          case measure => simp [intOf]; omega
        · obtain rfl : x = m := by omega
          have kl4 := kl3.i64conv (r := fun _ => r k) fun j _ h => by rw [if_pos h]
          clear kl3
          have F2 := hF.below b3
          have b4 := below_call b1 b1.size b3
          have z4 := b4.size
          go_wp2_with (at_builtin; refine wpList_append_own _ rfl (.tmp 28) (.tmp 30) 25 rfl w.heap.size 37 i0 (.slice none 0 0) 1 24 Tryz.underlying25 hi0 hz0 hz1 hz2 rfl (by decide) _ _ _ rfl (F2.row.alloc _) ⟨wr.heap.size, 0, none⟩ 1 1 [.slice (some ⟨w0.heap.size, 0, none⟩) x x] rfl rfl ?c1 ?c2 ?c3 ?c4 ?c5 ?_)
          try case c1 => exact cell_one_new _ _ _
          case c2 => simp [Value.oneCell']
          case c3 => unfold maxLen; omega
          case c4 => omega
          case c5 => first | omega | (simp; omega)
          intro v' w7 own7 hg7 _
          have F7 := (F2.below ((Below.refl _ _).alloc (Nat.le_refl _) _)).snoc (own_i64s (kl4.alloc _) zl (by unfold maxLen; omega)) hg7 own7
          have b7 : Below w.heap.size w w7 := (show Below w.heap.size w (wr.alloc (.cells #[.slice (some ⟨w0.heap.size, 0, none⟩) x x] 37)) by (repeat (first | exact Below.refl _ _ | assumption | refine Below.drew ?_ | refine below_drewN ?_ _ | refine Below.alloc ?_ (by first | omega | (simp; done) | (simp; omega)) _ | refine Below.setCell ?_ (by first | omega | (simp; done) | (simp; omega)) _ | refine below_setRow ?_ (by first | omega | (simp; done) | (simp; omega)) _ ))).grown hg7 (by simp; omega) (fun j hj => (own_ge F2.row hj).1)
          clear own7 hg7 F2 b3 kl4 b1 hF b4
          go_wp2
          go_roundw
          case rel => exact ⟨k + 1, _, by omega, by go_num, F7, b7⟩
          case measure => simp [intOf]; omega
    · obtain rfl : k = K := by omega
      go_wp2
      go_ret
      exact ⟨_, rfl, ⟨_, hF⟩, b1⟩
end Go.Proofs.YtdimlpcbbkokiaaGreat

/- Walks: the least and the greatest of a list of numbers; whether five lines have gaps that are alike (stave.even). -/
namespace Go.Proofs.YtdimlpcbbkokiaaGreat
open Go.RowKit Go.Shelf
set_option linter.unusedVariables false
attribute [local go_sem] Oper.semAt_some

def minA (q : Int → Int) : Nat → Int
  | 0 => q 0
  | i + 1 => if q ((i : Int) + 1) < minA q i then q ((i : Int) + 1) else minA q i
def maxA (q : Int → Int) : Nat → Int
  | 0 => q 0
  | i + 1 => if maxA q i < q ((i : Int) + 1) then q ((i : Int) + 1) else maxA q i
set_option maxHeartbeats 1000000 in
theorem min_any (A : Option Addr) (n c : Nat) (q : Int → Int) (w : World) (hA : ArrI w w.heap.size A (n + 1) q) (hn : n ≤ 1000000) :
    Calls Tryz.prog 109 #[.slice A (n + 1) c] w fun e w' => e = .returned (.int .i64 (minA q n)) ∧ w' = w := by
  obtain ⟨b, off, rfl, hb, hc⟩ := ArrI.fn hA (by omega)
  have HC := Lib.hid hc
  have h0 := hc 0 (by omega) (by omega)
  rw [show off + (0 : Int).toNat = off from rfl] at h0
  clear hc hA
  have hn0 : ¬ ((n : Int) + 1 < 1) := by omega
  go_enter Tryz.func109, Tryz.ntmps109
  go_wp2
  go_loopw [3, 4] (fun m s wr => ∃ i : Nat, i ≤ n ∧ s = .int .i64 ((i : Int) + 1) ∧ m = .int .i64 (minA q i) ∧ wr = w) (fun _ s _ => n + 1 - (intOf s).toNat)
  case atStart => exact ⟨0, by omega, rfl, rfl, rfl⟩
  case round =>
    obtain ⟨i, hi, rfl, rfl, rfl⟩ := hrel
    by_cases hlt : (i : Int) + 1 < (n : Int) + 1
    · have hr := HC.out ((i : Int) + 1) (by omega) (by omega)
      rw [show ((i : Int) + 1).toNat = i + 1 by omega] at hr
      have FS : Hid (minA q (i + 1) = if q ((i : Int) + 1) < minA q i then q ((i : Int) + 1) else minA q i) := by show _ = _; rfl
      generalize hM : minA q i = M at *
      generalize hQ : q ((i : Int) + 1) = Q at *
      clear hM hQ
      by_cases hl : Q < M
      · rw [if_pos hl] at FS
        go_wp2
        go_roundw
        case rel => exact ⟨i + 1, by omega, by go_num, by (rw [FS.out]; first | done | (congr 1; omega)), by simp⟩
        case measure => simp [intOf]; omega
      · rw [if_neg hl] at FS
        go_wp2
        go_roundw
        case rel => exact ⟨i + 1, by omega, by go_num, by (rw [FS.out]; first | done | (congr 1; omega)), by simp⟩
        case measure => simp [intOf]; omega
    · obtain rfl : i = n := by omega
      go_wp2
      go_ret
      exact ⟨rfl, rfl⟩
set_option maxHeartbeats 1000000 in
theorem max_any (A : Option Addr) (n c : Nat) (q : Int → Int) (w : World) (hA : ArrI w w.heap.size A (n + 1) q) (hn : n ≤ 1000000) :
    Calls Tryz.prog 110 #[.slice A (n + 1) c] w fun e w' => e = .returned (.int .i64 (maxA q n)) ∧ w' = w := by
  obtain ⟨b, off, rfl, hb, hc⟩ := ArrI.fn hA (by omega)
  have HC := Lib.hid hc
  have h0 := hc 0 (by omega) (by omega)
  rw [show off + (0 : Int).toNat = off from rfl] at h0
  clear hc hA
  have hn0 : ¬ ((n : Int) + 1 < 1) := by omega
  go_enter Tryz.func110, Tryz.ntmps110
  go_wp2
  go_loopw [3, 4] (fun m s wr => ∃ i : Nat, i ≤ n ∧ s = .int .i64 ((i : Int) + 1) ∧ m = .int .i64 (maxA q i) ∧ wr = w) (fun _ s _ => n + 1 - (intOf s).toNat)
  case atStart => exact ⟨0, by omega, rfl, rfl, rfl⟩
  case round =>
    obtain ⟨i, hi, rfl, rfl, rfl⟩ := hrel
    by_cases hlt : (i : Int) + 1 < (n : Int) + 1
    · have hr := HC.out ((i : Int) + 1) (by omega) (by omega)
      rw [show ((i : Int) + 1).toNat = i + 1 by omega] at hr
      have FS : Hid (maxA q (i + 1) = if maxA q i < q ((i : Int) + 1) then q ((i : Int) + 1) else maxA q i) := by show _ = _; rfl
      generalize hM : maxA q i = M at *
      generalize hQ : q ((i : Int) + 1) = Q at *
      clear hM hQ
      by_cases hl : M < Q
      · rw [if_pos hl] at FS
        go_wp2
        go_roundw
        case rel => exact ⟨i + 1, by omega, by go_num, by (rw [FS.out]; first | done | (congr 1; omega)), by simp⟩
        case measure => simp [intOf]; omega
      · rw [if_neg hl] at FS
        go_wp2
        go_roundw
        case rel => exact ⟨i + 1, by omega, by go_num, by (rw [FS.out]; first | done | (congr 1; omega)), by simp⟩
        case measure => simp [intOf]; omega
    · obtain rfl : i = n := by omega
      go_wp2
      go_ret
      exact ⟨rfl, rfl⟩

/-- lines that came in: a slice of slices -/
def Lines (w : World) (B : Nat) (A : Option Addr) (K : Nat) (m : Nat → Nat) (ln : Nat → Nat → Int) : Prop :=
  ∃ vs : Nat → Value, Arr w B A K (fun j => vs j.toNat) ∧ ∀ i, i < K → ∃ A' c', vs i = .slice A' (m i) c' ∧ ArrI w B A' (m i) (fun j => ln i j.toNat)
theorem Lines.below {w w' : World} {A : Option Addr} {K : Nat} {m : Nat → Nat} {ln : Nat → Nat → Int} (h : Lines w w.heap.size A K m ln) (hb : Below w.heap.size w w') : Lines w' w'.heap.size A K m ln := by
  obtain ⟨vs, h1, h2⟩ := h
  exact ⟨vs, (Arr.below h1 hb).more hb.size, fun i hi => by obtain ⟨A', c', e, ha⟩ := h2 i hi; exact ⟨A', c', e, ha.to hb⟩⟩
theorem Lines.at_ {w : World} {B : Nat} {A : Option Addr} {K : Nat} {m : Nat → Nat} {ln : Nat → Nat → Int} (h : Lines w B A K m ln) {i : Nat} (hi : i < K) :
    ∃ b off A' c', A = some ⟨b, off, none⟩ ∧ b < B ∧ w.cell? ⟨b, off + i, none⟩ = some (.slice A' (m i) c') ∧ ArrI w B A' (m i) (fun j => ln i j.toNat) := by
  obtain ⟨vs, h1, h2⟩ := h
  obtain ⟨b, off, e, hb, hc⟩ := Arr.at_ h1 (i := (i : Int)) (by omega) (by omega)
  rw [Int.toNat_natCast] at hc
  obtain ⟨A', c', e', ha⟩ := h2 i hi
  exact ⟨b, off, A', c', e, hb, by rw [hc, e'], ha⟩

/-- the gaps of lines at both ends, two of a pair of lines -/
def gapF (ln : Nat → Nat → Int) (m : Nat) (j : Nat) : Int := if j % 2 = 0 then ln (j / 2 + 1) 0 - ln (j / 2) 0 else ln (j / 2 + 1) (m - 1) - ln (j / 2) (m - 1)
def evenV (ln : Nat → Nat → Int) (m : Nat) : Bool := decide (2 ≤ minA (fun j => gapF ln m j.toNat) 7 ∧ maxA (fun j => gapF ln m j.toNat) 7 ≤ 64 ∧ maxA (fun j => gapF ln m j.toNat) 7 - minA (fun j => gapF ln m j.toNat) 7 ≤ 2)
def evenB (m : Nat → Nat) (ln : Nat → Nat → Int) : Bool := ((List.range 5).all fun i => decide (0 < m i ∧ m i = m 0)) && evenV ln (m 0)
theorem gap_snoc (ln : Nat → Nat → Int) (m i : Nat) : (List.range (2 * (i + 1))).map (fun j => Value.int .i64 (gapF ln m j)) = (List.range (2 * i)).map (fun j => Value.int .i64 (gapF ln m j)) ++ [.int .i64 (ln (i + 1) 0 - ln i 0), .int .i64 (ln (i + 1) (m - 1) - ln i (m - 1))] := by
  rw [show 2 * (i + 1) = 2 * i + 1 + 1 by omega, range_snoc, range_snoc, List.append_assoc]
  have e1 : gapF ln m (2 * i) = ln (i + 1) 0 - ln i 0 := by unfold gapF; rw [if_pos (by omega), show 2 * i / 2 = i by omega]
  have e2 : gapF ln m (2 * i + 1) = ln (i + 1) (m - 1) - ln i (m - 1) := by unfold gapF; rw [if_neg (by omega), show (2 * i + 1) / 2 = i by omega]
  rw [e1, e2]; rfl
theorem minA_bd {q : Int → Int} {b : Int} (n : Nat) (h : ∀ i : Int, 0 ≤ i → i ≤ n → -b ≤ q i ∧ q i ≤ b) : -b ≤ minA q n ∧ minA q n ≤ b := by
  induction n with
  | zero => exact h 0 (by omega) (by omega)
  | succ n ih =>
    have := ih fun i a c => h i a (by omega)
    have := h ((n : Int) + 1) (by omega) (by omega)
    rw [minA]; split <;> omega
theorem maxA_bd {q : Int → Int} {b : Int} (n : Nat) (h : ∀ i : Int, 0 ≤ i → i ≤ n → -b ≤ q i ∧ q i ≤ b) : -b ≤ maxA q n ∧ maxA q n ≤ b := by
  induction n with
  | zero => exact h 0 (by omega) (by omega)
  | succ n ih =>
    have := ih fun i a c => h i a (by omega)
    have := h ((n : Int) + 1) (by omega) (by omega)
    rw [maxA]; split <;> omega

set_option maxRecDepth 100000 in
set_option maxHeartbeats 4000000 in
theorem even_any (A : Option Addr) (c : Nat) (m : Nat → Nat) (ln : Nat → Nat → Int) (w : World) (hL : Lines w w.heap.size A 5 m ln) (hm : ∀ i, i < 5 → m i ≤ 1000000) (hb : ∀ i j, i < 5 → j < m i → -1099511627776 ≤ ln i j ∧ ln i j ≤ 1099511627776) :
    Calls Tryz.prog 76 #[.slice A 5 c] w fun e w' => e = .returned (.bool (evenB m ln)) ∧ Below w.heap.size w w' := by
  obtain ⟨i0, hi0, hz0', hz1, hz2⟩ := info_parts infoInt
  have HL := Lib.hid hL
  have EV0 : Hid (∀ i, i < 5 → ¬ (0 < m i ∧ m i = m 0) → evenB m ln = false) := by
    show ∀ _, _
    intro i hi hn
    unfold evenB
    rw [Bool.and_eq_false_iff]
    left
    rw [List.all_eq_false]
    exact ⟨i, List.mem_range.2 hi, by simpa using hn⟩
  have EV1 : Hid ((∀ i, i < 5 → 0 < m i ∧ m i = m 0) → evenB m ln = evenV ln (m 0)) := by
    show _ → _
    intro h
    unfold evenB
    rw [show ((List.range 5).all fun i => decide (0 < m i ∧ m i = m 0)) = true from List.all_eq_true.2 fun i hi => decide_eq_true (h i (List.mem_range.1 hi)), Bool.true_and]
  obtain ⟨b, off, A0, c0, rfl, hbB, h0, ha0⟩ := hL.at_ (i := 0) (by omega)
  rw [Nat.add_zero] at h0
  have HM := Lib.hid hm; have HB := Lib.hid hb
  clear hL hm hb ha0
  generalize hm0 : m 0 = m0 at *
  have HM0 := Lib.hid hm0; clear hm0
  have h0 := Lib.hid h0
  go_enter Tryz.func76, Tryz.ntmps76
  go_wp2
  go_loopw [3, 11] (fun vo s wr => ∃ i : Nat, i ≤ 5 ∧ s = .int .i64 i ∧ (∀ j, j < i → 0 < m j ∧ m j = m0) ∧ wr.ownsRow w.heap.size 3 1 vo (2 * (i - 1)) ((List.range (2 * (i - 1))).map fun j => Value.int .i64 (gapF ln m0 j)) ∧ Below w.heap.size w wr) (fun _ s _ => 5 - (intOf s).toNat)
  case atStart => exact ⟨0, by omega, rfl, fun j hj => by omega, World.ownsRow_nil _ _ _ _, Below.refl _ _⟩
  case round =>
    obtain ⟨i, hi, rfl, hg, hown, b1⟩ := hrel
    have hz := h0.out
    have hz' := (b1.cell (p := ⟨b, off, none⟩) hbB).trans hz
    clear hz
    by_cases hlt : (i : Int) < 5
    · obtain ⟨b2, off2, A2, c2, e2, -, hc2, ha2⟩ := HL.out.at_ (i := i) (by omega)
      cases e2
      replace hc2 := (b1.cell (p := ⟨b, off + i, none⟩) hbB).trans hc2
      have MI := HM.out i (by omega)
      obtain ⟨mi, hmi⟩ : ∃ mi, m i = mi := ⟨_, rfl⟩
      rw [hmi] at hc2 ha2 MI
      have HMI := Lib.hid hmi
      clear hmi
      by_cases hz0 : mi = 0
      · have E : evenB m ln = false := EV0.out i (by omega) (by rw [HMI.out]; omega)
        subst hz0
        clear hown ha2 hz'
        go_wp2
        go_ret
        exact ⟨by rw [E]; rfl, b1⟩
      · have hz1' : ((mi : Int) == 0) = false := by simp; omega
        have hz2' : ¬ ((mi : Int) = 0) := by omega
        by_cases hzm : mi = m0
        · subst hzm
          have g1 : ∀ j, j < i + 1 → 0 < m j ∧ m j = mi := fun j hj => by
            rcases Nat.lt_succ_iff_lt_or_eq.1 hj with h | rfl
            · exact hg j h
            · exact ⟨by rw [HMI.out]; omega, HMI.out⟩
          have G1 := Lib.hid g1
          clear g1
          by_cases hi0' : i = 0
          · subst hi0'
            clear ha2 hg
            go_wp2
            go_roundw
            case rel => exact ⟨1, by omega, rfl, G1.out, hown, b1⟩
            case measure => simp [intOf]
          · obtain ⟨k, rfl⟩ : ∃ k, i = k + 1 := ⟨i - 1, by omega⟩
            obtain ⟨b4, off4, A4, c4, e4, -, hc4, ha4⟩ := HL.out.at_ (i := k) (by omega)
            cases e4
            replace hc4 := (b1.cell (p := ⟨b, off + k, none⟩) hbB).trans hc4
            rw [(hg k (by omega)).2] at hc4 ha4
            obtain ⟨b3, off3, rfl, hb3, hc3⟩ := ArrI.fn ha2 (by omega)
            obtain ⟨b5, off5, rfl, hb5, hc5⟩ := ArrI.fn ha4 (by omega)
            have x1 := hc3 0 (by omega) (by omega)
            have x2 := hc3 ((mi : Int) - 1) (by omega) (by omega)
            have x3 := hc5 0 (by omega) (by omega)
            have x4 := hc5 ((mi : Int) - 1) (by omega) (by omega)
            rw [show ((mi : Int) - 1).toNat = mi - 1 by omega] at x2 x4
            simp only [Int.toNat_zero, Nat.add_zero] at x1 x3
            replace x1 := (b1.cell (p := ⟨b3, off3, none⟩) hb3).trans x1
            replace x2 := (b1.cell (p := ⟨b3, off3 + (mi - 1), none⟩) hb3).trans x2
            replace x3 := (b1.cell (p := ⟨b5, off5, none⟩) hb5).trans x3
            replace x4 := (b1.cell (p := ⟨b5, off5 + (mi - 1), none⟩) hb5).trans x4
            obtain ⟨y1, y2⟩ := HB.out (k + 1) 0 (by omega) (by rw [HMI.out]; omega)
            obtain ⟨y3, y4⟩ := HB.out (k + 1) (mi - 1) (by omega) (by rw [HMI.out]; omega)
            obtain ⟨y5, y6⟩ := HB.out k 0 (by omega) (by have := hg k (by omega); omega)
            obtain ⟨y7, y8⟩ := HB.out k (mi - 1) (by omega) (by have := hg k (by omega); omega)
            have GS := Lib.hid (gap_snoc ln mi k)
            generalize ln (k + 1) 0 = a1 at *
            generalize ln (k + 1) (mi - 1) = a2 at *
            generalize ln k 0 = a3 at *
            generalize ln k (mi - 1) = a4 at *
            have v1 : IntKind.i64.wrap (a1 - a3) = a1 - a3 := IntWalk.i64_in _ (by omega)
            have v2 : IntKind.i64.wrap (a2 - a4) = a2 - a4 := IntWalk.i64_in _ (by omega)
            have v3 : IntKind.i64.wrap ((mi : Int) - 1) = (mi : Int) - 1 := IntWalk.i64_in _ (by omega)
            clear hc3 hc5 ha2 ha4 hg
            have k1 : (((k + 1 : Nat) : Int)) = (k : Int) + 1 := by omega
            have o3 : u3.ownBlock ≠ some b3 := fun e => by have := own_ge hown e; omega
            have o5 : u3.ownBlock ≠ some b5 := fun e => by have := own_ge hown e; omega
            have n3 := World.new_ne wr _ x1; have n5 := World.new_ne wr _ x3
            have z1 := b1.size
            have j1 : (0 : Int) < (mi : Int) := by omega
            have j2 : (mi : Int) - 1 < (mi : Int) := by omega
            have j3 : (0 : Int) ≤ (mi : Int) - 1 := by omega
            have j4 : 0 < mi := by omega
            have j5 : (1 : Int) ≤ (mi : Int) := by omega
            have j6 : 1 ≤ mi := by omega
            rw [k1]
            go_wp2_with fail
            go_region_held3 (fun w' => w'.cell? ⟨b3, off3, none⟩ = some (.int .i64 a1) ∧ w'.cell? ⟨b3, off3 + (mi - 1), none⟩ = some (.int .i64 a2) ∧ w'.cell? ⟨b5, off5, none⟩ = some (.int .i64 a3) ∧ w'.cell? ⟨b5, off5 + (mi - 1), none⟩ = some (.int .i64 a4))
              (first
                | (simp [go_sem, *]; done)
                | (go_keep; done)
                | (refine ⟨?_, ?_, ?_, ?_⟩
                   · (rw [hgrow.cell_far _ (by simp; omega) (Ne.symm o3)]; first | assumption | (go_keep; done) | (simp [go_sem, *]; done))
                   · (rw [hgrow.cell_far _ (by simp; omega) (Ne.symm o3)]; first | assumption | (go_keep; done) | (simp [go_sem, *]; done))
                   · (rw [hgrow.cell_far _ (by simp; omega) (Ne.symm o5)]; first | assumption | (go_keep; done) | (simp [go_sem, *]; done))
                   · (rw [hgrow.cell_far _ (by simp; omega) (Ne.symm o5)]; first | assumption | (go_keep; done) | (simp [go_sem, *]; done))))
              ((refine step_append_lies _ (by rfl) _ _ _ (by rfl) w.heap.size 3 i0 (.int .i64 0) 1 8 Tryz.underlying37 hi0 hz0' hz1 hz2 rfl (by omega) u3 _ _ (by rfl) ((hown.alloc _).drew) ⟨wr.heap.size, 0, none⟩ 2 2 [.int .i64 (a1 - a3), .int .i64 (a2 - a4)] (by rfl) (by rfl) (World.news_of_block (cs := #[.int .i64 (a1 - a3), .int .i64 (a2 - a4)]) (t := 3) (fr := (0, 0)) (heap_alloc_new wr _)) (by simp [Value.oneCell']) (by omega) (by unfold maxLen; omega) (by omega) (by simp; omega) (wr.heap.size + 1) (by simp) ?_; intro gg cap w1 hown1 hgrow hat hlt1))
            all_goals
              have b9 : Below w.heap.size w w1 := (show Below w.heap.size w (wr.alloc (.cells #[.int .i64 (a1 - a3), .int .i64 (a2 - a4)] 3)).drew from (b1.alloc b1.size _).drew).grown hgrow (by simp; omega) (fun j hj => (own_ge hown hj).1)
              clear hown hgrow b1 hat x1 x2 x3 x4
              go_wp2
              go_roundw
              case rel => exact ⟨k + 1 + 1, by omega, by go_num, G1.out, by rw [show k + 1 + 1 - 1 = k + 1 from rfl, GS.out]; exact hown1, b9⟩
              case measure => simp [intOf]; omega
        · have E : evenB m ln = false := EV0.out i (by omega) (by rw [HMI.out]; omega)
          have hzm' : ((mi : Int) != (m0 : Int)) = true := by simp; omega
          clear hown ha2
          go_wp2
          go_ret
          exact ⟨by rw [E]; rfl, b1⟩
    · obtain rfl : i = 5 := by omega
      change wr.ownsRow _ _ 1 u3 8 ((List.range 8).map _) at hown
      obtain ⟨A8, c8, rfl, ha8⟩ := own_arrI hown
      have E := EV1.out hg
      have GB : ∀ j : Int, 0 ≤ j → j ≤ (7 : Nat) → -2199023255552 ≤ gapF ln m0 j.toNat ∧ gapF ln m0 j.toNat ≤ 2199023255552 := fun j j0 j1 => by
        have q1 := hg (j.toNat / 2) (by omega)
        have q2 := hg (j.toNat / 2 + 1) (by omega)
        have q3 := HB.out (j.toNat / 2) 0 (by omega) (by omega)
        have q4 := HB.out (j.toNat / 2 + 1) 0 (by omega) (by omega)
        have q5 := HB.out (j.toNat / 2) (m0 - 1) (by omega) (by omega)
        have q6 := HB.out (j.toNat / 2 + 1) (m0 - 1) (by omega) (by omega)
        unfold gapF
        split <;> omega
      obtain ⟨g1, g2⟩ := minA_bd (q := fun j => gapF ln m0 j.toNat) 7 GB
      obtain ⟨g3, g4⟩ := maxA_bd (q := fun j => gapF ln m0 j.toNat) 7 GB
      have MI := Lib.hid fun W ha => min_any A8 7 c8 (fun j => gapF ln m0 j.toNat) W ha (by omega)
      have MA := Lib.hid fun W ha => max_any A8 7 c8 (fun j => gapF ln m0 j.toNat) W ha (by omega)
      unfold evenV at E
      generalize minA (fun j => gapF ln m0 j.toNat) 7 = MN at *
      generalize maxA (fun j => gapF ln m0 j.toNat) 7 = MX at *
      replace E := Lib.hid E
      have v1 : IntKind.i64.wrap (MX - MN) = MX - MN := IntWalk.i64_in _ (by omega)
      clear GB hg hz'
      have HA := Lib.hid ha8
      by_cases c1 : 2 ≤ MN
      · by_cases c2 : MX ≤ 64
        · by_cases c3 : MX - MN ≤ 2
          · have F : Hid (evenB m ln = true) := by show _ = _; rw [E.out]; simp [c1, c2, c3]
            clear E
            go_wp2_with fail
            refine (MI.out _ HA.out).mono ?_
            rintro e w5 ⟨rfl, rfl⟩
            go_wp2_with fail
            refine (MA.out _ HA.out).mono ?_
            rintro e w6 ⟨rfl, rfl⟩
            go_wp2
            go_ret
            exact ⟨by rw [F.out]; first | rfl | exact ret_bool (decide_eq_false (by omega)), b1⟩
          · have F : Hid (evenB m ln = false) := by show _ = _; rw [E.out]; simp [c3]
            clear E
            go_wp2_with fail
            refine (MI.out _ HA.out).mono ?_
            rintro e w5 ⟨rfl, rfl⟩
            go_wp2_with fail
            refine (MA.out _ HA.out).mono ?_
            rintro e w6 ⟨rfl, rfl⟩
            go_wp2
            go_ret
            exact ⟨by rw [F.out]; first | rfl | exact ret_bool (decide_eq_false (by omega)), b1⟩
        · have F : Hid (evenB m ln = false) := by show _ = _; rw [E.out]; simp [c2]
          clear E
          go_wp2_with fail
          refine (MI.out _ HA.out).mono ?_
          rintro e w5 ⟨rfl, rfl⟩
          go_wp2_with fail
          refine (MA.out _ HA.out).mono ?_
          rintro e w6 ⟨rfl, rfl⟩
          go_wp2
          go_ret
          exact ⟨by rw [F.out]; first | rfl | exact ret_bool (decide_eq_false (by omega)), b1⟩
      · have F : Hid (evenB m ln = false) := by show _ = _; rw [E.out]; simp [c1]
        clear E
        go_wp2_with fail
        refine (MI.out _ HA.out).mono ?_
        rintro e w5 ⟨rfl, rfl⟩
        go_wp2_with fail
        refine (MA.out _ HA.out).mono ?_
        rintro e w6 ⟨rfl, rfl⟩
        go_wp2
        go_ret
        exact ⟨by rw [F.out]; first | rfl | exact ret_bool (decide_eq_false (by omega)), b1⟩
end Go.Proofs.YtdimlpcbbkokiaaGreat

/- Walks: whether a stave fits an image (stave.fits, stave.Check; the reference's Fits, Check). -/
namespace Go.Proofs.YtdimlpcbbkokiaaGreat
open Go.RowKit Go.Shelf
set_option linter.unusedVariables false
attribute [local go_sem] Oper.semAt_some

/-- five lines are paths of the image and lie one under the other -/
def StP (W H : Int) (K : Nat) (m : Nat → Nat) (ln : Nat → Nat → Int) : Prop :=
  K = 5 ∧ (∀ i, i < 5 → isPathB W H (m i) (fun j => ln i j.toNat) = true) ∧ ∀ i, i + 1 < 5 → ∀ x : Nat, (x : Int) < W → ln i x < ln (i + 1) x
def stFits (W H : Int) (K : Nat) (m : Nat → Nat) (ln : Nat → Nat → Int) : Bool :=
  decide (K = 5) && (((List.range 5).all fun i => isPathB W H (m i) fun j => ln i j.toNat) && (List.range 4).all fun i => (List.range W.toNat).all fun x => decide (ln i x < ln (i + 1) x))
theorem stFits_iff {W H : Int} {K : Nat} {m : Nat → Nat} {ln : Nat → Nat → Int} : stFits W H K m ln = true ↔ StP W H K m ln := by
  unfold stFits StP
  rw [Bool.and_eq_true, Bool.and_eq_true, decide_eq_true_iff, List.all_eq_true, List.all_eq_true]
  refine and_congr_right fun _ => and_congr ⟨fun h i hi => h i (List.mem_range.2 hi), fun h i hi => h i (List.mem_range.1 hi)⟩ ⟨fun h i hi x hx => ?_, fun h i hi => ?_⟩
  · have := List.all_eq_true.1 (h i (List.mem_range.2 (by omega))) x (List.mem_range.2 (by omega))
    simpa using this
  · rw [List.all_eq_true]
    intro x hx
    have := List.mem_range.1 hi
    have := List.mem_range.1 hx
    exact decide_eq_true (h i (by omega) x (by omega))
theorem stFits_no {W H : Int} {K : Nat} {m : Nat → Nat} {ln : Nat → Nat → Int} (h : ¬ StP W H K m ln) : stFits W H K m ln = false := Bool.eq_false_iff.2 fun e => h (stFits_iff.1 e)
theorem Blk.cells0 {w : World} {g : Nat} {t : TypeId} {a : Value} (h : Blk w g t #[a]) : w.cell? ⟨g, 0, none⟩ = some a := by rw [h.cell]; rfl

set_option maxRecDepth 100000 in
set_option maxHeartbeats 4000000 in
theorem fits_st (W H : Int) (A AL : Option Addr) (n c K cL : Nat) (m : Nat → Nat) (ln : Nat → Nat → Int) (w : World) (hW : W ≤ 640) (hH : H ≤ 640) (hL : Lines w w.heap.size AL K m ln) (hm : ∀ i, i < K → m i ≤ maxLen) :
    Calls Tryz.prog 79 #[.agg #[.int .i64 W, .int .i64 H, .slice A n c], .agg #[.slice AL K cL]] w fun e w' => e = .returned (.bool (stFits W H K m ln)) ∧ Below w.heap.size w w' := by
  have IP := Lib.hid fun i (hi : i < K) P d w' hP => isPath_any W H A P n c (m i) d (fun j => ln i j.toNat) w' hW hH hP (hm i hi)
  by_cases hK : K = 5
  · subst hK
    clear hm
    go_enter Tryz.func79, Tryz.ntmps79
    go_wp2_with fail
    have k1 : Blk ((w.alloc (.cells #[.int .i64 W, .int .i64 H, .slice A n c] 24)).alloc (.cells #[.slice AL 5 cL] 40)) w.heap.size 24 #[.int .i64 W, .int .i64 H, .slice A n c] := (Blk.new _ _ _).alloc _
    have k2 : Blk ((w.alloc (.cells #[.int .i64 W, .int .i64 H, .slice A n c] 24)).alloc (.cells #[.slice AL 5 cL] 40)) (w.heap.size + 1) 40 #[.slice AL 5 cL] := Blk.new' (by simp) _ _
    have b1 : Below w.heap.size w ((w.alloc (.cells #[.int .i64 W, .int .i64 H, .slice A n c] 24)).alloc (.cells #[.slice AL 5 cL] 40)) := by (repeat (first | exact Below.refl _ _ | assumption | refine Below.drew ?_ | refine below_drewN ?_ _ | refine Below.alloc ?_ (by first | omega | (simp; done) | (simp; omega)) _ | refine Below.setCell ?_ (by first | omega | (simp; done) | (simp; omega)) _ | refine below_setRow ?_ (by first | omega | (simp; done) | (simp; omega)) _ ))
    generalize (w.alloc (.cells #[.int .i64 W, .int .i64 H, .slice A n c] 24)).alloc (.cells #[.slice AL 5 cL] 40) = w1 at *
    go_loopw [15] (fun s wr => ∃ i : Nat, i ≤ 5 ∧ s = .int .i64 i ∧ (∀ j, j < i → isPathB W H (m j) (fun t => ln j t.toNat) = true) ∧ (∀ j, j + 1 < i → ∀ x : Nat, (x : Int) < W → ln j x < ln (j + 1) x) ∧ Below w.heap.size w wr ∧ Blk wr w.heap.size 24 #[.int .i64 W, .int .i64 H, .slice A n c] ∧ Blk wr (w.heap.size + 1) 40 #[.slice AL 5 cL]) (fun s _ => 5 - (intOf s).toNat)
    case atStart => exact ⟨0, by omega, rfl, fun j hj => by omega, fun j hj => by omega, b1, k1, k2⟩
    case round =>
      obtain ⟨i, hi, rfl, hp, ho, b2, q1, q2⟩ := hrel
      clear b1 k1 k2
      obtain ⟨p1, p2, p3⟩ := q1.cells3
      have r1 := q2.cells0
      have HP := Lib.hid hp; have HO := Lib.hid ho
      clear hp ho
      by_cases hlt : (i : Int) < 5
      · obtain ⟨bA, oA, A1, c1, rfl, hbA, hcA, haA⟩ := hL.at_ (i := i) (by omega)
        have hc1 := (b2.cell (p := ⟨bA, oA + i, none⟩) hbA).trans hcA
        have ha1 := (haA.below b2).more b2.size
        have IPi := Lib.hid fun w' hP => IP.out i (by omega) A1 c1 w' hP
        cases hpi : isPathB W H (m i) (fun t => ln i t.toNat) with
        | false =>
          have hr : Hid (stFits W H 5 m ln = false) := by
            show _ = _
            exact stFits_no fun h => by have := h.2.1 i (by omega); rw [hpi] at this; cases this
          rw [hpi] at IPi
          clear hpi hcA
          go_wp2_with fail
          refine (IPi.out _ ha1).mono ?_
          rintro e w3 ⟨rfl, hb3⟩
          have b3 := below_call b2 b2.size hb3
          go_wp2
          go_ret
          exact ⟨ret_bool hr.out.symm, b3⟩
        | true =>
          rw [hpi] at IPi
          have HPI := Lib.hid hpi
          obtain ⟨⟨g1, g2, g3⟩, g4⟩ := isPathB_iff.1 hpi
          have BD := Lib.hid fun (x : Nat) (hx : (x : Int) < (m i : Int)) => (stepB_iff.1 (g4 x (by omega) hx))
          clear hpi g4 hcA
          go_wp2_with fail
          refine (IPi.out _ ha1).mono ?_
          rintro e w3 ⟨rfl, hb3⟩
          have b3 := below_call b2 b2.size hb3
          have q3 := q1.below' hb3
          have q4 := q2.below' hb3
          have ha3 := ha1.to hb3
          clear b2 q1 q2 hb3 p1 p2 p3 r1 ha1 hc1
          obtain ⟨p1, p2, p3⟩ := q3.cells3
          have r1 := q4.cells0
          go_wp2_with fail
          generalize hmi : m i = Mi at *
          have HMI := Lib.hid hmi
          clear hmi
          go_loopw [26] (fun s wr => ∃ x : Nat, x ≤ Mi ∧ s = .int .i64 x ∧ (∀ k, i = k + 1 → ∀ t : Nat, t < x → ln k t < ln i t) ∧ ∃ nn, wr = w3.drewN nn) (fun s _ => Mi - (intOf s).toNat)
          case atStart => exact ⟨0, by omega, rfl, fun k hk t ht => by omega, 0, rfl⟩
          case round =>
            obtain ⟨x, hx, rfl, hlx, nn, hwr⟩ := hrel
            have b4 : Below w.heap.size w wr := by rw [hwr]; exact below_drewN b3 nn
            have q5 : Blk wr w.heap.size 24 #[.int .i64 W, .int .i64 H, .slice A n c] := by rw [hwr]; exact q3.drewN nn
            have q6 : Blk wr (w.heap.size + 1) 40 #[.slice (some ⟨bA, oA, none⟩) 5 cL] := by rw [hwr]; exact q4.drewN nn
            have ha4 : ArrI wr wr.heap.size A1 Mi (fun t => ln i t.toNat) := by rw [hwr]; exact ha3
            have HWR := Lib.hid hwr
            have HLX := Lib.hid hlx
            clear hwr hlx p1 p2 p3 r1
            obtain ⟨p1, p2, p3⟩ := q5.cells3
            have r1 := q6.cells0
            by_cases xl : (x : Int) < Mi
            · by_cases i0 : i = 0
              · have d0 : decide ((0 : Int) < (i : Int)) = false := decide_eq_false (by omega)
                have d0' : decide (0 < i) = false := decide_eq_false (by omega)
                have HI0 := Lib.hid i0
                clear i0
                go_wp2_with fail
                go_quiet (fail)
                go_wp2
                go_roundw
                case rel => exact ⟨x + 1, by omega, by go_num, fun k hk => by have := HI0.out; omega, _, by rw [HWR.out]; exact World.drewN_drewN _ _ _⟩
                case measure => simp [intOf]; omega
              · obtain ⟨k, hk⟩ : ∃ k, i = k + 1 := ⟨i - 1, by omega⟩
                obtain ⟨bB, oB, A2, c2, eB, hbB, hcB, haB⟩ := hL.at_ (i := k) (by omega)
                cases eB
                have hc2 := (b4.cell (p := ⟨bA, oA + k, none⟩) hbA).trans hcB
                have ha5 := (haB.below b4).more b4.size
                obtain ⟨⟨j1, j2, j3⟩, -⟩ := isPathB_iff.1 (HP.out k (by omega))
                obtain ⟨b1', o1', e1', -, hx1⟩ := ArrI.at_ ha4 (i := (x : Int)) (by omega) xl
                obtain ⟨b2', o2', e2', -, hx2⟩ := ArrI.at_ ha5 (i := (x : Int)) (by omega) (by omega)
                subst e1'
                subst e2'
                rw [Int.toNat_natCast] at hx1 hx2
                have d0 : decide ((0 : Int) < (i : Int)) = true := decide_eq_true (by omega)
                have d0' : decide (0 < i) = true := decide_eq_true (by omega)
                have d0p : 0 < i := by omega
                have v1 : IntKind.i64.wrap ((i : Int) - 1) = (k : Int) := by rw [show (i : Int) - 1 = k by omega]; exact IntWalk.i64_in _ (by omega)
                have k5 : (k : Int) < 5 := by omega
                have k0 : (0 : Int) ≤ (k : Int) := by omega
                have xm : (x : Int) < (m k : Int) := by omega
                have HKE := Lib.hid hk
                have HMK := Lib.hid j3
                by_cases hle : ln i x ≤ ln k x
                · have hr : Hid (stFits W H 5 m ln = false) := by
                    show _ = _
                    exact stFits_no fun h => by
                      have h1 := h.2.2 k (by have := HKE.out; omega) x (by omega)
                      rw [← HKE.out] at h1; omega
                  have dl : decide (ln i x ≤ ln k x) = true := decide_eq_true hle
                  clear hk hcB
                  generalize ln i x = va at *
                  generalize ln k x = vb at *
                  go_wp2_with fail
                  go_quiet (fail)
                  go_wp2
                  go_ret
                  exact ⟨ret_bool hr.out.symm, below_drewN b4 _⟩
                · have hll : Hid (ln k x < ln i x) := by show _ < _; omega
                  have dl : decide (ln i x ≤ ln k x) = false := decide_eq_false hle
                  clear hk hcB
                  generalize hva : ln i x = va at *
                  generalize hvb : ln k x = vb at *
                  have HVA := Lib.hid hva; have HVB := Lib.hid hvb
                  clear hva hvb
                  go_wp2_with fail
                  go_quiet (fail)
                  go_wp2
                  go_roundw
                  case rel =>
                    refine ⟨x + 1, by omega, by go_num, fun k' hk' t ht => ?_, _, by rw [HWR.out]; exact World.drewN_drewN _ _ _⟩
                    rcases Nat.lt_succ_iff_lt_or_eq.1 ht with h | rfl
                    · exact HLX.out k' hk' t h
                    · obtain rfl : k = k' := by have := HKE.out; omega
                      rw [HVA.out, HVB.out]; exact hll.out
                  case measure => simp [intOf]; omega
            · obtain rfl : Mi = x := by omega
              go_wp2_with fail
              go_roundw
              case rel =>
                refine ⟨i + 1, by omega, by go_num, fun j hj => ?_, fun j hj x hx => ?_, b4, q5, q6⟩
                · rcases Nat.lt_succ_iff_lt_or_eq.1 hj with h | rfl
                  · exact HP.out j h
                  · exact HMI.out ▸ HPI.out
                · by_cases h : j + 1 < i
                  · exact HO.out j h x hx
                  · obtain rfl : i = j + 1 := by omega
                    exact HLX.out j rfl x (by omega)
              case measure => simp [intOf]; omega
      · obtain rfl : i = 5 := by omega
        have hr : Hid (stFits W H 5 m ln = true) := by show _ = _; exact stFits_iff.2 ⟨rfl, HP.out, HO.out⟩
        go_wp2
        go_ret
        exact ⟨ret_bool hr.out.symm, b2⟩
  · have hr : Hid (stFits W H K m ln = false) := by show _ = _; exact stFits_no fun h => hK h.1
    have hb : ((K : Int) != 5) = true := by simp; omega
    clear hK
    go_enter Tryz.func79, Tryz.ntmps79
    go_wp2
    go_ret
    exact ⟨ret_bool hr.out.symm, by (repeat (first | exact Below.refl _ _ | assumption | refine Below.drew ?_ | refine below_drewN ?_ _ | refine Below.alloc ?_ (by first | omega | (simp; done) | (simp; omega)) _ | refine Below.setCell ?_ (by first | omega | (simp; done) | (simp; omega)) _ | refine below_setRow ?_ (by first | omega | (simp; done) | (simp; omega)) _ ))⟩
end Go.Proofs.YtdimlpcbbkokiaaGreat
