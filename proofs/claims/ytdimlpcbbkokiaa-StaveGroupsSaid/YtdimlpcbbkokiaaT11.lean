/- The library's sort at the lines: the contract laid at this program, and what it says of a row of slices. -/
import Derived.Test.YtdimlpcbbkokiaaT10
import Derived.Shelf.SlSortCmp.Whole1
namespace Go.Proofs.Ytdimlpcbbkokiaa
open Go.RowKit Go.Shelf Go.Sort
set_option linter.unusedVariables false
attribute [local go_sem] Oper.semAt_some

def Try.sortLines_ren : Go.Shelf.Ren := ⟨fun | 6 => 64 | 15 => 106 | 14 => 105 | 28 => 130 | 29 => 131 | 20 => 122 | 21 => 123 | 22 => 124 | 23 => 125 | 24 => 126 | 25 => 127 | 26 => 128 | 27 => 129 | 46 => 147 | 47 => 148 | 48 => 149 | 49 => 150 | 50 => 151 | 57 => 157 | n => n, fun | 22 => 34 | 24 => 25 | 25 => 96 | 3 => 3 | 39 => 130 | 0 => 0 | 53 => 152 | 55 => 154 | 4 => 4 | 46 => 145 | 45 => 144 | 50 => 149 | 5 => 5 | 9 => 9 | 66 => 163 | 70 => 167 | 76 => 173 | 77 => 80 | n => n, fun | n => n⟩
theorem Try.sortLines : Go.Proofs.SlLaysF.n6 Try.prog Try.sortLines_ren := {
  mixed := by kernel_rfl
  f6 := ⟨Try.f64.name, by decide, Try.func64.trans (congrArg some (by kernel_rfl))⟩
  f14 := ⟨Try.f105.name, by decide, Try.func105.trans (congrArg some (by kernel_rfl))⟩
  f15 := Try.func106.trans (congrArg some (by kernel_rfl))
  f20 := ⟨Try.f122.name, by decide, Try.func122.trans (congrArg some (by kernel_rfl))⟩
  f21 := ⟨Try.f123.name, by decide, Try.func123.trans (congrArg some (by kernel_rfl))⟩
  f22 := ⟨Try.f124.name, by decide, Try.func124.trans (congrArg some (by kernel_rfl))⟩
  f23 := ⟨Try.f125.name, by decide, Try.func125.trans (congrArg some (by kernel_rfl))⟩
  f24 := ⟨Try.f126.name, by decide, Try.func126.trans (congrArg some (by kernel_rfl))⟩
  f25 := ⟨Try.f127.name, by decide, Try.func127.trans (congrArg some (by kernel_rfl))⟩
  f26 := ⟨Try.f128.name, by decide, Try.func128.trans (congrArg some (by kernel_rfl))⟩
  f27 := ⟨Try.f129.name, by decide, Try.func129.trans (congrArg some (by kernel_rfl))⟩
  f28 := Try.func130.trans (congrArg some (by kernel_rfl))
  f29 := Try.func131.trans (congrArg some (by kernel_rfl))
  f46 := ⟨Try.f147.name, by decide, Try.func147.trans (congrArg some (by kernel_rfl))⟩
  f47 := Try.func148.trans (congrArg some (by kernel_rfl))
  f48 := Try.func149.trans (congrArg some (by kernel_rfl))
  f49 := ⟨Try.f150.name, by decide, Try.func150.trans (congrArg some (by kernel_rfl))⟩
  f50 := ⟨Try.f151.name, by decide, Try.func151.trans (congrArg some (by kernel_rfl))⟩
  f57 := ⟨Try.f157.name, by decide, Try.func157.trans (congrArg some (by kernel_rfl))⟩
  t0 := Try.underlying0
  a0 := Try.isAgg0
  z0 := Try.sizeOf0
  v0 := Try.zeroValue0
  t3 := Try.underlying3
  a3 := Try.isAgg3
  z3 := Try.sizeOf3
  v3 := Try.zeroValue3
  t4 := Try.underlying4
  a4 := Try.isAgg4
  z4 := Try.sizeOf4
  v4 := Try.zeroValue4
  t5 := Try.underlying5
  a5 := Try.isAgg5
  z5 := Try.sizeOf5
  v5 := Try.zeroValue5
  t9 := Try.underlying9
  a9 := Try.isAgg9
  z9 := Try.sizeOf9
  v9 := Try.zeroValue9
  t22 := Try.underlying34
  a22 := Try.isAgg34
  z22 := Try.sizeOf34
  v22 := Try.zeroValue34
  a24 := Try.isAgg25
  z24 := Try.sizeOf25
  t25 := Try.underlying96
  a25 := Try.isAgg96
  z25 := Try.sizeOf96
  v25 := Try.zeroValue96
  t39 := Try.underlying130
  a39 := Try.isAgg130
  z39 := Try.sizeOf130
  v39 := Try.zeroValue130
  t45 := Try.underlying144
  a45 := Try.isAgg144
  z45 := Try.sizeOf144
  v45 := Try.zeroValue144
  t46 := Try.underlying145
  a46 := Try.isAgg145
  z46 := Try.sizeOf145
  v46 := Try.zeroValue145
  t50 := Try.underlying149
  a50 := Try.isAgg149
  z50 := Try.sizeOf149
  v50 := Try.zeroValue149
  t53 := Try.underlying152
  a53 := Try.isAgg152
  z53 := Try.sizeOf152
  v53 := Try.zeroValue152
  t55 := Try.underlying154
  a55 := Try.isAgg154
  z55 := Try.sizeOf154
  v55 := Try.zeroValue154
  t66 := Try.underlying163
  a66 := Try.isAgg163
  z66 := Try.sizeOf163
  v66 := Try.zeroValue163
  t70 := Try.underlying167
  a70 := Try.isAgg167
  z70 := Try.sizeOf167
  v70 := Try.zeroValue167
  t76 := Try.underlying173
  a76 := Try.isAgg173
  z76 := Try.sizeOf173
  v76 := Try.zeroValue173
  t77 := Try.underlying80
  a77 := Try.isAgg80
  z77 := Try.sizeOf80
  v77 := Try.zeroValue80 }

set_option maxHeartbeats 1000000 in
theorem cmp_any (A A' : Option Addr) (m c m' c' : Nat) (q q' : Int → Int) (w : World) (h : ArrI w w.heap.size A m q) (h' : ArrI w w.heap.size A' m' q') (hm : 0 < m) (hm' : 0 < m') (hq : 0 ≤ q 0 ∧ q 0 ≤ 1000) (hq' : 0 ≤ q' 0 ∧ q' 0 ≤ 1000) :
    Calls Try.prog 65 #[.slice A m c, .slice A' m' c'] w fun e w' => e = .returned (.int .i64 (q 0 - q' 0)) ∧ ∃ k, w' = w.drewN k := by
  obtain ⟨b, off, rfl, hb, hc⟩ := ArrI.at_ h (i := 0) (by omega) (by omega)
  obtain ⟨b', off', rfl, hb', hc'⟩ := ArrI.at_ h' (i := 0) (by omega) (by omega)
  rw [show off + (0 : Int).toNat = off from rfl] at hc
  rw [show off' + (0 : Int).toNat = off' from rfl] at hc'
  obtain ⟨q1, q2⟩ := hq
  obtain ⟨q3, q4⟩ := hq'
  generalize q 0 = a at *
  generalize q' 0 = a' at *
  have v1 : IntKind.i64.wrap (a - a') = a - a' := IntWalk.i64_in _ (by omega)
  clear h h'
  go_enter Try.func65, Try.ntmps65
  go_wp2_with fail
  go_quiet (fail)
  go_wp2
  go_ret
  exact ⟨rfl, _, rfl⟩

theorem heap_sortWorld {α : Type} [Inhabited α] (enc : α → Value) (w : World) (blk off m : Nat) (d : Array α) (os : Array Obj) {k : Nat} (hk : k < w.heap.size) (hn : k ≠ blk) : (Go.Proofs.sortWorld enc w blk off m d os).heap[k]? = w.heap[k]? := by
  unfold Go.Proofs.sortWorld
  rw [heap_grow_old _ _ (by simpa [putRow, mapBlock, ahead] using hk)]
  show (w.heap.modify blk _)[k]? = _
  rw [Array.getElem?_modify, if_neg (fun e => hn e.symm)]
theorem heap_sortWorld_row {α : Type} [Inhabited α] (enc : α → Value) (w : World) (blk off m : Nat) (d : Array α) (os : Array Obj) {cs : Array Value} {e : TypeId} (h : w.heap[blk]? = some (.cells cs e (0, 0))) : (Go.Proofs.sortWorld enc w blk off m d os).heap[blk]? = some (.cells (putCells enc off d cs) e (0, 0)) := by
  have hk := (Array.getElem?_eq_some_iff.1 h).1
  unfold Go.Proofs.sortWorld
  rw [heap_grow_old _ _ (by simpa [putRow, mapBlock, ahead] using hk)]
  show (w.heap.modify blk _)[blk]? = _
  rw [Array.getElem?_modify, if_pos rfl, h]; rfl
theorem size_sortWorld {α : Type} [Inhabited α] (enc : α → Value) (w : World) (blk off m : Nat) (d : Array α) (os : Array Obj) : w.heap.size ≤ (Go.Proofs.sortWorld enc w blk off m d os).heap.size := by
  unfold Go.Proofs.sortWorld
  rw [size_grow]
  simp [putRow, mapBlock]
theorem putCells_take {α : Type} [Inhabited α] (enc : α → Value) (d : Array α) (cs : Array Value) (h : d.size ≤ cs.size) : (putCells enc 0 d cs).toList.take d.size = d.toList.map enc := by
  apply List.ext_getElem?
  intro i
  rw [List.getElem?_take]
  by_cases hi : i < d.size
  · rw [if_pos hi, List.getElem?_map]
    show (putCells enc 0 d cs).toList[i]? = _
    rw [Array.getElem?_toList]
    unfold putCells
    rw [Array.getElem?_mapIdx, Array.getElem?_eq_getElem (by omega), Option.map_some, if_pos (by omega), Nat.sub_zero, Array.getElem?_toList, Array.getElem?_eq_getElem hi, getElem!_pos d i hi]
    rfl
  · rw [if_neg hi, List.getElem?_map, Array.getElem?_toList, Array.getElem?_eq_none (by omega)]; rfl

set_option maxHeartbeats 1000000 in
/-- the lines are put in the order of their first rows -/
theorem sort_any (K cap blk base m : Nat) (v : Nat → Value) (q : Nat → Int → Int) (w : World) (h0 : 0 < K) (hK : K ≤ 60)
    (hown : w.ownsRow base 25 1 (.slice (some ⟨blk, 0, none⟩) K cap) K ((List.range K).map v))
    (hl : ∀ i, i < K → ∃ b off c, v i = .slice (some ⟨b, off, none⟩) m c ∧ b ≠ blk ∧ ArrI w w.heap.size (some ⟨b, off, none⟩) m (q i)) (hm : 0 < m) (hq : ∀ i, i < K → 0 ≤ q i 0 ∧ q i 0 ≤ 1000) :
    Calls Try.prog 64 #[.slice (some ⟨blk, 0, none⟩) K cap, .func (.func 65) #[] #[]] w fun e w' => e = .returned (.tuple #[]) ∧
      ∃ l : List Nat, l.Perm (List.range K) ∧ l.Pairwise (fun i j => q i 0 ≤ q j 0) ∧ w'.ownsRow base 25 1 (.slice (some ⟨blk, 0, none⟩) K cap) K (l.map v) ∧ But w.heap.size blk w w' := by
  obtain ⟨hlen, hh⟩ := hown
  rcases hh with ⟨h, -⟩ | ⟨g, cap', cur, hv, hg, hcell, hcap, hmax, hsz, htake⟩
  · cases h
  injection hv with hv1 hv2 hv3
  injection hv1 with hv1
  injection hv1 with hv1
  subst hv1 hv3
  rw [Nat.mul_one] at hsz htake
  obtain ⟨enc, henc⟩ : ∃ enc : Nat → Value, enc = fun i => v (if i < K then i else 0) := ⟨_, rfl⟩
  obtain ⟨key, hkey⟩ : ∃ key : Nat → Int, key = fun i => q (if i < K then i else 0) 0 := ⟨_, rfl⟩
  have hin : ∀ i, (if i < K then i else 0) < K := fun i => by split <;> omega
  have h1 : OneCell enc := fun x => by
    obtain ⟨b, off, c, e, -⟩ := hl _ (hin x)
    rw [henc]; show (v _).oneCell' = true
    rw [e]; rfl
  have hO : SWO (ltOf fun i j => key i - key j) := ⟨fun x => by simp [ltOf], fun x y z a b => by simp only [ltOf, decide_eq_true_eq] at *; omega, fun x y z a b => by simp only [ltOf, decide_eq_false_iff_not] at *; omega⟩
  have hH : Holds enc w blk 0 (List.range K).toArray := fun j hj => by
    rw [List.size_toArray, List.length_range] at hj
    rw [Nat.zero_add]
    refine ⟨?_, frozen_of_row w blk j cur _ hcell⟩
    rw [cell_of_row w blk j cur _ (0, 0) hcell, getElem!_pos _ j (by simpa using hj)]
    have : (cur.toList.take K)[j]? = ((List.range K).map v)[j]? := by rw [htake]
    rw [List.getElem?_take, if_pos hj, List.getElem?_map, List.getElem?_range hj, Array.getElem?_toList] at this
    rw [this]
    simp [henc, hj]
  have hcmp : CmpReads Try.prog 65 #[] enc (fun i j => key i - key j) blk 0 K w := fun n os dk hdk x y => by
    obtain ⟨b, off, c, e, hb, ha⟩ := hl _ (hin x)
    obtain ⟨b', off', c', e', hb', ha'⟩ := hl _ (hin y)
    rw [henc, hkey]
    show Calls Try.prog _ #[v _, v _] _ _
    rw [e, e']
    have hk : ∀ {b off : Nat} {f : Int → Int}, b ≠ blk → ArrI w w.heap.size (some ⟨b, off, none⟩) m f → ArrI (Go.Proofs.sortWorld (fun i => v (if i < K then i else 0)) w blk 0 n dk os) (Go.Proofs.sortWorld (fun i => v (if i < K then i else 0)) w blk 0 n dk os).heap.size (some ⟨b, off, none⟩) m f := fun hn hf hm => by
      obtain ⟨b1, off1, e1, hlt, hc⟩ := hf hm
      cases e1
      refine ⟨_, _, rfl, Nat.lt_of_lt_of_le hlt (size_sortWorld _ _ _ _ _ _ _), fun i i0 i1 => ?_⟩
      rw [← hc i i0 i1]
      exact World.cell?_of_block (heap_sortWorld _ _ _ _ _ _ _ hlt hn)
    exact cmp_any _ _ m c m c' _ _ _ (hk hb ha) (hk hb' ha') hm hm (hq _ (hin x)) (hq _ (hin y))
  have eg : ∀ args w, (callFunc 65 args).run Try.prog w = .ok (.enter 65 args) w := enters_of Try.func65 (by kernel_rfl) rfl
  have hlt := (Array.getElem?_eq_some_iff.1 hcell).1
  have hcon := Any.slices_SortFunc Try.sortLines enc h1 (fun i j => key i - key j) hO 65 #[] blk 0 cap (List.range K).toArray w eg (by rw [List.size_toArray, List.length_range]; exact hcmp.lays) hH hlt (by rw [List.size_toArray, List.length_range]; omega)
  rw [List.size_toArray, List.length_range] at hcon
  refine hcon.mono ?_
  rintro e w' ⟨rfl, d', n, os, hp, hs, rfl⟩
  obtain ⟨p1, -, p3⟩ := hp
  have p1 : d'.size = K := by simpa using p1
  have p3 : d'.toList.Perm (List.range K) := by
    have e1 : d'.extract 0 K = d' := by rw [← p1]; exact Array.extract_size
    have e2 : (List.range K).toArray.extract 0 K = (List.range K).toArray := by simp
    rw [e1, e2] at p3
    exact p3
  have hmem : ∀ i ∈ d'.toList, i < K := fun i hi => List.mem_range.1 (p3.mem_iff.1 hi)
  refine ⟨rfl, d'.toList, p3, ?_, ⟨by simp [p1], .inr ⟨blk, cap, putCells enc 0 d' cur, rfl, hg, heap_sortWorld_row _ _ _ _ _ _ _ hcell, hcap, hmax, by rw [Nat.mul_one]; simp [putCells, hsz], ?_⟩⟩, ⟨rfl, rfl, rfl, size_sortWorld _ _ _ _ _ _ _, fun j hj hn => heap_sortWorld _ _ _ _ _ _ _ hj hn⟩⟩
  · rw [List.pairwise_iff_getElem]
    intro i j hi hj hij
    rw [Array.length_toList, p1] at hi hj
    have := hs i j (Nat.zero_le _) hij hj
    rw [getElem!_pos d' i (by omega), getElem!_pos d' j (by omega)] at this
    simp only [ltOf, decide_eq_false_iff_not, hkey] at this
    have hi' := hmem d'[i] (by simp)
    have hj' := hmem d'[j] (by simp)
    rw [if_pos hi', if_pos hj'] at this
    simp only [Array.getElem_toList]
    omega
  · rw [Nat.mul_one, ← p1, putCells_take enc d' cur (by omega)]
    apply List.map_congr_left
    intro i hi
    rw [henc]; show v _ = v i
    rw [if_pos (hmem i hi)]
end Go.Proofs.Ytdimlpcbbkokiaa
