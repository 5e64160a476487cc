/- Walk: the rows next to a row, from above. -/
import Derived.Test.YtdimlpcbbkokiaaT1
import Derived.Test.YtdimlpcbbkokiaaW8
namespace Go.Proofs.Ytdimlpcbbkokiaa
open Go.RowKit Go.Shelf
set_option linter.unusedVariables false
attribute [local go_sem] Oper.semAt_some

/-- a row of an image of height h -/
abbrev RowIn (h : Int) := { t : Int // 0 ≤ t ∧ t < h }
/-- the first i of the rows next to y -/
def nbT (y : Int) (i : Nat) : List Int := (List.range i).map fun j => nxLo y + (j : Nat)
theorem nbT_snoc (y : Int) (i : Nat) : nbT y (i + 1) = nbT y i ++ [nxLo y + i] := by simp [nbT, List.range_succ]
theorem nbT_len (y : Int) (i : Nat) : (nbT y i).length = i := by simp [nbT]
/-- these two blocks are as they were -/
def KpB (a b : Nat) (W W' : World) : Prop := W'.heap[a]? = W.heap[a]? ∧ W'.heap[b]? = W.heap[b]?
theorem KpB.trans {a b : Nat} {A B C : World} (h : KpB a b A B) (k : KpB a b B C) : KpB a b A C := ⟨k.1.trans h.1, k.2.trans h.2⟩
theorem Blk.at0 {w : World} {g t : Nat} {v : Value} (h : Blk w g t #[v]) : w.cell? ⟨g, 0, none⟩ = some v := by rw [h.cell]; rfl

set_option maxHeartbeats 2000000 in
theorem next_stops (F : Fence) (n : Nat) (h6 : F.fn 121) (hro : F.round = none) (hn : 1 ≤ n) (y h : Int) (By Bh : Nat) (w : World) (ky : Blk w By 3 #[.int .i64 y]) (kh : Blk w Bh 3 #[.int .i64 h]) (y0 : 0 ≤ y) (y1 : y < h) (h1 : h ≤ 640) :
    SeqStopsK F n Try.prog 121 #[.pointer (some ⟨By, 0, none⟩), .pointer (some ⟨Bh, 0, none⟩)] (fun v : RowIn h => #[Value.int .i64 v.1]) (KpB By Bh) (fun xs => xs.map Subtype.val = nbT y (nxN h y)) (fun xs => ∃ j, j ≤ nxN h y ∧ xs.map Subtype.val = nbT y j) 4 w := fun l J Jx W hW _ _ hY h0 => by
  refine callsIn_of_wp Try.func121 rfl h6 ?_ hro
  simp only [Try.ntmps121, List.size_toArray, List.length_cons, List.length_nil, Nat.reduceAdd, Nat.reduceSub, Array.replicate_succ, Array.replicate_zero, List.push_toArray, List.append_toArray, List.nil_append, List.cons_append]
  have HY := Lib.hid hY; clear hY
  have ky1 := (ky.below' hW).at0
  have kh1 := (kh.below' hW).at0
  have NI := Lib.hid (fun i => nx_in y0 y1 i)
  have n3 : nxN h y ≤ 3 := by
    have := mt (nx_in y0 y1 3).1 (by unfold nxLo; split <;> omega)
    omega
  have lo1 : 0 ≤ nxLo y ∧ nxLo y ≤ y := by unfold nxLo; split <;> omega
  obtain ⟨lo1, lo2⟩ := lo1
  by_cases hm : 0 ≤ y - 1
  · have LS : Hid (nxLo y = y - 1) := by show _ = _; unfold nxLo; rw [if_neg (by omega)]
    by_cases hp : y + 1 ≤ h - 1
    · gi_wp2_with (refine wpListIn_skip rfl rfl ?_; simp only [Act.put, List.setIfInBounds_toArray, List.set_cons_succ, List.set_cons_zero])
      gi_loopw [4] (fun s wr => ∃ (i : Nat) (pre : List (RowIn h)), i ≤ nxN h y ∧ s = .int .i64 (nxLo y + i) ∧ pre.map Subtype.val = nbT y i ∧ J pre wr ∧ Blk wr By 3 #[.int .i64 y] ∧ Blk wr Bh 3 #[.int .i64 h]) (fun s _ => (nxLo y + nxN h y - intOf s).toNat)
      case atStart => exact ⟨0, [], by omega, (by rw [LS.out]; simp), rfl, h0, ky.below' hW, kh.below' hW⟩
      case round =>
        obtain ⟨i, pre, hi, rfl, hpre, hJ, byr, bhr⟩ := hrel
        have PL : pre.length = i := by have := congrArg List.length hpre; rw [List.length_map, nbT_len] at this; exact this
        have HPL := Lib.hid PL; have HPRE := Lib.hid hpre; clear PL hpre
        clear ky1 kh1
        have ky1 := byr.at0
        have kh1 := bhr.at0
        by_cases hlt : i < nxN h y
        · obtain ⟨t1, t2⟩ := (NI.out i).1 hlt
          have HL := Lib.hid hlt
          obtain ⟨f1, g1, a1, c1, hy1, hR1⟩ := HY.out pre ⟨nxLo y + i, by omega, t1⟩ wr hJ (by have := HPL.out; omega)
          gi_wp2_with (refine wpListIn_skip rfl rfl ?_; simp only [Act.put, List.setIfInBounds_toArray, List.set_cons_succ, List.set_cons_zero])
          refine hR1.mono ?_
          rintro e W1 (⟨rfl, hJ1, hk⟩ | ⟨rfl, hx1⟩)
          · gi_wp2_with (refine wpListIn_skip rfl rfl ?_; simp only [Act.put, List.setIfInBounds_toArray, List.set_cons_succ, List.set_cons_zero])
            go_roundw
            case rel => exact ⟨i + 1, pre ++ [⟨nxLo y + i, by omega, t1⟩], by omega, by go_num, (by rw [List.map_append, HPRE.out, nbT_snoc]; rfl), hJ1, byr.move hk.1, bhr.move hk.2⟩
            case measure => simp [intOf]; omega
          · gi_wp2_with (refine wpListIn_skip rfl rfl ?_; simp only [Act.put, List.setIfInBounds_toArray, List.set_cons_succ, List.set_cons_zero])
            refine bodyPost_ret (results_none rfl _ _ _) rfl ?_
            exact ⟨⟨_, rfl⟩, .inr ⟨_, ⟨i + 1, by have := HL.out; omega, (by rw [List.map_append, HPRE.out, nbT_snoc]; rfl)⟩, hx1⟩⟩
        · have t3 : ¬ (nxLo y + i < h ∧ nxLo y + i ≤ y + 1) := fun hh => hlt ((NI.out i).2 hh)
          have t4 : h ≤ nxLo y + i ∨ y + 1 < nxLo y + i := by omega
          have ei : i = nxN h y := by omega
          have EI := Lib.hid ei; clear ei t3 hlt
          have t5 : y + 1 < nxLo y + i := by omega
          clear t4
          gi_wp2_with (refine wpListIn_skip rfl rfl ?_; simp only [Act.put, List.setIfInBounds_toArray, List.set_cons_succ, List.set_cons_zero])
          go_end0
          exact ⟨⟨_, rfl⟩, .inl ⟨pre, by rw [← EI.out]; exact HPRE.out, hJ⟩⟩
    · have hp' : h - 1 < y + 1 := by omega
      clear hp
      gi_wp2_with (refine wpListIn_skip rfl rfl ?_; simp only [Act.put, List.setIfInBounds_toArray, List.set_cons_succ, List.set_cons_zero])
      gi_loopw [4] (fun s wr => ∃ (i : Nat) (pre : List (RowIn h)), i ≤ nxN h y ∧ s = .int .i64 (nxLo y + i) ∧ pre.map Subtype.val = nbT y i ∧ J pre wr ∧ Blk wr By 3 #[.int .i64 y] ∧ Blk wr Bh 3 #[.int .i64 h]) (fun s _ => (nxLo y + nxN h y - intOf s).toNat)
      case atStart => exact ⟨0, [], by omega, (by rw [LS.out]; simp), rfl, h0, ky.below' hW, kh.below' hW⟩
      case round =>
        obtain ⟨i, pre, hi, rfl, hpre, hJ, byr, bhr⟩ := hrel
        have PL : pre.length = i := by have := congrArg List.length hpre; rw [List.length_map, nbT_len] at this; exact this
        have HPL := Lib.hid PL; have HPRE := Lib.hid hpre; clear PL hpre
        clear ky1 kh1
        have ky1 := byr.at0
        have kh1 := bhr.at0
        by_cases hlt : i < nxN h y
        · obtain ⟨t1, t2⟩ := (NI.out i).1 hlt
          have HL := Lib.hid hlt
          obtain ⟨f1, g1, a1, c1, hy1, hR1⟩ := HY.out pre ⟨nxLo y + i, by omega, t1⟩ wr hJ (by have := HPL.out; omega)
          gi_wp2_with (refine wpListIn_skip rfl rfl ?_; simp only [Act.put, List.setIfInBounds_toArray, List.set_cons_succ, List.set_cons_zero])
          refine hR1.mono ?_
          rintro e W1 (⟨rfl, hJ1, hk⟩ | ⟨rfl, hx1⟩)
          · gi_wp2_with (refine wpListIn_skip rfl rfl ?_; simp only [Act.put, List.setIfInBounds_toArray, List.set_cons_succ, List.set_cons_zero])
            go_roundw
            case rel => exact ⟨i + 1, pre ++ [⟨nxLo y + i, by omega, t1⟩], by omega, by go_num, (by rw [List.map_append, HPRE.out, nbT_snoc]; rfl), hJ1, byr.move hk.1, bhr.move hk.2⟩
            case measure => simp [intOf]; omega
          · gi_wp2_with (refine wpListIn_skip rfl rfl ?_; simp only [Act.put, List.setIfInBounds_toArray, List.set_cons_succ, List.set_cons_zero])
            refine bodyPost_ret (results_none rfl _ _ _) rfl ?_
            exact ⟨⟨_, rfl⟩, .inr ⟨_, ⟨i + 1, by have := HL.out; omega, (by rw [List.map_append, HPRE.out, nbT_snoc]; rfl)⟩, hx1⟩⟩
        · have t3 : ¬ (nxLo y + i < h ∧ nxLo y + i ≤ y + 1) := fun hh => hlt ((NI.out i).2 hh)
          have t4 : h ≤ nxLo y + i ∨ y + 1 < nxLo y + i := by omega
          have ei : i = nxN h y := by omega
          have EI := Lib.hid ei; clear ei t3 hlt
          have t5 : h - 1 < nxLo y + i := by omega
          clear t4
          gi_wp2_with (refine wpListIn_skip rfl rfl ?_; simp only [Act.put, List.setIfInBounds_toArray, List.set_cons_succ, List.set_cons_zero])
          go_end0
          exact ⟨⟨_, rfl⟩, .inl ⟨pre, by rw [← EI.out]; exact HPRE.out, hJ⟩⟩
  · have LS : Hid (nxLo y = 0) := by show _ = _; unfold nxLo; rw [if_pos (by omega)]
    by_cases hp : y + 1 ≤ h - 1
    · gi_wp2_with (refine wpListIn_skip rfl rfl ?_; simp only [Act.put, List.setIfInBounds_toArray, List.set_cons_succ, List.set_cons_zero])
      gi_loopw [4] (fun s wr => ∃ (i : Nat) (pre : List (RowIn h)), i ≤ nxN h y ∧ s = .int .i64 (nxLo y + i) ∧ pre.map Subtype.val = nbT y i ∧ J pre wr ∧ Blk wr By 3 #[.int .i64 y] ∧ Blk wr Bh 3 #[.int .i64 h]) (fun s _ => (nxLo y + nxN h y - intOf s).toNat)
      case atStart => exact ⟨0, [], by omega, (by rw [LS.out]; simp), rfl, h0, ky.below' hW, kh.below' hW⟩
      case round =>
        obtain ⟨i, pre, hi, rfl, hpre, hJ, byr, bhr⟩ := hrel
        have PL : pre.length = i := by have := congrArg List.length hpre; rw [List.length_map, nbT_len] at this; exact this
        have HPL := Lib.hid PL; have HPRE := Lib.hid hpre; clear PL hpre
        clear ky1 kh1
        have ky1 := byr.at0
        have kh1 := bhr.at0
        by_cases hlt : i < nxN h y
        · obtain ⟨t1, t2⟩ := (NI.out i).1 hlt
          have HL := Lib.hid hlt
          obtain ⟨f1, g1, a1, c1, hy1, hR1⟩ := HY.out pre ⟨nxLo y + i, by omega, t1⟩ wr hJ (by have := HPL.out; omega)
          gi_wp2_with (refine wpListIn_skip rfl rfl ?_; simp only [Act.put, List.setIfInBounds_toArray, List.set_cons_succ, List.set_cons_zero])
          refine hR1.mono ?_
          rintro e W1 (⟨rfl, hJ1, hk⟩ | ⟨rfl, hx1⟩)
          · gi_wp2_with (refine wpListIn_skip rfl rfl ?_; simp only [Act.put, List.setIfInBounds_toArray, List.set_cons_succ, List.set_cons_zero])
            go_roundw
            case rel => exact ⟨i + 1, pre ++ [⟨nxLo y + i, by omega, t1⟩], by omega, by go_num, (by rw [List.map_append, HPRE.out, nbT_snoc]; rfl), hJ1, byr.move hk.1, bhr.move hk.2⟩
            case measure => simp [intOf]; omega
          · gi_wp2_with (refine wpListIn_skip rfl rfl ?_; simp only [Act.put, List.setIfInBounds_toArray, List.set_cons_succ, List.set_cons_zero])
            refine bodyPost_ret (results_none rfl _ _ _) rfl ?_
            exact ⟨⟨_, rfl⟩, .inr ⟨_, ⟨i + 1, by have := HL.out; omega, (by rw [List.map_append, HPRE.out, nbT_snoc]; rfl)⟩, hx1⟩⟩
        · have t3 : ¬ (nxLo y + i < h ∧ nxLo y + i ≤ y + 1) := fun hh => hlt ((NI.out i).2 hh)
          have t4 : h ≤ nxLo y + i ∨ y + 1 < nxLo y + i := by omega
          have ei : i = nxN h y := by omega
          have EI := Lib.hid ei; clear ei t3 hlt
          have t5 : y + 1 < nxLo y + i := by omega
          clear t4
          gi_wp2_with (refine wpListIn_skip rfl rfl ?_; simp only [Act.put, List.setIfInBounds_toArray, List.set_cons_succ, List.set_cons_zero])
          go_end0
          exact ⟨⟨_, rfl⟩, .inl ⟨pre, by rw [← EI.out]; exact HPRE.out, hJ⟩⟩
    · have hp' : h - 1 < y + 1 := by omega
      clear hp
      gi_wp2_with (refine wpListIn_skip rfl rfl ?_; simp only [Act.put, List.setIfInBounds_toArray, List.set_cons_succ, List.set_cons_zero])
      gi_loopw [4] (fun s wr => ∃ (i : Nat) (pre : List (RowIn h)), i ≤ nxN h y ∧ s = .int .i64 (nxLo y + i) ∧ pre.map Subtype.val = nbT y i ∧ J pre wr ∧ Blk wr By 3 #[.int .i64 y] ∧ Blk wr Bh 3 #[.int .i64 h]) (fun s _ => (nxLo y + nxN h y - intOf s).toNat)
      case atStart => exact ⟨0, [], by omega, (by rw [LS.out]; simp), rfl, h0, ky.below' hW, kh.below' hW⟩
      case round =>
        obtain ⟨i, pre, hi, rfl, hpre, hJ, byr, bhr⟩ := hrel
        have PL : pre.length = i := by have := congrArg List.length hpre; rw [List.length_map, nbT_len] at this; exact this
        have HPL := Lib.hid PL; have HPRE := Lib.hid hpre; clear PL hpre
        clear ky1 kh1
        have ky1 := byr.at0
        have kh1 := bhr.at0
        by_cases hlt : i < nxN h y
        · obtain ⟨t1, t2⟩ := (NI.out i).1 hlt
          have HL := Lib.hid hlt
          obtain ⟨f1, g1, a1, c1, hy1, hR1⟩ := HY.out pre ⟨nxLo y + i, by omega, t1⟩ wr hJ (by have := HPL.out; omega)
          gi_wp2_with (refine wpListIn_skip rfl rfl ?_; simp only [Act.put, List.setIfInBounds_toArray, List.set_cons_succ, List.set_cons_zero])
          refine hR1.mono ?_
          rintro e W1 (⟨rfl, hJ1, hk⟩ | ⟨rfl, hx1⟩)
          · gi_wp2_with (refine wpListIn_skip rfl rfl ?_; simp only [Act.put, List.setIfInBounds_toArray, List.set_cons_succ, List.set_cons_zero])
            go_roundw
            case rel => exact ⟨i + 1, pre ++ [⟨nxLo y + i, by omega, t1⟩], by omega, by go_num, (by rw [List.map_append, HPRE.out, nbT_snoc]; rfl), hJ1, byr.move hk.1, bhr.move hk.2⟩
            case measure => simp [intOf]; omega
          · gi_wp2_with (refine wpListIn_skip rfl rfl ?_; simp only [Act.put, List.setIfInBounds_toArray, List.set_cons_succ, List.set_cons_zero])
            refine bodyPost_ret (results_none rfl _ _ _) rfl ?_
            exact ⟨⟨_, rfl⟩, .inr ⟨_, ⟨i + 1, by have := HL.out; omega, (by rw [List.map_append, HPRE.out, nbT_snoc]; rfl)⟩, hx1⟩⟩
        · have t3 : ¬ (nxLo y + i < h ∧ nxLo y + i ≤ y + 1) := fun hh => hlt ((NI.out i).2 hh)
          have t4 : h ≤ nxLo y + i ∨ y + 1 < nxLo y + i := by omega
          have ei : i = nxN h y := by omega
          have EI := Lib.hid ei; clear ei t3 hlt
          have t5 : h - 1 < nxLo y + i := by omega
          clear t4
          gi_wp2_with (refine wpListIn_skip rfl rfl ?_; simp only [Act.put, List.setIfInBounds_toArray, List.set_cons_succ, List.set_cons_zero])
          go_end0
          exact ⟨⟨_, rfl⟩, .inl ⟨pre, by rw [← EI.out]; exact HPRE.out, hJ⟩⟩

theorem next_any (y h : Int) (w : World) : Calls Try.prog 104 #[.int .i64 y, .int .i64 h] w
    (New w fun v w' => v = .func (.func 121) #[] #[.pointer (some ⟨w.heap.size, 0, none⟩), .pointer (some ⟨w.heap.size + 1, 0, none⟩)] ∧ Blk w' w.heap.size 3 #[.int .i64 y] ∧ Blk w' (w.heap.size + 1) 3 #[.int .i64 h]) := by
  go_enter Try.func104, Try.ntmps104
  go_wp2
  go_ret
  exact ⟨_, rfl, ⟨rfl, (Blk.new _ _ _).alloc _, Blk.new' (by simp) _ _⟩, by (repeat (first | exact Below.refl _ _ | assumption | refine Below.drew ?_ | refine below_drewN ?_ _ | refine Below.alloc ?_ (by first | omega | (simp; done) | (simp; omega)) _ | refine Below.setCell ?_ (by first | omega | (simp; done) | (simp; omega)) _ | refine below_setRow ?_ (by first | omega | (simp; done) | (simp; omega)) _ ))⟩
end Go.Proofs.Ytdimlpcbbkokiaa
