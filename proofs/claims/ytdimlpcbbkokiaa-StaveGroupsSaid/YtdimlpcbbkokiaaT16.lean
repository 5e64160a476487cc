/- Walk: the examples of the chapter (custoslaw03.awake). -/
import Derived.Test.YtdimlpcbbkokiaaT15
import Derived.Test.YtdimlpcbbkokiaaT3
import Derived.Test.YtdimlpcbbkokiaaW21
import Derived.Deep.RegionLaw
namespace Go.Proofs.Ytdimlpcbbkokiaa
open Go.RowKit Go.Shelf
set_option linter.unusedVariables false
attribute [local go_sem] Oper.semAt_some

theorem Found.toLines {B : Nat} {w : World} {m : Nat} {ln : Nat → Nat → Int} {k : Nat} {vo : Value} {v : Nat → Value} (h : Found B w m ln k vo v) : ∃ A c, vo = .slice A k c ∧ k ≤ c ∧ Lines w w.heap.size A k (fun _ => m) ln := by
  obtain ⟨A, c, e, hc, ha⟩ := own_arr h.row
  refine ⟨A, c, e, hc, v, Arr.congr ha fun i i0 i1 => ?_, fun i hi => ?_⟩
  · rw [List.getD_eq_getElem?_getD, List.getElem?_map, List.getElem?_range (by omega)]; rfl
  · obtain ⟨A', c', e', ha'⟩ := own_arrI (h.lines i hi)
    exact ⟨A', c', e', ha'⟩
/-- one line alone -/
theorem TraceOut.one {w w' : World} {W H : Int} {p : Int → Int} {v : Value} (h : TraceOut w W H p v w') (h1 : Many 1073741824 W H (cst p W) 1) (hW : 0 < W) :
    ∃ g c g' c', v = .slice (some ⟨g, 0, none⟩) 1 c ∧ w.heap.size ≤ g ∧ g < w'.heap.size ∧ w'.cell? ⟨g, 0, none⟩ = some (.slice (some ⟨g', 0, none⟩) W.toNat c') ∧ ArrI w' w'.heap.size (some ⟨g', 0, none⟩) W.toNat (fun j => LN 1073741824 W H (cst p W) 0 j.toNat) := by
  obtain ⟨k, l, vs, hk, hp, -, hr, hl⟩ := h
  obtain rfl := hk.uniq h1
  obtain rfl : l = [0] := List.perm_singleton.1 hp
  obtain ⟨g, c, e⟩ := own_some hr (by omega)
  obtain ⟨g', c', e'⟩ := own_some (hl 0 (by omega)) (by omega)
  obtain ⟨A', c2, e2, ha⟩ := own_arrI (hl 0 (by omega))
  rw [e'] at e2
  cases e2
  have hg := own_ge hr (k := g) (by rw [e]; rfl)
  refine ⟨g, c, g', c', e, hg.1, hg.2, ?_, ha⟩
  obtain ⟨A3, c3, e3, -, ha3⟩ := own_arr hr
  rw [e] at e3
  cases e3
  obtain ⟨b, off, e4, -, hc⟩ := Arr.at_ ha3 (i := 0) (by omega) (by omega)
  cases e4
  rw [show 0 + (0 : Int).toNat = 0 from rfl] at hc
  rw [hc, ← e']; rfl

theorem awC1 : chk 16 5 80 (rowQ 7) = 0 := by decide +kernel
theorem awC2 : chk 16 5 80 rowQ2 = 0 := by decide +kernel
theorem awC3 : costE 16 5 80 (rowQ 7) 16 (fun _ => 2) = 0 := by decide +kernel
theorem awC4 : costV 16 5 80 (rowQ 7) 16 (fun _ => 2) = 2 := by decide +kernel
theorem awE1 : evenB (fun _ => 3) (fun i _ => lit [4, 10, 16, 22, 28] i) = true := by decide +kernel
theorem awE2 : evenB (fun _ => 3) (fun i _ => lit [4, 10, 16, 22, 31] i) = false := by decide +kernel
theorem awEq : sameI 16 16 (fun _ => 2) (fun _ => 2) = true := by decide +kernel
theorem awN1 : stN (fun _ => 3) (fun i _ => lit [4, 10, 16, 22, 28] i) = 1 := by unfold stN; rw [awE1]; rfl
theorem awN2 : stN (fun _ => 3) (fun i _ => lit [4, 10, 16, 22, 31] i) = 0 := by unfold stN; rw [awE2]; rfl
theorem lit_bd1 (i j : Nat) (hi : i < 5) : -1099511627776 ≤ lit [4, 10, 16, 22, 28] i ∧ lit [4, 10, 16, 22, 28] i ≤ 1099511627776 := by
  obtain rfl | rfl | rfl | rfl | rfl : i = 0 ∨ i = 1 ∨ i = 2 ∨ i = 3 ∨ i = 4 := by omega
  all_goals decide
theorem lit_bd2 (i j : Nat) (hi : i < 5) : -1099511627776 ≤ lit [4, 10, 16, 22, 31] i ∧ lit [4, 10, 16, 22, 31] i ≤ 1099511627776 := by
  obtain rfl | rfl | rfl | rfl | rfl : i = 0 ∨ i = 1 ∨ i = 2 ∨ i = 3 ∨ i = 4 := by omega
  all_goals decide
theorem awI1 : #[Value.int .i64 2] = i64s 1 (lit [2]) := i64s_lit (l := [2])
theorem awI2 : #[Value.int .i64 4, .int .i64 10, .int .i64 16, .int .i64 22, .int .i64 28] = i64s 5 (lit [4, 10, 16, 22, 28]) := i64s_lit (l := [4, 10, 16, 22, 28])
theorem awI3 : #[Value.int .i64 4, .int .i64 10, .int .i64 16, .int .i64 22, .int .i64 31] = i64s 5 (lit [4, 10, 16, 22, 31]) := i64s_lit (l := [4, 10, 16, 22, 31])
theorem Found.one {B : Nat} {w : World} {m : Nat} {ln : Nat → Nat → Int} {vo : Value} {v : Nat → Value} (h : Found B w m ln 1 vo v) (hm : 0 < m) :
    ∃ g c g' c', vo = .slice (some ⟨g, 0, none⟩) 1 c ∧ g < w.heap.size ∧ w.cell? ⟨g, 0, none⟩ = some (.slice (some ⟨g', 0, none⟩) m c') ∧ ArrI w w.heap.size (some ⟨g', 0, none⟩) m (fun j => ln 0 j.toNat) := by
  obtain ⟨g, c, e⟩ := own_some h.row (by omega)
  obtain ⟨g', c', e'⟩ := own_some (h.lines 0 (by omega)) hm
  obtain ⟨A', c2, e2, ha⟩ := own_arrI (h.lines 0 (by omega))
  rw [e'] at e2
  cases e2
  have hg := own_ge h.row (k := g) (by rw [e]; rfl)
  refine ⟨g, c, g', c', e, hg.2, ?_, ha⟩
  obtain ⟨A3, c3, e3, -, ha3⟩ := own_arr h.row
  rw [e] at e3
  cases e3
  obtain ⟨b, off, e4, -, hc⟩ := Arr.at_ ha3 (i := 0) (by omega) (by omega)
  cases e4
  rw [show 0 + (0 : Int).toNat = 0 from rfl] at hc
  rw [hc, ← e']; rfl

set_option maxRecDepth 100000 in
set_option maxHeartbeats 2000000 in
theorem awake3_any (w : World) : Calls Try.prog 13 #[] w fun e w' => e = .returned (.bool true) ∧ Below w.heap.size w w' := by
  have M1 := many_one aw1' aw2
  have M2 := many_one aw3.1 aw4
  have FL : Hid (∀ w' A d, ArrI w' w'.heap.size A 1 (lit [2]) → Calls Try.prog 56 #[.int .i64 16, .slice A 1 d] w' (New w' fun v w1 => ∃ vs, Found w'.heap.size w1 16 (fun i _ => lit [2] i) 1 v vs)) := by
    show ∀ _, _
    exact fun w' A d hR => flat_any 16 1 d A (lit [2]) w' hR (by omega) (by omega)
  have CO := Lib.hid fun w' A P c d hA hP => cost_all 16 5 A P 80 c 16 d (rowQ 7) (fun _ => 2) 0 2 w' hA (by decide) (rowQ_B 7) hP (by decide) awC3 awC4
  go_enter Try.func13, Try.ntmps13
  go_wp2_with fail
  refine (row_any 7 _ (by omega) (by omega)).mono ?_
  rintro e w1 ⟨_, rfl, ⟨g1, rfl, hg1, kg1⟩, b1⟩
  have b2 : Below w.heap.size w (w1.alloc (.cells #[.int .i64 16, .int .i64 5, .slice (some ⟨g1, 0, none⟩) 80 80] 24)) := b1.alloc b1.size _
  have kg2 := kg1.alloc (.cells #[.int .i64 16, .int .i64 5, .slice (some ⟨g1, 0, none⟩) 80 80] 24)
  have kx2 := Blk.new w1 24 #[.int .i64 16, .int .i64 5, .slice (some ⟨g1, 0, none⟩) 80 80]
  have z1 := b1.size
  have z2 := kg1.lt
  go_wp2_with fail
  clear b1 kg1
  generalize w1.alloc (.cells #[.int .i64 16, .int .i64 5, .slice (some ⟨g1, 0, none⟩) 80 80] 24) = w2 at *
  generalize w1.heap.size = gx at *
  refine (trace_ok 16 5 (some ⟨g1, 0, none⟩) 80 80 (rowQ 7) _ (kg2.arrB kg2.lt) (by decide) (rowQ_B 7) awC1 (by omega) (by omega)).mono ?_
  rintro e w3 ⟨_, rfl, ⟨vo, rfl, hT⟩, hb3⟩
  obtain ⟨g3, c3, g4, c4, rfl, hg3, hl3, q3, ha4⟩ := hT.one M1 (by omega)
  clear hT
  have b3 := below_call b2 b2.size hb3
  have kg3 := kg2.below' hb3
  have kx3 := kx2.below' hb3
  have ha4 : ArrI w3 w3.heap.size (some ⟨g4, 0, none⟩) 16 (fun _ => 2) := ha4.congr fun i i0 i1 => aw1'' i i0 i1
  change w3.cell? _ = some (.slice _ 16 _) at q3
  clear b2 kg2 kx2 hb3
  obtain ⟨p1, p2, p3⟩ := kx3.cells3
  go_wp2_with fail
  have X1 : ∀ o, (w3.alloc o).cell? ⟨gx, 0, none⟩ = some (.int .i64 16) := fun o => ((kx3.alloc o).cells3).1
  have X2 : ∀ o, (w3.alloc o).cell? ⟨gx, 1, none⟩ = some (.int .i64 5) := fun o => ((kx3.alloc o).cells3).2.1
  have X3 : ∀ o, (w3.alloc o).cell? ⟨gx, 2, none⟩ = some (.slice (some ⟨g1, 0, none⟩) 80 80) := fun o => ((kx3.alloc o).cells3).2.2
  go_cut [4, 5] from 12 to 20 (fun nn ff wx => nn = .int .i64 2 ∧ ff = .int .i64 0 ∧ Below w3.heap.size w3 wx)
  case first =>
    go_region_law
      (first
        | (go_simp
           first
             | refine (FL.out _ _ _ (Blk.arrI ((Blk.new w3 3 #[.int .i64 2]).drew.to awI1) (by simp))).mono ?_
             | refine (FL.out _ _ _ (Blk.arrI ((Blk.new w3.drew 3 #[.int .i64 2]).to awI1) (by simp))).mono ?_
           rintro e w5 ⟨_, rfl, ⟨vs, hF⟩, hb5⟩
           obtain ⟨g5, c5, g6, c6, rfl, hl5, q5, ha6⟩ := hF.one (by omega)
           have b5 : Below w3.heap.size w3 w5 := by first | exact below_call ((Below.refl w3.heap.size w3).alloc (Nat.le_refl _) (.cells #[.int .i64 2] 3)).drew (by simp) hb5 | exact below_call ((Below.refl w3.heap.size w3).drew.alloc (Nat.le_refl _) (.cells #[.int .i64 2] 3)) (by simp) hb5
           have kx5 := kx3.below' b5
           have kg5 := kg3.below' b5
           obtain ⟨x1, x2, x3⟩ := kx5.cells3
           dsimp only)
        | (go_simp
           refine (CO.out _ _ _ _ _ (kg5.arrB kg5.lt) (ha6.congr fun _ _ _ => rfl)).mono ?_
           rintro e w7 ⟨rfl, hb7⟩
           have b7 := below_call b5 b5.size hb7
           have kx7 := kx5.below' hb7
           obtain ⟨y1, y2, y3⟩ := kx7.cells3
           dsimp only))
    all_goals
      go_wp2_with fail
      go_meet
      exact ⟨rfl, rfl, b7⟩
  case rest =>
  obtain ⟨rfl, rfl, b7⟩ := hcut
  generalize wc = w7 at *
  have kx7 := kx3.below' b7
  have c7 := below_call b3 b3.size b7
  have kg7 := kg3.below' b7
  have q7 := (b7.cell (p := ⟨g3, 0, none⟩) hl3).trans q3
  have a7 := ha4.to b7
  have hl7 : g3 < w7.heap.size := Nat.lt_of_lt_of_le hl3 b7.size
  clear b7 b3 kx3 kg3 q3 ha4 X1 X2 X3 p1 p2 p3
  go_wp2_with fail
  refine wp_region_held_drew (S := fun w' => w'.cell? ⟨g3, 0, none⟩ = some (.slice (some ⟨g4, 0, none⟩) 16 c4)) (by kernel_rfl) (by simp [go_sem, *]) (fun hHeld => ?_)
  refine wpAnyH_take (i := 0) (oi := _) (v := ?_) (by simp only [List.getElem?_toArray, List.getElem?_cons_zero]; exact rfl) (by kernel_rfl) (by kernel_rfl) (by kernel_rfl) (by exact fun _ _ _ h => h) (Or.inl ⟨by rfl, ?_⟩) (by assumption) ?_
  rotate_left 1
  · intro w hSw
    (try dsimp only at hSw)
    go_simp
    try with_reducible rfl
  try simp only [Act.put, List.setIfInBounds_toArray, List.set_cons_zero, List.set_cons_succ]
  refine wpAnyH_take (i := 1) (oi := _) (v := ?_) (by simp only [List.getElem?_toArray, List.getElem?_cons_zero, List.getElem?_cons_succ]; exact rfl) (by kernel_rfl) (by kernel_rfl) (by kernel_rfl) (by exact fun _ _ _ h => h) (Or.inl ⟨by rfl, ?_⟩) (by assumption) ?_
  rotate_left 1
  · intro w hSw
    (try dsimp only at hSw)
    go_simp
    try with_reducible rfl
  try simp only [Act.put, List.setIfInBounds_toArray, List.set_cons_zero, List.set_cons_succ]
  refine wpAnyH_take (i := 2) (oi := _) (v := ?_) (by simp only [List.getElem?_toArray, List.getElem?_cons_zero, List.getElem?_cons_succ]; exact rfl) (by kernel_rfl) (by kernel_rfl) (by kernel_rfl) (by exact fun _ _ _ h => h) (Or.inl ⟨by rfl, ?_⟩) (by assumption) ?_
  rotate_left 1
  · intro w hSw
    (try dsimp only at hSw)
    go_simp
    try with_reducible rfl
  try simp only [Act.put, List.setIfInBounds_toArray, List.set_cons_zero, List.set_cons_succ]
  refine wpAnyH_take (i := 3) (oi := _) (v := ?_) (by simp only [List.getElem?_toArray, List.getElem?_cons_zero, List.getElem?_cons_succ]; exact rfl) (by kernel_rfl) (by kernel_rfl) (by kernel_rfl) (by exact fun _ _ _ h => h) (Or.inl ⟨by rfl, ?_⟩) (by assumption) ?_
  rotate_left 1
  · intro w hSw
    (try dsimp only at hSw)
    go_simp
    try with_reducible rfl
  try simp only [Act.put, List.setIfInBounds_toArray, List.set_cons_zero, List.set_cons_succ]
  refine wpAnyH_take (i := 4) (oi := _) (v := ?_) (by simp only [List.getElem?_toArray, List.getElem?_cons_zero, List.getElem?_cons_succ]; exact rfl) (by kernel_rfl) (by kernel_rfl) (by kernel_rfl) (by exact fun _ _ _ h => h) (Or.inl ⟨by rfl, ?_⟩) (by assumption) ?_
  rotate_left 1
  · intro w hSw
    (try dsimp only at hSw)
    go_simp
    try with_reducible rfl
  try simp only [Act.put, List.setIfInBounds_toArray, List.set_cons_zero, List.set_cons_succ]
  refine wpAnyH_take (i := 5) (oi := _) (v := ?_) (by simp only [List.getElem?_toArray, List.getElem?_cons_zero, List.getElem?_cons_succ]; exact rfl) (by kernel_rfl) (by kernel_rfl) (by kernel_rfl) (by exact fun _ _ _ h => h) (Or.inl ⟨by rfl, ?_⟩) (by assumption) ?_
  rotate_left 1
  · intro w hSw
    (try dsimp only at hSw)
    go_simp
    try with_reducible rfl
  try simp only [Act.put, List.setIfInBounds_toArray, List.set_cons_zero, List.set_cons_succ]
  refine wpAnyH_take (i := 6) (oi := _) (v := ?_) (by simp only [List.getElem?_toArray, List.getElem?_cons_zero, List.getElem?_cons_succ]; exact rfl) (by kernel_rfl) (by kernel_rfl) (by kernel_rfl) (by exact fun _ _ _ h => h) (Or.inl ⟨by rfl, ?_⟩) (by assumption) ?_
  rotate_left 1
  · intro w hSw
    (try dsimp only at hSw)
    go_simp
    try with_reducible rfl
  try simp only [Act.put, List.setIfInBounds_toArray, List.set_cons_zero, List.set_cons_succ]
  refine wpAnyH_take (i := 7) (oi := _) (v := ?_) (by simp only [List.getElem?_toArray, List.getElem?_cons_zero, List.getElem?_cons_succ]; exact rfl) (by kernel_rfl) (by kernel_rfl) (by kernel_rfl) (by exact fun _ _ _ h => h) (Or.inl ⟨by rfl, ?_⟩) (by assumption) ?_
  rotate_left 1
  · intro w hSw
    (try dsimp only at hSw)
    go_simp
    try with_reducible rfl
  try simp only [Act.put, List.setIfInBounds_toArray, List.set_cons_zero, List.set_cons_succ]
  refine wpAnyH_take (i := 8) (oi := _) (v := ?_) (by simp only [List.getElem?_toArray, List.getElem?_cons_zero, List.getElem?_cons_succ]; exact rfl) (by kernel_rfl) (by kernel_rfl) (by kernel_rfl) (by exact fun _ _ _ h => h) (Or.inl ⟨by rfl, ?_⟩) (by assumption) ?_
  rotate_left 1
  · intro w hSw
    (try dsimp only at hSw)
    go_simp
    try with_reducible rfl
  try simp only [Act.put, List.setIfInBounds_toArray, List.set_cons_zero, List.set_cons_succ]
  refine wpAnyH_take (i := 9) (oi := _) (v := ?_) (by simp only [List.getElem?_toArray, List.getElem?_cons_zero, List.getElem?_cons_succ]; exact rfl) (by kernel_rfl) (by kernel_rfl) (by kernel_rfl) (by exact fun _ _ _ h => h) (Or.inl ⟨by rfl, ?_⟩) (by assumption) ?_
  rotate_left 1
  · intro w hSw
    (try dsimp only at hSw)
    go_simp
    try with_reducible rfl
  try simp only [Act.put, List.setIfInBounds_toArray, List.set_cons_zero, List.set_cons_succ]
  refine wpAnyH_take (i := 10) (oi := _) (v := ?_) (by simp only [List.getElem?_toArray, List.getElem?_cons_zero, List.getElem?_cons_succ]; exact rfl) (by kernel_rfl) (by kernel_rfl) (by kernel_rfl) (by exact fun _ _ _ h => h) (Or.inl ⟨by rfl, ?_⟩) (by assumption) ?_
  rotate_left 1
  · intro w hSw
    (try dsimp only at hSw)
    go_simp
    try with_reducible rfl
  try simp only [Act.put, List.setIfInBounds_toArray, List.set_cons_zero, List.set_cons_succ]
  refine wpAnyH_take (i := 11) (oi := _) (v := ?_) (by simp only [List.getElem?_toArray, List.getElem?_cons_zero, List.getElem?_cons_succ]; exact rfl) (by kernel_rfl) (by kernel_rfl) (by kernel_rfl) (by exact fun _ _ _ h => h) (Or.inl ⟨by rfl, ?_⟩) (by assumption) ?_
  rotate_left 1
  · intro w hSw
    (try dsimp only at hSw)
    go_simp
    try with_reducible rfl
  try simp only [Act.put, List.setIfInBounds_toArray, List.set_cons_zero, List.set_cons_succ]
  refine wpAnyH_take (i := 12) (oi := _) (v := ?_) (by simp only [List.getElem?_toArray, List.getElem?_cons_zero, List.getElem?_cons_succ]; exact rfl) (by kernel_rfl) (by kernel_rfl) (by kernel_rfl) (by exact fun _ _ _ h => h) (Or.inl ⟨by rfl, ?_⟩) (by assumption) ?_
  rotate_left 1
  · intro w hSw
    (try dsimp only at hSw)
    go_simp
    try with_reducible rfl
  try simp only [Act.put, List.setIfInBounds_toArray, List.set_cons_zero, List.set_cons_succ]
  refine wpAnyH_take (i := 13) (oi := _) (v := ?_) (by simp only [List.getElem?_toArray, List.getElem?_cons_zero, List.getElem?_cons_succ]; exact rfl) (by kernel_rfl) (by kernel_rfl) (by kernel_rfl) (by exact fun _ _ _ h => h) (Or.inl ⟨by rfl, ?_⟩) (by assumption) ?_
  rotate_left 1
  · intro w hSw
    (try dsimp only at hSw)
    go_simp
    try with_reducible rfl
  try simp only [Act.put, List.setIfInBounds_toArray, List.set_cons_zero, List.set_cons_succ]
  refine wpAnyH_take (i := 14) (oi := _) (v := ?_) (by simp only [List.getElem?_toArray, List.getElem?_cons_zero, List.getElem?_cons_succ]; exact rfl) (by kernel_rfl) (by kernel_rfl) (by kernel_rfl) (by exact fun _ _ _ h => h) (Or.inl ⟨by rfl, ?_⟩) (by assumption) ?_
  rotate_left 1
  · intro w hSw
    (try dsimp only at hSw)
    go_simp
    try with_reducible rfl
  try simp only [Act.put, List.setIfInBounds_toArray, List.set_cons_zero, List.set_cons_succ]
  refine wpAnyH_ready (rs := [15]) (by kernel_rfl) (by simp) ?_
  refine AllReadyH.cons (o := _) (by simp only [List.getElem?_toArray, List.getElem?_cons_zero, List.getElem?_cons_succ]; exact rfl) (fun K hK => ?_) AllReadyH.nil
  go_simp
  refine hK.out _ _ (by first | (simp [go_sem, *]; done) | (go_keep; done)) (fun hHeld => ?_)
  clear hK K
  try simp only [Act.put, List.setIfInBounds_toArray, List.set_cons_zero, List.set_cons_succ]
  refine wpAnyH_ready (rs := [16]) (by kernel_rfl) (by simp) ?_
  refine AllReadyH.cons (o := _) (by simp only [List.getElem?_toArray, List.getElem?_cons_zero, List.getElem?_cons_succ]; exact rfl) (fun K hK => ?_) AllReadyH.nil
  go_simp
  go_at_call 56
  refine (FL.out _ _ _ (Blk.arrI ((Blk.new w7 3 #[.int .i64 2]).drew.to awI1) (by simp))).mono ?_
  rintro e w9 ⟨_, rfl, ⟨vs, hF⟩, hb9⟩
  obtain ⟨g9, c9, g10, c10, rfl, hl9, q9, ha10⟩ := hF.one (by omega)
  have b9 : Below w7.heap.size w7 w9 := below_call ((Below.refl w7.heap.size w7).alloc (Nat.le_refl _) (.cells #[.int .i64 2] 3)).drew (by simp) hb9
  have a9 := a7.to b9
  have x9 := (b9.cell (p := ⟨g3, 0, none⟩) hl7).trans q7
  go_wp2_with fail
  refine hK.out _ _ x9 (fun hHeld => ?_)
  clear hK K
  try simp only [Act.put, List.setIfInBounds_toArray, List.set_cons_zero, List.set_cons_succ]
  refine wpAnyH_take (i := 17) (oi := _) (v := ?_) (by simp only [List.getElem?_toArray, List.getElem?_cons_zero, List.getElem?_cons_succ]; exact rfl) (by kernel_rfl) (by kernel_rfl) (by kernel_rfl) (by exact fun _ _ _ h => h) (Or.inl ⟨by rfl, ?_⟩) (by assumption) ?_
  rotate_left 1
  · intro w hSw
    (try dsimp only at hSw)
    go_simp
    try with_reducible rfl
  try simp only [Act.put, List.setIfInBounds_toArray, List.set_cons_zero, List.set_cons_succ]
  refine wpAnyH_ready (rs := [18]) (by kernel_rfl) (by simp) ?_
  refine AllReadyH.cons (o := _) (by simp only [List.getElem?_toArray, List.getElem?_cons_zero, List.getElem?_cons_succ]; exact rfl) (fun K hK => ?_) AllReadyH.nil
  go_simp
  refine hK.out _ _ (by first | (simp [go_sem, *]; done) | (go_keep; done)) (fun hHeld => ?_)
  clear hK K
  try simp only [Act.put, List.setIfInBounds_toArray, List.set_cons_zero, List.set_cons_succ]
  refine wpAnyH_ready (rs := [19]) (by kernel_rfl) (by simp) ?_
  refine AllReadyH.cons (o := _) (by simp only [List.getElem?_toArray, List.getElem?_cons_zero, List.getElem?_cons_succ]; exact rfl) (fun K hK => ?_) AllReadyH.nil
  go_simp
  go_at_call 18
  refine (equalI_any _ _ 16 16 _ _ (fun _ => 2) (fun _ => 2) _ a9 (ha10.congr fun _ _ _ => rfl) (by decide) (by decide)).mono ?_
  rintro e w10 ⟨rfl, nq, rfl⟩
  rw [awEq]
  have x10 : (w9.drewN nq).cell? ⟨g3, 0, none⟩ = some (.slice (some ⟨g4, 0, none⟩) 16 c4) := x9
  go_wp2_with fail
  refine hK.out _ _ x10 (fun hHeld => ?_)
  clear hK K
  try simp only [Act.put, List.setIfInBounds_toArray, List.set_cons_zero, List.set_cons_succ]
  refine wpAnyH_take (i := 20) (oi := _) (v := ?_) (by simp only [List.getElem?_toArray, List.getElem?_cons_zero, List.getElem?_cons_succ]; exact rfl) (by kernel_rfl) (by kernel_rfl) (by kernel_rfl) (by exact fun _ _ _ h => h) (Or.inl ⟨by rfl, ?_⟩) (by assumption) ?_
  rotate_left 1
  · intro w hSw
    (try dsimp only at hSw)
    go_simp
    try with_reducible rfl
  try simp only [Act.put, List.setIfInBounds_toArray, List.set_cons_zero, List.set_cons_succ]
  refine wpAnyH_take (i := 21) (oi := _) (v := ?_) (by simp only [List.getElem?_toArray, List.getElem?_cons_zero, List.getElem?_cons_succ]; exact rfl) (by kernel_rfl) (by kernel_rfl) (by kernel_rfl) (by exact fun _ _ _ h => h) (Or.inl ⟨by rfl, ?_⟩) (by assumption) ?_
  rotate_left 1
  · intro w hSw
    (try dsimp only at hSw)
    go_simp
    try with_reducible rfl
  try simp only [Act.put, List.setIfInBounds_toArray, List.set_cons_zero, List.set_cons_succ]
  refine wpAnyH_take (i := 22) (oi := _) (v := ?_) (by simp only [List.getElem?_toArray, List.getElem?_cons_zero, List.getElem?_cons_succ]; exact rfl) (by kernel_rfl) (by kernel_rfl) (by kernel_rfl) (by exact fun _ _ _ h => h) (Or.inl ⟨by rfl, ?_⟩) (by assumption) ?_
  rotate_left 1
  · intro w hSw
    (try dsimp only at hSw)
    go_simp
    try with_reducible rfl
  try simp only [Act.put, List.setIfInBounds_toArray, List.set_cons_zero, List.set_cons_succ]
  refine wpAnyH_take (i := 23) (oi := _) (v := ?_) (by simp only [List.getElem?_toArray, List.getElem?_cons_zero, List.getElem?_cons_succ]; exact rfl) (by kernel_rfl) (by kernel_rfl) (by kernel_rfl) (by exact fun _ _ _ h => h) (Or.inl ⟨by rfl, ?_⟩) (by assumption) ?_
  rotate_left 1
  · intro w hSw
    (try dsimp only at hSw)
    go_simp
    try with_reducible rfl
  try simp only [Act.put, List.setIfInBounds_toArray, List.set_cons_zero, List.set_cons_succ]
  refine wpAnyH_take (i := 24) (oi := _) (v := ?_) (by simp only [List.getElem?_toArray, List.getElem?_cons_zero, List.getElem?_cons_succ]; exact rfl) (by kernel_rfl) (by kernel_rfl) (by kernel_rfl) (by exact fun _ _ _ h => h) (Or.inl ⟨by rfl, ?_⟩) (by assumption) ?_
  rotate_left 1
  · intro w hSw
    (try dsimp only at hSw)
    go_simp
    try with_reducible rfl
  try simp only [Act.put, List.setIfInBounds_toArray, List.set_cons_zero, List.set_cons_succ]
  refine wpAnyH_take (i := 25) (oi := _) (v := ?_) (by simp only [List.getElem?_toArray, List.getElem?_cons_zero, List.getElem?_cons_succ]; exact rfl) (by kernel_rfl) (by kernel_rfl) (by kernel_rfl) (by exact fun _ _ _ h => h) (Or.inl ⟨by rfl, ?_⟩) (by assumption) ?_
  rotate_left 1
  · intro w hSw
    (try dsimp only at hSw)
    go_simp
    try with_reducible rfl
  try simp only [Act.put, List.setIfInBounds_toArray, List.set_cons_zero, List.set_cons_succ]
  refine wpAnyH_done (by kernel_rfl) ?_ _
  have kx9 := kx7.below' b9
  have kg9 := kg7.below' b9
  have b10 : Below w.heap.size w (w9.drewN nq) := below_drewN (below_call c7 c7.size b9) nq
  have kx10 : Blk (w9.drewN nq) gx 24 #[.int .i64 16, .int .i64 5, .slice (some ⟨g1, 0, none⟩) 80 80] := kx9.drewN nq
  have kg10 : Blk (w9.drewN nq) g1 5 (u8s 80 (rowQ 7)) := kg9.drewN nq
  clear b9 kx9 kg9 c7 kx7 kg7 q7 a7 hb9 hF q9 ha10 a9 x9 x10
  generalize w9.drewN nq = w10 at *
  obtain ⟨y1, y2, y3⟩ := kx10.cells3
  have c23 : w10.cell? ⟨g1, 23, none⟩ = some (.int .u8 (rowQ 7 23)) := kg10.u8at (i := 23) (by omega) (by omega)
  have f23 : w10.frozen? ⟨g1, 23, none⟩ = false := kg10.frozen 23
  have ng : g1 ≠ gx := by omega
  have z10 := b10.size
  have kg11 : Blk (w10.setCell ⟨g1, 23, none⟩ (.int .u8 1)) g1 5 (u8s 80 rowQ2) := (kg10.u8set 23 (by omega) 1).u8conv fun j _ _ => rfl
  have kx11 : Blk (w10.setCell ⟨g1, 23, none⟩ (.int .u8 1)) gx 24 #[.int .i64 16, .int .i64 5, .slice (some ⟨g1, 0, none⟩) 80 80] := kx10.far (p := ⟨g1, 23, none⟩) (fun e => ng e.symm) _
  have b11 : Below w.heap.size w (w10.setCell ⟨g1, 23, none⟩ (.int .u8 1)) := b10.setCell hg1 _
  obtain ⟨v1, v2, v3⟩ := kx11.cells3
  clear kg10 kx10
  go_wp2_with fail
  clear y1 y2 y3 c23 f23 b10 v1 v2 v3
  generalize w10.setCell ⟨g1, 23, none⟩ (.int .u8 1) = w11 at *
  refine (trace_ok 16 5 (some ⟨g1, 0, none⟩) 80 80 rowQ2 _ (kg11.arrB kg11.lt) (by decide) rowQ2_B awC2 (by omega) (by omega)).mono ?_
  rintro e w12 ⟨_, rfl, ⟨vo2, rfl, hT2⟩, hb12⟩
  obtain ⟨g13, c13, g14, c14, rfl, hg13, hl13, q13, ha14⟩ := hT2.one M2 (by omega)
  clear hT2
  have b12 := below_call b11 b11.size hb12
  change w12.cell? _ = some (.slice _ 16 _) at q13
  obtain ⟨b', off', e', -, hc7⟩ := ArrI.at_ ha14 (i := 7) (by omega) (by decide)
  cases e'
  rw [show 0 + (7 : Int).toNat = 7 from rfl, show (7 : Int).toNat = 7 from rfl, aw3'] at hc7
  clear b11 kg11 kx11 hb12 ha14
  have F5 : Hid (∀ l w' A d, ArrI w' w'.heap.size A 5 (lit l) → Calls Try.prog 56 #[.int .i64 3, .slice A 5 d] w' (New w' fun v w1 => ∃ vs, Found w'.heap.size w1 3 (fun i _ => lit l i) 5 v vs)) := by
    show ∀ _, _
    exact fun l w' A d hR => flat_any 3 5 d A (lit l) w' hR (by omega) (by omega)
  go_wp2_with fail
  refine (F5.out [4, 10, 16, 22, 28] _ _ _ (Blk.arrI ((Blk.new _ _ _).to awI2) (by simp))).mono ?_
  rintro e w13 ⟨_, rfl, ⟨vs, hF⟩, hb13⟩
  obtain ⟨A5, c5', rfl, hc5, hL⟩ := hF.toLines
  have b13 : Below w.heap.size w w13 := below_call (b12.alloc b12.size (.cells #[.int .i64 4, .int .i64 10, .int .i64 16, .int .i64 22, .int .i64 28] 3)) (by have := b12.size; simp; omega) hb13
  clear hF hb13 b12 q13 hc7
  go_wp2_with fail
  refine (staves5 A5 c5' _ _ _ hL hc5 (fun i _ => by decide) (fun i j hi _ => lit_bd1 i j hi)).mono ?_
  rintro e w14 ⟨_, rfl, ⟨A6, c6', rfl⟩, hb14⟩
  rw [awN1]
  have b14 := below_call b13 b13.size hb14
  clear hL b13 hb14
  go_wp2_with fail
  refine (F5.out [4, 10, 16, 22, 31] _ _ _ (Blk.arrI ((Blk.new _ _ _).to awI3) (by simp))).mono ?_
  rintro e w15 ⟨_, rfl, ⟨vs, hF⟩, hb15⟩
  obtain ⟨A7, c7', rfl, hc7', hL⟩ := hF.toLines
  have b15 : Below w.heap.size w w15 := below_call (b14.alloc b14.size (.cells #[.int .i64 4, .int .i64 10, .int .i64 16, .int .i64 22, .int .i64 31] 3)) (by have := b14.size; simp; omega) hb15
  clear hF hb15 b14
  go_wp2_with fail
  refine (staves5 A7 c7' _ _ _ hL hc7' (fun i _ => by decide) (fun i j hi _ => lit_bd2 i j hi)).mono ?_
  rintro e w16 ⟨_, rfl, ⟨A8, c8', rfl⟩, hb16⟩
  rw [awN2]
  have b16 := below_call b15 b15.size hb16
  clear hL b15 hb16
  go_wp2
  go_ret
  exact ⟨rfl, b16⟩
end Go.Proofs.Ytdimlpcbbkokiaa
