/- Texts of mine in build order: T16, T19, T33, Open, Open2, T34, T48, S22. Conditions: each theorem's own. -/
import Derived.Test.YtdimlpcbbkokiaaMStaveRunsx6
import Derived.Deep.RegionLaw
import Derived.Deep.RegionHeld3
import Derived.Test.YtdimlpcbbkokiaaRows
import Derived.ProofKit
import Derived.OpenShut
import Derived.ShutString
import Derived.ChangeOld
import Derived.Lib.SmallJoins
import Derived.Deep.Matrix
import Derived.SizedLaws
import Derived.ChangeSame
/- Walk: the examples of the chapter (custoslaw03.awake). -/
namespace Go.Proofs.Ytdimlpcbbkokiaa
open Go.RowKit Go.Shelf
set_option linter.unusedVariables false
attribute [local go_sem] Oper.semAt_some

theorem Found.toLines {B : Nat} {w : World} {m : Nat} {ln : Nat → Nat → Int} {k : Nat} {vo : Value} {v : Nat → Value} (h : Found B w m ln k vo v) : ∃ A c, vo = .slice A k c ∧ k ≤ c ∧ Lines w w.heap.size A k (fun _ => m) ln := by
  obtain ⟨A, c, e, hc, ha⟩ := own_arr h.row
  refine ⟨A, c, e, hc, v, Arr.congr ha fun i i0 i1 => ?_, fun i hi => ?_⟩
  · rw [List.getD_eq_getElem?_getD, List.getElem?_map, List.getElem?_range (by omega)]; rfl
  · obtain ⟨A', c', e', ha'⟩ := own_arrI (h.lines i hi)
    exact ⟨A', c', e', ha'⟩
/-- one line alone -/
theorem TraceOut.one {w w' : World} {W H : Int} {p : Int → Int} {v : Value} (h : TraceOut w W H p v w') (h1 : Many 1073741824 W H (cst p W) 1) (hW : 0 < W) :
    ∃ g c g' c', v = .slice (some ⟨g, 0, none⟩) 1 c ∧ w.heap.size ≤ g ∧ g < w'.heap.size ∧ w'.cell? ⟨g, 0, none⟩ = some (.slice (some ⟨g', 0, none⟩) W.toNat c') ∧ ArrI w' w'.heap.size (some ⟨g', 0, none⟩) W.toNat (fun j => LN 1073741824 W H (cst p W) 0 j.toNat) := by
  obtain ⟨k, l, vs, hk, hp, -, hr, hl⟩ := h
  obtain rfl := hk.uniq h1
  obtain rfl : l = [0] := List.perm_singleton.1 hp
  obtain ⟨g, c, e⟩ := own_some hr (by omega)
  obtain ⟨g', c', e'⟩ := own_some (hl 0 (by omega)) (by omega)
  obtain ⟨A', c2, e2, ha⟩ := own_arrI (hl 0 (by omega))
  rw [e'] at e2
  cases e2
  have hg := own_ge hr (k := g) (by rw [e]; rfl)
  refine ⟨g, c, g', c', e, hg.1, hg.2, ?_, ha⟩
  obtain ⟨A3, c3, e3, -, ha3⟩ := own_arr hr
  rw [e] at e3
  cases e3
  obtain ⟨b, off, e4, -, hc⟩ := Arr.at_ ha3 (i := 0) (by omega) (by omega)
  cases e4
  rw [show 0 + (0 : Int).toNat = 0 from rfl] at hc
  rw [hc, ← e']; rfl

theorem awC1 : chk 16 5 80 (rowQ 7) = 0 := by decide +kernel
theorem awC2 : chk 16 5 80 rowQ2 = 0 := by decide +kernel
theorem awC3 : costE 16 5 80 (rowQ 7) 16 (fun _ => 2) = 0 := by decide +kernel
theorem awC4 : costV 16 5 80 (rowQ 7) 16 (fun _ => 2) = 2 := by decide +kernel
theorem awE1 : evenB (fun _ => 3) (fun i _ => lit [4, 10, 16, 22, 28] i) = true := by decide +kernel
theorem awE2 : evenB (fun _ => 3) (fun i _ => lit [4, 10, 16, 22, 31] i) = false := by decide +kernel
theorem awEq : sameI 16 16 (fun _ => 2) (fun _ => 2) = true := by decide +kernel
theorem awN1 : stN (fun _ => 3) (fun i _ => lit [4, 10, 16, 22, 28] i) = 1 := by unfold stN; rw [awE1]; rfl
theorem awN2 : stN (fun _ => 3) (fun i _ => lit [4, 10, 16, 22, 31] i) = 0 := by unfold stN; rw [awE2]; rfl
theorem lit_bd1 (i j : Nat) (hi : i < 5) : -1099511627776 ≤ lit [4, 10, 16, 22, 28] i ∧ lit [4, 10, 16, 22, 28] i ≤ 1099511627776 := by
  obtain rfl | rfl | rfl | rfl | rfl : i = 0 ∨ i = 1 ∨ i = 2 ∨ i = 3 ∨ i = 4 := by omega
  all_goals decide
theorem lit_bd2 (i j : Nat) (hi : i < 5) : -1099511627776 ≤ lit [4, 10, 16, 22, 31] i ∧ lit [4, 10, 16, 22, 31] i ≤ 1099511627776 := by
  obtain rfl | rfl | rfl | rfl | rfl : i = 0 ∨ i = 1 ∨ i = 2 ∨ i = 3 ∨ i = 4 := by omega
  all_goals decide
theorem awI1 : #[Value.int .i64 2] = i64s 1 (lit [2]) := i64s_lit (l := [2])
theorem awI2 : #[Value.int .i64 4, .int .i64 10, .int .i64 16, .int .i64 22, .int .i64 28] = i64s 5 (lit [4, 10, 16, 22, 28]) := i64s_lit (l := [4, 10, 16, 22, 28])
theorem awI3 : #[Value.int .i64 4, .int .i64 10, .int .i64 16, .int .i64 22, .int .i64 31] = i64s 5 (lit [4, 10, 16, 22, 31]) := i64s_lit (l := [4, 10, 16, 22, 31])
theorem Found.one {B : Nat} {w : World} {m : Nat} {ln : Nat → Nat → Int} {vo : Value} {v : Nat → Value} (h : Found B w m ln 1 vo v) (hm : 0 < m) :
    ∃ g c g' c', vo = .slice (some ⟨g, 0, none⟩) 1 c ∧ g < w.heap.size ∧ w.cell? ⟨g, 0, none⟩ = some (.slice (some ⟨g', 0, none⟩) m c') ∧ ArrI w w.heap.size (some ⟨g', 0, none⟩) m (fun j => ln 0 j.toNat) := by
  obtain ⟨g, c, e⟩ := own_some h.row (by omega)
  obtain ⟨g', c', e'⟩ := own_some (h.lines 0 (by omega)) hm
  obtain ⟨A', c2, e2, ha⟩ := own_arrI (h.lines 0 (by omega))
  rw [e'] at e2
  cases e2
  have hg := own_ge h.row (k := g) (by rw [e]; rfl)
  refine ⟨g, c, g', c', e, hg.2, ?_, ha⟩
  obtain ⟨A3, c3, e3, -, ha3⟩ := own_arr h.row
  rw [e] at e3
  cases e3
  obtain ⟨b, off, e4, -, hc⟩ := Arr.at_ ha3 (i := 0) (by omega) (by omega)
  cases e4
  rw [show 0 + (0 : Int).toNat = 0 from rfl] at hc
  rw [hc, ← e']; rfl

set_option maxRecDepth 100000 in
set_option maxHeartbeats 2000000 in
theorem awake3_any (w : World) : Calls Try.prog 13 #[] w fun e w' => e = .returned (.bool true) ∧ Below w.heap.size w w' := by
  have M1 := many_one aw1' aw2
  have M2 := many_one aw3.1 aw4
  have FL : Hid (∀ w' A d, ArrI w' w'.heap.size A 1 (lit [2]) → Calls Try.prog 56 #[.int .i64 16, .slice A 1 d] w' (New w' fun v w1 => ∃ vs, Found w'.heap.size w1 16 (fun i _ => lit [2] i) 1 v vs)) := by
    show ∀ _, _
    exact fun w' A d hR => flat_any 16 1 d A (lit [2]) w' hR (by omega) (by omega)
  have CO := Lib.hid fun w' A P c d hA hP => cost_all 16 5 A P 80 c 16 d (rowQ 7) (fun _ => 2) 0 2 w' hA (by decide) (rowQ_B 7) hP (by decide) awC3 awC4
  go_enter Try.func13, Try.ntmps13
  go_wp2_with fail
  refine (row_any 7 _ (by omega) (by omega)).mono ?_
  rintro e w1 ⟨_, rfl, ⟨g1, rfl, hg1, kg1⟩, b1⟩
  have b2 : Below w.heap.size w (w1.alloc (.cells #[.int .i64 16, .int .i64 5, .slice (some ⟨g1, 0, none⟩) 80 80] 24)) := b1.alloc b1.size _
  have kg2 := kg1.alloc (.cells #[.int .i64 16, .int .i64 5, .slice (some ⟨g1, 0, none⟩) 80 80] 24)
  have kx2 := Blk.new w1 24 #[.int .i64 16, .int .i64 5, .slice (some ⟨g1, 0, none⟩) 80 80]
  have z1 := b1.size
  have z2 := kg1.lt
  go_wp2_with fail
  clear b1 kg1
  generalize w1.alloc (.cells #[.int .i64 16, .int .i64 5, .slice (some ⟨g1, 0, none⟩) 80 80] 24) = w2 at *
  generalize w1.heap.size = gx at *
  refine (trace_ok 16 5 (some ⟨g1, 0, none⟩) 80 80 (rowQ 7) _ (kg2.arrB kg2.lt) (by decide) (rowQ_B 7) awC1 (by omega) (by omega)).mono ?_
  rintro e w3 ⟨_, rfl, ⟨vo, rfl, hT⟩, hb3⟩
  obtain ⟨g3, c3, g4, c4, rfl, hg3, hl3, q3, ha4⟩ := hT.one M1 (by omega)
  clear hT
  have b3 := below_call b2 b2.size hb3
  have kg3 := kg2.below' hb3
  have kx3 := kx2.below' hb3
  have ha4 : ArrI w3 w3.heap.size (some ⟨g4, 0, none⟩) 16 (fun _ => 2) := ha4.congr fun i i0 i1 => aw1'' i i0 i1
  change w3.cell? _ = some (.slice _ 16 _) at q3
  clear b2 kg2 kx2 hb3
  obtain ⟨p1, p2, p3⟩ := kx3.cells3
  go_wp2_with fail
  have X1 : ∀ o, (w3.alloc o).cell? ⟨gx, 0, none⟩ = some (.int .i64 16) := fun o => ((kx3.alloc o).cells3).1
  have X2 : ∀ o, (w3.alloc o).cell? ⟨gx, 1, none⟩ = some (.int .i64 5) := fun o => ((kx3.alloc o).cells3).2.1
  have X3 : ∀ o, (w3.alloc o).cell? ⟨gx, 2, none⟩ = some (.slice (some ⟨g1, 0, none⟩) 80 80) := fun o => ((kx3.alloc o).cells3).2.2
  go_cut [4, 5] from 12 to 20 (fun nn ff wx => nn = .int .i64 2 ∧ ff = .int .i64 0 ∧ Below w3.heap.size w3 wx)
  case first =>
    go_region_law
      (first
        | (go_simp
           first
             | refine (FL.out _ _ _ (Blk.arrI ((Blk.new w3 3 #[.int .i64 2]).drew.to awI1) (by simp))).mono ?_
             | refine (FL.out _ _ _ (Blk.arrI ((Blk.new w3.drew 3 #[.int .i64 2]).to awI1) (by simp))).mono ?_
           rintro e w5 ⟨_, rfl, ⟨vs, hF⟩, hb5⟩
           obtain ⟨g5, c5, g6, c6, rfl, hl5, q5, ha6⟩ := hF.one (by omega)
           have b5 : Below w3.heap.size w3 w5 := by first | exact below_call ((Below.refl w3.heap.size w3).alloc (Nat.le_refl _) (.cells #[.int .i64 2] 3)).drew (by simp) hb5 | exact below_call ((Below.refl w3.heap.size w3).drew.alloc (Nat.le_refl _) (.cells #[.int .i64 2] 3)) (by simp) hb5
           have kx5 := kx3.below' b5
           have kg5 := kg3.below' b5
           obtain ⟨x1, x2, x3⟩ := kx5.cells3
           dsimp only)
        | (go_simp
           refine (CO.out _ _ _ _ _ (kg5.arrB kg5.lt) (ha6.congr fun _ _ _ => rfl)).mono ?_
           rintro e w7 ⟨rfl, hb7⟩
           have b7 := below_call b5 b5.size hb7
           have kx7 := kx5.below' hb7
           obtain ⟨y1, y2, y3⟩ := kx7.cells3
           dsimp only))
    all_goals
      go_wp2_with fail
      go_meet
      exact ⟨rfl, rfl, b7⟩
  case rest =>
  obtain ⟨rfl, rfl, b7⟩ := hcut
  generalize wc = w7 at *
  have kx7 := kx3.below' b7
  have c7 := below_call b3 b3.size b7
  have kg7 := kg3.below' b7
  have q7 := (b7.cell (p := ⟨g3, 0, none⟩) hl3).trans q3
  have a7 := ha4.to b7
  have hl7 : g3 < w7.heap.size := Nat.lt_of_lt_of_le hl3 b7.size
  clear b7 b3 kx3 kg3 q3 ha4 X1 X2 X3 p1 p2 p3
  go_wp2_with fail
  refine wp_region_held_drew (S := fun w' => w'.cell? ⟨g3, 0, none⟩ = some (.slice (some ⟨g4, 0, none⟩) 16 c4)) (by kernel_rfl) (by simp [go_sem, *]) (fun hHeld => ?_)
  refine wpAnyH_take (i := 0) (oi := _) (v := ?_) (by simp only [List.getElem?_toArray, List.getElem?_cons_zero]; exact rfl) (by kernel_rfl) (by kernel_rfl) (by kernel_rfl) (by exact fun _ _ _ h => h) (Or.inl ⟨by rfl, ?_⟩) (by assumption) ?_
  rotate_left 1
  · intro w hSw
    (try dsimp only at hSw)
    go_simp
    try with_reducible rfl
  try simp only [Act.put, List.setIfInBounds_toArray, List.set_cons_zero, List.set_cons_succ]
  refine wpAnyH_take (i := 1) (oi := _) (v := ?_) (by simp only [List.getElem?_toArray, List.getElem?_cons_zero, List.getElem?_cons_succ]; exact rfl) (by kernel_rfl) (by kernel_rfl) (by kernel_rfl) (by exact fun _ _ _ h => h) (Or.inl ⟨by rfl, ?_⟩) (by assumption) ?_
  rotate_left 1
  · intro w hSw
    (try dsimp only at hSw)
    go_simp
    try with_reducible rfl
  try simp only [Act.put, List.setIfInBounds_toArray, List.set_cons_zero, List.set_cons_succ]
  refine wpAnyH_take (i := 2) (oi := _) (v := ?_) (by simp only [List.getElem?_toArray, List.getElem?_cons_zero, List.getElem?_cons_succ]; exact rfl) (by kernel_rfl) (by kernel_rfl) (by kernel_rfl) (by exact fun _ _ _ h => h) (Or.inl ⟨by rfl, ?_⟩) (by assumption) ?_
  rotate_left 1
  · intro w hSw
    (try dsimp only at hSw)
    go_simp
    try with_reducible rfl
  try simp only [Act.put, List.setIfInBounds_toArray, List.set_cons_zero, List.set_cons_succ]
  refine wpAnyH_take (i := 3) (oi := _) (v := ?_) (by simp only [List.getElem?_toArray, List.getElem?_cons_zero, List.getElem?_cons_succ]; exact rfl) (by kernel_rfl) (by kernel_rfl) (by kernel_rfl) (by exact fun _ _ _ h => h) (Or.inl ⟨by rfl, ?_⟩) (by assumption) ?_
  rotate_left 1
  · intro w hSw
    (try dsimp only at hSw)
    go_simp
    try with_reducible rfl
  try simp only [Act.put, List.setIfInBounds_toArray, List.set_cons_zero, List.set_cons_succ]
  refine wpAnyH_take (i := 4) (oi := _) (v := ?_) (by simp only [List.getElem?_toArray, List.getElem?_cons_zero, List.getElem?_cons_succ]; exact rfl) (by kernel_rfl) (by kernel_rfl) (by kernel_rfl) (by exact fun _ _ _ h => h) (Or.inl ⟨by rfl, ?_⟩) (by assumption) ?_
  rotate_left 1
  · intro w hSw
    (try dsimp only at hSw)
    go_simp
    try with_reducible rfl
  try simp only [Act.put, List.setIfInBounds_toArray, List.set_cons_zero, List.set_cons_succ]
  refine wpAnyH_take (i := 5) (oi := _) (v := ?_) (by simp only [List.getElem?_toArray, List.getElem?_cons_zero, List.getElem?_cons_succ]; exact rfl) (by kernel_rfl) (by kernel_rfl) (by kernel_rfl) (by exact fun _ _ _ h => h) (Or.inl ⟨by rfl, ?_⟩) (by assumption) ?_
  rotate_left 1
  · intro w hSw
    (try dsimp only at hSw)
    go_simp
    try with_reducible rfl
  try simp only [Act.put, List.setIfInBounds_toArray, List.set_cons_zero, List.set_cons_succ]
  refine wpAnyH_take (i := 6) (oi := _) (v := ?_) (by simp only [List.getElem?_toArray, List.getElem?_cons_zero, List.getElem?_cons_succ]; exact rfl) (by kernel_rfl) (by kernel_rfl) (by kernel_rfl) (by exact fun _ _ _ h => h) (Or.inl ⟨by rfl, ?_⟩) (by assumption) ?_
  rotate_left 1
  · intro w hSw
    (try dsimp only at hSw)
    go_simp
    try with_reducible rfl
  try simp only [Act.put, List.setIfInBounds_toArray, List.set_cons_zero, List.set_cons_succ]
  refine wpAnyH_take (i := 7) (oi := _) (v := ?_) (by simp only [List.getElem?_toArray, List.getElem?_cons_zero, List.getElem?_cons_succ]; exact rfl) (by kernel_rfl) (by kernel_rfl) (by kernel_rfl) (by exact fun _ _ _ h => h) (Or.inl ⟨by rfl, ?_⟩) (by assumption) ?_
  rotate_left 1
  · intro w hSw
    (try dsimp only at hSw)
    go_simp
    try with_reducible rfl
  try simp only [Act.put, List.setIfInBounds_toArray, List.set_cons_zero, List.set_cons_succ]
  refine wpAnyH_take (i := 8) (oi := _) (v := ?_) (by simp only [List.getElem?_toArray, List.getElem?_cons_zero, List.getElem?_cons_succ]; exact rfl) (by kernel_rfl) (by kernel_rfl) (by kernel_rfl) (by exact fun _ _ _ h => h) (Or.inl ⟨by rfl, ?_⟩) (by assumption) ?_
  rotate_left 1
  · intro w hSw
    (try dsimp only at hSw)
    go_simp
    try with_reducible rfl
  try simp only [Act.put, List.setIfInBounds_toArray, List.set_cons_zero, List.set_cons_succ]
  refine wpAnyH_take (i := 9) (oi := _) (v := ?_) (by simp only [List.getElem?_toArray, List.getElem?_cons_zero, List.getElem?_cons_succ]; exact rfl) (by kernel_rfl) (by kernel_rfl) (by kernel_rfl) (by exact fun _ _ _ h => h) (Or.inl ⟨by rfl, ?_⟩) (by assumption) ?_
  rotate_left 1
  · intro w hSw
    (try dsimp only at hSw)
    go_simp
    try with_reducible rfl
  try simp only [Act.put, List.setIfInBounds_toArray, List.set_cons_zero, List.set_cons_succ]
  refine wpAnyH_take (i := 10) (oi := _) (v := ?_) (by simp only [List.getElem?_toArray, List.getElem?_cons_zero, List.getElem?_cons_succ]; exact rfl) (by kernel_rfl) (by kernel_rfl) (by kernel_rfl) (by exact fun _ _ _ h => h) (Or.inl ⟨by rfl, ?_⟩) (by assumption) ?_
  rotate_left 1
  · intro w hSw
    (try dsimp only at hSw)
    go_simp
    try with_reducible rfl
  try simp only [Act.put, List.setIfInBounds_toArray, List.set_cons_zero, List.set_cons_succ]
  refine wpAnyH_take (i := 11) (oi := _) (v := ?_) (by simp only [List.getElem?_toArray, List.getElem?_cons_zero, List.getElem?_cons_succ]; exact rfl) (by kernel_rfl) (by kernel_rfl) (by kernel_rfl) (by exact fun _ _ _ h => h) (Or.inl ⟨by rfl, ?_⟩) (by assumption) ?_
  rotate_left 1
  · intro w hSw
    (try dsimp only at hSw)
    go_simp
    try with_reducible rfl
  try simp only [Act.put, List.setIfInBounds_toArray, List.set_cons_zero, List.set_cons_succ]
  refine wpAnyH_take (i := 12) (oi := _) (v := ?_) (by simp only [List.getElem?_toArray, List.getElem?_cons_zero, List.getElem?_cons_succ]; exact rfl) (by kernel_rfl) (by kernel_rfl) (by kernel_rfl) (by exact fun _ _ _ h => h) (Or.inl ⟨by rfl, ?_⟩) (by assumption) ?_
  rotate_left 1
  · intro w hSw
    (try dsimp only at hSw)
    go_simp
    try with_reducible rfl
  try simp only [Act.put, List.setIfInBounds_toArray, List.set_cons_zero, List.set_cons_succ]
  refine wpAnyH_take (i := 13) (oi := _) (v := ?_) (by simp only [List.getElem?_toArray, List.getElem?_cons_zero, List.getElem?_cons_succ]; exact rfl) (by kernel_rfl) (by kernel_rfl) (by kernel_rfl) (by exact fun _ _ _ h => h) (Or.inl ⟨by rfl, ?_⟩) (by assumption) ?_
  rotate_left 1
  · intro w hSw
    (try dsimp only at hSw)
    go_simp
    try with_reducible rfl
  try simp only [Act.put, List.setIfInBounds_toArray, List.set_cons_zero, List.set_cons_succ]
  refine wpAnyH_take (i := 14) (oi := _) (v := ?_) (by simp only [List.getElem?_toArray, List.getElem?_cons_zero, List.getElem?_cons_succ]; exact rfl) (by kernel_rfl) (by kernel_rfl) (by kernel_rfl) (by exact fun _ _ _ h => h) (Or.inl ⟨by rfl, ?_⟩) (by assumption) ?_
  rotate_left 1
  · intro w hSw
    (try dsimp only at hSw)
    go_simp
    try with_reducible rfl
  try simp only [Act.put, List.setIfInBounds_toArray, List.set_cons_zero, List.set_cons_succ]
  refine wpAnyH_ready (rs := [15]) (by kernel_rfl) (by simp) ?_
  refine AllReadyH.cons (o := _) (by simp only [List.getElem?_toArray, List.getElem?_cons_zero, List.getElem?_cons_succ]; exact rfl) (fun K hK => ?_) AllReadyH.nil
  go_simp
  refine hK.out _ _ (by first | (simp [go_sem, *]; done) | (go_keep; done)) (fun hHeld => ?_)
  clear hK K
  try simp only [Act.put, List.setIfInBounds_toArray, List.set_cons_zero, List.set_cons_succ]
  refine wpAnyH_ready (rs := [16]) (by kernel_rfl) (by simp) ?_
  refine AllReadyH.cons (o := _) (by simp only [List.getElem?_toArray, List.getElem?_cons_zero, List.getElem?_cons_succ]; exact rfl) (fun K hK => ?_) AllReadyH.nil
  go_simp
  go_at_call 56
  refine (FL.out _ _ _ (Blk.arrI ((Blk.new w7 3 #[.int .i64 2]).drew.to awI1) (by simp))).mono ?_
  rintro e w9 ⟨_, rfl, ⟨vs, hF⟩, hb9⟩
  obtain ⟨g9, c9, g10, c10, rfl, hl9, q9, ha10⟩ := hF.one (by omega)
  have b9 : Below w7.heap.size w7 w9 := below_call ((Below.refl w7.heap.size w7).alloc (Nat.le_refl _) (.cells #[.int .i64 2] 3)).drew (by simp) hb9
  have a9 := a7.to b9
  have x9 := (b9.cell (p := ⟨g3, 0, none⟩) hl7).trans q7
  go_wp2_with fail
  refine hK.out _ _ x9 (fun hHeld => ?_)
  clear hK K
  try simp only [Act.put, List.setIfInBounds_toArray, List.set_cons_zero, List.set_cons_succ]
  refine wpAnyH_take (i := 17) (oi := _) (v := ?_) (by simp only [List.getElem?_toArray, List.getElem?_cons_zero, List.getElem?_cons_succ]; exact rfl) (by kernel_rfl) (by kernel_rfl) (by kernel_rfl) (by exact fun _ _ _ h => h) (Or.inl ⟨by rfl, ?_⟩) (by assumption) ?_
  rotate_left 1
  · intro w hSw
    (try dsimp only at hSw)
    go_simp
    try with_reducible rfl
  try simp only [Act.put, List.setIfInBounds_toArray, List.set_cons_zero, List.set_cons_succ]
  refine wpAnyH_ready (rs := [18]) (by kernel_rfl) (by simp) ?_
  refine AllReadyH.cons (o := _) (by simp only [List.getElem?_toArray, List.getElem?_cons_zero, List.getElem?_cons_succ]; exact rfl) (fun K hK => ?_) AllReadyH.nil
  go_simp
  refine hK.out _ _ (by first | (simp [go_sem, *]; done) | (go_keep; done)) (fun hHeld => ?_)
  clear hK K
  try simp only [Act.put, List.setIfInBounds_toArray, List.set_cons_zero, List.set_cons_succ]
  refine wpAnyH_ready (rs := [19]) (by kernel_rfl) (by simp) ?_
  refine AllReadyH.cons (o := _) (by simp only [List.getElem?_toArray, List.getElem?_cons_zero, List.getElem?_cons_succ]; exact rfl) (fun K hK => ?_) AllReadyH.nil
  go_simp
  go_at_call 18
  refine (equalI_any _ _ 16 16 _ _ (fun _ => 2) (fun _ => 2) _ a9 (ha10.congr fun _ _ _ => rfl) (by decide) (by decide)).mono ?_
  rintro e w10 ⟨rfl, nq, rfl⟩
  rw [awEq]
  have x10 : (w9.drewN nq).cell? ⟨g3, 0, none⟩ = some (.slice (some ⟨g4, 0, none⟩) 16 c4) := x9
  go_wp2_with fail
  refine hK.out _ _ x10 (fun hHeld => ?_)
  clear hK K
  try simp only [Act.put, List.setIfInBounds_toArray, List.set_cons_zero, List.set_cons_succ]
  refine wpAnyH_take (i := 20) (oi := _) (v := ?_) (by simp only [List.getElem?_toArray, List.getElem?_cons_zero, List.getElem?_cons_succ]; exact rfl) (by kernel_rfl) (by kernel_rfl) (by kernel_rfl) (by exact fun _ _ _ h => h) (Or.inl ⟨by rfl, ?_⟩) (by assumption) ?_
  rotate_left 1
  · intro w hSw
    (try dsimp only at hSw)
    go_simp
    try with_reducible rfl
  try simp only [Act.put, List.setIfInBounds_toArray, List.set_cons_zero, List.set_cons_succ]
  refine wpAnyH_take (i := 21) (oi := _) (v := ?_) (by simp only [List.getElem?_toArray, List.getElem?_cons_zero, List.getElem?_cons_succ]; exact rfl) (by kernel_rfl) (by kernel_rfl) (by kernel_rfl) (by exact fun _ _ _ h => h) (Or.inl ⟨by rfl, ?_⟩) (by assumption) ?_
  rotate_left 1
  · intro w hSw
    (try dsimp only at hSw)
    go_simp
    try with_reducible rfl
  try simp only [Act.put, List.setIfInBounds_toArray, List.set_cons_zero, List.set_cons_succ]
  refine wpAnyH_take (i := 22) (oi := _) (v := ?_) (by simp only [List.getElem?_toArray, List.getElem?_cons_zero, List.getElem?_cons_succ]; exact rfl) (by kernel_rfl) (by kernel_rfl) (by kernel_rfl) (by exact fun _ _ _ h => h) (Or.inl ⟨by rfl, ?_⟩) (by assumption) ?_
  rotate_left 1
  · intro w hSw
    (try dsimp only at hSw)
    go_simp
    try with_reducible rfl
  try simp only [Act.put, List.setIfInBounds_toArray, List.set_cons_zero, List.set_cons_succ]
  refine wpAnyH_take (i := 23) (oi := _) (v := ?_) (by simp only [List.getElem?_toArray, List.getElem?_cons_zero, List.getElem?_cons_succ]; exact rfl) (by kernel_rfl) (by kernel_rfl) (by kernel_rfl) (by exact fun _ _ _ h => h) (Or.inl ⟨by rfl, ?_⟩) (by assumption) ?_
  rotate_left 1
  · intro w hSw
    (try dsimp only at hSw)
    go_simp
    try with_reducible rfl
  try simp only [Act.put, List.setIfInBounds_toArray, List.set_cons_zero, List.set_cons_succ]
  refine wpAnyH_take (i := 24) (oi := _) (v := ?_) (by simp only [List.getElem?_toArray, List.getElem?_cons_zero, List.getElem?_cons_succ]; exact rfl) (by kernel_rfl) (by kernel_rfl) (by kernel_rfl) (by exact fun _ _ _ h => h) (Or.inl ⟨by rfl, ?_⟩) (by assumption) ?_
  rotate_left 1
  · intro w hSw
    (try dsimp only at hSw)
    go_simp
    try with_reducible rfl
  try simp only [Act.put, List.setIfInBounds_toArray, List.set_cons_zero, List.set_cons_succ]
  refine wpAnyH_take (i := 25) (oi := _) (v := ?_) (by simp only [List.getElem?_toArray, List.getElem?_cons_zero, List.getElem?_cons_succ]; exact rfl) (by kernel_rfl) (by kernel_rfl) (by kernel_rfl) (by exact fun _ _ _ h => h) (Or.inl ⟨by rfl, ?_⟩) (by assumption) ?_
  rotate_left 1
  · intro w hSw
    (try dsimp only at hSw)
    go_simp
    try with_reducible rfl
  try simp only [Act.put, List.setIfInBounds_toArray, List.set_cons_zero, List.set_cons_succ]
  refine wpAnyH_done (by kernel_rfl) ?_ _
  have kx9 := kx7.below' b9
  have kg9 := kg7.below' b9
  have b10 : Below w.heap.size w (w9.drewN nq) := below_drewN (below_call c7 c7.size b9) nq
  have kx10 : Blk (w9.drewN nq) gx 24 #[.int .i64 16, .int .i64 5, .slice (some ⟨g1, 0, none⟩) 80 80] := kx9.drewN nq
  have kg10 : Blk (w9.drewN nq) g1 5 (u8s 80 (rowQ 7)) := kg9.drewN nq
  clear b9 kx9 kg9 c7 kx7 kg7 q7 a7 hb9 hF q9 ha10 a9 x9 x10
  generalize w9.drewN nq = w10 at *
  obtain ⟨y1, y2, y3⟩ := kx10.cells3
  have c23 : w10.cell? ⟨g1, 23, none⟩ = some (.int .u8 (rowQ 7 23)) := kg10.u8at (i := 23) (by omega) (by omega)
  have f23 : w10.frozen? ⟨g1, 23, none⟩ = false := kg10.frozen 23
  have ng : g1 ≠ gx := by omega
  have z10 := b10.size
  have kg11 : Blk (w10.setCell ⟨g1, 23, none⟩ (.int .u8 1)) g1 5 (u8s 80 rowQ2) := (kg10.u8set 23 (by omega) 1).u8conv fun j _ _ => rfl
  have kx11 : Blk (w10.setCell ⟨g1, 23, none⟩ (.int .u8 1)) gx 24 #[.int .i64 16, .int .i64 5, .slice (some ⟨g1, 0, none⟩) 80 80] := kx10.far (p := ⟨g1, 23, none⟩) (fun e => ng e.symm) _
  have b11 : Below w.heap.size w (w10.setCell ⟨g1, 23, none⟩ (.int .u8 1)) := b10.setCell hg1 _
  obtain ⟨v1, v2, v3⟩ := kx11.cells3
  clear kg10 kx10
  go_wp2_with fail
  clear y1 y2 y3 c23 f23 b10 v1 v2 v3
  generalize w10.setCell ⟨g1, 23, none⟩ (.int .u8 1) = w11 at *
  refine (trace_ok 16 5 (some ⟨g1, 0, none⟩) 80 80 rowQ2 _ (kg11.arrB kg11.lt) (by decide) rowQ2_B awC2 (by omega) (by omega)).mono ?_
  rintro e w12 ⟨_, rfl, ⟨vo2, rfl, hT2⟩, hb12⟩
  obtain ⟨g13, c13, g14, c14, rfl, hg13, hl13, q13, ha14⟩ := hT2.one M2 (by omega)
  clear hT2
  have b12 := below_call b11 b11.size hb12
  change w12.cell? _ = some (.slice _ 16 _) at q13
  obtain ⟨b', off', e', -, hc7⟩ := ArrI.at_ ha14 (i := 7) (by omega) (by decide)
  cases e'
  rw [show 0 + (7 : Int).toNat = 7 from rfl, show (7 : Int).toNat = 7 from rfl, aw3'] at hc7
  clear b11 kg11 kx11 hb12 ha14
  have F5 : Hid (∀ l w' A d, ArrI w' w'.heap.size A 5 (lit l) → Calls Try.prog 56 #[.int .i64 3, .slice A 5 d] w' (New w' fun v w1 => ∃ vs, Found w'.heap.size w1 3 (fun i _ => lit l i) 5 v vs)) := by
    show ∀ _, _
    exact fun l w' A d hR => flat_any 3 5 d A (lit l) w' hR (by omega) (by omega)
  go_wp2_with fail
  refine (F5.out [4, 10, 16, 22, 28] _ _ _ (Blk.arrI ((Blk.new _ _ _).to awI2) (by simp))).mono ?_
  rintro e w13 ⟨_, rfl, ⟨vs, hF⟩, hb13⟩
  obtain ⟨A5, c5', rfl, hc5, hL⟩ := hF.toLines
  have b13 : Below w.heap.size w w13 := below_call (b12.alloc b12.size (.cells #[.int .i64 4, .int .i64 10, .int .i64 16, .int .i64 22, .int .i64 28] 3)) (by have := b12.size; simp; omega) hb13
  clear hF hb13 b12 q13 hc7
  go_wp2_with fail
  refine (staves5 A5 c5' _ _ _ hL hc5 (fun i _ => by decide) (fun i j hi _ => lit_bd1 i j hi)).mono ?_
  rintro e w14 ⟨_, rfl, ⟨A6, c6', rfl⟩, hb14⟩
  rw [awN1]
  have b14 := below_call b13 b13.size hb14
  clear hL b13 hb14
  go_wp2_with fail
  refine (F5.out [4, 10, 16, 22, 31] _ _ _ (Blk.arrI ((Blk.new _ _ _).to awI3) (by simp))).mono ?_
  rintro e w15 ⟨_, rfl, ⟨vs, hF⟩, hb15⟩
  obtain ⟨A7, c7', rfl, hc7', hL⟩ := hF.toLines
  have b15 : Below w.heap.size w w15 := below_call (b14.alloc b14.size (.cells #[.int .i64 4, .int .i64 10, .int .i64 16, .int .i64 22, .int .i64 31] 3)) (by have := b14.size; simp; omega) hb15
  clear hF hb15 b14
  go_wp2_with fail
  refine (staves5 A7 c7' _ _ _ hL hc7' (fun i _ => by decide) (fun i j hi _ => lit_bd2 i j hi)).mono ?_
  rintro e w16 ⟨_, rfl, ⟨A8, c8', rfl⟩, hb16⟩
  rw [awN2]
  have b16 := below_call b15 b15.size hb16
  clear hL b15 hb16
  go_wp2
  go_ret
  exact ⟨rfl, b16⟩
end Go.Proofs.Ytdimlpcbbkokiaa

/- Walks: a row is among the lines (the closures of StaveFull, slices.ContainsFunc over numbers and over lines). -/
namespace Go.Proofs.Ytdimlpcbbkokiaa
open Go.RowKit Go.Shelf
set_option linter.unusedVariables false

set_option maxHeartbeats 400000 in
/-- the first number of a slice that meets a closure's test -/
theorem idxFuncI (fid : Nat) (cap : Array Value) (f : Int → Bool) (w : World) (hent : ∀ args w, (callFunc fid args).run Try.prog w = .ok (.enter fid args) w) (hf : ∀ v, Calls Try.prog fid (#[.int .i64 v] ++ cap) w fun e W' => e = .returned (.bool (f v)) ∧ w = W')
    (A : Option Addr) (n c : Nat) (p : Int → Int) (hA : ArrI w w.heap.size A n p) (hn : n ≤ maxLen) :
    Calls Try.prog 73 #[.slice A n c, .func (.func fid) #[] cap] w fun e w' => e = .returned (.int .i64 (idxF (fun i => f (p i)) n)) ∧ w = w' := by
  unfold maxLen at hn
  have HF := Lib.hid hf; clear hf
  go_enter Try.func73, Try.ntmps73
  go_wp2
  go_loop [8] (fun i => ∃ k : Int, 0 ≤ k ∧ k ≤ n ∧ i = .int .i64 k ∧ ∀ j : Int, 0 ≤ j → j < k → f (p j) = false) (fun i => n - (intOf i).toNat)
  case atStart => exact ⟨0, by omega, by omega, rfl, fun j a b => by omega⟩
  case round =>
    obtain ⟨k, h0, hk, rfl, hno⟩ := hrel
    have HN := Lib.hid hno; clear hno
    by_cases hlt : k < n
    · obtain ⟨b, off, rfl, hb, hc⟩ := ArrI.at_ hA h0 hlt
      cases hfk : f (p k)
      · have HK := Lib.hid hfk; clear hfk
        go_wp2_with fail
        refine (HF.out _).mono ?_
        rintro e w' ⟨rfl, rfl⟩
        rw [HK.out]
        go_wp2
        go_round
        case rel =>
          refine ⟨k + 1, by omega, by omega, by go_num, fun j a b => ?_⟩
          by_cases e : j = k
          · rw [e]; exact HK.out
          · exact HN.out j a (by omega)
        case measure => simp [intOf]; omega
      · have HK := Lib.hid hfk; clear hfk
        go_wp2_with fail
        refine (HF.out _).mono ?_
        rintro e w' ⟨rfl, rfl⟩
        rw [HK.out]
        go_wp2
        go_ret
        refine ⟨ret_int ?_, rfl⟩
        obtain ⟨k', rfl⟩ := Int.eq_ofNat_of_zero_le h0
        rw [idxF_some HN.out HK.out (by omega)]
    · go_wp2
      go_ret
      refine ⟨ret_int ?_, rfl⟩
      rw [idxF_none (fun j a b => HN.out j a (by omega))]
theorem containsI (fid : Nat) (cap : Array Value) (f : Int → Bool) (w : World) (hent : ∀ args w, (callFunc fid args).run Try.prog w = .ok (.enter fid args) w) (hf : ∀ v, Calls Try.prog fid (#[.int .i64 v] ++ cap) w fun e W' => e = .returned (.bool (f v)) ∧ w = W')
    (A : Option Addr) (n c : Nat) (p : Int → Int) (hA : ArrI w w.heap.size A n p) (hn : n ≤ maxLen) :
    Calls Try.prog 29 #[.slice A n c, .func (.func fid) #[] cap] w fun e w' => e = .returned (.bool (decide (0 ≤ idxF (fun i => f (p i)) n))) ∧ w = w' := by
  have IF := Lib.hid (idxFuncI fid cap f w hent hf A n c p hA hn)
  clear hf hent
  go_enter Try.func29, Try.ntmps29
  go_wp2_with fail
  refine IF.out.mono ?_
  rintro e w' ⟨rfl, rfl⟩
  go_wp2
  go_ret
  exact ⟨rfl, rfl⟩
set_option maxHeartbeats 400000 in
/-- the same over the values of a row -/
theorem idxFuncL (fid : Nat) (cap : Array Value) (f : Int → Bool) (v : Nat → Value) (w : World) (hent : ∀ args w, (callFunc fid args).run Try.prog w = .ok (.enter fid args) w)
    (A : Option Addr) (n c : Nat) (hA : Arr w w.heap.size A n (fun i => v i.toNat)) (hn : n ≤ maxLen) (hone : ∀ t, t < n → ∃ B m d, v t = .slice B m d)
    (hf : ∀ t, t < n → Calls Try.prog fid (#[v t] ++ cap) w fun e W' => e = .returned (.bool (f t)) ∧ w = W') :
    Calls Try.prog 72 #[.slice A n c, .func (.func fid) #[] cap] w fun e w' => e = .returned (.int .i64 (idxF f n)) ∧ w = w' := by
  unfold maxLen at hn
  have HF := Lib.hid hf; clear hf
  have HO := Lib.hid hone; clear hone
  go_enter Try.func72, Try.ntmps72
  go_wp2
  go_loop [8] (fun i => ∃ k : Int, 0 ≤ k ∧ k ≤ n ∧ i = .int .i64 k ∧ ∀ j : Int, 0 ≤ j → j < k → f j = false) (fun i => n - (intOf i).toNat)
  case atStart => exact ⟨0, by omega, by omega, rfl, fun j a b => by omega⟩
  case round =>
    obtain ⟨k, h0, hk, rfl, hno⟩ := hrel
    have HN := Lib.hid hno; clear hno
    by_cases hlt : k < n
    · obtain ⟨b, off, rfl, hb, hc⟩ := Arr.at_ hA h0 hlt
      have hcall := Lib.hid (HF.out k.toNat (by omega))
      rw [Int.toNat_of_nonneg h0] at hcall
      obtain ⟨B, m, d, hv⟩ := HO.out k.toNat (by omega)
      rw [hv] at hcall hc
      clear hv
      cases hfk : f k
      · have HK := Lib.hid hfk; clear hfk
        go_wp2_with fail
        refine (hcall.out).mono ?_
        rintro e w' ⟨rfl, rfl⟩
        rw [HK.out]
        go_wp2
        go_round
        case rel =>
          refine ⟨k + 1, by omega, by omega, by go_num, fun j a b => ?_⟩
          by_cases e : j = k
          · rw [e]; exact HK.out
          · exact HN.out j a (by omega)
        case measure => simp [intOf]; omega
      · have HK := Lib.hid hfk; clear hfk
        go_wp2_with fail
        refine (hcall.out).mono ?_
        rintro e w' ⟨rfl, rfl⟩
        rw [HK.out]
        go_wp2
        go_ret
        refine ⟨ret_int ?_, rfl⟩
        obtain ⟨k', rfl⟩ := Int.eq_ofNat_of_zero_le h0
        rw [idxF_some HN.out HK.out (by omega)]
    · go_wp2
      go_ret
      refine ⟨ret_int ?_, rfl⟩
      rw [idxF_none (fun j a b => HN.out j a (by omega))]
theorem containsL (fid : Nat) (cap : Array Value) (f : Int → Bool) (v : Nat → Value) (w : World) (hent : ∀ args w, (callFunc fid args).run Try.prog w = .ok (.enter fid args) w)
    (A : Option Addr) (n c : Nat) (hA : Arr w w.heap.size A n (fun i => v i.toNat)) (hn : n ≤ maxLen) (hone : ∀ t, t < n → ∃ B m d, v t = .slice B m d)
    (hf : ∀ t, t < n → Calls Try.prog fid (#[v t] ++ cap) w fun e W' => e = .returned (.bool (f t)) ∧ w = W') :
    Calls Try.prog 27 #[.slice A n c, .func (.func fid) #[] cap] w fun e w' => e = .returned (.bool (decide (0 ≤ idxF f n))) ∧ w = w' := by
  have IF := Lib.hid (idxFuncL fid cap f v w hent A n c hA hn hone hf)
  clear hf hent hone
  go_enter Try.func27, Try.ntmps27
  go_wp2_with fail
  refine IF.out.mono ?_
  rintro e w' ⟨rfl, rfl⟩
  go_wp2
  go_ret
  exact ⟨rfl, rfl⟩
theorem notAt_any (v y : Int) (b : Nat) (w : World) (h : w.cell? ⟨b, 0, none⟩ = some (.int .i64 y)) :
    Calls Try.prog 30 #[.int .i64 v, .pointer (some ⟨b, 0, none⟩)] w fun e w' => e = .returned (.bool (v != y)) ∧ w = w' := by
  go_enter Try.func30, Try.ntmps30
  go_wp2
  go_ret
  exact ⟨rfl, rfl⟩
theorem enterNotAt (args : Array Value) (w : World) : (callFunc 30 args).run Try.prog w = .ok (.enter 30 args) w := enters_of Try.func30 (by kernel_rfl) rfl args w
theorem enterAllAt (args : Array Value) (w : World) : (callFunc 28 args).run Try.prog w = .ok (.enter 28 args) w := enters_of Try.func28 (by kernel_rfl) rfl args w
/-- all numbers of a line are y -/
def allAt (y : Int) (n : Nat) (l : Int → Int) : Bool := !decide (0 ≤ idxF (fun i => l i != y) n)
theorem allAt_of {y : Int} {n : Nat} {l : Int → Int} (h : ∀ i : Int, 0 ≤ i → i < n → l i = y) : allAt y n l = true := by
  unfold allAt
  rw [idxF_none (fun i a b => by simp [h i a b])]
  rfl
theorem allAt_any (y : Int) (b : Nat) (A : Option Addr) (n c : Nat) (l : Int → Int) (w : World) (h : w.cell? ⟨b, 0, none⟩ = some (.int .i64 y)) (hA : ArrI w w.heap.size A n l) (hn : n ≤ maxLen) :
    Calls Try.prog 28 #[.slice A n c, .pointer (some ⟨b, 0, none⟩)] w fun e w' => e = .returned (.bool (allAt y n l)) ∧ w = w' := by
  have CI := Lib.hid (containsI 30 #[.pointer (some ⟨b, 0, none⟩)] (fun v => v != y) w enterNotAt (fun v => notAt_any v y b w h) A n c l hA hn)
  obtain ⟨b', hb⟩ : ∃ b', decide (0 ≤ idxF (fun i => l i != y) n) = b' := ⟨_, rfl⟩
  rw [hb] at CI
  have hr : Hid (allAt y n l = !b') := by show _ = _; unfold allAt; rw [hb]
  clear hb
  go_enter Try.func28, Try.ntmps28
  go_wp2_with fail
  refine CI.out.mono ?_
  rintro e w' ⟨rfl, rfl⟩
  cases b'
  · go_wp2
    go_ret
    exact ⟨ret_bool hr.out.symm, rfl⟩
  · go_wp2
    go_ret
    exact ⟨ret_bool hr.out.symm, rfl⟩
end Go.Proofs.Ytdimlpcbbkokiaa

/- Walks: staves compared; the closures of StaveGroups. -/
namespace Go.Proofs.Ytdimlpcbbkokiaa
open Go.RowKit Go.Shelf
set_option linter.unusedVariables false
attribute [local go_sem] Oper.semAt_some

theorem sameL_self (n : Nat) (m : Nat → Nat) (a : Nat → Nat → Int) : sameL n n m m a a = true := sameL_iff.2 ⟨rfl, fun _ _ => ⟨rfl, fun _ _ => rfl⟩⟩
/-- a stave's place in its row -/
theorem StOut.at_ {B : Nat} {w : World} {m : Nat → Nat} {ln : Nat → Nat → Int} {st : List Nat} {vo : Value} {vs : Nat → Value} (h : StOut B w m ln st vo vs) {t : Nat} (ht : t < st.length) :
    ∃ b c A5 c5, vo = .slice (some ⟨b, 0, none⟩) st.length c ∧ B ≤ b ∧ b < w.heap.size ∧ w.cell? ⟨b, t, none⟩ = some (.slice A5 5 c5) ∧ vs t = .slice A5 5 c5 ∧ Lines w w.heap.size A5 5 (fun j => m (st.getD t 0 + j)) (fun j => ln (st.getD t 0 + j)) := by
  obtain ⟨b, c, e⟩ := own_some h.row (by omega)
  obtain ⟨A', c', e', -, ha⟩ := own_arr h.row
  rw [e] at e'
  cases e'
  obtain ⟨v, hv⟩ := h.each t ht
  obtain ⟨A5, c5, e5, -, -, hL⟩ := hv.toLines
  obtain ⟨b', o', e2, hb, hc⟩ := Arr.at_ ha (i := (t : Int)) (by omega) (by omega)
  cases e2
  rw [Int.toNat_natCast, Nat.zero_add, List.getD_eq_getElem?_getD, List.getElem?_map, List.getElem?_range ht] at hc
  have hg := own_ge h.row (k := b) (by rw [e]; rfl)
  refine ⟨b, c, A5, c5, e, hg.1, hg.2, ?_, e5, hL⟩
  rw [hc, ← e5]; rfl

set_option maxRecDepth 100000 in
set_option maxHeartbeats 2000000 in
theorem sameStaves_true (B1 B2 : Nat) (m : Nat → Nat) (ln : Nat → Nat → Int) (st : List Nat) (A1 A2 : Option Addr) (c1 c2 : Nat) (vs1 vs2 : Nat → Value) (w : World) (h1 : StOut B1 w m ln st (.slice A1 st.length c1) vs1) (h2 : StOut B2 w m ln st (.slice A2 st.length c2) vs2) (hst : st.length ≤ 1000) (hm : ∀ t, t ∈ st → ∀ j, j < 5 → m (t + j) ≤ maxLen) :
    Calls Try.prog 35 #[.slice A1 st.length c1, .slice A2 st.length c2] w fun e w' => e = .returned (.bool true) ∧ Below w.heap.size w w' := by
  have SS := Lib.hid fun i (hi : ∀ j, j < 5 → m (i + j) ≤ maxLen) A B c d w' hA hB => sameStave_any A B 5 5 c d (fun j => m (i + j)) (fun j => m (i + j)) (fun j => ln (i + j)) (fun j => ln (i + j)) w' hA hB (by decide) (by decide) hi hi
  have HM : Hid (∀ t, t < st.length → ∀ j, j < 5 → m (st.getD t 0 + j) ≤ maxLen) := by
    show ∀ _, _
    intro t ht
    rw [List.getD_eq_getElem?_getD, List.getElem?_eq_getElem ht]
    exact hm _ (List.getElem_mem ht)
  have S1 := Lib.hid fun t ht => h1.at_ (t := t) ht
  have S2 := Lib.hid fun t ht => h2.at_ (t := t) ht
  clear h1 h2 hm
  generalize hn : st.length = n at *
  clear hn
  go_enter Try.func35, Try.ntmps35
  go_wp2
  go_loopw [5] (fun s wr => ∃ i : Nat, i ≤ n ∧ s = .int .i64 i ∧ Below w.heap.size w wr) (fun s _ => n - (intOf s).toNat)
  case atStart => exact ⟨0, by omega, rfl, Below.refl _ _⟩
  case round =>
    obtain ⟨i, hi, rfl, b1⟩ := hrel
    by_cases hlt : (i : Int) < n
    · obtain ⟨g1, d1, A5, c5, e1, -, hb1, hc1, -, L1⟩ := S1.out i (by omega)
      obtain ⟨g2, d2, A6, c6, e2, -, hb2, hc2, -, L2⟩ := S2.out i (by omega)
      cases e1
      cases e2
      have SSi := Lib.hid fun c d w' hA hB => SS.out (st.getD i 0) (HM.out i (by omega)) A5 A6 c d w' hA hB
      rw [sameL_self] at SSi
      have q1 := (b1.cell (p := ⟨g1, i, none⟩) hb1).trans hc1
      have q2 := (b1.cell (p := ⟨g2, i, none⟩) hb2).trans hc2
      have M1 := Lib.hid (L1.below b1); have M2 := Lib.hid (L2.below b1)
      have B1 := Lib.hid b1
      have z1 := b1.size
      clear L1 L2 hc1 hc2 b1
      go_wp2_with fail
      go_region_held3 (fun w' => w'.cell? ⟨g1, i, none⟩ = some (.slice A5 5 c5) ∧ w'.cell? ⟨g2, i, none⟩ = some (.slice A6 5 c6))
        (simp [go_sem, *])
        ((go_at_call 40
          refine (SSi.out _ _ _ (show Lines wr.drew wr.drew.heap.size _ _ _ _ from M1.out) (show Lines wr.drew wr.drew.heap.size _ _ _ _ from M2.out)).mono ?_
          rintro e w2 ⟨rfl, hb2'⟩
          have b2 := below_call B1.out.drew B1.out.drew.size hb2'
          have x1 : w2.cell? ⟨g1, i, none⟩ = some (.slice A5 5 c5) := (hb2'.cell (p := ⟨g1, i, none⟩) (by show g1 < _; have := B1.out.drew.size; omega)).trans q1
          have x2 : w2.cell? ⟨g2, i, none⟩ = some (.slice A6 5 c6) := (hb2'.cell (p := ⟨g2, i, none⟩) (by show g2 < _; have := B1.out.drew.size; omega)).trans q2))
      go_wp2_with fail
      go_roundw
      case rel => exact ⟨i + 1, by omega, by go_num, b2⟩
      case measure => simp [intOf]; omega
    · obtain rfl : n = i := by omega
      go_wp2
      go_ret
      exact ⟨rfl, b1⟩

/-! ### the closures of the law -/
theorem enterLong (args : Array Value) (w : World) : (callFunc 31 args).run Try.prog w = .ok (.enter 31 args) w := enters_of Try.func31 (by kernel_rfl) rfl args w
theorem enterHuge (args : Array Value) (w : World) : (callFunc 32 args).run Try.prog w = .ok (.enter 32 args) w := enters_of Try.func32 (by kernel_rfl) rfl args w
theorem enterHuge1 (args : Array Value) (w : World) : (callFunc 74 args).run Try.prog w = .ok (.enter 74 args) w := enters_of Try.func74 (by kernel_rfl) rfl args w
theorem long_any (A : Option Addr) (n c : Nat) (w : World) (hn : n ≤ maxLen) : Calls Try.prog 31 #[.slice A n c] w fun e w' => e = .returned (.bool (decide ((60 : Int) < n))) ∧ w = w' := by
  unfold maxLen at hn
  go_enter Try.func31, Try.ntmps31
  go_wp2
  go_ret
  exact ⟨rfl, rfl⟩
def far40 (v : Int) : Bool := decide (v < -1099511627776) || decide (1099511627776 < v)
theorem huge1_any (v : Int) (w : World) : Calls Try.prog 74 #[.int .i64 v] w fun e w' => e = .returned (.bool (far40 v)) ∧ w = w' := by
  unfold far40
  by_cases h : v < -1099511627776
  · have d1 : decide (v < -1099511627776) = true := decide_eq_true h
    go_enter Try.func74, Try.ntmps74
    go_wp2
    go_ret
    exact ⟨ret_bool (by simp [h]), rfl⟩
  · have d1 : decide (v < -1099511627776) = false := decide_eq_false h
    go_enter Try.func74, Try.ntmps74
    go_wp2
    go_ret
    exact ⟨ret_bool (by simp), rfl⟩
theorem huge_any (A : Option Addr) (n c : Nat) (q : Int → Int) (w : World) (hA : ArrI w w.heap.size A n q) (hn : n ≤ maxLen) : Calls Try.prog 32 #[.slice A n c] w fun e w' => e = .returned (.bool (decide (0 ≤ idxF (fun i => far40 (q i)) n))) ∧ w = w' := by
  have CI := Lib.hid (containsI 74 #[] far40 w enterHuge1 (fun v => huge1_any v w) A n c q hA hn)
  go_enter Try.func32, Try.ntmps32
  go_wp2_with fail
  refine CI.out.mono ?_
  rintro e w' ⟨rfl, rfl⟩
  go_wp2
  go_ret
  exact ⟨rfl, rfl⟩
end Go.Proofs.Ytdimlpcbbkokiaa

/- How an argument of a statement is opened: slices of integers and images, as functions of the index. -/
namespace Go.Proofs.Ytdimlpcbbkokiaa
open Go.ChangeShapes Go.WideShapes Go.ChangeAt Go.RowKit Go.Deep
set_option linter.unusedVariables false

theorem Try.own : ownKnob Try.prog.godebug = none := by kernel_rfl
theorem Try.laidOut : laidOutB Try.prog = true := by kernel_rfl

theorem addr_plain {w : World} {a : Addr} {v : Value} (h : w.cell? a = some v) : ∃ b off, a = ⟨b, off, none⟩ := by
  obtain ⟨b, off, spot⟩ := a
  have hs : spot = none := by simpa using World.cell?_spot h
  subst hs
  exact ⟨b, off, rfl⟩

section
variable {H : Type} {enc : TypeId × Value → H} {P : Program} {w : World}
theorem ints_of {t e : TypeId} {k : IntKind} {fuel : Nat} {v : Value} {x : DataW H × List MemPlace} (ht : P.underlying t = some (.slice e)) (he : P.underlying e = some (.int k)) (hc : P.cellsOf e = 1) (h0 : (Lit.int k 0).wf = true)
    (h : DataW.trod enc P w 0 (fun _ => true) true fuel t [v] = some x) :
    ∃ A n c zs, v = .slice A n c ∧ (A = none → c = 0) ∧ n ≤ c ∧ c ≤ maxLen ∧ Arr w w.heap.size A n (fun i => .int k (lit zs i)) ∧ ∀ i, (Lit.int k (lit zs i)).wf = true := by
  rcases open_ints ht he hc h with ⟨hcs, _⟩ | ⟨a, l, c, zs, hcs, _, hl, hm, hz, _, hcell, hwz⟩
  · simp at hcs
    exact ⟨none, 0, 0, [], hcs, fun _ => rfl, Nat.le_refl _, Nat.zero_le _, Arr.nil, fun i => by simpa [lit] using h0⟩
  · simp at hcs
    refine ⟨some a, l, c, zs, hcs, (fun e => by cases e), hl, hm, fun hn => ?_, fun i => ?_⟩
    · have hz' : zs.length = c := by simpa using hz
      have c0 := hcell 0 (by omega)
      obtain ⟨b, off, e⟩ := addr_plain c0
      have ha : a = ⟨b, off, none⟩ := by simpa [Addr.add] using e
      subst ha
      refine ⟨b, off, rfl, block_lt_of_cell c0, fun i h0 hi => ?_⟩
      have := hcell i.toNat (by omega)
      have hadd : (⟨b, off, none⟩ : Addr).add i.toNat = ⟨b, off + i.toNat, none⟩ := by
        unfold Addr.add; split
        · rename_i e; rw [e]; rfl
        · rfl
      rw [hadd] at this
      exact this
    · unfold lit
      rw [List.getD_eq_getElem?_getD]
      by_cases hi : i.toNat < zs.length
      · rw [List.getElem?_eq_getElem hi]; exact hwz _ (List.getElem_mem hi)
      · rw [List.getElem?_eq_none (by omega)]; exact h0
theorem open_sl {t e : TypeId} {k : IntKind} {v : Value} {d : DataW H} {p : List MemPlace} {base : Nat} (ht : P.underlying t = some (.slice e)) (he : P.underlying e = some (.int k)) (hc : P.cellsOf e = 1) (h0 : (Lit.int k 0).wf = true)
    (hv : Value.okWide P w .any base t v) (h : DataW.Trod enc P w 0 (fun _ => true) true t v d p) :
    ∃ A n c zs, v = .slice A n c ∧ (A = none → c = 0) ∧ n ≤ c ∧ c ≤ maxLen ∧ Arr w w.heap.size A n (fun i => .int k (lit zs i)) ∧ ∀ i, (Lit.int k (lit zs i)).wf = true := by
  obtain ⟨a0, l0, c0, rfl⟩ := okWide_slice ht hv
  obtain ⟨fuel, hf⟩ := h
  exact ints_of ht he hc h0 (by simpa [Value.cells] using hf)
/-- a struct of two ints and a slice of bytes: Ink, Grey -/
theorem open_img {t tI tB eB : TypeId} {f0 f1 f2 : Field} {v : Value} {d : DataW H} {p : List MemPlace} {base : Nat} (hs : P.underlying t = some (.struct #[f0, f1, f2])) (e0 : f0.type = tI) (e1 : f1.type = tI) (e2 : f2.type = tB)
    (hone : oneCellFields P #[f0, f1, f2] = true) (hC : P.cellsOf t = 3) (hI : P.underlying tI = some (.int .i64)) (hB : P.underlying tB = some (.slice eB)) (hE : P.underlying eB = some (.int .u8)) (hcE : P.cellsOf eB = 1)
    (hv : Value.okWide P w .any base t v) (h : DataW.Trod enc P w 0 (fun _ => true) true t v d p) :
    ∃ W Hh A n c zs, v = .agg #[.int .i64 W, .int .i64 Hh, .slice A n c] ∧ (Lit.int .i64 W).wf = true ∧ (Lit.int .i64 Hh).wf = true ∧ (A = none → c = 0) ∧ n ≤ c ∧ c ≤ maxLen ∧ ArrB w w.heap.size A n (lit zs) ∧ IsB (lit zs) := by
  obtain ⟨v0, v1, v2, y0, y1, y2, n, rfl, -, -, h0, h1, h2⟩ := Go.Joins.open_agg3 hs hone hC hv h
  rw [e0] at h0; rw [e1] at h1; rw [e2] at h2
  obtain ⟨W, hw, -, wW⟩ := DataW.trod_int hI h0
  obtain ⟨Hh, hh, -, wH⟩ := DataW.trod_int hI h1
  simp at hw hh
  subst hw; subst hh
  obtain ⟨A, m, c, zs, rfl, z, a, b, d, e⟩ := ints_of hB hE hcE (by decide) h2
  exact ⟨W, Hh, A, m, c, zs, rfl, wW, wH, z, a, b, d, fun i => bounds_u8 (e i)⟩
end
end Go.Proofs.Ytdimlpcbbkokiaa

/- How an argument that is a list of lists of numbers, or a struct of one, is opened. -/
namespace Go.Proofs.Ytdimlpcbbkokiaa
open Go.ChangeShapes Go.WideShapes Go.ChangeAt Go.RowKit Go.Deep
set_option linter.unusedVariables false

theorem weightsAll_mem {H : Type} {P : Program} {e : TypeId} : ∀ {l : List (DataW H)} {d : DataW H}, d ∈ l → ∀ n ∈ d.weights P e, n ∈ DataW.weightsAll P e l
  | d' :: r, d, hd, n, hn => by
    simp only [DataW.weightsAll, List.mem_append]
    rcases List.mem_cons.1 hd with rfl | h
    · exact Or.inl hn
    · exact Or.inr (weightsAll_mem h n hn)
theorem add_plain (b off i : Nat) : (⟨b, off, none⟩ : Addr).add i = ⟨b, off + i, none⟩ := by
  unfold Addr.add; split
  · rename_i e; rw [e]; rfl
  · rfl
section
variable {H : Type} {enc : TypeId × Value → H} {P : Program} {w : World}
/-- what is known of lines that came in -/
structure LinesIn (w : World) (A : Option Addr) (K c : Nat) (m : Nat → Nat) (ln : Nat → Nat → Int) : Prop where
  nil : A = none → c = 0
  le : K ≤ c
  lines : LinesZ w w.heap.size A K m ln
  lens : ∀ i, i < K → m i ≤ 17592186044416
  outer : c ≤ 5864062014634
  wf : ∀ i j, i < K → (Lit.int .i64 (ln i j)).wf = true
theorem lines_of {t e q : TypeId} {fuel : Nat} {v : Value} {x : DataW H × List MemPlace} (ht : P.underlying t = some (.slice e)) (he : P.underlying e = some (.slice q)) (hq : P.underlying q = some (.int .i64)) (ce : P.cellsOf e = 1) (cq : P.cellsOf q = 1) (be : 24 ≤ P.bytesOf e) (bq : P.bytesOf q = 8)
    (h : DataW.trod enc P w 0 (fun _ => true) true fuel t [v] = some x) (hw : ∀ n ∈ x.1.weights P t, n ≤ reachBytes) :
    ∃ A K c m ln, v = .slice A K c ∧ LinesIn w A K c m ln := by
  have hr : reachBytes = 140737488351232 := rfl
  rcases open_int_rows ht he hq ce cq h with ⟨hcs, _⟩ | ⟨a, len, cap, A, L, C, Z, hcs, _, hl, hm, rfl, hrow⟩
  · simp at hcs
    exact ⟨none, 0, 0, fun _ => 0, fun _ _ => 0, hcs, fun _ => rfl, Nat.le_refl _, ⟨fun _ => default, Arr.nil, fun i hi => by omega⟩, fun i hi => by omega, by omega, fun i j hi => by omega⟩
  · simp at hcs
    have w0 : cap * P.bytesOf e ≤ reachBytes := hw _ (by
      simp only [DataW.weights, ht, List.mem_cons]
      left
      rw [List.length_map, List.length_map, List.length_range, List.length_range, show len + (cap - len) = cap by omega])
    have w1 : ∀ r, r < len → L r ≤ C r → (Z r).length = C r → (A r = none → C r = 0) → C r * 8 ≤ reachBytes := fun r hr' h1 h2 h3 => by
      cases hA : A r with
      | none => rw [h3 hA]; omega
      | some a' =>
        refine hw _ ?_
        simp only [DataW.weights, ht, List.mem_cons, List.mem_append]
        right; left
        refine weightsAll_mem (d := intRow .i64 (A r) (L r) (Z r)) (List.mem_map.2 ⟨r, List.mem_range.2 hr', rfl⟩) _ ?_
        unfold intRow
        rw [hA]
        simp only [DataW.weights, he, List.mem_cons]
        left
        rw [bq]
        simp only [lits, List.length_map, List.length_take, List.length_drop]
        rw [h2, show min (L r) (C r) + (C r - L r) = C r by omega]
    refine ⟨some a, len, cap, L, fun i j => (Z i).getD j 0, hcs, (fun e => by cases e), hl, ⟨fun r => .slice (A r) (L r) (C r), fun hn => ?_, fun r hr' => ?_⟩, fun r hr' => ?_, ?_, fun r j hr' => ?_⟩
    · obtain ⟨c0, -⟩ := hrow 0 (by omega)
      obtain ⟨b, off, e0⟩ := addr_plain c0
      have ha : a = ⟨b, off, none⟩ := by simpa [Addr.add] using e0
      subst ha
      refine ⟨b, off, rfl, block_lt_of_cell c0, fun i i0 i1 => ?_⟩
      obtain ⟨ci, -⟩ := hrow i.toNat (by omega)
      rw [add_plain] at ci
      exact ci
    · obtain ⟨_, h1, h2, h3, h4, h5, h6⟩ := hrow r (by omega)
      refine ⟨A r, C r, rfl, h5, fun hn => ?_⟩
      cases hA : A r with
      | none => have := h5 hA; omega
      | some a' =>
        obtain ⟨-, hcell⟩ := h6 a' hA
        have c0 := hcell 0 (by omega)
        obtain ⟨b, off, e0⟩ := addr_plain c0
        have ha : a' = ⟨b, off, none⟩ := by simpa [Addr.add] using e0
        subst ha
        refine ⟨b, off, rfl, block_lt_of_cell c0, fun i i0 i1 => ?_⟩
        have := hcell i.toNat (by omega)
        rw [add_plain] at this
        exact this
    · obtain ⟨_, h1, h2, h3, h4, h5, h6⟩ := hrow r (by omega)
      have := w1 r hr' h1 h3 h5
      omega
    · have : cap * 24 ≤ cap * P.bytesOf e := Nat.mul_le_mul_left _ be
      omega
    · obtain ⟨_, h1, h2, h3, h4, h5, h6⟩ := hrow r (by omega)
      rw [List.getD_eq_getElem?_getD]
      by_cases hj : j < (Z r).length
      · rw [List.getElem?_eq_getElem hj]; exact h4 _ (List.getElem_mem hj)
      · rw [List.getElem?_eq_none (by omega)]; decide
theorem open_lines {t e q : TypeId} {v : Value} {d : DataW H} {p : List MemPlace} {base : Nat} (ht : P.underlying t = some (.slice e)) (he : P.underlying e = some (.slice q)) (hq : P.underlying q = some (.int .i64)) (ce : P.cellsOf e = 1) (cq : P.cellsOf q = 1) (be : 24 ≤ P.bytesOf e) (bq : P.bytesOf q = 8)
    (hv : Value.okWide P w .any base t v) (h : DataW.Trod enc P w 0 (fun _ => true) true t v d p) (hw : ∀ n ∈ d.weights P t, n ≤ reachBytes) :
    ∃ A K c m ln, v = .slice A K c ∧ LinesIn w A K c m ln := by
  obtain ⟨a0, l0, c0, rfl⟩ := okWide_slice ht hv
  obtain ⟨fuel, hf⟩ := h
  exact lines_of ht he hq ce cq be bq (by simpa [Value.cells] using hf) hw
/-- a struct of one list of lines: Stave -/
theorem open_stave {t tL e q : TypeId} {f0 : Field} {v : Value} {d : DataW H} {p : List MemPlace} {base : Nat} (hs : P.underlying t = some (.struct #[f0])) (e0 : f0.type = tL) (o0 : f0.offset = 0) (hC : P.cellsOf t = 1) (hCL : P.cellsOf tL = 1)
    (ht : P.underlying tL = some (.slice e)) (he : P.underlying e = some (.slice q)) (hq : P.underlying q = some (.int .i64)) (ce : P.cellsOf e = 1) (cq : P.cellsOf q = 1) (be : 24 ≤ P.bytesOf e) (bq : P.bytesOf q = 8)
    (hv : Value.okWide P w .any base t v) (h : DataW.Trod enc P w 0 (fun _ => true) true t v d p) (hw : ∀ n ∈ d.weights P t, n ≤ reachBytes) :
    ∃ A K c m ln, v = .agg #[.slice A K c] ∧ LinesIn w A K c m ln := by
  obtain ⟨cs, rfl, hsz⟩ := okWide_struct hs hv
  obtain ⟨c0, rfl⟩ : ∃ c0, cs = #[c0] := Array.size_eq_one_iff.1 (hsz.trans hC)
  obtain ⟨fuel, hf⟩ := h
  obtain ⟨y0, n, hx, _, h0⟩ := trod_struct1 hs hf
  simp only [Prod.mk.injEq] at hx
  obtain ⟨A, K, c, m, ln, rfl, hl⟩ := lines_of (v := c0) (x := y0) ht he hq ce cq be bq (by rw [← e0]; simpa [Value.cells, o0, e0, hCL] using h0) (fun k hk => hw k (by
    rw [hx.1]
    simp only [DataW.weights, hs, DataW.weightsEach, List.map_cons, List.map_nil, List.mem_append]
    left
    rw [e0]; exact hk))
  exact ⟨A, K, c, m, ln, rfl, hl⟩
end
end Go.Proofs.Ytdimlpcbbkokiaa

/- Walk: groups of lines (StaveGroups). -/
namespace Go.Proofs.Ytdimlpcbbkokiaa
open Go.RowKit Go.Shelf
set_option linter.unusedVariables false
attribute [local go_sem] Oper.semAt_some

/-- the blocks from B up to E are as they were -/
def KeepIn (B E : Nat) (w w' : World) : Prop := ∀ k, B ≤ k → k < E → w'.heap[k]? = w.heap[k]?
section
variable {B E : Nat} {w w' w'' : World}
theorem KeepIn.refl (B E : Nat) (w : World) : KeepIn B E w w := fun _ _ _ => rfl
theorem KeepIn.drew (h : KeepIn B E w w') : KeepIn B E w w'.drew := h
theorem KeepIn.set {p : Addr} {u : Value} (hg : p.block < B ∨ E ≤ p.block) (h : KeepIn B E w w') : KeepIn B E w (w'.setCell p u) := fun k h1 h2 => (heap_setCell_other w' p k u (by omega)).trans (h k h1 h2)
theorem KeepIn.alloc {o : Obj} (hE : E ≤ w'.heap.size) (h : KeepIn B E w w') : KeepIn B E w (w'.alloc o) := fun k h1 h2 => (Below.heap_alloc w' o k (by omega)).trans (h k h1 h2)
theorem KeepIn.call (hb : Below w'.heap.size w' w'') (hE : E ≤ w'.heap.size) (h : KeepIn B E w w') : KeepIn B E w w'' := fun k h1 h2 => (hb.block k (by omega)).trans (h k h1 h2)
theorem KeepIn.found {m : Nat → Nat} {ln : Nat → Nat → Int} {k : Nat} {vo : Value} {v : Nat → Value} (h : FoundM B w m ln k vo v) (hk : KeepIn B w.heap.size w w') : FoundM B w' m ln k vo v :=
  ⟨own_move h.row fun j hj => hk j (own_ge h.row hj).1 (own_ge h.row hj).2, fun i hi => own_move (h.lines i hi) fun j hj => hk j (own_ge (h.lines i hi) hj).1 (own_ge (h.lines i hi) hj).2⟩
theorem KeepIn.arr {A : Option Addr} {n : Nat} {q : Int → Int} (h : ArrB w w.heap.size A n q) (hA : ∀ a, A = some a → B ≤ a.block) (hk : KeepIn B w.heap.size w w') (hs : w.heap.size ≤ w'.heap.size) : ArrB w' w'.heap.size A n q := fun hn => by
  obtain ⟨b, off, rfl, hb, hc⟩ := h hn
  refine ⟨b, off, rfl, Nat.lt_of_lt_of_le hb hs, fun i i0 i1 => (World.cell?_of_block (hk b (hA _ rfl) hb)).trans (hc i i0 i1)⟩
end
theorem Blk.fill1 {w : World} {g t : Nat} {x a : Value} (h : Blk w g t #[x]) : Blk (w.setCell ⟨g, 0, none⟩ a) g t #[a] := h.set_ 0 a
theorem LinesOf {B : Nat} {w : World} {m : Nat → Nat} {ln : Nat → Nat → Int} {k c : Nat} {A : Option Addr} {v : Nat → Value} (h : FoundM B w m ln k (.slice A k c) v) : Lines w w.heap.size A k m ln := by
  obtain ⟨A', c', e, -, -, hL⟩ := h.toLines
  cases e
  exact hL
theorem Blk.far1' {w : World} {g t k o : Nat} {a : Value} {cs : Array Value} (hk : k ≠ g) (h : Blk w k t cs) : Blk (w.setCell ⟨g, o, none⟩ a) k t cs := h.far (p := ⟨g, o, none⟩) hk a
/-- only blocks of numbers may have changed -/
def IntOnly (w5 wr : World) : Prop := w5.heap.size ≤ wr.heap.size ∧ ∀ k, k < w5.heap.size → (∃ cs cs', Blk w5 k 3 cs ∧ Blk wr k 3 cs' ∧ cs'.size = cs.size) ∨ wr.heap[k]? = w5.heap[k]?
section
variable {w5 wr : World}
theorem IntOnly.refl (w : World) : IntOnly w w := ⟨Nat.le_refl _, fun _ _ => .inr rfl⟩
theorem IntOnly.alloc (h : IntOnly w5 wr) (o : Obj) : IntOnly w5 (wr.alloc o) := by
  refine ⟨by have := h.1; simp; omega, fun k hk => ?_⟩
  have hk2 : k < wr.heap.size := Nat.lt_of_lt_of_le hk h.1
  rw [Below.heap_alloc wr o k hk2]
  rcases h.2 k hk with ⟨cs, cs', h1, h2, h3⟩ | h1
  · exact .inl ⟨cs, cs', h1, h2.alloc _, h3⟩
  · exact .inr h1
theorem IntOnly.set (h : IntOnly w5 wr) {g : Nat} {cs : Array Value} (hb : Blk wr g 3 cs) (o : Nat) (u : Value) : IntOnly w5 (wr.setCell ⟨g, o, none⟩ u) := by
  refine ⟨by have := h.1; simpa using this, fun k hk => ?_⟩
  by_cases e : k = g
  · subst e
    rcases h.2 k hk with ⟨c1, c2, h1, h2, h3⟩ | h1
    · exact .inl ⟨c1, c2.setIfInBounds o u, h1, h2.set_ o u, by simp [h3]⟩
    · exact .inl ⟨cs, cs.setIfInBounds o u, hb.move h1.symm, hb.set_ o u, by simp⟩
  · rcases h.2 k hk with ⟨c1, c2, h1, h2, h3⟩ | h1
    · exact .inl ⟨c1, c2, h1, h2.far (p := ⟨g, o, none⟩) e u, h3⟩
    · exact .inr ((heap_setCell_other wr ⟨g, o, none⟩ k u e).trans h1)
theorem IntOnly.cell (h : IntOnly w5 wr) {b t : Nat} {cs : Array Value} (hb : Blk w5 b t cs) (ht : t ≠ 3) : Blk wr b t cs := by
  rcases h.2 b hb.lt with ⟨c1, c2, h1, -, -⟩ | h1
  · have h2 : w5.heap[b]? = _ := hb
    have h3 : w5.heap[b]? = _ := h1
    rw [h2] at h3
    exact absurd (congrArg (fun o : Option Obj => match o with | some (.cells _ t _) => t | _ => 0) h3) ht
  · exact hb.move h1
theorem IntOnly.int (h : IntOnly w5 wr) {b : Nat} {cs : Array Value} (hb : Blk w5 b 3 cs) : ∃ cs', Blk wr b 3 cs' ∧ cs'.size = cs.size := by
  rcases h.2 b hb.lt with ⟨c1, c2, h1, h2, h3⟩ | h1
  · have e : w5.heap[b]? = _ := hb
    have e2 : w5.heap[b]? = _ := h1
    rw [e] at e2
    have : cs = c1 := by cases e2; rfl
    subst this
    exact ⟨c2, h2, h3⟩
  · exact ⟨cs, hb.move h1, rfl⟩
end
/-- an owned row, as a block -/
theorem own_blk {w : World} {B n : Nat} {e : TypeId} {v : Value} {xs : List Value} (h : w.ownsRow B e 1 v n xs) (hn : 0 < n) : ∃ g c cs, v = .slice (some ⟨g, 0, none⟩) n c ∧ B ≤ g ∧ Blk w g e cs ∧ ∀ t, t < n → cs[t]? = xs[t]? := by
  rcases h.2 with ⟨-, h2⟩ | ⟨g, cap, cur, hv, hb, hh, hc, _, hs, ht⟩
  · omega
  · refine ⟨g, cap, cur, hv, hb, hh, fun t ht2 => ?_⟩
    rw [← ht, List.getElem?_take, if_pos (by omega)]
    simp
/-- what is written to in a row of staves -/
theorem StOut.places {B : Nat} {w : World} {m : Nat → Nat} {ln : Nat → Nat → Int} {st : List Nat} {vo : Value} {vs : Nat → Value} (h : StOut B w m ln st vo vs) (hp : ∀ t, t ∈ st → ∀ j, j < 5 → 0 < m (t + j)) {t : Nat} (ht : t < st.length) :
    ∃ b c cs b5 c5 cs5, vo = .slice (some ⟨b, 0, none⟩) st.length c ∧ Blk w b 54 cs ∧ cs[t]? = some (.slice (some ⟨b5, 0, none⟩) 5 c5) ∧ Blk w b5 25 cs5 ∧
      ∀ j, j < 5 → ∃ g n cg cj, cs5[j]? = some (.slice (some ⟨g, 0, none⟩) n cg) ∧ 0 < n ∧ B ≤ g ∧ Blk w g 3 cj ∧ 0 < cj.size := by
  obtain ⟨b, c, cs, rfl, -, hb, hcs⟩ := own_blk h.row (by omega)
  obtain ⟨v, hv⟩ := h.each t ht
  obtain ⟨b5, c5, cs5, e5, -, hb5, hcs5⟩ := own_blk hv.row (by omega)
  refine ⟨b, c, cs, b5, c5, cs5, rfl, hb, ?_, hb5, fun j hj => ?_⟩
  · rw [hcs t ht, List.getElem?_map, List.getElem?_range ht, ← e5]; rfl
  · have hm : 0 < m (st.getD t 0 + j) := by
      rw [List.getD_eq_getElem?_getD, List.getElem?_eq_getElem ht]
      exact hp _ (List.getElem_mem ht) j hj
    obtain ⟨g, cg, cj, eg, hg, hbg, hcj⟩ := own_blk (hv.lines j hj) hm
    refine ⟨g, _, cg, cj, ?_, hm, hg, hbg, ?_⟩
    · rw [hcs5 j hj, List.getElem?_map, List.getElem?_range hj, ← eg]; rfl
    · have := hcj 0 hm
      rw [List.getElem?_map, List.getElem?_range hm] at this
      exact (Array.getElem?_eq_some_iff.1 this).1
theorem eB_pos {m : Nat → Nat} {ln : Nat → Nat → Int} {i : Nat} (h : eB m ln i = true) (j : Nat) (hj : j < 5) : 0 < m (i + j) := by
  unfold eB evenB at h
  rw [Bool.and_eq_true] at h
  have := of_decide_eq_true (List.all_eq_true.1 h.1 j (List.mem_range.2 hj))
  exact this.1

set_option maxRecDepth 100000 in
set_option maxHeartbeats 4000000 in
theorem staveGroups_any (A AI AS : Option Addr) (K c N cI KS cS : Nat) (W H : Int) (m mS : Nat → Nat) (ln lnS : Nat → Nat → Int) (p : Int → Int) (w : World) (hL : LinesIn w A K c m ln) (hA : ArrB w w.heap.size AI N p) (hN : N ≤ maxLen) (hc : AI = none → cI = 0) (hB : IsB p) (hS : LinesIn w AS KS cS mS lnS) :
    Calls Try.prog 6 #[.slice A K c, .agg #[.int .i64 W, .int .i64 H, .slice AI N cI], .agg #[.slice AS KS cS]] w fun e w' => e = .returned (.bool true) ∧ Below w.heap.size w w' := by
  have AW := Lib.hid fun w' => awake3_any w'
  have FW := Lib.hid fun w' => few_any W H AI N cI w'
  obtain ⟨vs, h1, h2⟩ := hL.lines
  have kc := hL.le
  have k44 : c ≤ 17592186044416 := by have := hL.outer; omega
  have ks44 : cS ≤ 17592186044416 := by have := hS.outer; omega
  have ksc := hS.le
  have one : ∀ t, t < K → ∃ B m' d, vs t = .slice B m' d := fun t ht => by obtain ⟨A', c', e, -, -⟩ := h2 t ht; exact ⟨_, _, _, e⟩
  obtain ⟨e1, he1⟩ : ∃ e1, decide (0 ≤ idxF (fun t => decide ((60 : Int) < m t.toNat)) K) = e1 := ⟨_, rfl⟩
  obtain ⟨e2, he2⟩ : ∃ e2, decide (0 ≤ idxF (fun t => decide (0 ≤ idxF (fun j => far40 (ln t.toNat j.toNat)) (m t.toNat))) K) = e2 := ⟨_, rfl⟩
  have C1 := Lib.hid fun w' (hb : Below w.heap.size w w') => containsL 31 #[] (fun t => decide ((60 : Int) < m t.toNat)) vs w' enterLong A K c ((Arr.below h1 hb).more hb.size) (by unfold maxLen; omega) one
    (fun t ht => by
      obtain ⟨A', c', e, -, -⟩ := h2 t ht
      show Calls _ _ #[_] _ _
      rw [e]
      exact long_any A' (m t) c' w' (by have := hL.lens t ht; unfold maxLen; omega))
  have C2 := Lib.hid fun w' (hb : Below w.heap.size w w') => containsL 32 #[] (fun t => decide (0 ≤ idxF (fun j => far40 (ln t.toNat j.toNat)) (m t.toNat))) vs w' enterHuge A K c ((Arr.below h1 hb).more hb.size) (by unfold maxLen; omega) one
    (fun t ht => by
      obtain ⟨A', c', e, -, ha⟩ := h2 t ht
      show Calls _ _ #[_] _ _
      rw [e]
      exact huge_any A' (m t) c' (fun j => ln t j.toNat) w' (ha.to hb) (by have := hL.lens t ht; unfold maxLen; omega))
  rw [he1] at C1
  rw [he2] at C2
  have HE1 := Lib.hid he1; have HE2 := Lib.hid he2
  clear he1 he2 one h1 h2
  have b1 : Below w.heap.size w ((w.alloc (.cells #[.int .i64 W, .int .i64 H, .slice AI N cI] 24)).alloc (.cells #[.slice AS KS cS] 54)) := by (repeat (first | exact Below.refl _ _ | assumption | refine Below.drew ?_ | refine below_drewN ?_ _ | refine Below.alloc ?_ (by first | omega | (simp; done) | (simp; omega)) _ | refine Below.setCell ?_ (by first | omega | (simp; done) | (simp; omega)) _ | refine below_setRow ?_ (by first | omega | (simp; done) | (simp; omega)) _ ))
  have k1 : Blk ((w.alloc (.cells #[.int .i64 W, .int .i64 H, .slice AI N cI] 24)).alloc (.cells #[.slice AS KS cS] 54)) w.heap.size 24 #[.int .i64 W, .int .i64 H, .slice AI N cI] := (Blk.new _ _ _).alloc _
  have k2 : Blk ((w.alloc (.cells #[.int .i64 W, .int .i64 H, .slice AI N cI] 24)).alloc (.cells #[.slice AS KS cS] 54)) (w.heap.size + 1) 54 #[.slice AS KS cS] := Blk.new' (by simp) _ _
  have p4 := k2.cells0
  obtain ⟨p1, p2, p3⟩ := k1.cells3
  by_cases hK : (40 : Int) < K
  · clear C1 C2 FW
    go_enter Try.func6, Try.ntmps6
    go_wp2_with fail
    generalize (w.alloc (.cells #[.int .i64 W, .int .i64 H, .slice AI N cI] 24)).alloc (.cells #[.slice AS KS cS] 54) = w1 at *
    refine (AW.out _).mono ?_
    rintro e w9 ⟨rfl, hb9⟩
    have b9 := below_call b1 b1.size hb9
    go_wp2
    go_ret
    exact ⟨rfl, b9⟩
  · cases e1 with
    | true =>
      clear C2 FW
      go_enter Try.func6, Try.ntmps6
      go_wp2_with fail
      generalize (w.alloc (.cells #[.int .i64 W, .int .i64 H, .slice AI N cI] 24)).alloc (.cells #[.slice AS KS cS] 54) = w1 at *
      refine (C1.out _ b1).mono ?_
      rintro e w2 ⟨rfl, rfl⟩
      go_wp2_with fail
      refine (AW.out _).mono ?_
      rintro e w9 ⟨rfl, hb9⟩
      have b9 := below_call b1 b1.size hb9
      go_wp2
      go_ret
      exact ⟨rfl, b9⟩
    | false =>
      by_cases hf : (N : Int) ≤ 6000
      · rw [decide_eq_true hf] at FW
        by_cases h9 : (9 : Int) < KS
        · clear C2
          go_enter Try.func6, Try.ntmps6
          go_wp2_with fail
          generalize (w.alloc (.cells #[.int .i64 W, .int .i64 H, .slice AI N cI] 24)).alloc (.cells #[.slice AS KS cS] 54) = w1 at *
          refine (C1.out _ b1).mono ?_
          rintro e w2 ⟨rfl, rfl⟩
          go_wp2_with fail
          refine (FW.out _).mono ?_
          rintro e w3 ⟨rfl, hb3⟩
          have b3 := below_call b1 b1.size hb3
          have k3 := k1.below' hb3
          have k4 := k2.below' hb3
          clear p1 p2 p3 p4
          obtain ⟨p1, p2, p3⟩ := k3.cells3
          have p4 := k4.cells0
          go_wp2_with fail
          refine (AW.out _).mono ?_
          rintro e w9 ⟨rfl, hb9⟩
          have b9 := below_call b3 b3.size hb9
          go_wp2
          go_ret
          exact ⟨rfl, b9⟩
        · cases e2 with
          | true =>
            go_enter Try.func6, Try.ntmps6
            go_wp2_with fail
            generalize (w.alloc (.cells #[.int .i64 W, .int .i64 H, .slice AI N cI] 24)).alloc (.cells #[.slice AS KS cS] 54) = w1 at *
            refine (C1.out _ b1).mono ?_
            rintro e w2 ⟨rfl, rfl⟩
            go_wp2_with fail
            refine (FW.out _).mono ?_
            rintro e w3 ⟨rfl, hb3⟩
            have b3 := below_call b1 b1.size hb3
            have k3 := k1.below' hb3
            have k4 := k2.below' hb3
            clear p1 p2 p3 p4
            obtain ⟨p1, p2, p3⟩ := k3.cells3
            have p4 := k4.cells0
            go_wp2_with fail
            refine (C2.out _ b3).mono ?_
            rintro e w4 ⟨rfl, rfl⟩
            go_wp2_with fail
            refine (AW.out _).mono ?_
            rintro e w9 ⟨rfl, hb9⟩
            have b9 := below_call b3 b3.size hb9
            go_wp2
            go_ret
            exact ⟨rfl, b9⟩
          | false =>
            have M60 : ∀ i, i < K → m i ≤ 60 := fun i hi => by
              have h0 := of_decide_eq_false HE1.out
              rcases Nat.lt_or_ge 60 (m i) with h | h
              · exact absurd (idxF_iff.2 ⟨(i : Int), by omega, by omega, by rw [Int.toNat_natCast]; exact decide_eq_true (by omega)⟩) h0
              · exact h
            have LB : ∀ i j, i < K → j < m i → -1099511627776 ≤ ln i j ∧ ln i j ≤ 1099511627776 := fun i j hi hj => by
              have h0 := of_decide_eq_false HE2.out
              by_cases hh : -1099511627776 ≤ ln i j ∧ ln i j ≤ 1099511627776
              · exact hh
              · exfalso
                refine h0 (idxF_iff.2 ⟨(i : Int), by omega, by omega, decide_eq_true (idxF_iff.2 ⟨(j : Int), by omega, by rw [Int.toNat_natCast]; omega, ?_⟩)⟩)
                rw [Int.toNat_natCast, Int.toNat_natCast]
                unfold far40
                by_cases g : ln i j < -1099511627776
                · simp [g]
                · have g2 : 1099511627776 < ln i j := by omega
                  simp [g2]
            go_enter Try.func6, Try.ntmps6
            go_wp2_with fail
            generalize (w.alloc (.cells #[.int .i64 W, .int .i64 H, .slice AI N cI] 24)).alloc (.cells #[.slice AS KS cS] 54) = w1 at *
            refine (C1.out _ b1).mono ?_
            rintro e w2 ⟨rfl, rfl⟩
            go_wp2_with fail
            refine (FW.out _).mono ?_
            rintro e w3 ⟨rfl, hb3⟩
            have b3 := below_call b1 b1.size hb3
            have k3 := k1.below' hb3
            have k4 := k2.below' hb3
            clear p1 p2 p3 p4
            obtain ⟨p1, p2, p3⟩ := k3.cells3
            have p4 := k4.cells0
            go_wp2_with fail
            refine (C2.out _ b3).mono ?_
            rintro e w4 ⟨rfl, rfl⟩
            go_wp2_with fail
            have CLs := Lib.hid fun w' hL' => copyLists_any A K c m ln w' hL' (by omega) (fun i hi => by have := M60 i hi; omega)
            have SV := Lib.hid fun A' c' w' hL' hc' => staves_any A' K c' m ln w' hL' hc' (by omega) (fun i hi => by have := M60 i hi; omega) LB
            have RS := Lib.hid fun w' hL' => rstaves_ind K m ln (by omega) (fun i hi => by have := M60 i hi; omega) LB K 0 A c w' (by omega) kc k44 hL'
            have STM : ∀ t, t ∈ stS (eB m ln) K 0 → ∀ j, j < 5 → m (t + j) ≤ maxLen := fun t ht j hj => by
              have := stS_at ht
              have := M60 (t + j) (by omega)
              unfold maxLen; omega
            have STP : ∀ t, t ∈ stS (eB m ln) K 0 → ∀ j, j < 5 → 0 < m (t + j) := fun t ht j hj => eB_pos (stS_at ht).2.2 j hj
            have STL := stS_len (e := eB m ln) (n := K) (i := 0)
            have L0 := hL.lines
            refine (CLs.out _ (L0.below b3)).mono ?_
            rintro e w5 ⟨_, rfl, ⟨vs5, hF5⟩, hb5⟩
            obtain ⟨A1, c1, rfl, hc1, -, hL5⟩ := hF5.toLines
            have b5 := below_call b3 b3.size hb5
            have k5 := k3.below' hb5
            have k6 := k4.below' hb5
            clear b3 k3 k4 hF5 hb5 p1 p2 p3 p4
            go_wp2_with fail
            refine (SV.out _ _ _ hL5 hc1).mono ?_
            rintro e w6 ⟨_, rfl, ⟨vs6, hS6⟩, hb6⟩
            obtain ⟨A2, c2, rfl, -, -⟩ := own_arr hS6.row
            have b6 := below_call b5 b5.size hb6
            have bo6 := Below.refl w5.heap.size w5 |>.trans hb6
            go_wp2_with fail
            refine (RS.out _ ((show LinesZ w w.heap.size A K (fun j => m (0 + j)) (fun j => ln (0 + j)) by simpa using L0).below b6)).mono ?_
            rintro e w7 ⟨_, rfl, ⟨vs7, hS7⟩, hb7⟩
            obtain ⟨A3, c3, rfl, -, -⟩ := own_arr hS7.row
            have b7 := below_call b6 b6.size hb7
            have bo7 := below_call bo6 bo6.size hb7
            have hS67 := hS6.below hb7
            clear hS6 hb6 hb7 b6 bo6
            go_wp2_with fail
            refine (sameStaves_true _ _ m ln (stS (eB m ln) K 0) A2 A3 c2 c3 vs6 vs7 _ hS67 hS7 (by omega) STM).mono ?_
            rintro e w8 ⟨rfl, hb8⟩
            have b8 := below_call b7 b7.size hb8
            have bo8 := below_call bo7 bo7.size hb8
            have hS8 := hS67.below hb8
            have PLC := Lib.hid fun t ht => hS8.places STP (t := t) ht
            obtain ⟨S, hS'⟩ : ∃ S, (stS (eB m ln) K 0).length = S := ⟨_, rfl⟩
            rw [hS'] at PLC STL ⊢
            clear hS67 hS7 hS8 hb8 b7 bo7 STM STP hS' SV RS CLs
            have zo := bo8.size
            have z5 := b5.size
            go_wp2_with fail
            go_loopw [49] (fun s wr => ∃ t : Nat, t ≤ S ∧ s = .int .i64 t ∧ IntOnly w8 wr ∧ Below w5.heap.size w5 wr) (fun s _ => S - (intOf s).toNat)
            case atStart => exact ⟨0, by omega, rfl, IntOnly.refl _, bo8⟩
            case round =>
              obtain ⟨t, ht, rfl, hI, bo⟩ := hrel
              by_cases tl : (t : Int) < S
              · obtain ⟨b, cb, cs, b5', c5', cs5, eA, hbb, hcb, hb5', hpl⟩ := PLC.out t (by omega)
                cases eA
                have q1 : wr.cell? ⟨b, t, none⟩ = some (.slice (some ⟨b5', 0, none⟩) 5 c5') := by rw [(hI.cell hbb (by decide)).cell]; exact hcb
                have HI := Lib.hid (hI.alloc (.cells #[.slice (some ⟨b5', 0, none⟩) 5 c5'] 54))
                have BO := Lib.hid (bo.alloc bo.size (.cells #[.slice (some ⟨b5', 0, none⟩) 5 c5'] 54))
                have q2 : (wr.alloc (.cells #[.slice (some ⟨b5', 0, none⟩) 5 c5'] 54)).cell? ⟨wr.heap.size, 0, none⟩ = some (.slice (some ⟨b5', 0, none⟩) 5 c5') := (Blk.new wr 54 #[.slice (some ⟨b5', 0, none⟩) 5 c5']).cells0
                clear hI bo
                go_wp2_with fail
                generalize wr.alloc (.cells #[.slice (some ⟨b5', 0, none⟩) 5 c5'] 54) = w10 at *
                go_loopw [56] (fun s wr => ∃ j : Nat, j ≤ 5 ∧ s = .int .i64 j ∧ IntOnly w8 wr ∧ Below w5.heap.size w5 wr) (fun s _ => 5 - (intOf s).toNat)
                case atStart => exact ⟨0, by omega, rfl, HI.out, BO.out⟩
                case round =>
                  obtain ⟨j, hj, rfl, hI2, bo2⟩ := hrel
                  by_cases jl : (j : Int) < 5
                  · obtain ⟨g, nn, cg, cj, hcj, hnn, hgB, hbg, hsz⟩ := hpl j (by omega)
                    have q3 : wr.cell? ⟨b5', j, none⟩ = some (.slice (some ⟨g, 0, none⟩) nn cg) := by rw [(hI2.cell hb5' (by decide)).cell]; exact hcj
                    obtain ⟨cs', hbg', hsz'⟩ := hI2.int hbg
                    have q4 : ∃ v, wr.cell? ⟨g, 0, none⟩ = some v := ⟨cs'[0]'(by omega), by rw [hbg'.cell]; exact Array.getElem?_eq_getElem (by omega)⟩
                    obtain ⟨v4, q4⟩ := q4
                    have q5 := hbg'.frozen 0
                    have HI3 := Lib.hid (hI2.set hbg' 0 (.int .i64 (-7)))
                    have BO3 := Lib.hid (bo2.setCell (p := ⟨g, 0, none⟩) hgB (.int .i64 (-7)))
                    have nn1 : (0 : Int) < (nn : Int) := by omega
                    clear hI2 bo2
                    go_wp2_with fail
                    go_roundw
                    case rel => exact ⟨j + 1, by omega, by go_num, HI3.out, BO3.out⟩
                    case measure => simp [intOf]; omega
                  · obtain rfl : j = 5 := by omega
                    go_wp2_with fail
                    go_roundw
                    case rel => exact ⟨t + 1, by omega, by go_num, hI2, bo2⟩
                    case measure => simp [intOf]; omega
              · have b9 := below_call b5 b5.size bo
                have hL9 := hL5.below bo
                have k9 := k5.below' bo
                have k10 := k6.below' bo
                obtain ⟨p1, p2, p3⟩ := k9.cells3
                have p4 := k10.cells0
                clear hI bo PLC
                go_wp2_with fail
                have CIN := Lib.hid fun w' hA' => copyInk_any W H AI N cI p w' hA' hc (by omega)
                have CST := Lib.hid fun w' hL' => copyStave_any AS KS cS mS lnS w' hL' (by omega) (fun i hi => hS.lens i hi)
                have ha9 := hA.to b9
                have hS9 := hS.lines.below b9
                have z9 := b9.size
                go_cut [13, 14] (fun f1 f2 wx => ∃ B1 B2 A' c' A2' c2', f1 = .pointer (some ⟨B1, 0, none⟩) ∧ f2 = .pointer (some ⟨B2, 0, none⟩) ∧ Below wr.heap.size wr wx ∧
                  Blk wx B1 24 #[.int .i64 W, .int .i64 H, .slice A' N c'] ∧ Blk wx B2 54 #[.slice A2' KS c2'] ∧ ArrB wx wx.heap.size A' N p ∧ Lines wx wx.heap.size A2' KS mS lnS)
                case first =>
                  have y1 := k9.lt
                  have y2 := k10.lt
                  go_region_held3 (fun w' => w'.cell? ⟨w.heap.size, 0, none⟩ = some (.int .i64 W) ∧ w'.cell? ⟨w.heap.size, 1, none⟩ = some (.int .i64 H) ∧ w'.cell? ⟨w.heap.size, 2, none⟩ = some (.slice AI N cI) ∧ w'.cell? ⟨w.heap.size + 1, 0, none⟩ = some (.slice AS KS cS))
                    (simp [go_sem, *])
                    (first
                      | (go_at_call 14
                         refine Calls.mono (CIN.out _ ?_) ?_
                         focus (exact ha9.to (by (repeat (first | with_reducible exact Below.refl _ _ | with_reducible assumption | with_reducible refine Below.drew ?_ | (with_reducible refine below_alloc' ?_ ?_; focus (first | omega | (simp; done) | (simp; omega))) | (with_reducible refine below_fill3' ?_ ?_; focus omega) | (with_reducible refine below_setCell' ?_ ?_; focus (first | omega | (simp; done) | (simp; omega))) | (with_reducible apply below_call'; (focus (with_reducible assumption)); (focus (first | omega | (simp; done) | (simp; omega))))))))
                         rintro e v1 ⟨_, rfl, ⟨_, rfl, A', c', rfl, hcc1, hnil1, hge1, ha1⟩, hb1⟩
                         have bv1 := Lib.hid (show Below wr.heap.size wr v1 by (repeat (first | with_reducible exact Below.refl _ _ | with_reducible assumption | with_reducible refine Below.drew ?_ | (with_reducible refine below_alloc' ?_ ?_; focus (first | omega | (simp; done) | (simp; omega))) | (with_reducible refine below_fill3' ?_ ?_; focus omega) | (with_reducible refine below_setCell' ?_ ?_; focus (first | omega | (simp; done) | (simp; omega))) | (with_reducible apply below_call'; (focus (with_reducible assumption)); (focus (first | omega | (simp; done) | (simp; omega)))))))
                         have kk1 := k9.below' bv1.out
                         have ll1 := k10.below' bv1.out
                         obtain ⟨x11, x12, x13⟩ := kk1.cells3
                         have x14 := ll1.cells0
                         have s1 := hb1.size
                         try simp at s1
                         have y11 := kk1.lt
                         have y12 := ll1.lt
                         first | (have g11 : Blk v1 (wr.heap.size) 24 #[.int .i64 0, .int .i64 0, .slice none 0 0] := by ((repeat (first | with_reducible assumption | with_reducible exact Blk.new _ _ _ | with_reducible exact Blk.new' (World.size_alloc _ _) _ _ | (with_reducible refine Blk.new' ?_ _ _; focus (simp; done)) | with_reducible apply Blk.fill3 | with_reducible apply Blk.fill1 | (with_reducible refine Blk.far3' ?_ ?_; focus omega) | (with_reducible refine Blk.far1' ?_ ?_; focus omega) | with_reducible refine Blk.alloc ?_ _ | with_reducible refine Blk.drew ?_ | (with_reducible apply Blk.below2; focus (with_reducible assumption)))); done)
                                  obtain ⟨h1, h2, h3⟩ := g11.cells3; obtain ⟨f1, f2, f3⟩ := g11.frozen3; have lt11 := g11.lt) | skip
                         first | (have g12 : Blk v1 (wr.heap.size) 54 #[.slice none 0 0] := by ((repeat (first | with_reducible assumption | with_reducible exact Blk.new _ _ _ | with_reducible exact Blk.new' (World.size_alloc _ _) _ _ | (with_reducible refine Blk.new' ?_ _ _; focus (simp; done)) | with_reducible apply Blk.fill3 | with_reducible apply Blk.fill1 | (with_reducible refine Blk.far3' ?_ ?_; focus omega) | (with_reducible refine Blk.far1' ?_ ?_; focus omega) | with_reducible refine Blk.alloc ?_ _ | with_reducible refine Blk.drew ?_ | (with_reducible apply Blk.below2; focus (with_reducible assumption)))); done)
                                  have h12 := g12.cells0; have f12 := g12.frozen 0; have lt12 := g12.lt) | skip
                         first | (have g13 : Blk v1 (wr.heap.size + 1) 24 #[.int .i64 0, .int .i64 0, .slice none 0 0] := by ((repeat (first | with_reducible assumption | with_reducible exact Blk.new _ _ _ | with_reducible exact Blk.new' (World.size_alloc _ _) _ _ | (with_reducible refine Blk.new' ?_ _ _; focus (simp; done)) | with_reducible apply Blk.fill3 | with_reducible apply Blk.fill1 | (with_reducible refine Blk.far3' ?_ ?_; focus omega) | (with_reducible refine Blk.far1' ?_ ?_; focus omega) | with_reducible refine Blk.alloc ?_ _ | with_reducible refine Blk.drew ?_ | (with_reducible apply Blk.below2; focus (with_reducible assumption)))); done)
                                  obtain ⟨h1, h2, h3⟩ := g13.cells3; obtain ⟨f1, f2, f3⟩ := g13.frozen3; have lt13 := g13.lt) | skip
                         first | (have g14 : Blk v1 (wr.heap.size + 1) 54 #[.slice none 0 0] := by ((repeat (first | with_reducible assumption | with_reducible exact Blk.new _ _ _ | with_reducible exact Blk.new' (World.size_alloc _ _) _ _ | (with_reducible refine Blk.new' ?_ _ _; focus (simp; done)) | with_reducible apply Blk.fill3 | with_reducible apply Blk.fill1 | (with_reducible refine Blk.far3' ?_ ?_; focus omega) | (with_reducible refine Blk.far1' ?_ ?_; focus omega) | with_reducible refine Blk.alloc ?_ _ | with_reducible refine Blk.drew ?_ | (with_reducible apply Blk.below2; focus (with_reducible assumption)))); done)
                                  have h14 := g14.cells0; have f14 := g14.frozen 0; have lt14 := g14.lt) | skip)
                      | (go_at_call 37
                         refine Calls.mono (CST.out _ ?_) ?_
                         focus (exact hS9.below (by (repeat (first | with_reducible exact Below.refl _ _ | with_reducible assumption | with_reducible refine Below.drew ?_ | (with_reducible refine below_alloc' ?_ ?_; focus (first | omega | (simp; done) | (simp; omega))) | (with_reducible refine below_fill3' ?_ ?_; focus omega) | (with_reducible refine below_setCell' ?_ ?_; focus (first | omega | (simp; done) | (simp; omega))) | (with_reducible apply below_call'; (focus (with_reducible assumption)); (focus (first | omega | (simp; done) | (simp; omega))))))))
                         rintro e v2 ⟨_, rfl, ⟨_, vs2, rfl, hF2⟩, hb2⟩
                         obtain ⟨A2', c2', rfl, -, -, hL2⟩ := hF2.toLines
                         have bv2 := Lib.hid (show Below wr.heap.size wr v2 by (repeat (first | with_reducible exact Below.refl _ _ | with_reducible assumption | with_reducible refine Below.drew ?_ | (with_reducible refine below_alloc' ?_ ?_; focus (first | omega | (simp; done) | (simp; omega))) | (with_reducible refine below_fill3' ?_ ?_; focus omega) | (with_reducible refine below_setCell' ?_ ?_; focus (first | omega | (simp; done) | (simp; omega))) | (with_reducible apply below_call'; (focus (with_reducible assumption)); (focus (first | omega | (simp; done) | (simp; omega)))))))
                         have kk2 := k9.below' bv2.out
                         have ll2 := k10.below' bv2.out
                         obtain ⟨x21, x22, x23⟩ := kk2.cells3
                         have x24 := ll2.cells0
                         have s2 := hb2.size
                         try simp at s2
                         have y21 := kk2.lt
                         have y22 := ll2.lt
                         first | (have g21 : Blk v2 (wr.heap.size) 24 #[.int .i64 0, .int .i64 0, .slice none 0 0] := by ((repeat (first | with_reducible assumption | with_reducible exact Blk.new _ _ _ | with_reducible exact Blk.new' (World.size_alloc _ _) _ _ | (with_reducible refine Blk.new' ?_ _ _; focus (simp; done)) | with_reducible apply Blk.fill3 | with_reducible apply Blk.fill1 | (with_reducible refine Blk.far3' ?_ ?_; focus omega) | (with_reducible refine Blk.far1' ?_ ?_; focus omega) | with_reducible refine Blk.alloc ?_ _ | with_reducible refine Blk.drew ?_ | (with_reducible apply Blk.below2; focus (with_reducible assumption)))); done)
                                  obtain ⟨h1, h2, h3⟩ := g21.cells3; obtain ⟨f1, f2, f3⟩ := g21.frozen3; have lt21 := g21.lt) | skip
                         first | (have g22 : Blk v2 (wr.heap.size) 54 #[.slice none 0 0] := by ((repeat (first | with_reducible assumption | with_reducible exact Blk.new _ _ _ | with_reducible exact Blk.new' (World.size_alloc _ _) _ _ | (with_reducible refine Blk.new' ?_ _ _; focus (simp; done)) | with_reducible apply Blk.fill3 | with_reducible apply Blk.fill1 | (with_reducible refine Blk.far3' ?_ ?_; focus omega) | (with_reducible refine Blk.far1' ?_ ?_; focus omega) | with_reducible refine Blk.alloc ?_ _ | with_reducible refine Blk.drew ?_ | (with_reducible apply Blk.below2; focus (with_reducible assumption)))); done)
                                  have h22 := g22.cells0; have f22 := g22.frozen 0; have lt22 := g22.lt) | skip
                         first | (have g23 : Blk v2 (wr.heap.size + 1) 24 #[.int .i64 0, .int .i64 0, .slice none 0 0] := by ((repeat (first | with_reducible assumption | with_reducible exact Blk.new _ _ _ | with_reducible exact Blk.new' (World.size_alloc _ _) _ _ | (with_reducible refine Blk.new' ?_ _ _; focus (simp; done)) | with_reducible apply Blk.fill3 | with_reducible apply Blk.fill1 | (with_reducible refine Blk.far3' ?_ ?_; focus omega) | (with_reducible refine Blk.far1' ?_ ?_; focus omega) | with_reducible refine Blk.alloc ?_ _ | with_reducible refine Blk.drew ?_ | (with_reducible apply Blk.below2; focus (with_reducible assumption)))); done)
                                  obtain ⟨h1, h2, h3⟩ := g23.cells3; obtain ⟨f1, f2, f3⟩ := g23.frozen3; have lt23 := g23.lt) | skip
                         first | (have g24 : Blk v2 (wr.heap.size + 1) 54 #[.slice none 0 0] := by ((repeat (first | with_reducible assumption | with_reducible exact Blk.new _ _ _ | with_reducible exact Blk.new' (World.size_alloc _ _) _ _ | (with_reducible refine Blk.new' ?_ _ _; focus (simp; done)) | with_reducible apply Blk.fill3 | with_reducible apply Blk.fill1 | (with_reducible refine Blk.far3' ?_ ?_; focus omega) | (with_reducible refine Blk.far1' ?_ ?_; focus omega) | with_reducible refine Blk.alloc ?_ _ | with_reducible refine Blk.drew ?_ | (with_reducible apply Blk.below2; focus (with_reducible assumption)))); done)
                                  have h24 := g24.cells0; have f24 := g24.frozen 0; have lt24 := g24.lt) | skip
                         first | (have g25 : Blk v2 (v1.heap.size) 24 #[.int .i64 0, .int .i64 0, .slice none 0 0] := by ((repeat (first | with_reducible assumption | with_reducible exact Blk.new _ _ _ | with_reducible exact Blk.new' (World.size_alloc _ _) _ _ | (with_reducible refine Blk.new' ?_ _ _; focus (simp; done)) | with_reducible apply Blk.fill3 | with_reducible apply Blk.fill1 | (with_reducible refine Blk.far3' ?_ ?_; focus omega) | (with_reducible refine Blk.far1' ?_ ?_; focus omega) | with_reducible refine Blk.alloc ?_ _ | with_reducible refine Blk.drew ?_ | (with_reducible apply Blk.below2; focus (with_reducible assumption)))); done)
                                  obtain ⟨h1, h2, h3⟩ := g25.cells3; obtain ⟨f1, f2, f3⟩ := g25.frozen3; have lt25 := g25.lt) | skip
                         first | (have g26 : Blk v2 (v1.heap.size) 54 #[.slice none 0 0] := by ((repeat (first | with_reducible assumption | with_reducible exact Blk.new _ _ _ | with_reducible exact Blk.new' (World.size_alloc _ _) _ _ | (with_reducible refine Blk.new' ?_ _ _; focus (simp; done)) | with_reducible apply Blk.fill3 | with_reducible apply Blk.fill1 | (with_reducible refine Blk.far3' ?_ ?_; focus omega) | (with_reducible refine Blk.far1' ?_ ?_; focus omega) | with_reducible refine Blk.alloc ?_ _ | with_reducible refine Blk.drew ?_ | (with_reducible apply Blk.below2; focus (with_reducible assumption)))); done)
                                  have h26 := g26.cells0; have f26 := g26.frozen 0; have lt26 := g26.lt) | skip
                         first | (have g27 : Blk v2 (v1.heap.size + 1) 24 #[.int .i64 0, .int .i64 0, .slice none 0 0] := by ((repeat (first | with_reducible assumption | with_reducible exact Blk.new _ _ _ | with_reducible exact Blk.new' (World.size_alloc _ _) _ _ | (with_reducible refine Blk.new' ?_ _ _; focus (simp; done)) | with_reducible apply Blk.fill3 | with_reducible apply Blk.fill1 | (with_reducible refine Blk.far3' ?_ ?_; focus omega) | (with_reducible refine Blk.far1' ?_ ?_; focus omega) | with_reducible refine Blk.alloc ?_ _ | with_reducible refine Blk.drew ?_ | (with_reducible apply Blk.below2; focus (with_reducible assumption)))); done)
                                  obtain ⟨h1, h2, h3⟩ := g27.cells3; obtain ⟨f1, f2, f3⟩ := g27.frozen3; have lt27 := g27.lt) | skip
                         first | (have g28 : Blk v2 (v1.heap.size + 1) 54 #[.slice none 0 0] := by ((repeat (first | with_reducible assumption | with_reducible exact Blk.new _ _ _ | with_reducible exact Blk.new' (World.size_alloc _ _) _ _ | (with_reducible refine Blk.new' ?_ _ _; focus (simp; done)) | with_reducible apply Blk.fill3 | with_reducible apply Blk.fill1 | (with_reducible refine Blk.far3' ?_ ?_; focus omega) | (with_reducible refine Blk.far1' ?_ ?_; focus omega) | with_reducible refine Blk.alloc ?_ _ | with_reducible refine Blk.drew ?_ | (with_reducible apply Blk.below2; focus (with_reducible assumption)))); done)
                                  have h28 := g28.cells0; have f28 := g28.frozen 0; have lt28 := g28.lt) | skip))
                  all_goals
                    go_wp2_with fail
                    go_meet
                    refine ⟨_, _, A', c', A2', c2', rfl, rfl, ?_, ?_, ?_, ?_, ?_⟩
                    focus (repeat (first | with_reducible exact Below.refl _ _ | with_reducible assumption | with_reducible refine Below.drew ?_ | (with_reducible refine below_alloc' ?_ ?_; focus (first | omega | (simp; done) | (simp; omega))) | (with_reducible refine below_fill3' ?_ ?_; focus omega) | (with_reducible refine below_setCell' ?_ ?_; focus (first | omega | (simp; done) | (simp; omega))) | (with_reducible apply below_call'; (focus (with_reducible assumption)); (focus (first | omega | (simp; done) | (simp; omega))))))
                    focus (repeat (first | with_reducible assumption | with_reducible exact Blk.new _ _ _ | with_reducible exact Blk.new' (World.size_alloc _ _) _ _ | (with_reducible refine Blk.new' ?_ _ _; focus (simp; done)) | with_reducible apply Blk.fill3 | with_reducible apply Blk.fill1 | (with_reducible refine Blk.far3' ?_ ?_; focus omega) | (with_reducible refine Blk.far1' ?_ ?_; focus omega) | with_reducible refine Blk.alloc ?_ _ | with_reducible refine Blk.drew ?_ | (with_reducible apply Blk.below2; focus (with_reducible assumption))))
                    focus (repeat (first | with_reducible assumption | with_reducible exact Blk.new _ _ _ | with_reducible exact Blk.new' (World.size_alloc _ _) _ _ | (with_reducible refine Blk.new' ?_ _ _; focus (simp; done)) | with_reducible apply Blk.fill3 | with_reducible apply Blk.fill1 | (with_reducible refine Blk.far3' ?_ ?_; focus omega) | (with_reducible refine Blk.far1' ?_ ?_; focus omega) | with_reducible refine Blk.alloc ?_ _ | with_reducible refine Blk.drew ?_ | (with_reducible apply Blk.below2; focus (with_reducible assumption))))
                    focus (refine KeepIn.arr ha1 hge1 (by (repeat (first | with_reducible exact KeepIn.refl _ _ _ | with_reducible refine KeepIn.drew ?_ | (with_reducible refine KeepIn.set ?_ ?_; focus (first | omega | (simp; done) | (simp; omega))) | (with_reducible refine KeepIn.alloc ?_ ?_; focus (first | omega | (simp; done) | (simp; omega))) | (with_reducible apply KeepIn.call; (focus (with_reducible assumption)); (focus (first | omega | (simp; done) | (simp; omega))))))) (by first | omega | (simp; done) | (simp; omega)))
                    focus (exact LinesOf (KeepIn.found hF2 (by (repeat (first | with_reducible exact KeepIn.refl _ _ _ | with_reducible refine KeepIn.drew ?_ | (with_reducible refine KeepIn.set ?_ ?_; focus (first | omega | (simp; done) | (simp; omega))) | (with_reducible refine KeepIn.alloc ?_ ?_; focus (first | omega | (simp; done) | (simp; omega))) | (with_reducible apply KeepIn.call; (focus (with_reducible assumption)); (focus (first | omega | (simp; done) | (simp; omega)))))))))
                case rest =>
                  obtain ⟨B1, B2, A', c', A2', c2', rfl, rfl, hbx, kB1, kB2, haX, hLX⟩ := hcut
                  have b11 := below_call b9 b9.size hbx
                  have k11 := k9.below' hbx
                  have k12 := k10.below' hbx
                  have hL11 := hL9.below hbx
                  have E : ∃ E, stChk W H N p KS mS lnS = E := ⟨_, rfl⟩
                  obtain ⟨E, hE⟩ := E
                  generalize wc = wx at *
                  have hLA := hL.lines.lines.below b11
                  have hSA := hS.lines.lines.below b11
                  have hAA := hA.to b11
                  have mm : ∀ i, i < K → m i ≤ maxLen := fun i hi => by have := M60 i hi; unfold maxLen; omega
                  have hmS : ∀ i, i < KS → mS i ≤ maxLen := fun i hi => by have := hS.lens i hi; unfold maxLen; omega
                  have SLc : Hid (∀ w', Below wx.heap.size wx w' → Calls Try.prog 22 #[.slice A1 K c1, .slice A K c] w' fun e w'' => e = .returned (.bool true) ∧ Below w'.heap.size w' w'') := by
                    show ∀ _, _
                    intro w' hb'
                    have := sameLists_any A1 A K K c1 c m m ln ln w' (hL11.below hb') (hLA.below hb') (by unfold maxLen; omega) (by unfold maxLen; omega) mm mm
                    rw [sameL_self] at this
                    refine this.mono ?_
                    rintro e w'' ⟨rfl, nq, rfl⟩
                    exact ⟨rfl, drewN_below nq⟩
                  have CKa := Lib.hid fun w' (hb' : Below wx.heap.size wx w') => check_st W H A' A2' N c' KS c2' p mS lnS E w' (haX.to hb') hN (hLX.below hb') hmS hE
                  have CKb := Lib.hid fun w' (hb' : Below wx.heap.size wx w') => rcheck_st W H AI AS N cI KS cS p mS lnS E w' (hAA.to hb') hN hB (hSA.below hb') hmS hE
                  have SIc := Lib.hid fun w' (hb' : Below wx.heap.size wx w') => sameInk_true W H A' AI N c' cI p p w' (haX.to hb') (hAA.to hb') hN (fun _ _ _ => rfl)
                  have SSc : Hid (∀ w', Below wx.heap.size wx w' → Calls Try.prog 40 #[.agg #[.slice A2' KS c2'], .agg #[.slice AS KS cS]] w' fun e w'' => e = .returned (.bool true) ∧ Below w'.heap.size w' w'') := by
                    show ∀ _, _
                    intro w' hb'
                    have := sameStave_any A2' AS KS KS c2' cS mS mS lnS lnS w' (hLX.below hb') (hSA.below hb') (by unfold maxLen; omega) (by unfold maxLen; omega) hmS hmS
                    rw [sameL_self] at this
                    exact this
                  have AWc := Lib.hid fun w' (hb' : Below wx.heap.size wx w') => AW.out w'
                  obtain ⟨p1, p2, p3⟩ := k11.cells3
                  have p4 := k12.cells0
                  obtain ⟨o1, o2, o3⟩ := kB1.cells3
                  have o4 := kB2.cells0
                  clear k9 k10 hbx hL9 haX hLX hL11 hLA hSA hAA hE
                  go_wp2_with fail
                  go_region_held3 (fun w' => w'.cell? ⟨w.heap.size, 0, none⟩ = some (.int .i64 W) ∧ w'.cell? ⟨w.heap.size, 1, none⟩ = some (.int .i64 H) ∧ w'.cell? ⟨w.heap.size, 2, none⟩ = some (.slice AI N cI) ∧ w'.cell? ⟨w.heap.size + 1, 0, none⟩ = some (.slice AS KS cS) ∧ w'.cell? ⟨B1, 0, none⟩ = some (.int .i64 W) ∧ w'.cell? ⟨B1, 1, none⟩ = some (.int .i64 H) ∧ w'.cell? ⟨B1, 2, none⟩ = some (.slice A' N c') ∧ w'.cell? ⟨B2, 0, none⟩ = some (.slice A2' KS c2'))
                    (simp [go_sem, *])
                    (first
                      | (go_at_call 22
                         refine Calls.mono (SLc.out _ ?_) ?_
                         focus ((repeat (first | with_reducible exact Below.refl _ _ | with_reducible refine Below.drew ?_ | (with_reducible apply below_call'; (focus (with_reducible assumption)); (focus (first | omega | (simp; done) | (simp; omega)))))))
                         rintro e v1 ⟨rfl, hb1⟩
                         have z1 := hb1.size
                         try simp at z1
                         have bv1 := Lib.hid (show Below wx.heap.size wx v1 by (repeat (first | with_reducible exact Below.refl _ _ | with_reducible refine Below.drew ?_ | (with_reducible apply below_call'; (focus (with_reducible assumption)); (focus (first | omega | (simp; done) | (simp; omega)))))))
                         obtain ⟨r11, r12, r13⟩ := (k11.below' bv1.out).cells3
                         have r14 := (k12.below' bv1.out).cells0
                         obtain ⟨s11, s12, s13⟩ := (kB1.below' bv1.out).cells3
                         have s14 := (kB2.below' bv1.out).cells0)
                      | (go_at_call 38
                         refine Calls.mono (CKa.out _ ?_) ?_
                         focus ((repeat (first | with_reducible exact Below.refl _ _ | with_reducible refine Below.drew ?_ | (with_reducible apply below_call'; (focus (with_reducible assumption)); (focus (first | omega | (simp; done) | (simp; omega)))))))
                         rintro e v2 ⟨rfl, hb2⟩
                         have z2 := hb2.size
                         try simp at z2
                         have bv2 := Lib.hid (show Below wx.heap.size wx v2 by (repeat (first | with_reducible exact Below.refl _ _ | with_reducible refine Below.drew ?_ | (with_reducible apply below_call'; (focus (with_reducible assumption)); (focus (first | omega | (simp; done) | (simp; omega)))))))
                         obtain ⟨r21, r22, r23⟩ := (k11.below' bv2.out).cells3
                         have r24 := (k12.below' bv2.out).cells0
                         obtain ⟨s21, s22, s23⟩ := (kB1.below' bv2.out).cells3
                         have s24 := (kB2.below' bv2.out).cells0)
                      | (go_at_call 39
                         refine Calls.mono (CKb.out _ ?_) ?_
                         focus ((repeat (first | with_reducible exact Below.refl _ _ | with_reducible refine Below.drew ?_ | (with_reducible apply below_call'; (focus (with_reducible assumption)); (focus (first | omega | (simp; done) | (simp; omega)))))))
                         rintro e v3 ⟨rfl, hb3⟩
                         have z3 := hb3.size
                         try simp at z3
                         have bv3 := Lib.hid (show Below wx.heap.size wx v3 by (repeat (first | with_reducible exact Below.refl _ _ | with_reducible refine Below.drew ?_ | (with_reducible apply below_call'; (focus (with_reducible assumption)); (focus (first | omega | (simp; done) | (simp; omega)))))))
                         obtain ⟨r31, r32, r33⟩ := (k11.below' bv3.out).cells3
                         have r34 := (k12.below' bv3.out).cells0
                         obtain ⟨s31, s32, s33⟩ := (kB1.below' bv3.out).cells3
                         have s34 := (kB2.below' bv3.out).cells0)
                      | (go_at_call 21
                         refine Calls.mono (SIc.out _ ?_) ?_
                         focus ((repeat (first | with_reducible exact Below.refl _ _ | with_reducible refine Below.drew ?_ | (with_reducible apply below_call'; (focus (with_reducible assumption)); (focus (first | omega | (simp; done) | (simp; omega)))))))
                         rintro e v4 ⟨rfl, hb4⟩
                         have z4 := hb4.size
                         try simp at z4
                         have bv4 := Lib.hid (show Below wx.heap.size wx v4 by (repeat (first | with_reducible exact Below.refl _ _ | with_reducible refine Below.drew ?_ | (with_reducible apply below_call'; (focus (with_reducible assumption)); (focus (first | omega | (simp; done) | (simp; omega)))))))
                         obtain ⟨r41, r42, r43⟩ := (k11.below' bv4.out).cells3
                         have r44 := (k12.below' bv4.out).cells0
                         obtain ⟨s41, s42, s43⟩ := (kB1.below' bv4.out).cells3
                         have s44 := (kB2.below' bv4.out).cells0)
                      | (go_at_call 40
                         refine Calls.mono (SSc.out _ ?_) ?_
                         focus ((repeat (first | with_reducible exact Below.refl _ _ | with_reducible refine Below.drew ?_ | (with_reducible apply below_call'; (focus (with_reducible assumption)); (focus (first | omega | (simp; done) | (simp; omega)))))))
                         rintro e v5 ⟨rfl, hb5⟩
                         have z5 := hb5.size
                         try simp at z5
                         have bv5 := Lib.hid (show Below wx.heap.size wx v5 by (repeat (first | with_reducible exact Below.refl _ _ | with_reducible refine Below.drew ?_ | (with_reducible apply below_call'; (focus (with_reducible assumption)); (focus (first | omega | (simp; done) | (simp; omega)))))))
                         obtain ⟨r51, r52, r53⟩ := (k11.below' bv5.out).cells3
                         have r54 := (k12.below' bv5.out).cells0
                         obtain ⟨s51, s52, s53⟩ := (kB1.below' bv5.out).cells3
                         have s54 := (kB2.below' bv5.out).cells0)
                      | (go_at_call 13
                         refine Calls.mono (AWc.out _ ?_) ?_
                         focus ((repeat (first | with_reducible exact Below.refl _ _ | with_reducible refine Below.drew ?_ | (with_reducible apply below_call'; (focus (with_reducible assumption)); (focus (first | omega | (simp; done) | (simp; omega)))))))
                         rintro e v6 ⟨rfl, hb6⟩
                         have z6 := hb6.size
                         try simp at z6
                         have bv6 := Lib.hid (show Below wx.heap.size wx v6 by (repeat (first | with_reducible exact Below.refl _ _ | with_reducible refine Below.drew ?_ | (with_reducible apply below_call'; (focus (with_reducible assumption)); (focus (first | omega | (simp; done) | (simp; omega)))))))
                         obtain ⟨r61, r62, r63⟩ := (k11.below' bv6.out).cells3
                         have r64 := (k12.below' bv6.out).cells0
                         obtain ⟨s61, s62, s63⟩ := (kB1.below' bv6.out).cells3
                         have s64 := (kB2.below' bv6.out).cells0))
                  all_goals
                    go_wp2
                    go_ret
                    exact ⟨rfl, below_call b11 b11.size bv6.out⟩
      · rw [decide_eq_false hf] at FW
        clear C2
        go_enter Try.func6, Try.ntmps6
        go_wp2_with fail
        generalize (w.alloc (.cells #[.int .i64 W, .int .i64 H, .slice AI N cI] 24)).alloc (.cells #[.slice AS KS cS] 54) = w1 at *
        refine (C1.out _ b1).mono ?_
        rintro e w2 ⟨rfl, rfl⟩
        go_wp2_with fail
        refine (FW.out _).mono ?_
        rintro e w3 ⟨rfl, hb3⟩
        have b3 := below_call b1 b1.size hb3
        have k3 := k1.below' hb3
        have k4 := k2.below' hb3
        clear p1 p2 p3 p4
        obtain ⟨p1, p2, p3⟩ := k3.cells3
        have p4 := k4.cells0
        go_wp2_with fail
        refine (AW.out _).mono ?_
        rintro e w9 ⟨rfl, hb9⟩
        have b9 := below_call b3 b3.size hb9
        go_wp2
        go_ret
        exact ⟨rfl, b9⟩
end Go.Proofs.Ytdimlpcbbkokiaa

/- Rows of runs in memory. -/
namespace Go.Proofs.Ytdimlpcbbkokiaa
open Go.RowKit Go.Shelf Go.Lib Go.Sort
set_option linter.unusedVariables false

theorem infoRun : (Try.prog.info? 84).map (fun i => (i.zero, i.size, i.bytes)) = some (some (.agg #[.int .i64 0, .int .i64 0, .int .i64 0]), 3, 24) := by kernel_rfl
def flatR (l : List Rn) : List Value := l.flatMap encR
theorem flatR_len (l : List Rn) : (flatR l).length = l.length * 3 := by
  induction l with
  | nil => rfl
  | cons a l ih =>
    show (encR a ++ flatR l).length = (l.length + 1) * 3
    rw [List.length_append, ih, show (encR a).length = 3 from rfl]; omega
theorem flatR_snoc (l : List Rn) (r : Rn) : flatR (l ++ [r]) = flatR l ++ [.int .i64 r.1, .int .i64 r.2.1, .int .i64 r.2.2] := by simp [flatR, encR]
theorem flatR_at : ∀ (l : List Rn) (i : Nat) (r : Rn), l[i]? = some r → (flatR l)[i * 3]? = some (.int .i64 r.1) ∧ (flatR l)[i * 3 + 1]? = some (.int .i64 r.2.1) ∧ (flatR l)[i * 3 + 2]? = some (.int .i64 r.2.2)
  | [], i, r, h => by simp at h
  | a :: l, 0, r, h => by
    simp at h; subst h
    simp [flatR, encR]
  | a :: l, i + 1, r, h => by
    have ih := flatR_at l i r (by simpa using h)
    have e : ∀ t, (flatR (a :: l))[(i + 1) * 3 + t]? = (flatR l)[i * 3 + t]? := fun t => by
      show ((encR a) ++ flatR l)[(i + 1) * 3 + t]? = _
      rw [List.getElem?_append_right (by simp [encR]; omega)]
      congr 1
      simp [encR]; omega
    exact ⟨by have := e 0; simpa using this.trans ih.1, (e 1).trans ih.2.1, (e 2).trans ih.2.2⟩
/-- a row of runs that the call owns -/
def RunRow (w : World) (B : Nat) (v : Value) (l : List Rn) : Prop := w.ownsRow B 84 3 v l.length (flatR l)
/-- a slice that reads as these runs -/
def RunArr (w : World) (A : Option Addr) (l : List Rn) : Prop := l ≠ [] → ∃ g, A = some ⟨g, 0, none⟩ ∧ g < w.heap.size ∧ ∀ i r, l[i]? = some r → w.cell? ⟨g, i * 3, none⟩ = some (.int .i64 r.1) ∧ w.cell? ⟨g, i * 3 + 1, none⟩ = some (.int .i64 r.2.1) ∧ w.cell? ⟨g, i * 3 + 2, none⟩ = some (.int .i64 r.2.2)
section
variable {w w' : World} {B n size : Nat} {e : TypeId} {v : Value} {l : List Rn} {xs : List Value}
theorem own_moveS (h : w.ownsRow B e size v n xs) (hk : ∀ k, v.ownBlock = some k → w'.heap[k]? = w.heap[k]?) : w'.ownsRow B e size v n xs := by
  refine ⟨h.1, ?_⟩
  rcases h.2 with h2 | ⟨g, cap, cur, hv, hg, hh, r⟩
  · exact .inl h2
  · exact .inr ⟨g, cap, cur, hv, hg, (hk g (by rw [hv]; rfl)).trans hh, r⟩
theorem own_belowS (h : w.ownsRow B e size v n xs) (hb : Below w.heap.size w w') : w'.ownsRow B e size v n xs := own_moveS h fun k hk => hb.block k (own_ge h hk).2
theorem RunRow.below (h : RunRow w B v l) (hb : Below w.heap.size w w') : RunRow w' B v l := own_belowS h hb
theorem RunRow.nil (w : World) (B : Nat) : RunRow w B (.slice none 0 0) [] := World.ownsRow_nil _ _ _ _
theorem RunRow.alloc (h : RunRow w B v l) (o : Obj) : RunRow (w.alloc o) B v l := h.below ((Below.refl _ _).alloc (Nat.le_refl _) _)
theorem RunRow.val (h : RunRow w B v l) : ∃ A c, v = .slice A l.length c ∧ l.length ≤ c := by
  rcases h.2 with ⟨rfl, h2⟩ | ⟨g, cap, cur, rfl, hb, hh, hc, _⟩
  · have h3 : l = [] := by
      have := h2
      cases l with
      | nil => rfl
      | cons a t => simp at h2
    subst h3
    exact ⟨none, 0, rfl, Nat.le_refl _⟩
  · exact ⟨_, _, rfl, hc⟩
theorem RunRow.blk (h : RunRow w B v l) (hl : l ≠ []) : ∃ g c cs, v = .slice (some ⟨g, 0, none⟩) l.length c ∧ l.length ≤ c ∧ B ≤ g ∧ Blk w g 84 cs ∧ cs.size = c * 3 ∧ c ≤ maxLen ∧ cs.toList.take (l.length * 3) = flatR l := by
  rcases h.2 with ⟨-, h2⟩ | ⟨g, cap, cur, rfl, hb, hh, hc, hm, hs, ht⟩
  · exfalso
    cases l with
    | nil => exact hl rfl
    | cons a t => simp at h2
  · exact ⟨g, cap, cur, rfl, hc, hb, hh, hs, hm, ht⟩
theorem RunArr.below (h : RunArr w (some ⟨0, 0, none⟩) l) : True := trivial
theorem RunArr.to {A : Option Addr} (h : RunArr w A l) (hb : Below w.heap.size w w') : RunArr w' A l := fun hl => by
  obtain ⟨g, rfl, hg, hc⟩ := h hl
  refine ⟨g, rfl, Nat.lt_of_lt_of_le hg hb.size, fun i r hi => ?_⟩
  obtain ⟨h1, h2, h3⟩ := hc i r hi
  exact ⟨(hb.cell (p := ⟨g, i * 3, none⟩) hg).trans h1, (hb.cell (p := ⟨g, i * 3 + 1, none⟩) hg).trans h2, (hb.cell (p := ⟨g, i * 3 + 2, none⟩) hg).trans h3⟩
end
end Go.Proofs.Ytdimlpcbbkokiaa

/- Plain: the runs of the lines of a grid, one line after the other. No program in sight. -/
namespace Go.Proofs.Ytdimlpcbbkokiaa
open Go.RowKit
set_option linter.unusedVariables false
/-- where the run ends that holds place i: k places lie behind it -/
def enB (a : Nat → Bool) : Nat → Nat → Nat
  | 0, i => i
  | k + 1, i => if a (i + 1) = true then enB a k (i + 1) else i
/-- a run begins here -/
def stB (a : Nat → Bool) (i : Nat) : Bool := a i && !(decide (0 < i) && a (i - 1))
def rnA (a : Nat → Bool) (len line i : Nat) : List Rn := if stB a i = true then [((line : Int), (i : Int), (enB a (len - 1 - i) i : Int))] else []
def rL (a : Nat → Bool) (len line : Nat) : Nat → List Rn
  | 0 => []
  | n + 1 => rL a len line n ++ rnA a len line n
def rLs (a : Nat → Nat → Bool) (len : Nat) : Nat → List Rn
  | 0 => []
  | m + 1 => rLs a len m ++ rL (a m) len m len
theorem rnA_len (a : Nat → Bool) (len line i : Nat) : (rnA a len line i).length ≤ 1 := by unfold rnA; split <;> simp
theorem rL_len (a : Nat → Bool) (len line : Nat) : ∀ n, (rL a len line n).length ≤ n
  | 0 => by simp [rL]
  | n + 1 => by
    have := rL_len a len line n
    have := rnA_len a len line n
    rw [rL, List.length_append]; omega
theorem rLs_len (a : Nat → Nat → Bool) (len : Nat) : ∀ m, (rLs a len m).length ≤ m * len
  | 0 => by simp [rLs]
  | m + 1 => by
    have := rLs_len a len m
    have := rL_len (a m) len m len
    rw [rLs, List.length_append, Nat.succ_mul]; omega
theorem mem_rnA {a : Nat → Bool} {len line i : Nat} {r : Rn} : r ∈ rnA a len line i ↔ stB a i = true ∧ r = ((line : Int), (i : Int), (enB a (len - 1 - i) i : Int)) := by
  unfold rnA
  split
  · rename_i h; simp [h]
  · rename_i h; simp [h]
theorem mem_rL {a : Nat → Bool} {len line : Nat} {r : Rn} : ∀ {n : Nat}, r ∈ rL a len line n ↔ ∃ i, i < n ∧ r ∈ rnA a len line i
  | 0 => by simp [rL]
  | n + 1 => by
    rw [rL, List.mem_append, mem_rL]
    constructor
    · rintro (⟨i, h1, h2⟩ | h)
      · exact ⟨i, by omega, h2⟩
      · exact ⟨n, by omega, h⟩
    · rintro ⟨i, h1, h2⟩
      by_cases e : i = n
      · subst e; exact .inr h2
      · exact .inl ⟨i, by omega, h2⟩
theorem mem_rLs {a : Nat → Nat → Bool} {len : Nat} {r : Rn} : ∀ {m : Nat}, r ∈ rLs a len m ↔ ∃ x y, x < m ∧ y < len ∧ r ∈ rnA (a x) len x y
  | 0 => by simp [rLs]
  | m + 1 => by
    rw [rLs, List.mem_append, mem_rLs, mem_rL]
    constructor
    · rintro (⟨x, y, h1, h2, h3⟩ | ⟨y, h2, h3⟩)
      · exact ⟨x, y, by omega, h2, h3⟩
      · exact ⟨m, y, by omega, h2, h3⟩
    · rintro ⟨x, y, h1, h2, h3⟩
      by_cases e : x = m
      · subst e; exact .inr ⟨y, h2, h3⟩
      · exact .inl ⟨x, y, by omega, h2, h3⟩
theorem rL_sorted (a : Nat → Bool) (len line : Nat) : ∀ n, (rL a len line n).Pairwise ltR
  | 0 => List.Pairwise.nil
  | n + 1 => by
    rw [rL, List.pairwise_append]
    refine ⟨rL_sorted a len line n, ?_, fun r hr s hs => ?_⟩
    · unfold rnA; split
      · exact List.pairwise_singleton _ _
      · exact List.Pairwise.nil
    · obtain ⟨i, hi, hr⟩ := mem_rL.1 hr
      obtain ⟨-, rfl⟩ := mem_rnA.1 hr
      obtain ⟨-, rfl⟩ := mem_rnA.1 hs
      exact .inr ⟨rfl, by show (i : Int) < n; omega⟩
theorem rLs_sorted (a : Nat → Nat → Bool) (len : Nat) : ∀ m, (rLs a len m).Pairwise ltR
  | 0 => List.Pairwise.nil
  | m + 1 => by
    rw [rLs, List.pairwise_append]
    refine ⟨rLs_sorted a len m, rL_sorted _ _ _ _, fun r hr s hs => ?_⟩
    obtain ⟨x, y, hx, -, hr⟩ := mem_rLs.1 hr
    obtain ⟨-, rfl⟩ := mem_rnA.1 hr
    obtain ⟨i, -, hs⟩ := mem_rL.1 hs
    obtain ⟨-, rfl⟩ := mem_rnA.1 hs
    exact .inl (by show (x : Int) < m; omega)
theorem enB_bd (a : Nat → Bool) : ∀ k i, i ≤ enB a k i ∧ enB a k i ≤ i + k
  | 0, i => by simp [enB]
  | k + 1, i => by
    unfold enB; split
    · have := enB_bd a k (i + 1); omega
    · omega
theorem enB_congr {a b : Nat → Bool} : ∀ {k i : Nat}, (∀ j, i < j → j ≤ i + k → a j = b j) → enB a k i = enB b k i
  | 0, i, _ => rfl
  | k + 1, i, h => by
    unfold enB
    rw [h (i + 1) (by omega) (by omega), enB_congr (k := k) (i := i + 1) fun j h1 h2 => h j (by omega) (by omega)]
theorem stB_congr {a b : Nat → Bool} {i : Nat} (h : ∀ j, j ≤ i → a j = b j) : stB a i = stB b i := by
  unfold stB
  rw [h i (Nat.le_refl _), h (i - 1) (by omega)]
theorem rL_congr {a b : Nat → Bool} {len line : Nat} (h : ∀ j, j < len → a j = b j) : ∀ {n : Nat}, n ≤ len → rL a len line n = rL b len line n
  | 0, _ => rfl
  | n + 1, hn => by
    rw [rL, rL, rL_congr h (by omega)]
    congr 1
    unfold rnA
    rw [stB_congr fun j hj => h j (by omega), enB_congr fun j h1 h2 => h j (by omega)]
theorem rLs_congr {a b : Nat → Nat → Bool} {len : Nat} : ∀ {m : Nat}, (∀ x j, x < m → j < len → a x j = b x j) → rLs a len m = rLs b len m
  | 0, _ => rfl
  | m + 1, h => by
    rw [rLs, rLs, rLs_congr fun x j hx hj => h x j (by omega) hj, rL_congr (fun j hj => h m j (by omega) hj) (Nat.le_refl _)]
end Go.Proofs.Ytdimlpcbbkokiaa
