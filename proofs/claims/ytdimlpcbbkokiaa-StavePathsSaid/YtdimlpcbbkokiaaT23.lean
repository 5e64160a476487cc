/- Walk: the reference's cheapest path (custosref03.Best), its table of costs. -/
import Derived.Test.YtdimlpcbbkokiaaT22
import Derived.Test.YtdimlpcbbkokiaaT12
namespace Go.Proofs.Ytdimlpcbbkokiaa
open Go.RowKit Go.Shelf
set_option linter.unusedVariables false
attribute [local go_sem] Oper.semAt_some

theorem infoCol : (Try.prog.info? 25).map (fun i => (i.zero, i.size, i.bytes)) = some (some (.slice none 0 0), 1, 24) := by kernel_rfl
theorem makeL (n : Int) (h0 : 0 ≤ n) (h : n ≤ 1000000000) (w : World) : (Instr.makeSlice 34 (.int .i64 n) (.int .i64 n)).run Try.prog w =
    .ok (.slice (some ⟨w.heap.size, 0, none⟩) n.toNat n.toNat) (w.alloc (.cells (cellsF n.toNat (fun _ => .slice none 0 0)) 25)) := by
  obtain ⟨i, hi, hz, hs, hb⟩ := info_parts infoCol
  have := run_make (P := Try.prog) w 34 25 i _ Try.underlying34 hi hz .i64 .i64 n n h0 (Int.le_refl _) (by rw [hb]; omega) (by omega)
  rw [this, hs]
  have e : madeCells (Value.slice none 0 0).cells (n.toNat * 1) = cellsF n.toNat (fun _ => .slice none 0 0) := by
    rw [← replicate_cellsF]
    apply Array.ext_getElem?
    intro j
    simp only [madeCells, Value.cells, Nat.mul_one]
    by_cases hj : j < n.toNat <;> simp [hj, Nat.mod_one]
  rw [e]
theorem Blk.vconv {w : World} {g t n : Nat} {f f' : Int → Value} (h : Blk w g t (cellsF n f)) (he : ∀ i : Int, 0 ≤ i → i < n → f i = f' i) : Blk w g t (cellsF n f') := cellsF_congr he ▸ h
/-- the columns from W - j on are reckoned: slices over blocks of numbers of their own -/
structure Cols (B : Nat) (w : World) (ga Wn Hn : Nat) (G : Int → Int → Int) (j : Nat) (g : Nat → Nat) : Prop where
  row : Blk w ga 25 (cellsF Wn fun i => if (Wn : Int) - j ≤ i then .slice (some ⟨g i.toNat, 0, none⟩) Hn Hn else .slice none 0 0)
  col : ∀ i : Nat, (Wn : Int) - j ≤ i → i < Wn → B ≤ g i ∧ Blk w (g i) 3 (i64s Hn (G i))
theorem Cols.below {B : Nat} {w w' : World} {ga Wn Hn : Nat} {G : Int → Int → Int} {j : Nat} {g : Nat → Nat} (h : Cols B w ga Wn Hn G j g) (hb : Below w.heap.size w w') : Cols B w' ga Wn Hn G j g :=
  ⟨h.row.below' hb, fun i a b => ⟨(h.col i a b).1, (h.col i a b).2.below' hb⟩⟩
theorem Cols.at_ {B : Nat} {w : World} {ga Wn Hn : Nat} {G : Int → Int → Int} {j : Nat} {g : Nat → Nat} (h : Cols B w ga Wn Hn G j g) (i : Nat) (h0 : (Wn : Int) - j ≤ i) (h1 : i < Wn) : w.cell? ⟨ga, i, none⟩ = some (.slice (some ⟨g i, 0, none⟩) Hn Hn) := by
  rw [h.row.cell, cellsF_get h1, if_pos h0, Int.toNat_natCast]
/-- one column more -/
theorem Cols.set {B : Nat} {w : World} {ga Wn Hn : Nat} {G : Int → Int → Int} {j : Nat} {g : Nat → Nat} (h : Cols B w ga Wn Hn G j g) (x k : Nat) (hx : (x : Int) = Wn - 1 - j) (hk : Blk w k 3 (i64s Hn (G x))) (hB : B ≤ k) :
    Cols B (w.setCell ⟨ga, x, none⟩ (.slice (some ⟨k, 0, none⟩) Hn Hn)) ga Wn Hn G (j + 1) (fun i => if i = x then k else g i) := by
  have ne : ∀ {b : Nat} {cs : Array Value}, Blk w b 3 cs → b ≠ ga := fun {b cs} hb e => by
    have h1 : w.heap[b]? = _ := hb
    have h2 : w.heap[ga]? = _ := h.row
    rw [e] at h1
    rw [h1] at h2
    exact absurd (congrArg (fun o : Option Obj => match o with | some (.cells _ t _) => t | _ => 0) h2) (show ¬ ((3 : Nat) = 25) by decide)
  refine ⟨?_, fun i a b => ?_⟩
  · have := h.row.set_ x (.slice (some ⟨k, 0, none⟩) Hn Hn)
    have e := cellsF_set Wn (fun i => if (Wn : Int) - j ≤ i then Value.slice (some ⟨g i.toNat, 0, none⟩) Hn Hn else .slice none 0 0) (x : Int) (by omega) (.slice (some ⟨k, 0, none⟩) Hn Hn)
    rw [Int.toNat_natCast] at e
    rw [e] at this
    refine Blk.vconv this fun i i0 i1 => ?_
    by_cases e : i = x
    · subst e; rw [if_pos rfl, if_pos (by omega), if_pos (by omega)]
    · rw [if_neg e, if_neg (by omega : ¬ i.toNat = x)]
      by_cases h2 : (Wn : Int) - j ≤ i
      · rw [if_pos h2, if_pos (by omega)]
      · rw [if_neg h2, if_neg (by omega)]
  · by_cases e : i = x
    · subst e
      rw [if_pos rfl]
      exact ⟨hB, hk.far (ne hk) _⟩
    · rw [if_neg e]
      have := h.col i (by omega) b
      exact ⟨this.1, this.2.far (ne this.2) _⟩

/-- what is left of the cost when column x is begun; what a change of rows costs -/
def leftV (L : Int) (G c : Int → Int → Int) (P : Nat → Int) : Nat → Int
  | 0 => L
  | x + 1 => G x (P x) - c x (P x)
def chg (P : Nat → Int) : Nat → Int → Int
  | 0, _ => 0
  | k + 1, y => if y = P k then 0 else 1
/-- the reference's test: the path's row meets it, and no row above that comes up does -/
theorem rtest {N M W H : Int} {c : Int → Int → Int} {F : Int → Int → Bool} (hc : ∀ x y, 0 ≤ c x y ∧ c x y ≤ 2) (hN : 3 * W < N) (hM : 3 * W < M) (hW : 0 < W) (hH : 0 < H) (hf : gAt N W H c F 0 (pathP N W H c F 0) < N) (x : Nat) (hx : (x : Int) < W) :
    (0 ≤ pathP N W H c F x ∧ pathP N W H c F x < H) ∧ (∀ k, x = k + 1 → pathP N W H c F k - 1 ≤ pathP N W H c F x ∧ pathP N W H c F x ≤ pathP N W H c F k + 1) ∧
    (rAt M W H c F x (pathP N W H c F x) ≠ M ∧ rAt M W H c F x (pathP N W H c F x) + chg (pathP N W H c F) x (pathP N W H c F x) = leftV (rleast M W H c F) (rAt M W H c F) c (pathP N W H c F) x) ∧
    ∀ y, 0 ≤ y → y < pathP N W H c F x → (∀ k, x = k + 1 → pathP N W H c F k - 1 ≤ y) → ¬ (rAt M W H c F x y ≠ M ∧ rAt M W H c F x y + chg (pathP N W H c F) x y = leftV (rleast M W H c F) (rAt M W H c F) c (pathP N W H c F) x) := by
  have ok := path_ok hc hN hH hW hf x hx
  cases x with
  | zero =>
    obtain ⟨⟨f1, f2⟩, f3⟩ := rfirst hc hN hM hW hH hf
    refine ⟨⟨ok.1, ok.2.1⟩, fun k hk => by omega, ⟨f1, ?_⟩, fun y y0 y1 _ => ?_⟩
    · show _ + 0 = _
      rw [Int.add_zero]; exact f2
    · have := f3 y y0 y1
      show ¬ (_ ∧ _ + 0 = _)
      rw [Int.add_zero]; exact this
  | succ k =>
    obtain ⟨⟨f1, f2⟩, ⟨f3, f4, f5, f6⟩, f7⟩ := rnext hc hN hM hW hH hf k (by omega)
    refine ⟨⟨ok.1, ok.2.1⟩, fun k' hk => by obtain rfl : k = k' := by omega
                                            exact ⟨f5, f6⟩, ⟨f1, f2⟩, fun y y0 y1 y2 => f7 y y0 (by omega) (y2 k rfl) y1⟩

set_option maxRecDepth 100000 in
set_option maxHeartbeats 4000000 in
theorem rbest_any (W H : Int) (Wn Hn : Nat) (A A' : Option Addr) (n c n' c' : Nat) (p fb : Int → Int) (F : Int → Int → Bool) (w : World) (hA : ArrB w w.heap.size A n p) (hE : chk W H n p = 0) (hF : ArrB w w.heap.size A' n' fb) (hn' : (n' : Int) = W * H) (hFF : ∀ x y, 0 ≤ x → x < W → 0 ≤ y → y < H → inkB W H fb x y = F x y)
    (hW : 1 ≤ W) (hH : 1 ≤ H) (hWn : (Wn : Int) = W) (hHn : (Hn : Int) = H) :
    Calls Try.prog 70 #[.agg #[.int .i64 W, .int .i64 H, .slice A n c], .agg #[.int .i64 W, .int .i64 H, .slice A' n' c']] w
      (New w fun v w' => (rleast 1000000000 W H (cst p W) F = 1000000000 ∧ v = .tuple #[.slice none 0 0, .bool false]) ∨
        (rleast 1000000000 W H (cst p W) F < 1000000000 ∧ ∃ vp, v = .tuple #[vp, .bool true] ∧ w'.ownsRow w.heap.size 3 1 vp Wn ((List.range Wn).map fun j => Value.int .i64 (pathP 1073741824 W H (cst p W) F j)))) := by
  subst hWn
  subst hHn
  obtain ⟨hW1, hW2, hH1, hH2, hnn, -⟩ := chk_ok hE
  have PX := Lib.hid fun (x y : Int) w' hA' x0 x1 (y0 : 0 ≤ y) (y1 : y < Hn) => pixel_any Wn Hn A n c p x y w' hA' hE x0 x1 y0 y1
  have R0 := Lib.hid fun AA m d x w' hA' hF' hx => rest_last Wn Hn Hn A A' AA n c n' c' m d p fb F x w' hA' hE hF' hn' hFF hW rfl hx
  have RS := Lib.hid fun AA d x w' k hA' hF' hk hx hAA => rest_step Wn Hn Hn A A' AA n c n' c' d p fb F x w' hA' hE hF' hn' hFF hW rfl k hk hx hAA
  have hmk := makeL (Wn : Int) (by omega) (by omega)
  rw [Int.toNat_natCast] at hmk
  have RF := Lib.hid fun hf => rfirst (N := 1073741824) (M := 1000000000) (W := Wn) (H := Hn) (c := cst p Wn) (F := F) (cst_bd p Wn) (by omega) (by omega) (by omega) (by omega) hf
  have RN := Lib.hid fun hf (x : Nat) (hx : (x : Int) + 1 < (Wn : Int)) => rnext (N := 1073741824) (M := 1000000000) (W := Wn) (H := Hn) (c := cst p Wn) (F := F) (cst_bd p Wn) (by omega) (by omega) (by omega) (by omega) hf x hx
  have RL := Lib.hid (rleast_eq (N := 1073741824) (M := 1000000000) (W := Wn) (H := Hn) (c := cst p Wn) (F := F) (cst_bd p Wn) (by omega) (by omega) (by omega) (by omega))
  have GB := Lib.hid fun (x y : Int) (x0 : 0 ≤ x) (x1 : x < Wn) (y0 : 0 ≤ y) (y1 : y < Hn) => (by
    have := rcol_bd (M := 1000000000) (W := Wn) (H := Hn) (F := F) (cst_bd p Wn) (by omega) ((Wn : Int) - 1 - x).toNat (by omega) y y0 y1
    exact this : 0 ≤ rAt 1000000000 Wn Hn (cst p Wn) F x y ∧ rAt 1000000000 Wn Hn (cst p Wn) F x y ≤ 1000000000)
  have LT : Hid (∀ k : Nat, (0 ≤ mfold 1000000000 (rAt 1000000000 Wn Hn (cst p Wn) F 0) 0 k ∧ mfold 1000000000 (rAt 1000000000 Wn Hn (cst p Wn) F 0) 0 (k + 1) = min (mfold 1000000000 (rAt 1000000000 Wn Hn (cst p Wn) F 0) 0 k) (rAt 1000000000 Wn Hn (cst p Wn) F 0 k)) ∨ (Hn : Int) < k) := by
    show ∀ _, _
    intro k
    by_cases h : (Hn : Int) < k
    · exact .inr h
    · refine .inl ⟨mfold_ge (by omega) fun i hi => ?_, by rw [mfold, Int.zero_add]⟩
      rw [Int.zero_add]
      exact (GB.out 0 i (by omega) (by omega) (by omega) (by omega)).1
  have RG : Hid (∀ (j : Nat) (x y : Int), x = (Wn : Int) - 1 - j → rcol 1000000000 Wn Hn (cst p Wn) F j y = rAt 1000000000 Wn Hn (cst p Wn) F x y) := by
    show ∀ _, _
    intro j x y hx
    unfold rAt
    rw [show ((Wn : Int) - 1 - x).toNat = j by omega]
  clear hnn hFF hE hn'
  have vW : IntKind.i64.wrap ((Wn : Int) - 1) = (Wn : Int) - 1 := IntWalk.i64_in _ (by omega)
  go_enter Try.func70, Try.ntmps70
  go_wp2_with fail
  have k2 : Blk (((w.alloc (.cells #[.int .i64 Wn, .int .i64 Hn, .slice A n c] 24)).alloc (.cells #[.int .i64 Wn, .int .i64 Hn, .slice A' n' c'] 24)).alloc (.cells (cellsF Wn fun _ => .slice none 0 0) 25)) w.heap.size 24 #[.int .i64 Wn, .int .i64 Hn, .slice A n c] := ((Blk.new _ _ _).alloc _).alloc _
  have k3 : Blk (((w.alloc (.cells #[.int .i64 Wn, .int .i64 Hn, .slice A n c] 24)).alloc (.cells #[.int .i64 Wn, .int .i64 Hn, .slice A' n' c'] 24)).alloc (.cells (cellsF Wn fun _ => .slice none 0 0) 25)) (w.heap.size + 1) 24 #[.int .i64 Wn, .int .i64 Hn, .slice A' n' c'] := (Blk.new' (by simp) _ _).alloc _
  have k6 : Blk (((w.alloc (.cells #[.int .i64 Wn, .int .i64 Hn, .slice A n c] 24)).alloc (.cells #[.int .i64 Wn, .int .i64 Hn, .slice A' n' c'] 24)).alloc (.cells (cellsF Wn fun _ => .slice none 0 0) 25)) (w.heap.size + 1 + 1) 25 (cellsF Wn fun _ => .slice none 0 0) := Blk.new' (by simp) _ _
  have C6 : Cols w.heap.size (((w.alloc (.cells #[.int .i64 Wn, .int .i64 Hn, .slice A n c] 24)).alloc (.cells #[.int .i64 Wn, .int .i64 Hn, .slice A' n' c'] 24)).alloc (.cells (cellsF Wn fun _ => .slice none 0 0) 25)) (w.heap.size + 1 + 1) Wn Hn (rAt 1000000000 Wn Hn (cst p Wn) F) 0 (fun _ => 0) :=
    ⟨Blk.vconv k6 fun i i0 i1 => (if_neg (by omega)).symm, fun i a b => by omega⟩
  have b1 : Below w.heap.size w (((w.alloc (.cells #[.int .i64 Wn, .int .i64 Hn, .slice A n c] 24)).alloc (.cells #[.int .i64 Wn, .int .i64 Hn, .slice A' n' c'] 24)).alloc (.cells (cellsF Wn fun _ => .slice none 0 0) 25)) := by (repeat (first | exact Below.refl _ _ | assumption | refine Below.drew ?_ | refine below_drewN ?_ _ | refine Below.alloc ?_ (by first | omega | (simp; done) | (simp; omega)) _ | refine Below.setCell ?_ (by first | omega | (simp; done) | (simp; omega)) _ | refine below_setRow ?_ (by first | omega | (simp; done) | (simp; omega)) _ ))
  clear k6
  generalize ((w.alloc (.cells #[.int .i64 Wn, .int .i64 Hn, .slice A n c] 24)).alloc (.cells #[.int .i64 Wn, .int .i64 Hn, .slice A' n' c'] 24)).alloc (.cells (cellsF Wn fun _ => .slice none 0 0) 25) = w1 at *
  go_loopw [7] (fun s wr => ∃ (j : Nat) (g : Nat → Nat), j ≤ Wn ∧ s = .int .i64 ((Wn : Int) - 1 - j) ∧ Below w.heap.size w wr ∧ Blk wr w.heap.size 24 #[.int .i64 Wn, .int .i64 Hn, .slice A n c] ∧ Blk wr (w.heap.size + 1) 24 #[.int .i64 Wn, .int .i64 Hn, .slice A' n' c'] ∧ Cols w.heap.size wr (w.heap.size + 1 + 1) Wn Hn (rAt 1000000000 Wn Hn (cst p Wn) F) j g) (fun s _ => (intOf s + 1).toNat)
  case atStart => exact ⟨0, fun _ => 0, by omega, by simp, b1, k2, k3, C6⟩
  case round =>
    obtain ⟨j, g, hj, rfl, b2, q2, q3, hC⟩ := hrel
    clear b1 k2 k3 C6
    obtain ⟨p1, p2, p3⟩ := q2.cells3
    obtain ⟨r1, r2, r3⟩ := q3.cells3
    by_cases hlt : (j : Int) < Wn
    · obtain ⟨x, hx⟩ : ∃ x : Nat, (x : Int) = (Wn : Int) - 1 - j := ⟨((Wn : Int) - 1 - j).toNat, by omega⟩
      rw [← hx]
      have f6 := hC.row.frozen x
      have c6 : ∃ v, wr.cell? ⟨w.heap.size + 1 + 1, x, none⟩ = some v := ⟨_, by rw [hC.row.cell, cellsF_get (by omega)]⟩
      obtain ⟨v6, c6⟩ := c6
      have HX := Lib.hid hx
      have xl : (x : Int) < (Wn : Int) := by omega
      have vx : IntKind.i64.wrap ((x : Int) - 1) = (x : Int) - 1 := IntWalk.i64_in _ (by omega)
      by_cases j0 : j = 0
      · have dx : decide ((x : Int) < (Wn : Int) - 1) = false := decide_eq_false (by omega)
        have R0x := Lib.hid fun AA m d w' hA' hF' => R0.out AA m d x w' hA' hF' (by omega)
        clear hx
        go_wp2_with fail
        refine (R0x.out _ _ _ _ (hA.to b2) (hF.to b2)).mono ?_
        rintro e w3 ⟨_, rfl, ⟨gn, rfl, hgn, kn⟩, hb3⟩
        have b3 := below_call b2 b2.size hb3
        have q2' := q2.below' hb3
        have q3' := q3.below' hb3
        have hC' := hC.below hb3
        have z2 := b2.size
        have kn' := kn.i64conv fun y _ _ => RG.out 0 (x : Int) y (by have := HX.out; omega)
        have hS := hC'.set x gn HX.out kn' (by omega)
        have f7 := hC'.row.frozen x
        have c8 : ∃ v, w3.cell? ⟨w.heap.size + 1 + 1, x, none⟩ = some v := ⟨_, by rw [hC'.row.cell, cellsF_get (by omega)]⟩
        obtain ⟨v8, c8⟩ := c8
        clear b2 q2 q3 hC hb3 hC' kn kn' c6 f6 p1 p2 p3 r1 r2 r3
        go_wp2_with fail
        go_roundw
        case rel => exact ⟨_, _, by omega, by rw [show (Wn : Int) - 1 - ((j + 1 : Nat) : Int) = (x : Int) - 1 by have := HX.out; omega], b3.setCell (by show w.heap.size ≤ w.heap.size + 1 + 1; omega) _, q2'.far (p := ⟨w.heap.size + 1 + 1, x, none⟩) (by show w.heap.size ≠ w.heap.size + 1 + 1; omega) _, q3'.far (p := ⟨w.heap.size + 1 + 1, x, none⟩) (by show w.heap.size + 1 ≠ w.heap.size + 1 + 1; omega) _, hS⟩
        case measure => first | (simp [intOf]; done) | (simp [intOf]; omega)
      · obtain ⟨k, rfl⟩ : ∃ k, j = k + 1 := ⟨j - 1, by omega⟩
        have dx : decide ((x : Int) < (Wn : Int) - 1) = true := decide_eq_true (by omega)
        obtain ⟨x1, hx1⟩ : ∃ x1 : Nat, (x1 : Int) = (x : Int) + 1 := ⟨x + 1, by omega⟩
        have vx1 : IntKind.i64.wrap ((x : Int) + 1) = (x1 : Int) := by rw [← hx1]; exact IntWalk.i64_in _ (by omega)
        have c7 := hC.at_ x1 (by omega) (by omega)
        have x1l : (x1 : Int) < (Wn : Int) := by omega
        have kx := (hC.col x1 (by omega) (by omega)).2
        have RSx := Lib.hid fun AA d w' hA' hF' hAA => RS.out AA d (x : Int) w' k hA' hF' (by omega) (by omega) hAA
        have kx2 := kx.i64conv fun y _ _ => (RG.out k (x1 : Int) y (by omega)).symm
        clear hx hx1 kx
        go_wp2_with fail
        refine (RSx.out _ _ _ (hA.to b2) (hF.to b2) (Blk.arrI kx2 kx2.lt)).mono ?_
        rintro e w3 ⟨_, rfl, ⟨gn, rfl, hgn, kn⟩, hb3⟩
        clear c7 kx2
        have b3 := below_call b2 b2.size hb3
        have q2' := q2.below' hb3
        have q3' := q3.below' hb3
        have hC' := hC.below hb3
        have z2 := b2.size
        have kn' := kn.i64conv fun y _ _ => RG.out (k + 1) (x : Int) y (by have := HX.out; omega)
        have hS := hC'.set x gn HX.out kn' (by omega)
        have f7 := hC'.row.frozen x
        have c8 : ∃ v, w3.cell? ⟨w.heap.size + 1 + 1, x, none⟩ = some v := ⟨_, by rw [hC'.row.cell, cellsF_get (by omega)]⟩
        obtain ⟨v8, c8⟩ := c8
        clear b2 q2 q3 hC hb3 hC' kn kn' c6 f6 p1 p2 p3 r1 r2 r3
        go_wp2_with fail
        go_roundw
        case rel => exact ⟨_, _, by omega, by rw [show (Wn : Int) - 1 - ((k + 1 + 1 : Nat) : Int) = (x : Int) - 1 by have := HX.out; omega], b3.setCell (by show w.heap.size ≤ w.heap.size + 1 + 1; omega) _, q2'.far (p := ⟨w.heap.size + 1 + 1, x, none⟩) (by show w.heap.size ≠ w.heap.size + 1 + 1; omega) _, q3'.far (p := ⟨w.heap.size + 1 + 1, x, none⟩) (by show w.heap.size + 1 ≠ w.heap.size + 1 + 1; omega) _, hS⟩
        case measure => first | (simp [intOf]; done) | (simp [intOf]; omega)
    · obtain rfl : Wn = j := by omega
      have c0 := hC.at_ 0 (by omega) (by omega)
      have k0 := (hC.col 0 (by omega) (by omega)).2
      go_wp2_with fail
      go_loopw [9, 10] (fun l s w' => ∃ y : Nat, y ≤ Hn ∧ s = .int .i64 y ∧ l = .int .i64 (mfold 1000000000 (rAt 1000000000 Wn Hn (cst p Wn) F 0) 0 y) ∧ w' = wr) (fun _ s _ => Hn - (intOf s).toNat)
      case atStart => exact ⟨0, by omega, rfl, rfl, rfl⟩
      case round =>
        obtain ⟨y, hy, rfl, rfl, rfl⟩ := hrel
        have LTy := Lib.hid (LT.out y)
        have ml := mfold_le 1000000000 (rAt 1000000000 Wn Hn (cst p Wn) F 0) 0 y
        by_cases hlt2 : (y : Int) < Hn
        · have cy := k0.i64at (i := (y : Int)) (by omega) hlt2
          rw [Int.toNat_natCast] at cy
          have gy := GB.out 0 y (by omega) (by omega) (by omega) hlt2
          obtain ⟨gy1, gy2⟩ := gy
          have h1 := (LTy.out).resolve_right (by omega)
          obtain ⟨h1, h2⟩ := h1
          rw [min_if] at h2
          have H2 := Lib.hid h2
          clear h2 LTy
          generalize mfold 1000000000 (rAt 1000000000 Wn Hn (cst p Wn) F 0) 0 y = S at *
          generalize rAt 1000000000 Wn Hn (cst p Wn) F 0 y = R at *
          go_wp2_with fail
          go_roundw
          case rel => exact ⟨y + 1, by omega, by go_num, by rw [H2.out] <;> first | rfl | rw [min_if], by first | rfl | trivial⟩
          case measure => simp [intOf]; omega
        · obtain rfl : Hn = y := by omega
          have RL2 := RL.out
          unfold rleast at RL2
          rw [Int.toNat_natCast] at RL2
          obtain ⟨L, hL⟩ : ∃ L, mfold 1000000000 (rAt 1000000000 Wn Hn (cst p Wn) F 0) 0 Hn = L := ⟨_, rfl⟩
          have HL : Hid (rleast 1000000000 Wn Hn (cst p Wn) F = L) := by show _ = _; unfold rleast; rw [Int.toNat_natCast]; exact hL
          rw [hL] at ml RL2 ⊢
          clear hL LTy
          by_cases hM : L = 1000000000
          · have bM : (L == 1000000000) = true := by simp [hM]
            have HM := Lib.hid hM
            clear hM RL2
            go_wp2_with fail
            refine bodyPost_ret (results_tmp2 rfl _ _ _) rfl ?_
            exact ⟨_, rfl, .inl ⟨by rw [HL.out, HM.out], by first | rfl | trivial⟩, b2⟩
          · have bM : (L == 1000000000) = false := by simp [hM]
            have hgf : gAt 1073741824 Wn Hn (cst p Wn) F 0 (pathP 1073741824 Wn Hn (cst p Wn) F 0) < 1073741824 := by omega
            have TE := Lib.hid fun (x : Nat) (hx : (x : Int) < Wn) => rtest (N := 1073741824) (M := 1000000000) (W := Wn) (H := Hn) (c := cst p Wn) (F := F) (cst_bd p Wn) (by omega) (by omega) (by omega) (by omega) hgf x hx
            rw [HL.out] at TE
            have PO := Lib.hid fun (x : Nat) (hx : (x : Int) < Wn) => path_ok (N := 1073741824) (W := Wn) (H := Hn) (c := cst p Wn) (F := F) (cst_bd p Wn) (by omega) (by omega) (by omega) hgf x hx
            have HLM : Hid (L < 1000000000) := by show _ < _; omega
            clear RF RN RL RL2 hgf
            obtain ⟨P, hP⟩ : ∃ P, P = pathP 1073741824 Wn Hn (cst p Wn) F := ⟨_, rfl⟩
            rw [← hP] at TE
            have HP := Lib.hid hP
            obtain ⟨i0, hi0, hz0, hz1, hz2⟩ := info_parts infoInt
            have HLL : Hid (0 ≤ L ∧ L ≤ 1000000000) := by
              show _ ∧ _
              have := HLM.out
              have := (LT.out Hn).resolve_right (by omega)
              rw [← HL.out]; unfold rleast; rw [Int.toNat_natCast]
              have h3 := mfold_le 1000000000 (rAt 1000000000 Wn Hn (cst p Wn) F 0) 0 Hn
              exact ⟨this.1, h3⟩
            clear hP LT PO
            have z2 := b2.size
            go_wp2_with fail
            generalize wr = wB at *
            go_loopw [11, 12, 13] (fun pv lv s w5 => ∃ x : Nat, x ≤ Wn ∧ s = .int .i64 x ∧ lv = .int .i64 (leftV L (rAt 1000000000 Wn Hn (cst p Wn) F) (cst p Wn) P x) ∧ Below wB.heap.size wB w5 ∧ w5.ownsRow wB.heap.size 3 1 pv x ((List.range x).map fun j => Value.int .i64 (P j))) (fun _ _ s _ => Wn - (intOf s).toNat)
            case atStart => exact ⟨0, by omega, rfl, rfl, Below.refl _ _, World.ownsRow_nil _ _ _ _⟩
            case round =>
              obtain ⟨x, hx, rfl, rfl, b5, own⟩ := hrel
              obtain ⟨Ap, cp, rfl, -, hap⟩ := own_arr own
              clear p1 p2 p3
              obtain ⟨p1, p2, p3⟩ := (q2.below' b5).cells3
              by_cases xW : (x : Int) < Wn
              · have hT := TE.out x xW
                obtain ⟨⟨px0, px1⟩, px2, tx3, tx4⟩ := hT
                have lfb : -2 ≤ leftV L (rAt 1000000000 Wn Hn (cst p Wn) F) (cst p Wn) P x ∧ leftV L (rAt 1000000000 Wn Hn (cst p Wn) F) (cst p Wn) P x ≤ 1000000000 := by
                  cases x with
                  | zero => have := HLL.out; show -2 ≤ L ∧ L ≤ 1000000000; omega
                  | succ k =>
                    have h1 := (TE.out k (by omega)).1
                    have h2 := GB.out k (P k) (by omega) (by omega) h1.1 h1.2
                    have h3 := cst_bd p Wn k (P k)
                    show -2 ≤ rAt 1000000000 Wn Hn (cst p Wn) F k (P k) - cst p Wn k (P k) ∧ rAt 1000000000 Wn Hn (cst p Wn) F k (P k) - cst p Wn k (P k) ≤ 1000000000
                    omega
                obtain ⟨lfb1, lfb2⟩ := lfb
                generalize hpx : P x = Px at *
                have HPX := Lib.hid hpx
                have TX3 := Lib.hid tx3
                have TX4 := Lib.hid tx4
                generalize hlf : leftV L (rAt 1000000000 Wn Hn (cst p Wn) F) (cst p Wn) P x = lf at *
                have call := (b5.cell (p := ⟨w.heap.size + 1 + 1, x, none⟩) hC.row.lt).trans (hC.at_ x (by omega) (by omega))
                have kcol := ((hC.col x (by omega) (by omega)).2).below' b5
                have z5 := b5.size
                clear tx3 tx4 hpx hlf
                go_wp2_with fail
                generalize wr = w5 at *
                go_loopw [11, 12, 14] (fun pv lv s w6 => ∃ y : Nat, (y : Int) ≤ Px ∧ s = .int .i64 y ∧ pv = .slice Ap x cp ∧ lv = .int .i64 lf ∧ w5 = w6) (fun _ _ s _ => Hn - (intOf s).toNat)
                case atStart => exact ⟨0, by omega, rfl, rfl, rfl, rfl⟩
                case round =>
                  obtain ⟨y, hy, rfl, rfl, rfl, rfl⟩ := hrel
                  have yH : (y : Int) < (Hn : Int) := by omega
                  have ccol := kcol.i64at (i := (y : Int)) (by omega) yH
                  rw [Int.toNat_natCast] at ccol
                  obtain ⟨gb1, gb2⟩ := GB.out x y (by omega) xW (by omega) yH
                  have CH0 : Hid (x = 0 → ∀ y, chg P x y = 0) := by show _ → _; intro h y; subst h; rfl
                  have CHS : Hid (∀ k, x = k + 1 → ∀ y, chg P x y = if y = P k then 0 else 1) := by show ∀ _, _; intro k h y; subst h; rfl
                  by_cases yP : (y : Int) = Px
                  · subst yP
                    by_cases x0 : x = 0
                    · have dx : decide ((0 : Int) < (x : Int)) = false := decide_eq_false (by omega)
                      have dx' : decide (0 < x) = false := decide_eq_false (by omega)
                      have hch : chg P x (y : Int) = 0 := CH0.out x0 _
                      obtain ⟨f1, f2⟩ := TX3.out
                      rw [hch] at f2
                      clear hch x0
                      have cb := cst_bd p Wn x (y : Int)
                      have LV2 : Hid (leftV L (rAt 1000000000 Wn Hn (cst p Wn) F) (cst p Wn) P (x + 1) = rAt 1000000000 Wn Hn (cst p Wn) F x (y : Int) - cst p Wn x (y : Int)) := by show _ = _; rw [← HPX.out]; rfl
                      have PXx := Lib.hid fun w' hA' => PX.out x (y : Int) w' hA' (by omega) xW (by omega) (by omega)
                      generalize rAt 1000000000 Wn Hn (cst p Wn) F x (y : Int) = g1 at *
                      generalize cst p Wn x (y : Int) = cc at *
                      obtain ⟨cb1, cb2⟩ := cb
                      have ew1 : IntKind.i64.wrap g1 = g1 := IntWalk.i64_in _ (by omega)
                      have ew2 : IntKind.i64.wrap (g1 + 0) = g1 + 0 := IntWalk.i64_in _ (by omega)
                      have ew3 : IntKind.i64.wrap (lf - 0) = g1 := by rw [← f2]; rw [show g1 + 0 - 0 = g1 by omega]; exact ew1
                      have ew4 : IntKind.i64.wrap (g1 - cc) = g1 - cc := IntWalk.i64_in _ (by omega)
                      have ew5 : IntKind.i64.wrap lf = g1 := by simpa using ew3
                      have bM : (g1 != 1000000000) = true := by simp [f1]
                      have bl : (g1 + 0 == lf) = true := by simp [f2]
                      have bl' : (g1 == lf) = (true) := by simpa using bl
                      have F2 := Lib.hid f2
                      clear f1 f2
                      go_wp2_with (at_builtin; refine wpList_append_own _ rfl (.tmp 112) (.tmp 114) 25 rfl wB.heap.size 3 i0 (.int .i64 0) 1 8 Try.underlying25 hi0 hz0 hz1 hz2 rfl (by decide) _ _ _ rfl (own.alloc _) ⟨w5.heap.size, 0, none⟩ 1 1 [.int .i64 (y : Int)] rfl rfl ?c1 ?c2 ?c3 ?c4 ?c5 ?_)
                      try (case c1 => exact cell_one_new _ _ _)
                      try (case c2 => simp [Value.oneCell'])
                      try (case c3 => unfold maxLen; omega)
                      try (case c4 => omega)
                      try (case c5 => first | omega | (simp; done) | (simp; omega))
                      intro v' w6 own6 hg6 _
                      have b6 : Below wB.heap.size wB w6 := (b5.alloc b5.size (.cells #[.int .i64 (y : Int)] 3)).grown hg6 (by simp; omega) (fun k hk => (own_ge own hk).1)
                      have ln6 := own_len own6
                      clear p1 p2 p3 call ccol
                      obtain ⟨p1, p2, p3⟩ := (q2.below' b6).cells3
                      go_wp2_with fail
                      refine (PXx.out _ (hA.to (below_call b2 b2.size b6))).mono ?_
                      rintro e w7 ⟨rfl, hb7⟩
                      have b7 := below_call b6 b6.size hb7
                      have own7 := own_below own6 hb7
                      clear p1 p2 p3
                      obtain ⟨p1, p2, p3⟩ := (q2.below' b7).cells3
                      go_wp2_with fail
                      go_roundw
                      case rel => exact ⟨x + 1, by omega, by go_num, by rw [LV2.out], b7, by rw [range_snoc, HPX.out]; exact own7⟩
                      case measure => simp [intOf]; omega
                    · obtain ⟨k, hk⟩ : ∃ k, x = k + 1 := ⟨x - 1, by omega⟩
                      obtain ⟨gp, cp', eP⟩ := own_some own (by omega)
                      cases eP
                      obtain ⟨Ap2, cp2, eP2, hapI⟩ := own_arrI own
                      cases eP2
                      have cpk := (ArrI.at_ hapI (i := (k : Int)) (by omega) (by omega))
                      obtain ⟨bb, oo, ee, -, cpk⟩ := cpk
                      cases ee
                      rw [Nat.zero_add, Int.toNat_natCast] at cpk
                      obtain ⟨pk0, pk1⟩ := (TE.out k (by omega)).1
                      obtain ⟨pd1, pd2⟩ := px2 k hk
                      have CHK := Lib.hid (CHS.out k hk)
                      generalize hpk : P k = pk at *
                      have HPK := Lib.hid hpk
                      have vk : IntKind.i64.wrap ((x : Int) - 1) = (k : Int) := by rw [show (x : Int) - 1 = k by omega]; exact IntWalk.i64_in _ (by omega)
                      have vd : IntKind.i64.wrap ((y : Int) - pk) = (y : Int) - pk := IntWalk.i64_in _ (by omega)
                      have kl : (k : Int) < (x : Int) := by omega
                      have k0 : (0 : Int) ≤ (k : Int) := by omega
                      have dx : decide ((0 : Int) < (x : Int)) = true := decide_eq_true (by omega)
                      have dx' : decide (0 < x) = true := decide_eq_true (by omega)
                      have xp : 0 < x := by omega
                      have NTK := Lib.hid (fun k' (h : x = k' + 1) => (by omega : k = k'))
                      clear x0 hpk
                      by_cases hd : (y : Int) = pk
                      · have CH0 := Lib.hid (CHK.out (y : Int))
                        rw [if_pos hd] at CH0
                        subst hd
                        clear vd CHK
                        have hch : chg P x (y : Int) = 0 := CH0.out
                        obtain ⟨f1, f2⟩ := TX3.out
                        rw [hch] at f2
                        clear hch hk
                        have cb := cst_bd p Wn x (y : Int)
                        have LV2 : Hid (leftV L (rAt 1000000000 Wn Hn (cst p Wn) F) (cst p Wn) P (x + 1) = rAt 1000000000 Wn Hn (cst p Wn) F x (y : Int) - cst p Wn x (y : Int)) := by show _ = _; rw [← HPX.out]; rfl
                        have PXx := Lib.hid fun w' hA' => PX.out x (y : Int) w' hA' (by omega) xW (by omega) (by omega)
                        generalize rAt 1000000000 Wn Hn (cst p Wn) F x (y : Int) = g1 at *
                        generalize cst p Wn x (y : Int) = cc at *
                        obtain ⟨cb1, cb2⟩ := cb
                        have ew1 : IntKind.i64.wrap g1 = g1 := IntWalk.i64_in _ (by omega)
                        have ew2 : IntKind.i64.wrap (g1 + 0) = g1 + 0 := IntWalk.i64_in _ (by omega)
                        have ew3 : IntKind.i64.wrap (lf - 0) = g1 := by rw [← f2]; rw [show g1 + 0 - 0 = g1 by omega]; exact ew1
                        have ew4 : IntKind.i64.wrap (g1 - cc) = g1 - cc := IntWalk.i64_in _ (by omega)
                        have ew5 : IntKind.i64.wrap lf = g1 := by simpa using ew3
                        have bM : (g1 != 1000000000) = true := by simp [f1]
                        have bl : (g1 + 0 == lf) = true := by simp [f2]
                        have bl' : (g1 == lf) = (true) := by simpa using bl
                        have F2 := Lib.hid f2
                        clear f1 f2
                        go_wp2_with (at_builtin; refine wpList_append_own _ rfl (.tmp 112) (.tmp 114) 25 rfl wB.heap.size 3 i0 (.int .i64 0) 1 8 Try.underlying25 hi0 hz0 hz1 hz2 rfl (by decide) _ _ _ rfl (own.alloc _) ⟨w5.heap.size, 0, none⟩ 1 1 [.int .i64 (y : Int)] rfl rfl ?c1 ?c2 ?c3 ?c4 ?c5 ?_)
                        try (case c1 => exact cell_one_new _ _ _)
                        try (case c2 => simp [Value.oneCell'])
                        try (case c3 => unfold maxLen; omega)
                        try (case c4 => omega)
                        try (case c5 => first | omega | (simp; done) | (simp; omega))
                        intro v' w6 own6 hg6 _
                        have b6 : Below wB.heap.size wB w6 := (b5.alloc b5.size (.cells #[.int .i64 (y : Int)] 3)).grown hg6 (by simp; omega) (fun k hk => (own_ge own hk).1)
                        have ln6 := own_len own6
                        clear p1 p2 p3 call ccol
                        obtain ⟨p1, p2, p3⟩ := (q2.below' b6).cells3
                        go_wp2_with fail
                        refine (PXx.out _ (hA.to (below_call b2 b2.size b6))).mono ?_
                        rintro e w7 ⟨rfl, hb7⟩
                        have b7 := below_call b6 b6.size hb7
                        have own7 := own_below own6 hb7
                        clear p1 p2 p3
                        obtain ⟨p1, p2, p3⟩ := (q2.below' b7).cells3
                        go_wp2_with fail
                        go_roundw
                        case rel => exact ⟨x + 1, by omega, by go_num, by rw [LV2.out], b7, by rw [range_snoc, HPX.out]; exact own7⟩
                        case measure => simp [intOf]; omega
                      · have bd : ((y : Int) - pk != 0) = true := by simp; omega
                        have hm : ¬ (y : Int) - pk < -1 := by omega
                        have hm2 : ¬ (1 : Int) < (y : Int) - pk := by omega
                        have hch : chg P x (y : Int) = 1 := by rw [CHK.out, if_neg hd]
                        obtain ⟨f1, f2⟩ := TX3.out
                        rw [hch] at f2
                        clear hch hk
                        have cb := cst_bd p Wn x (y : Int)
                        have LV2 : Hid (leftV L (rAt 1000000000 Wn Hn (cst p Wn) F) (cst p Wn) P (x + 1) = rAt 1000000000 Wn Hn (cst p Wn) F x (y : Int) - cst p Wn x (y : Int)) := by show _ = _; rw [← HPX.out]; rfl
                        have PXx := Lib.hid fun w' hA' => PX.out x (y : Int) w' hA' (by omega) xW (by omega) (by omega)
                        generalize rAt 1000000000 Wn Hn (cst p Wn) F x (y : Int) = g1 at *
                        generalize cst p Wn x (y : Int) = cc at *
                        obtain ⟨cb1, cb2⟩ := cb
                        have ew1 : IntKind.i64.wrap g1 = g1 := IntWalk.i64_in _ (by omega)
                        have ew2 : IntKind.i64.wrap (g1 + 1) = g1 + 1 := IntWalk.i64_in _ (by omega)
                        have ew3 : IntKind.i64.wrap (lf - 1) = g1 := by rw [← f2]; rw [show g1 + 1 - 1 = g1 by omega]; exact ew1
                        have ew4 : IntKind.i64.wrap (g1 - cc) = g1 - cc := IntWalk.i64_in _ (by omega)
                        have ew5 : IntKind.i64.wrap lf = lf := IntWalk.i64_in _ (by omega)
                        have bM : (g1 != 1000000000) = true := by simp [f1]
                        have bl : (g1 + 1 == lf) = true := by simp [f2]
                        have bl' : (g1 == lf) = ((g1 == lf)) := by rfl
                        have F2 := Lib.hid f2
                        clear f1 f2
                        go_wp2_with (at_builtin; refine wpList_append_own _ rfl (.tmp 112) (.tmp 114) 25 rfl wB.heap.size 3 i0 (.int .i64 0) 1 8 Try.underlying25 hi0 hz0 hz1 hz2 rfl (by decide) _ _ _ rfl (own.alloc _) ⟨w5.heap.size, 0, none⟩ 1 1 [.int .i64 (y : Int)] rfl rfl ?c1 ?c2 ?c3 ?c4 ?c5 ?_)
                        try (case c1 => exact cell_one_new _ _ _)
                        try (case c2 => simp [Value.oneCell'])
                        try (case c3 => unfold maxLen; omega)
                        try (case c4 => omega)
                        try (case c5 => first | omega | (simp; done) | (simp; omega))
                        intro v' w6 own6 hg6 _
                        have b6 : Below wB.heap.size wB w6 := (b5.alloc b5.size (.cells #[.int .i64 (y : Int)] 3)).grown hg6 (by simp; omega) (fun k hk => (own_ge own hk).1)
                        have ln6 := own_len own6
                        clear p1 p2 p3 call ccol
                        obtain ⟨p1, p2, p3⟩ := (q2.below' b6).cells3
                        go_wp2_with fail
                        refine (PXx.out _ (hA.to (below_call b2 b2.size b6))).mono ?_
                        rintro e w7 ⟨rfl, hb7⟩
                        have b7 := below_call b6 b6.size hb7
                        have own7 := own_below own6 hb7
                        clear p1 p2 p3
                        obtain ⟨p1, p2, p3⟩ := (q2.below' b7).cells3
                        go_wp2_with fail
                        go_roundw
                        case rel => exact ⟨x + 1, by omega, by go_num, by rw [LV2.out], b7, by rw [range_snoc, HPX.out]; exact own7⟩
                        case measure => simp [intOf]; omega
                  · have yP2 : (y : Int) < Px := by omega
                    by_cases x0 : x = 0
                    · have dx : decide ((0 : Int) < (x : Int)) = false := decide_eq_false (by omega)
                      have dx' : decide (0 < x) = false := decide_eq_false (by omega)
                      have hch : chg P x y = 0 := CH0.out x0 _
                      have nt := (TX4.out y (by omega) (by omega) (by intro k' hk'; first | omega | (have := NTK.out k' hk'; subst this; rw [HPK.out]; omega)))
                      rw [hch] at nt
                      clear hch x0
                      generalize rAt 1000000000 Wn Hn (cst p Wn) F x y = g1 at *
                      have ew1 : IntKind.i64.wrap g1 = g1 := IntWalk.i64_in _ (by omega)
                      have ew2 : IntKind.i64.wrap (g1 + 0) = g1 + 0 := IntWalk.i64_in _ (by omega)
                      by_cases hgM : g1 = 1000000000
                      · have bM : (g1 != 1000000000) = false := by simp [hgM]
                        have HGM := Lib.hid hgM
                        clear hgM nt
                        go_wp2_with fail
                        go_roundw
                        case rel => exact ⟨y + 1, by omega, by go_num, rfl, rfl, by first | rfl | trivial⟩
                        case measure => simp [intOf]; omega
                      · have bM : (g1 != 1000000000) = true := by simp [hgM]
                        have bl : (g1 + 0 == lf) = false := by have h0 : ¬ (g1 + 0 = lf) := fun h => nt ⟨hgM, h⟩; simpa using h0
                        have bl' : (g1 == lf) = (false) := by simpa using bl
                        have HGM := Lib.hid hgM
                        clear hgM nt
                        go_wp2_with fail
                        go_roundw
                        case rel => exact ⟨y + 1, by omega, by go_num, rfl, rfl, by first | rfl | trivial⟩
                        case measure => simp [intOf]; omega
                    · obtain ⟨k, hk⟩ : ∃ k, x = k + 1 := ⟨x - 1, by omega⟩
                      obtain ⟨gp, cp', eP⟩ := own_some own (by omega)
                      cases eP
                      obtain ⟨Ap2, cp2, eP2, hapI⟩ := own_arrI own
                      cases eP2
                      have cpk := (ArrI.at_ hapI (i := (k : Int)) (by omega) (by omega))
                      obtain ⟨bb, oo, ee, -, cpk⟩ := cpk
                      cases ee
                      rw [Nat.zero_add, Int.toNat_natCast] at cpk
                      obtain ⟨pk0, pk1⟩ := (TE.out k (by omega)).1
                      obtain ⟨pd1, pd2⟩ := px2 k hk
                      have CHK := Lib.hid (CHS.out k hk)
                      generalize hpk : P k = pk at *
                      have HPK := Lib.hid hpk
                      have vk : IntKind.i64.wrap ((x : Int) - 1) = (k : Int) := by rw [show (x : Int) - 1 = k by omega]; exact IntWalk.i64_in _ (by omega)
                      have vd : IntKind.i64.wrap ((y : Int) - pk) = (y : Int) - pk := IntWalk.i64_in _ (by omega)
                      have kl : (k : Int) < (x : Int) := by omega
                      have k0 : (0 : Int) ≤ (k : Int) := by omega
                      have dx : decide ((0 : Int) < (x : Int)) = true := decide_eq_true (by omega)
                      have dx' : decide (0 < x) = true := decide_eq_true (by omega)
                      have xp : 0 < x := by omega
                      have NTK := Lib.hid (fun k' (h : x = k' + 1) => (by omega : k = k'))
                      clear x0 hpk
                      by_cases hd : (y : Int) = pk
                      · have CH0 := Lib.hid (CHK.out (y : Int))
                        rw [if_pos hd] at CH0
                        subst hd
                        clear vd CHK
                        have hch : chg P x y = 0 := CH0.out
                        have nt := (TX4.out y (by omega) (by omega) (by intro k' hk'; first | omega | (have := NTK.out k' hk'; subst this; rw [HPK.out]; omega)))
                        rw [hch] at nt
                        clear hch hk
                        generalize rAt 1000000000 Wn Hn (cst p Wn) F x y = g1 at *
                        have ew1 : IntKind.i64.wrap g1 = g1 := IntWalk.i64_in _ (by omega)
                        have ew2 : IntKind.i64.wrap (g1 + 0) = g1 + 0 := IntWalk.i64_in _ (by omega)
                        by_cases hgM : g1 = 1000000000
                        · have bM : (g1 != 1000000000) = false := by simp [hgM]
                          have HGM := Lib.hid hgM
                          clear hgM nt
                          go_wp2_with fail
                          go_roundw
                          case rel => exact ⟨y + 1, by omega, by go_num, rfl, rfl, by first | rfl | trivial⟩
                          case measure => simp [intOf]; omega
                        · have bM : (g1 != 1000000000) = true := by simp [hgM]
                          have bl : (g1 + 0 == lf) = false := by have h0 : ¬ (g1 + 0 = lf) := fun h => nt ⟨hgM, h⟩; simpa using h0
                          have bl' : (g1 == lf) = (false) := by simpa using bl
                          have HGM := Lib.hid hgM
                          clear hgM nt
                          go_wp2_with fail
                          go_roundw
                          case rel => exact ⟨y + 1, by omega, by go_num, rfl, rfl, by first | rfl | trivial⟩
                          case measure => simp [intOf]; omega
                      · have bd : ((y : Int) - pk != 0) = true := by simp; omega
                        by_cases hm : (y : Int) - pk < -1
                        · clear hd bd
                          go_wp2_with fail
                          go_roundw
                          case rel => exact ⟨y + 1, by omega, by go_num, rfl, rfl, by first | rfl | trivial⟩
                          case measure => simp [intOf]; omega
                        · have hm2 : ¬ (1 : Int) < (y : Int) - pk := by omega
                          have hch : chg P x y = 1 := by rw [CHK.out, if_neg hd]
                          have nt := (TX4.out y (by omega) (by omega) (by intro k' hk'; first | omega | (have := NTK.out k' hk'; subst this; rw [HPK.out]; omega)))
                          rw [hch] at nt
                          clear hch hk
                          generalize rAt 1000000000 Wn Hn (cst p Wn) F x y = g1 at *
                          have ew1 : IntKind.i64.wrap g1 = g1 := IntWalk.i64_in _ (by omega)
                          have ew2 : IntKind.i64.wrap (g1 + 1) = g1 + 1 := IntWalk.i64_in _ (by omega)
                          by_cases hgM : g1 = 1000000000
                          · have bM : (g1 != 1000000000) = false := by simp [hgM]
                            have HGM := Lib.hid hgM
                            clear hgM nt
                            go_wp2_with fail
                            go_roundw
                            case rel => exact ⟨y + 1, by omega, by go_num, rfl, rfl, by first | rfl | trivial⟩
                            case measure => simp [intOf]; omega
                          · have bM : (g1 != 1000000000) = true := by simp [hgM]
                            have bl : (g1 + 1 == lf) = false := by have h0 : ¬ (g1 + 1 = lf) := fun h => nt ⟨hgM, h⟩; simpa using h0
                            have bl' : (g1 == lf) = ((g1 == lf)) := by rfl
                            have HGM := Lib.hid hgM
                            clear hgM nt
                            go_wp2_with fail
                            go_roundw
                            case rel => exact ⟨y + 1, by omega, by go_num, rfl, rfl, by first | rfl | trivial⟩
                            case measure => simp [intOf]; omega
              · obtain rfl : Wn = x := by omega
                go_wp2_with fail
                refine bodyPost_ret (results_tmp2 rfl _ _ _) rfl ?_
                exact ⟨_, rfl, .inr ⟨by rw [HL.out]; exact HLM.out, _, rfl, by rw [← HP.out]; exact own_base own z2⟩, below_call b2 b2.size b5⟩
end Go.Proofs.Ytdimlpcbbkokiaa
