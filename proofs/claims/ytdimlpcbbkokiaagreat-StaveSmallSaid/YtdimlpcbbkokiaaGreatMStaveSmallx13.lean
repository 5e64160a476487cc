/- Texts of mine in build order: T23, S9, T24, T26. Conditions: each theorem's own. -/
import Derived.Test.YtdimlpcbbkokiaaGreatMStaveSmallx12
import Derived.Deep.CutBlock
/- Walk: the reference's cheapest path (custosref03.Best), its table of costs. -/
namespace Go.Proofs.YtdimlpcbbkokiaaGreat
open Go.RowKit Go.Shelf
set_option linter.unusedVariables false
attribute [local go_sem] Oper.semAt_some

theorem infoCol : (Tryz.prog.info? 37).map (fun i => (i.zero, i.size, i.bytes)) = some (some (.slice none 0 0), 1, 24) := by kernel_rfl
theorem makeL (n : Int) (h0 : 0 ≤ n) (h : n ≤ 1000000000) (w : World) : (Instr.makeSlice 25 (.int .i64 n) (.int .i64 n)).run Tryz.prog w =
    .ok (.slice (some ⟨w.heap.size, 0, none⟩) n.toNat n.toNat) (w.alloc (.cells (cellsF n.toNat (fun _ => .slice none 0 0)) 37)) := by
  obtain ⟨i, hi, hz, hs, hb⟩ := info_parts infoCol
  have := run_make (P := Tryz.prog) w 25 37 i _ Tryz.underlying25 hi hz .i64 .i64 n n h0 (Int.le_refl _) (by rw [hb]; omega) (by omega)
  rw [this, hs]
  have e : madeCells (Value.slice none 0 0).cells (n.toNat * 1) = cellsF n.toNat (fun _ => .slice none 0 0) := by
    rw [← replicate_cellsF]
    apply Array.ext_getElem?
    intro j
    simp only [madeCells, Value.cells, Nat.mul_one]
    by_cases hj : j < n.toNat <;> simp [hj, Nat.mod_one]
  rw [e]
theorem Blk.vconv {w : World} {g t n : Nat} {f f' : Int → Value} (h : Blk w g t (cellsF n f)) (he : ∀ i : Int, 0 ≤ i → i < n → f i = f' i) : Blk w g t (cellsF n f') := cellsF_congr he ▸ h
/-- the columns from W - j on are reckoned: slices over blocks of numbers of their own -/
structure Cols (B : Nat) (w : World) (ga Wn Hn : Nat) (G : Int → Int → Int) (j : Nat) (g : Nat → Nat) : Prop where
  row : Blk w ga 37 (cellsF Wn fun i => if (Wn : Int) - j ≤ i then .slice (some ⟨g i.toNat, 0, none⟩) Hn Hn else .slice none 0 0)
  col : ∀ i : Nat, (Wn : Int) - j ≤ i → i < Wn → B ≤ g i ∧ Blk w (g i) 3 (i64s Hn (G i))
theorem Cols.below {B : Nat} {w w' : World} {ga Wn Hn : Nat} {G : Int → Int → Int} {j : Nat} {g : Nat → Nat} (h : Cols B w ga Wn Hn G j g) (hb : Below w.heap.size w w') : Cols B w' ga Wn Hn G j g :=
  ⟨h.row.below' hb, fun i a b => ⟨(h.col i a b).1, (h.col i a b).2.below' hb⟩⟩
theorem Cols.at_ {B : Nat} {w : World} {ga Wn Hn : Nat} {G : Int → Int → Int} {j : Nat} {g : Nat → Nat} (h : Cols B w ga Wn Hn G j g) (i : Nat) (h0 : (Wn : Int) - j ≤ i) (h1 : i < Wn) : w.cell? ⟨ga, i, none⟩ = some (.slice (some ⟨g i, 0, none⟩) Hn Hn) := by
  rw [h.row.cell, cellsF_get h1, if_pos h0, Int.toNat_natCast]
/-- one column more -/
theorem Cols.set {B : Nat} {w : World} {ga Wn Hn : Nat} {G : Int → Int → Int} {j : Nat} {g : Nat → Nat} (h : Cols B w ga Wn Hn G j g) (x k : Nat) (hx : (x : Int) = Wn - 1 - j) (hk : Blk w k 3 (i64s Hn (G x))) (hB : B ≤ k) :
    Cols B (w.setCell ⟨ga, x, none⟩ (.slice (some ⟨k, 0, none⟩) Hn Hn)) ga Wn Hn G (j + 1) (fun i => if i = x then k else g i) := by
  have ne : ∀ {b : Nat} {cs : Array Value}, Blk w b 3 cs → b ≠ ga := fun {b cs} hb e => by
    have h1 : w.heap[b]? = _ := hb
    have h2 : w.heap[ga]? = _ := h.row
    rw [e] at h1
    rw [h1] at h2
    exact absurd (congrArg (fun o : Option Obj => match o with | some (.cells _ t _) => t | _ => 0) h2) (show ¬ ((3 : Nat) = 37) by decide)
  refine ⟨?_, fun i a b => ?_⟩
  · have := h.row.set_ x (.slice (some ⟨k, 0, none⟩) Hn Hn)
    have e := cellsF_set Wn (fun i => if (Wn : Int) - j ≤ i then Value.slice (some ⟨g i.toNat, 0, none⟩) Hn Hn else .slice none 0 0) (x : Int) (by omega) (.slice (some ⟨k, 0, none⟩) Hn Hn)
    rw [Int.toNat_natCast] at e
    rw [e] at this
    refine Blk.vconv this fun i i0 i1 => ?_
    by_cases e : i = x
    · subst e; rw [if_pos rfl, if_pos (by omega), if_pos (by omega)]
    · rw [if_neg e, if_neg (by omega : ¬ i.toNat = x)]
      by_cases h2 : (Wn : Int) - j ≤ i
      · rw [if_pos h2, if_pos (by omega)]
      · rw [if_neg h2, if_neg (by omega)]
  · by_cases e : i = x
    · subst e
      rw [if_pos rfl]
      exact ⟨hB, hk.far (ne hk) _⟩
    · rw [if_neg e]
      have := h.col i (by omega) b
      exact ⟨this.1, this.2.far (ne this.2) _⟩

/-- what is left of the cost when column x is begun; what a change of rows costs -/
def leftV (L : Int) (G c : Int → Int → Int) (P : Nat → Int) : Nat → Int
  | 0 => L
  | x + 1 => G x (P x) - c x (P x)
def chg (P : Nat → Int) : Nat → Int → Int
  | 0, _ => 0
  | k + 1, y => if y = P k then 0 else 1
/-- the reference's test: the path's row meets it, and no row above that comes up does -/
theorem rtest {N M W H : Int} {c : Int → Int → Int} {F : Int → Int → Bool} (hc : ∀ x y, 0 ≤ c x y ∧ c x y ≤ 2) (hN : 3 * W < N) (hM : 3 * W < M) (hW : 0 < W) (hH : 0 < H) (hf : gAt N W H c F 0 (pathP N W H c F 0) < N) (x : Nat) (hx : (x : Int) < W) :
    (0 ≤ pathP N W H c F x ∧ pathP N W H c F x < H) ∧ (∀ k, x = k + 1 → pathP N W H c F k - 1 ≤ pathP N W H c F x ∧ pathP N W H c F x ≤ pathP N W H c F k + 1) ∧
    (rAt M W H c F x (pathP N W H c F x) ≠ M ∧ rAt M W H c F x (pathP N W H c F x) + chg (pathP N W H c F) x (pathP N W H c F x) = leftV (rleast M W H c F) (rAt M W H c F) c (pathP N W H c F) x) ∧
    ∀ y, 0 ≤ y → y < pathP N W H c F x → (∀ k, x = k + 1 → pathP N W H c F k - 1 ≤ y) → ¬ (rAt M W H c F x y ≠ M ∧ rAt M W H c F x y + chg (pathP N W H c F) x y = leftV (rleast M W H c F) (rAt M W H c F) c (pathP N W H c F) x) := by
  have ok := path_ok hc hN hH hW hf x hx
  cases x with
  | zero =>
    obtain ⟨⟨f1, f2⟩, f3⟩ := rfirst hc hN hM hW hH hf
    refine ⟨⟨ok.1, ok.2.1⟩, fun k hk => by omega, ⟨f1, ?_⟩, fun y y0 y1 _ => ?_⟩
    · show _ + 0 = _
      rw [Int.add_zero]; exact f2
    · have := f3 y y0 y1
      show ¬ (_ ∧ _ + 0 = _)
      rw [Int.add_zero]; exact this
  | succ k =>
    obtain ⟨⟨f1, f2⟩, ⟨f3, f4, f5, f6⟩, f7⟩ := rnext hc hN hM hW hH hf k (by omega)
    refine ⟨⟨ok.1, ok.2.1⟩, fun k' hk => by obtain rfl : k = k' := by omega
                                            exact ⟨f5, f6⟩, ⟨f1, f2⟩, fun y y0 y1 y2 => f7 y y0 (by omega) (y2 k rfl) y1⟩

set_option maxRecDepth 100000 in
set_option maxHeartbeats 4000000 in
theorem rbest_any (W H : Int) (Wn Hn : Nat) (A A' : Option Addr) (n c n' c' : Nat) (p fb : Int → Int) (F : Int → Int → Bool) (w : World) (hA : ArrB w w.heap.size A n p) (hE : chk W H n p = 0) (hF : ArrB w w.heap.size A' n' fb) (hn' : (n' : Int) = W * H) (hFF : ∀ x y, 0 ≤ x → x < W → 0 ≤ y → y < H → inkB W H fb x y = F x y)
    (hW : 1 ≤ W) (hH : 1 ≤ H) (hWn : (Wn : Int) = W) (hHn : (Hn : Int) = H) :
    Calls Tryz.prog 25 #[.agg #[.int .i64 W, .int .i64 H, .slice A n c], .agg #[.int .i64 W, .int .i64 H, .slice A' n' c']] w
      (New w fun v w' => (rleast 1000000000 W H (cst p W) F = 1000000000 ∧ v = .tuple #[.slice none 0 0, .bool false]) ∨
        (rleast 1000000000 W H (cst p W) F < 1000000000 ∧ ∃ vp, v = .tuple #[vp, .bool true] ∧ w'.ownsRow w.heap.size 3 1 vp Wn ((List.range Wn).map fun j => Value.int .i64 (pathP 1073741824 W H (cst p W) F j)))) := by
  subst hWn
  subst hHn
  obtain ⟨hW1, hW2, hH1, hH2, hnn, -⟩ := chk_ok hE
  have PX := Lib.hid fun (x y : Int) w' hA' x0 x1 (y0 : 0 ≤ y) (y1 : y < Hn) => pixel_any Wn Hn A n c p x y w' hA' hE x0 x1 y0 y1
  have R0 := Lib.hid fun AA m d x w' hA' hF' hx => rest_last Wn Hn Hn A A' AA n c n' c' m d p fb F x w' hA' hE hF' hn' hFF hW rfl hx
  have RS := Lib.hid fun AA d x w' k hA' hF' hk hx hAA => rest_step Wn Hn Hn A A' AA n c n' c' d p fb F x w' hA' hE hF' hn' hFF hW rfl k hk hx hAA
  have hmk := makeL (Wn : Int) (by omega) (by omega)
  rw [Int.toNat_natCast] at hmk
  have RF := Lib.hid fun hf => rfirst (N := 1073741824) (M := 1000000000) (W := Wn) (H := Hn) (c := cst p Wn) (F := F) (cst_bd p Wn) (by omega) (by omega) (by omega) (by omega) hf
  have RN := Lib.hid fun hf (x : Nat) (hx : (x : Int) + 1 < (Wn : Int)) => rnext (N := 1073741824) (M := 1000000000) (W := Wn) (H := Hn) (c := cst p Wn) (F := F) (cst_bd p Wn) (by omega) (by omega) (by omega) (by omega) hf x hx
  have RL := Lib.hid (rleast_eq (N := 1073741824) (M := 1000000000) (W := Wn) (H := Hn) (c := cst p Wn) (F := F) (cst_bd p Wn) (by omega) (by omega) (by omega) (by omega))
  have GB := Lib.hid fun (x y : Int) (x0 : 0 ≤ x) (x1 : x < Wn) (y0 : 0 ≤ y) (y1 : y < Hn) => (by
    have := rcol_bd (M := 1000000000) (W := Wn) (H := Hn) (F := F) (cst_bd p Wn) (by omega) ((Wn : Int) - 1 - x).toNat (by omega) y y0 y1
    exact this : 0 ≤ rAt 1000000000 Wn Hn (cst p Wn) F x y ∧ rAt 1000000000 Wn Hn (cst p Wn) F x y ≤ 1000000000)
  have LT : Hid (∀ k : Nat, (0 ≤ mfold 1000000000 (rAt 1000000000 Wn Hn (cst p Wn) F 0) 0 k ∧ mfold 1000000000 (rAt 1000000000 Wn Hn (cst p Wn) F 0) 0 (k + 1) = min (mfold 1000000000 (rAt 1000000000 Wn Hn (cst p Wn) F 0) 0 k) (rAt 1000000000 Wn Hn (cst p Wn) F 0 k)) ∨ (Hn : Int) < k) := by
    show ∀ _, _
    intro k
    by_cases h : (Hn : Int) < k
    · exact .inr h
    · refine .inl ⟨mfold_ge (by omega) fun i hi => ?_, by rw [mfold, Int.zero_add]⟩
      rw [Int.zero_add]
      exact (GB.out 0 i (by omega) (by omega) (by omega) (by omega)).1
  have RG : Hid (∀ (j : Nat) (x y : Int), x = (Wn : Int) - 1 - j → rcol 1000000000 Wn Hn (cst p Wn) F j y = rAt 1000000000 Wn Hn (cst p Wn) F x y) := by
    show ∀ _, _
    intro j x y hx
    unfold rAt
    rw [show ((Wn : Int) - 1 - x).toNat = j by omega]
  clear hnn hFF hE hn'
  have vW : IntKind.i64.wrap ((Wn : Int) - 1) = (Wn : Int) - 1 := IntWalk.i64_in _ (by omega)
  go_enter Tryz.func25, Tryz.ntmps25
  go_wp2_with fail
  have k2 : Blk (((w.alloc (.cells #[.int .i64 Wn, .int .i64 Hn, .slice A n c] 24)).alloc (.cells #[.int .i64 Wn, .int .i64 Hn, .slice A' n' c'] 24)).alloc (.cells (cellsF Wn fun _ => .slice none 0 0) 37)) w.heap.size 24 #[.int .i64 Wn, .int .i64 Hn, .slice A n c] := ((Blk.new _ _ _).alloc _).alloc _
  have k3 : Blk (((w.alloc (.cells #[.int .i64 Wn, .int .i64 Hn, .slice A n c] 24)).alloc (.cells #[.int .i64 Wn, .int .i64 Hn, .slice A' n' c'] 24)).alloc (.cells (cellsF Wn fun _ => .slice none 0 0) 37)) (w.heap.size + 1) 24 #[.int .i64 Wn, .int .i64 Hn, .slice A' n' c'] := (Blk.new' (by simp) _ _).alloc _
  have k6 : Blk (((w.alloc (.cells #[.int .i64 Wn, .int .i64 Hn, .slice A n c] 24)).alloc (.cells #[.int .i64 Wn, .int .i64 Hn, .slice A' n' c'] 24)).alloc (.cells (cellsF Wn fun _ => .slice none 0 0) 37)) (w.heap.size + 1 + 1) 37 (cellsF Wn fun _ => .slice none 0 0) := Blk.new' (by simp) _ _
  have C6 : Cols w.heap.size (((w.alloc (.cells #[.int .i64 Wn, .int .i64 Hn, .slice A n c] 24)).alloc (.cells #[.int .i64 Wn, .int .i64 Hn, .slice A' n' c'] 24)).alloc (.cells (cellsF Wn fun _ => .slice none 0 0) 37)) (w.heap.size + 1 + 1) Wn Hn (rAt 1000000000 Wn Hn (cst p Wn) F) 0 (fun _ => 0) :=
    ⟨Blk.vconv k6 fun i i0 i1 => (if_neg (by omega)).symm, fun i a b => by omega⟩
  have b1 : Below w.heap.size w (((w.alloc (.cells #[.int .i64 Wn, .int .i64 Hn, .slice A n c] 24)).alloc (.cells #[.int .i64 Wn, .int .i64 Hn, .slice A' n' c'] 24)).alloc (.cells (cellsF Wn fun _ => .slice none 0 0) 37)) := by (repeat (first | exact Below.refl _ _ | assumption | refine Below.drew ?_ | refine below_drewN ?_ _ | refine Below.alloc ?_ (by first | omega | (simp; done) | (simp; omega)) _ | refine Below.setCell ?_ (by first | omega | (simp; done) | (simp; omega)) _ | refine below_setRow ?_ (by first | omega | (simp; done) | (simp; omega)) _ ))
  clear k6
  generalize ((w.alloc (.cells #[.int .i64 Wn, .int .i64 Hn, .slice A n c] 24)).alloc (.cells #[.int .i64 Wn, .int .i64 Hn, .slice A' n' c'] 24)).alloc (.cells (cellsF Wn fun _ => .slice none 0 0) 37) = w1 at *
  go_loopw [7] (fun s wr => ∃ (j : Nat) (g : Nat → Nat), j ≤ Wn ∧ s = .int .i64 ((Wn : Int) - 1 - j) ∧ Below w.heap.size w wr ∧ Blk wr w.heap.size 24 #[.int .i64 Wn, .int .i64 Hn, .slice A n c] ∧ Blk wr (w.heap.size + 1) 24 #[.int .i64 Wn, .int .i64 Hn, .slice A' n' c'] ∧ Cols w.heap.size wr (w.heap.size + 1 + 1) Wn Hn (rAt 1000000000 Wn Hn (cst p Wn) F) j g) (fun s _ => (intOf s + 1).toNat)
  case atStart => exact ⟨0, fun _ => 0, by omega, by simp, b1, k2, k3, C6⟩
  case round =>
    obtain ⟨j, g, hj, rfl, b2, q2, q3, hC⟩ := hrel
    clear b1 k2 k3 C6
    obtain ⟨p1, p2, p3⟩ := q2.cells3
    obtain ⟨r1, r2, r3⟩ := q3.cells3
    by_cases hlt : (j : Int) < Wn
    · obtain ⟨x, hx⟩ : ∃ x : Nat, (x : Int) = (Wn : Int) - 1 - j := ⟨((Wn : Int) - 1 - j).toNat, by omega⟩
      rw [← hx]
      have f6 := hC.row.frozen x
      have c6 : ∃ v, wr.cell? ⟨w.heap.size + 1 + 1, x, none⟩ = some v := ⟨_, by rw [hC.row.cell, cellsF_get (by omega)]⟩
      obtain ⟨v6, c6⟩ := c6
      have HX := Lib.hid hx
      have xl : (x : Int) < (Wn : Int) := by omega
      have vx : IntKind.i64.wrap ((x : Int) - 1) = (x : Int) - 1 := IntWalk.i64_in _ (by omega)
      by_cases j0 : j = 0
      · have dx : decide ((x : Int) < (Wn : Int) - 1) = false := decide_eq_false (by omega)
        have R0x := Lib.hid fun AA m d w' hA' hF' => R0.out AA m d x w' hA' hF' (by omega)
        clear hx
        go_wp2_with fail
        refine (R0x.out _ _ _ _ (hA.to b2) (hF.to b2)).mono ?_
        rintro e w3 ⟨_, rfl, ⟨gn, rfl, hgn, kn⟩, hb3⟩
        have b3 := below_call b2 b2.size hb3
        have q2' := q2.below' hb3
        have q3' := q3.below' hb3
        have hC' := hC.below hb3
        have z2 := b2.size
        have kn' := kn.i64conv fun y _ _ => RG.out 0 (x : Int) y (by have := HX.out; omega)
        have hS := hC'.set x gn HX.out kn' (by omega)
        have f7 := hC'.row.frozen x
        have c8 : ∃ v, w3.cell? ⟨w.heap.size + 1 + 1, x, none⟩ = some v := ⟨_, by rw [hC'.row.cell, cellsF_get (by omega)]⟩
        obtain ⟨v8, c8⟩ := c8
        clear b2 q2 q3 hC hb3 hC' kn kn' c6 f6 p1 p2 p3 r1 r2 r3
        go_wp2_with fail
        go_roundw
        case rel => exact ⟨_, _, by omega, by rw [show (Wn : Int) - 1 - ((j + 1 : Nat) : Int) = (x : Int) - 1 by have := HX.out; omega], b3.setCell (by show w.heap.size ≤ w.heap.size + 1 + 1; omega) _, q2'.far (p := ⟨w.heap.size + 1 + 1, x, none⟩) (by show w.heap.size ≠ w.heap.size + 1 + 1; omega) _, q3'.far (p := ⟨w.heap.size + 1 + 1, x, none⟩) (by show w.heap.size + 1 ≠ w.heap.size + 1 + 1; omega) _, hS⟩
        case measure => first | (simp [intOf]; done) | (simp [intOf]; omega)
      · obtain ⟨k, rfl⟩ : ∃ k, j = k + 1 := ⟨j - 1, by omega⟩
        have dx : decide ((x : Int) < (Wn : Int) - 1) = true := decide_eq_true (by omega)
        obtain ⟨x1, hx1⟩ : ∃ x1 : Nat, (x1 : Int) = (x : Int) + 1 := ⟨x + 1, by omega⟩
        have vx1 : IntKind.i64.wrap ((x : Int) + 1) = (x1 : Int) := by rw [← hx1]; exact IntWalk.i64_in _ (by omega)
        have c7 := hC.at_ x1 (by omega) (by omega)
        have x1l : (x1 : Int) < (Wn : Int) := by omega
        have kx := (hC.col x1 (by omega) (by omega)).2
        have RSx := Lib.hid fun AA d w' hA' hF' hAA => RS.out AA d (x : Int) w' k hA' hF' (by omega) (by omega) hAA
        have kx2 := kx.i64conv fun y _ _ => (RG.out k (x1 : Int) y (by omega)).symm
        clear hx hx1 kx
        go_wp2_with fail
        refine (RSx.out _ _ _ (hA.to b2) (hF.to b2) (Blk.arrI kx2 kx2.lt)).mono ?_
        rintro e w3 ⟨_, rfl, ⟨gn, rfl, hgn, kn⟩, hb3⟩
        clear c7 kx2
        have b3 := below_call b2 b2.size hb3
        have q2' := q2.below' hb3
        have q3' := q3.below' hb3
        have hC' := hC.below hb3
        have z2 := b2.size
        have kn' := kn.i64conv fun y _ _ => RG.out (k + 1) (x : Int) y (by have := HX.out; omega)
        have hS := hC'.set x gn HX.out kn' (by omega)
        have f7 := hC'.row.frozen x
        have c8 : ∃ v, w3.cell? ⟨w.heap.size + 1 + 1, x, none⟩ = some v := ⟨_, by rw [hC'.row.cell, cellsF_get (by omega)]⟩
        obtain ⟨v8, c8⟩ := c8
        clear b2 q2 q3 hC hb3 hC' kn kn' c6 f6 p1 p2 p3 r1 r2 r3
        go_wp2_with fail
        go_roundw
        case rel => exact ⟨_, _, by omega, by rw [show (Wn : Int) - 1 - ((k + 1 + 1 : Nat) : Int) = (x : Int) - 1 by have := HX.out; omega], b3.setCell (by show w.heap.size ≤ w.heap.size + 1 + 1; omega) _, q2'.far (p := ⟨w.heap.size + 1 + 1, x, none⟩) (by show w.heap.size ≠ w.heap.size + 1 + 1; omega) _, q3'.far (p := ⟨w.heap.size + 1 + 1, x, none⟩) (by show w.heap.size + 1 ≠ w.heap.size + 1 + 1; omega) _, hS⟩
        case measure => first | (simp [intOf]; done) | (simp [intOf]; omega)
    · obtain rfl : Wn = j := by omega
      have c0 := hC.at_ 0 (by omega) (by omega)
      have k0 := (hC.col 0 (by omega) (by omega)).2
      go_wp2_with fail
      go_loopw [9, 10] (fun l s w' => ∃ y : Nat, y ≤ Hn ∧ s = .int .i64 y ∧ l = .int .i64 (mfold 1000000000 (rAt 1000000000 Wn Hn (cst p Wn) F 0) 0 y) ∧ w' = wr) (fun _ s _ => Hn - (intOf s).toNat)
      case atStart => exact ⟨0, by omega, rfl, rfl, rfl⟩
      case round =>
        obtain ⟨y, hy, rfl, rfl, rfl⟩ := hrel
        have LTy := Lib.hid (LT.out y)
        have ml := mfold_le 1000000000 (rAt 1000000000 Wn Hn (cst p Wn) F 0) 0 y
        by_cases hlt2 : (y : Int) < Hn
        · have cy := k0.i64at (i := (y : Int)) (by omega) hlt2
          rw [Int.toNat_natCast] at cy
          have gy := GB.out 0 y (by omega) (by omega) (by omega) hlt2
          obtain ⟨gy1, gy2⟩ := gy
          have h1 := (LTy.out).resolve_right (by omega)
          obtain ⟨h1, h2⟩ := h1
          rw [min_if] at h2
          have H2 := Lib.hid h2
          clear h2 LTy
          generalize mfold 1000000000 (rAt 1000000000 Wn Hn (cst p Wn) F 0) 0 y = S at *
          generalize rAt 1000000000 Wn Hn (cst p Wn) F 0 y = R at *
          go_wp2_with fail
          go_roundw
          case rel => exact ⟨y + 1, by omega, by go_num, by rw [H2.out] <;> first | rfl | rw [min_if], by first | rfl | trivial⟩
          case measure => simp [intOf]; omega
        · obtain rfl : Hn = y := by omega
          have RL2 := RL.out
          unfold rleast at RL2
          rw [Int.toNat_natCast] at RL2
          obtain ⟨L, hL⟩ : ∃ L, mfold 1000000000 (rAt 1000000000 Wn Hn (cst p Wn) F 0) 0 Hn = L := ⟨_, rfl⟩
          have HL : Hid (rleast 1000000000 Wn Hn (cst p Wn) F = L) := by show _ = _; unfold rleast; rw [Int.toNat_natCast]; exact hL
          rw [hL] at ml RL2 ⊢
          clear hL LTy
          by_cases hM : L = 1000000000
          · have bM : (L == 1000000000) = true := by simp [hM]
            have HM := Lib.hid hM
            clear hM RL2
            go_wp2_with fail
            refine bodyPost_ret (results_tmp2 rfl _ _ _) rfl ?_
            exact ⟨_, rfl, .inl ⟨by rw [HL.out, HM.out], by first | rfl | trivial⟩, b2⟩
          · have bM : (L == 1000000000) = false := by simp [hM]
            have hgf : gAt 1073741824 Wn Hn (cst p Wn) F 0 (pathP 1073741824 Wn Hn (cst p Wn) F 0) < 1073741824 := by omega
            have TE := Lib.hid fun (x : Nat) (hx : (x : Int) < Wn) => rtest (N := 1073741824) (M := 1000000000) (W := Wn) (H := Hn) (c := cst p Wn) (F := F) (cst_bd p Wn) (by omega) (by omega) (by omega) (by omega) hgf x hx
            rw [HL.out] at TE
            have PO := Lib.hid fun (x : Nat) (hx : (x : Int) < Wn) => path_ok (N := 1073741824) (W := Wn) (H := Hn) (c := cst p Wn) (F := F) (cst_bd p Wn) (by omega) (by omega) (by omega) hgf x hx
            have HLM : Hid (L < 1000000000) := by show _ < _; omega
            clear RF RN RL RL2 hgf
            obtain ⟨P, hP⟩ : ∃ P, P = pathP 1073741824 Wn Hn (cst p Wn) F := ⟨_, rfl⟩
            rw [← hP] at TE
            have HP := Lib.hid hP
            obtain ⟨i0, hi0, hz0, hz1, hz2⟩ := info_parts infoInt
            have HLL : Hid (0 ≤ L ∧ L ≤ 1000000000) := by
              show _ ∧ _
              have := HLM.out
              have := (LT.out Hn).resolve_right (by omega)
              rw [← HL.out]; unfold rleast; rw [Int.toNat_natCast]
              have h3 := mfold_le 1000000000 (rAt 1000000000 Wn Hn (cst p Wn) F 0) 0 Hn
              exact ⟨this.1, h3⟩
            clear hP LT PO
            have z2 := b2.size
            go_wp2_with fail
            generalize wr = wB at *
            go_loopw [11, 12, 13] (fun pv lv s w5 => ∃ x : Nat, x ≤ Wn ∧ s = .int .i64 x ∧ lv = .int .i64 (leftV L (rAt 1000000000 Wn Hn (cst p Wn) F) (cst p Wn) P x) ∧ Below wB.heap.size wB w5 ∧ w5.ownsRow wB.heap.size 3 1 pv x ((List.range x).map fun j => Value.int .i64 (P j))) (fun _ _ s _ => Wn - (intOf s).toNat)
            case atStart => exact ⟨0, by omega, rfl, rfl, Below.refl _ _, World.ownsRow_nil _ _ _ _⟩
            case round =>
              obtain ⟨x, hx, rfl, rfl, b5, own⟩ := hrel
              obtain ⟨Ap, cp, rfl, -, hap⟩ := own_arr own
              clear p1 p2 p3
              obtain ⟨p1, p2, p3⟩ := (q2.below' b5).cells3
              by_cases xW : (x : Int) < Wn
              · have hT := TE.out x xW
                obtain ⟨⟨px0, px1⟩, px2, tx3, tx4⟩ := hT
                have lfb : -2 ≤ leftV L (rAt 1000000000 Wn Hn (cst p Wn) F) (cst p Wn) P x ∧ leftV L (rAt 1000000000 Wn Hn (cst p Wn) F) (cst p Wn) P x ≤ 1000000000 := by
                  cases x with
                  | zero => have := HLL.out; show -2 ≤ L ∧ L ≤ 1000000000; omega
                  | succ k =>
                    have h1 := (TE.out k (by omega)).1
                    have h2 := GB.out k (P k) (by omega) (by omega) h1.1 h1.2
                    have h3 := cst_bd p Wn k (P k)
                    show -2 ≤ rAt 1000000000 Wn Hn (cst p Wn) F k (P k) - cst p Wn k (P k) ∧ rAt 1000000000 Wn Hn (cst p Wn) F k (P k) - cst p Wn k (P k) ≤ 1000000000
                    omega
                obtain ⟨lfb1, lfb2⟩ := lfb
                generalize hpx : P x = Px at *
                have HPX := Lib.hid hpx
                have TX3 := Lib.hid tx3
                have TX4 := Lib.hid tx4
                generalize hlf : leftV L (rAt 1000000000 Wn Hn (cst p Wn) F) (cst p Wn) P x = lf at *
                have call := (b5.cell (p := ⟨w.heap.size + 1 + 1, x, none⟩) hC.row.lt).trans (hC.at_ x (by omega) (by omega))
                have kcol := ((hC.col x (by omega) (by omega)).2).below' b5
                have z5 := b5.size
                clear tx3 tx4 hpx hlf
                go_wp2_with fail
                generalize wr = w5 at *
                go_loopw [11, 12, 14] (fun pv lv s w6 => ∃ y : Nat, (y : Int) ≤ Px ∧ s = .int .i64 y ∧ pv = .slice Ap x cp ∧ lv = .int .i64 lf ∧ w5 = w6) (fun _ _ s _ => Hn - (intOf s).toNat)
                case atStart => exact ⟨0, by omega, rfl, rfl, rfl, rfl⟩
                case round =>
                  obtain ⟨y, hy, rfl, rfl, rfl, rfl⟩ := hrel
                  have yH : (y : Int) < (Hn : Int) := by omega
                  have ccol := kcol.i64at (i := (y : Int)) (by omega) yH
                  rw [Int.toNat_natCast] at ccol
                  obtain ⟨gb1, gb2⟩ := GB.out x y (by omega) xW (by omega) yH
                  have CH0 : Hid (x = 0 → ∀ y, chg P x y = 0) := by show _ → _; intro h y; subst h; rfl
                  have CHS : Hid (∀ k, x = k + 1 → ∀ y, chg P x y = if y = P k then 0 else 1) := by show ∀ _, _; intro k h y; subst h; rfl
                  by_cases yP : (y : Int) = Px
                  · subst yP
                    by_cases x0 : x = 0
                    · have dx : decide ((0 : Int) < (x : Int)) = false := decide_eq_false (by omega)
                      have dx' : decide (0 < x) = false := decide_eq_false (by omega)
                      have hch : chg P x (y : Int) = 0 := CH0.out x0 _
                      obtain ⟨f1, f2⟩ := TX3.out
                      rw [hch] at f2
                      clear hch x0
                      have cb := cst_bd p Wn x (y : Int)
                      have LV2 : Hid (leftV L (rAt 1000000000 Wn Hn (cst p Wn) F) (cst p Wn) P (x + 1) = rAt 1000000000 Wn Hn (cst p Wn) F x (y : Int) - cst p Wn x (y : Int)) := by show _ = _; rw [← HPX.out]; rfl
                      have PXx := Lib.hid fun w' hA' => PX.out x (y : Int) w' hA' (by omega) xW (by omega) (by omega)
                      generalize rAt 1000000000 Wn Hn (cst p Wn) F x (y : Int) = g1 at *
                      generalize cst p Wn x (y : Int) = cc at *
                      obtain ⟨cb1, cb2⟩ := cb
                      have ew1 : IntKind.i64.wrap g1 = g1 := IntWalk.i64_in _ (by omega)
                      have ew2 : IntKind.i64.wrap (g1 + 0) = g1 + 0 := IntWalk.i64_in _ (by omega)
                      have ew3 : IntKind.i64.wrap (lf - 0) = g1 := by rw [← f2]; rw [show g1 + 0 - 0 = g1 by omega]; exact ew1
                      have ew4 : IntKind.i64.wrap (g1 - cc) = g1 - cc := IntWalk.i64_in _ (by omega)
                      have ew5 : IntKind.i64.wrap lf = g1 := by simpa using ew3
                      have bM : (g1 != 1000000000) = true := by simp [f1]
                      have bl : (g1 + 0 == lf) = true := by simp [f2]
                      have bl' : (g1 == lf) = (true) := by simpa using bl
                      have F2 := Lib.hid f2
                      clear f1 f2
                      go_wp2_with (at_builtin; refine wpList_append_own _ rfl (.tmp 112) (.tmp 114) 37 rfl wB.heap.size 3 i0 (.int .i64 0) 1 8 Tryz.underlying37 hi0 hz0 hz1 hz2 rfl (by decide) _ _ _ rfl (own.alloc _) ⟨w5.heap.size, 0, none⟩ 1 1 [.int .i64 (y : Int)] rfl rfl ?c1 ?c2 ?c3 ?c4 ?c5 ?_)
                      try (case c1 => exact cell_one_new _ _ _)
                      try (case c2 => simp [Value.oneCell'])
                      try (case c3 => unfold maxLen; omega)
                      try (case c4 => omega)
                      try (case c5 => first | omega | (simp; done) | (simp; omega))
                      intro v' w6 own6 hg6 _
                      have b6 : Below wB.heap.size wB w6 := (b5.alloc b5.size (.cells #[.int .i64 (y : Int)] 3)).grown hg6 (by simp; omega) (fun k hk => (own_ge own hk).1)
                      have ln6 := own_len own6
                      clear p1 p2 p3 call ccol
                      obtain ⟨p1, p2, p3⟩ := (q2.below' b6).cells3
                      go_wp2_with fail
                      refine (PXx.out _ (hA.to (below_call b2 b2.size b6))).mono ?_
                      rintro e w7 ⟨rfl, hb7⟩
                      have b7 := below_call b6 b6.size hb7
                      have own7 := own_below own6 hb7
                      clear p1 p2 p3
                      obtain ⟨p1, p2, p3⟩ := (q2.below' b7).cells3
                      go_wp2_with fail
                      go_roundw
                      case rel => exact ⟨x + 1, by omega, by go_num, by rw [LV2.out], b7, by rw [range_snoc, HPX.out]; exact own7⟩
                      case measure => simp [intOf]; omega
                    · obtain ⟨k, hk⟩ : ∃ k, x = k + 1 := ⟨x - 1, by omega⟩
                      obtain ⟨gp, cp', eP⟩ := own_some own (by omega)
                      cases eP
                      obtain ⟨Ap2, cp2, eP2, hapI⟩ := own_arrI own
                      cases eP2
                      have cpk := (ArrI.at_ hapI (i := (k : Int)) (by omega) (by omega))
                      obtain ⟨bb, oo, ee, -, cpk⟩ := cpk
                      cases ee
                      rw [Nat.zero_add, Int.toNat_natCast] at cpk
                      obtain ⟨pk0, pk1⟩ := (TE.out k (by omega)).1
                      obtain ⟨pd1, pd2⟩ := px2 k hk
                      have CHK := Lib.hid (CHS.out k hk)
                      generalize hpk : P k = pk at *
                      have HPK := Lib.hid hpk
                      have vk : IntKind.i64.wrap ((x : Int) - 1) = (k : Int) := by rw [show (x : Int) - 1 = k by omega]; exact IntWalk.i64_in _ (by omega)
                      have vd : IntKind.i64.wrap ((y : Int) - pk) = (y : Int) - pk := IntWalk.i64_in _ (by omega)
                      have kl : (k : Int) < (x : Int) := by omega
                      have k0 : (0 : Int) ≤ (k : Int) := by omega
                      have dx : decide ((0 : Int) < (x : Int)) = true := decide_eq_true (by omega)
                      have dx' : decide (0 < x) = true := decide_eq_true (by omega)
                      have xp : 0 < x := by omega
                      have NTK := Lib.hid (fun k' (h : x = k' + 1) => (by omega : k = k'))
                      clear x0 hpk
                      by_cases hd : (y : Int) = pk
                      · have CH0 := Lib.hid (CHK.out (y : Int))
                        rw [if_pos hd] at CH0
                        subst hd
                        clear vd CHK
                        have hch : chg P x (y : Int) = 0 := CH0.out
                        obtain ⟨f1, f2⟩ := TX3.out
                        rw [hch] at f2
                        clear hch hk
                        have cb := cst_bd p Wn x (y : Int)
                        have LV2 : Hid (leftV L (rAt 1000000000 Wn Hn (cst p Wn) F) (cst p Wn) P (x + 1) = rAt 1000000000 Wn Hn (cst p Wn) F x (y : Int) - cst p Wn x (y : Int)) := by show _ = _; rw [← HPX.out]; rfl
                        have PXx := Lib.hid fun w' hA' => PX.out x (y : Int) w' hA' (by omega) xW (by omega) (by omega)
                        generalize rAt 1000000000 Wn Hn (cst p Wn) F x (y : Int) = g1 at *
                        generalize cst p Wn x (y : Int) = cc at *
                        obtain ⟨cb1, cb2⟩ := cb
                        have ew1 : IntKind.i64.wrap g1 = g1 := IntWalk.i64_in _ (by omega)
                        have ew2 : IntKind.i64.wrap (g1 + 0) = g1 + 0 := IntWalk.i64_in _ (by omega)
                        have ew3 : IntKind.i64.wrap (lf - 0) = g1 := by rw [← f2]; rw [show g1 + 0 - 0 = g1 by omega]; exact ew1
                        have ew4 : IntKind.i64.wrap (g1 - cc) = g1 - cc := IntWalk.i64_in _ (by omega)
                        have ew5 : IntKind.i64.wrap lf = g1 := by simpa using ew3
                        have bM : (g1 != 1000000000) = true := by simp [f1]
                        have bl : (g1 + 0 == lf) = true := by simp [f2]
                        have bl' : (g1 == lf) = (true) := by simpa using bl
                        have F2 := Lib.hid f2
                        clear f1 f2
                        go_wp2_with (at_builtin; refine wpList_append_own _ rfl (.tmp 112) (.tmp 114) 37 rfl wB.heap.size 3 i0 (.int .i64 0) 1 8 Tryz.underlying37 hi0 hz0 hz1 hz2 rfl (by decide) _ _ _ rfl (own.alloc _) ⟨w5.heap.size, 0, none⟩ 1 1 [.int .i64 (y : Int)] rfl rfl ?c1 ?c2 ?c3 ?c4 ?c5 ?_)
                        try (case c1 => exact cell_one_new _ _ _)
                        try (case c2 => simp [Value.oneCell'])
                        try (case c3 => unfold maxLen; omega)
                        try (case c4 => omega)
                        try (case c5 => first | omega | (simp; done) | (simp; omega))
                        intro v' w6 own6 hg6 _
                        have b6 : Below wB.heap.size wB w6 := (b5.alloc b5.size (.cells #[.int .i64 (y : Int)] 3)).grown hg6 (by simp; omega) (fun k hk => (own_ge own hk).1)
                        have ln6 := own_len own6
                        clear p1 p2 p3 call ccol
                        obtain ⟨p1, p2, p3⟩ := (q2.below' b6).cells3
                        go_wp2_with fail
                        refine (PXx.out _ (hA.to (below_call b2 b2.size b6))).mono ?_
                        rintro e w7 ⟨rfl, hb7⟩
                        have b7 := below_call b6 b6.size hb7
                        have own7 := own_below own6 hb7
                        clear p1 p2 p3
                        obtain ⟨p1, p2, p3⟩ := (q2.below' b7).cells3
                        go_wp2_with fail
                        go_roundw
                        case rel => exact ⟨x + 1, by omega, by go_num, by rw [LV2.out], b7, by rw [range_snoc, HPX.out]; exact own7⟩
                        case measure => simp [intOf]; omega
                      · have bd : ((y : Int) - pk != 0) = true := by simp; omega
                        have hm : ¬ (y : Int) - pk < -1 := by omega
                        have hm2 : ¬ (1 : Int) < (y : Int) - pk := by omega
                        have hch : chg P x (y : Int) = 1 := by rw [CHK.out, if_neg hd]
                        obtain ⟨f1, f2⟩ := TX3.out
                        rw [hch] at f2
                        clear hch hk
                        have cb := cst_bd p Wn x (y : Int)
                        have LV2 : Hid (leftV L (rAt 1000000000 Wn Hn (cst p Wn) F) (cst p Wn) P (x + 1) = rAt 1000000000 Wn Hn (cst p Wn) F x (y : Int) - cst p Wn x (y : Int)) := by show _ = _; rw [← HPX.out]; rfl
                        have PXx := Lib.hid fun w' hA' => PX.out x (y : Int) w' hA' (by omega) xW (by omega) (by omega)
                        generalize rAt 1000000000 Wn Hn (cst p Wn) F x (y : Int) = g1 at *
                        generalize cst p Wn x (y : Int) = cc at *
                        obtain ⟨cb1, cb2⟩ := cb
                        have ew1 : IntKind.i64.wrap g1 = g1 := IntWalk.i64_in _ (by omega)
                        have ew2 : IntKind.i64.wrap (g1 + 1) = g1 + 1 := IntWalk.i64_in _ (by omega)
                        have ew3 : IntKind.i64.wrap (lf - 1) = g1 := by rw [← f2]; rw [show g1 + 1 - 1 = g1 by omega]; exact ew1
                        have ew4 : IntKind.i64.wrap (g1 - cc) = g1 - cc := IntWalk.i64_in _ (by omega)
                        have ew5 : IntKind.i64.wrap lf = lf := IntWalk.i64_in _ (by omega)
                        have bM : (g1 != 1000000000) = true := by simp [f1]
                        have bl : (g1 + 1 == lf) = true := by simp [f2]
                        have bl' : (g1 == lf) = ((g1 == lf)) := by rfl
                        have F2 := Lib.hid f2
                        clear f1 f2
                        go_wp2_with (at_builtin; refine wpList_append_own _ rfl (.tmp 112) (.tmp 114) 37 rfl wB.heap.size 3 i0 (.int .i64 0) 1 8 Tryz.underlying37 hi0 hz0 hz1 hz2 rfl (by decide) _ _ _ rfl (own.alloc _) ⟨w5.heap.size, 0, none⟩ 1 1 [.int .i64 (y : Int)] rfl rfl ?c1 ?c2 ?c3 ?c4 ?c5 ?_)
                        try (case c1 => exact cell_one_new _ _ _)
                        try (case c2 => simp [Value.oneCell'])
                        try (case c3 => unfold maxLen; omega)
                        try (case c4 => omega)
                        try (case c5 => first | omega | (simp; done) | (simp; omega))
                        intro v' w6 own6 hg6 _
                        have b6 : Below wB.heap.size wB w6 := (b5.alloc b5.size (.cells #[.int .i64 (y : Int)] 3)).grown hg6 (by simp; omega) (fun k hk => (own_ge own hk).1)
                        have ln6 := own_len own6
                        clear p1 p2 p3 call ccol
                        obtain ⟨p1, p2, p3⟩ := (q2.below' b6).cells3
                        go_wp2_with fail
                        refine (PXx.out _ (hA.to (below_call b2 b2.size b6))).mono ?_
                        rintro e w7 ⟨rfl, hb7⟩
                        have b7 := below_call b6 b6.size hb7
                        have own7 := own_below own6 hb7
                        clear p1 p2 p3
                        obtain ⟨p1, p2, p3⟩ := (q2.below' b7).cells3
                        go_wp2_with fail
                        go_roundw
                        case rel => exact ⟨x + 1, by omega, by go_num, by rw [LV2.out], b7, by rw [range_snoc, HPX.out]; exact own7⟩
                        case measure => simp [intOf]; omega
                  · have yP2 : (y : Int) < Px := by omega
                    by_cases x0 : x = 0
                    · have dx : decide ((0 : Int) < (x : Int)) = false := decide_eq_false (by omega)
                      have dx' : decide (0 < x) = false := decide_eq_false (by omega)
                      have hch : chg P x y = 0 := CH0.out x0 _
                      have nt := (TX4.out y (by omega) (by omega) (by intro k' hk'; first | omega | (have := NTK.out k' hk'; subst this; rw [HPK.out]; omega)))
                      rw [hch] at nt
                      clear hch x0
                      generalize rAt 1000000000 Wn Hn (cst p Wn) F x y = g1 at *
                      have ew1 : IntKind.i64.wrap g1 = g1 := IntWalk.i64_in _ (by omega)
                      have ew2 : IntKind.i64.wrap (g1 + 0) = g1 + 0 := IntWalk.i64_in _ (by omega)
                      by_cases hgM : g1 = 1000000000
                      · have bM : (g1 != 1000000000) = false := by simp [hgM]
                        have HGM := Lib.hid hgM
                        clear hgM nt
                        go_wp2_with fail
                        go_roundw
                        case rel => exact ⟨y + 1, by omega, by go_num, rfl, rfl, by first | rfl | trivial⟩
                        case measure => simp [intOf]; omega
                      · have bM : (g1 != 1000000000) = true := by simp [hgM]
                        have bl : (g1 + 0 == lf) = false := by have h0 : ¬ (g1 + 0 = lf) := fun h => nt ⟨hgM, h⟩; simpa using h0
                        have bl' : (g1 == lf) = (false) := by simpa using bl
                        have HGM := Lib.hid hgM
                        clear hgM nt
                        go_wp2_with fail
                        go_roundw
                        case rel => exact ⟨y + 1, by omega, by go_num, rfl, rfl, by first | rfl | trivial⟩
                        case measure => simp [intOf]; omega
                    · obtain ⟨k, hk⟩ : ∃ k, x = k + 1 := ⟨x - 1, by omega⟩
                      obtain ⟨gp, cp', eP⟩ := own_some own (by omega)
                      cases eP
                      obtain ⟨Ap2, cp2, eP2, hapI⟩ := own_arrI own
                      cases eP2
                      have cpk := (ArrI.at_ hapI (i := (k : Int)) (by omega) (by omega))
                      obtain ⟨bb, oo, ee, -, cpk⟩ := cpk
                      cases ee
                      rw [Nat.zero_add, Int.toNat_natCast] at cpk
                      obtain ⟨pk0, pk1⟩ := (TE.out k (by omega)).1
                      obtain ⟨pd1, pd2⟩ := px2 k hk
                      have CHK := Lib.hid (CHS.out k hk)
                      generalize hpk : P k = pk at *
                      have HPK := Lib.hid hpk
                      have vk : IntKind.i64.wrap ((x : Int) - 1) = (k : Int) := by rw [show (x : Int) - 1 = k by omega]; exact IntWalk.i64_in _ (by omega)
                      have vd : IntKind.i64.wrap ((y : Int) - pk) = (y : Int) - pk := IntWalk.i64_in _ (by omega)
                      have kl : (k : Int) < (x : Int) := by omega
                      have k0 : (0 : Int) ≤ (k : Int) := by omega
                      have dx : decide ((0 : Int) < (x : Int)) = true := decide_eq_true (by omega)
                      have dx' : decide (0 < x) = true := decide_eq_true (by omega)
                      have xp : 0 < x := by omega
                      have NTK := Lib.hid (fun k' (h : x = k' + 1) => (by omega : k = k'))
                      clear x0 hpk
                      by_cases hd : (y : Int) = pk
                      · have CH0 := Lib.hid (CHK.out (y : Int))
                        rw [if_pos hd] at CH0
                        subst hd
                        clear vd CHK
                        have hch : chg P x y = 0 := CH0.out
                        have nt := (TX4.out y (by omega) (by omega) (by intro k' hk'; first | omega | (have := NTK.out k' hk'; subst this; rw [HPK.out]; omega)))
                        rw [hch] at nt
                        clear hch hk
                        generalize rAt 1000000000 Wn Hn (cst p Wn) F x y = g1 at *
                        have ew1 : IntKind.i64.wrap g1 = g1 := IntWalk.i64_in _ (by omega)
                        have ew2 : IntKind.i64.wrap (g1 + 0) = g1 + 0 := IntWalk.i64_in _ (by omega)
                        by_cases hgM : g1 = 1000000000
                        · have bM : (g1 != 1000000000) = false := by simp [hgM]
                          have HGM := Lib.hid hgM
                          clear hgM nt
                          go_wp2_with fail
                          go_roundw
                          case rel => exact ⟨y + 1, by omega, by go_num, rfl, rfl, by first | rfl | trivial⟩
                          case measure => simp [intOf]; omega
                        · have bM : (g1 != 1000000000) = true := by simp [hgM]
                          have bl : (g1 + 0 == lf) = false := by have h0 : ¬ (g1 + 0 = lf) := fun h => nt ⟨hgM, h⟩; simpa using h0
                          have bl' : (g1 == lf) = (false) := by simpa using bl
                          have HGM := Lib.hid hgM
                          clear hgM nt
                          go_wp2_with fail
                          go_roundw
                          case rel => exact ⟨y + 1, by omega, by go_num, rfl, rfl, by first | rfl | trivial⟩
                          case measure => simp [intOf]; omega
                      · have bd : ((y : Int) - pk != 0) = true := by simp; omega
                        by_cases hm : (y : Int) - pk < -1
                        · clear hd bd
                          go_wp2_with fail
                          go_roundw
                          case rel => exact ⟨y + 1, by omega, by go_num, rfl, rfl, by first | rfl | trivial⟩
                          case measure => simp [intOf]; omega
                        · have hm2 : ¬ (1 : Int) < (y : Int) - pk := by omega
                          have hch : chg P x y = 1 := by rw [CHK.out, if_neg hd]
                          have nt := (TX4.out y (by omega) (by omega) (by intro k' hk'; first | omega | (have := NTK.out k' hk'; subst this; rw [HPK.out]; omega)))
                          rw [hch] at nt
                          clear hch hk
                          generalize rAt 1000000000 Wn Hn (cst p Wn) F x y = g1 at *
                          have ew1 : IntKind.i64.wrap g1 = g1 := IntWalk.i64_in _ (by omega)
                          have ew2 : IntKind.i64.wrap (g1 + 1) = g1 + 1 := IntWalk.i64_in _ (by omega)
                          by_cases hgM : g1 = 1000000000
                          · have bM : (g1 != 1000000000) = false := by simp [hgM]
                            have HGM := Lib.hid hgM
                            clear hgM nt
                            go_wp2_with fail
                            go_roundw
                            case rel => exact ⟨y + 1, by omega, by go_num, rfl, rfl, by first | rfl | trivial⟩
                            case measure => simp [intOf]; omega
                          · have bM : (g1 != 1000000000) = true := by simp [hgM]
                            have bl : (g1 + 1 == lf) = false := by have h0 : ¬ (g1 + 1 = lf) := fun h => nt ⟨hgM, h⟩; simpa using h0
                            have bl' : (g1 == lf) = ((g1 == lf)) := by rfl
                            have HGM := Lib.hid hgM
                            clear hgM nt
                            go_wp2_with fail
                            go_roundw
                            case rel => exact ⟨y + 1, by omega, by go_num, rfl, rfl, by first | rfl | trivial⟩
                            case measure => simp [intOf]; omega
              · obtain rfl : Wn = x := by omega
                go_wp2_with fail
                refine bodyPost_ret (results_tmp2 rfl _ _ _) rfl ?_
                exact ⟨_, rfl, .inr ⟨by rw [HL.out]; exact HLM.out, _, rfl, by rw [← HP.out]; exact own_base own z2⟩, below_call b2 b2.size b5⟩
end Go.Proofs.YtdimlpcbbkokiaaGreat

/- Plain: marks of a line as the reference makes them; the order of the lines by their first rows. No program in sight. -/
namespace Go.Proofs.YtdimlpcbbkokiaaGreat
open Go.RowKit
set_option linter.unusedVariables false
/-- what is forbidden while the reference marks a line: the columns before x, and column x up to row y -/
def mkS (W : Int) (f : Int → Bool) (P : Nat → Int) (x y : Int) : Int → Bool := fun i =>
  f i || decide ((i % W < x ∨ (i % W = x ∧ i / W < y)) ∧ P (i % W).toNat - 2 ≤ i / W ∧ i / W ≤ P (i % W).toNat + 2)
section
variable {W H : Int} {f : Int → Bool} {P : Nat → Int}
theorem mkS_zero (hW : 0 < W) {i : Int} (h0 : 0 ≤ i) : mkS W f P 0 0 i = f i := by
  unfold mkS
  have h1 : 0 ≤ i % W := Int.emod_nonneg _ (by omega)
  have h2 : 0 ≤ i / W := Int.ediv_nonneg h0 (by omega)
  rw [show decide _ = false from decide_eq_false ?_, Bool.or_false]
  rintro ⟨h, -, -⟩
  omega
theorem mkS_set {x : Nat} {y : Int} (hx : (x : Int) < W) (h1 : P x - 2 ≤ y) (h2 : y ≤ P x + 2) (i : Int) : (if i = y * W + x then true else mkS W f P x y i) = mkS W f P x (y + 1) i := by
  have a := idx_mod (x := (x : Int)) (y := y) (W := W) (by omega) hx
  have b := idx_div (x := (x : Int)) (y := y) (W := W) (by omega) hx
  by_cases e : i = y * W + x
  · rw [if_pos e]
    subst e
    unfold mkS
    rw [a, b, Int.toNat_natCast, show decide _ = true from decide_eq_true ⟨.inr ⟨rfl, by omega⟩, h1, h2⟩, Bool.or_true]
  · rw [if_neg e]
    unfold mkS
    refine bool_or_congr (and_congr_left fun h => or_congr Iff.rfl (and_congr_right fun h3 => ?_))
    have : i / W ≠ y := fun h4 => e (by
      have := Int.emod_add_mul_ediv i W
      rw [h3, h4, Int.mul_comm] at this; omega)
    omega
theorem mkS_skip {x : Nat} {y : Int} (h : ¬ (P x - 2 ≤ y ∧ y ≤ P x + 2)) (i : Int) : mkS W f P x y i = mkS W f P x (y + 1) i := by
  unfold mkS
  refine bool_or_congr (and_congr_left fun h2 => or_congr Iff.rfl (and_congr_right fun h3 => ?_))
  rw [h3, Int.toNat_natCast] at h2
  omega
theorem mkS_col {x : Int} {i : Int} (h0 : 0 ≤ i) (hi : i < W * H) (hW : 0 < W) : mkS W f P x H i = mkS W f P (x + 1) 0 i := by
  have h1 : i / W < H := Int.ediv_lt_of_lt_mul hW (by rw [Int.mul_comm]; exact hi)
  have h2 : 0 ≤ i / W := Int.ediv_nonneg h0 (by omega)
  unfold mkS
  refine bool_or_congr (and_congr_left fun _ => ?_)
  omega
theorem mkS_end {x : Int} {i : Int} (hW : 0 < W) (hx : x = W) : mkS W f P x 0 i = mkF W f P i := by
  unfold mkS mkF
  have h1 : i % W < W := Int.emod_lt_of_pos _ hW
  refine bool_or_congr ?_
  constructor
  · rintro ⟨-, h⟩; exact h
  · intro h; exact ⟨.inl (by omega), h⟩
end
/-- the numbers below i whose key is y -/
def atKey (key : Nat → Int) (i : Nat) (y : Int) : List Nat := (List.range i).filter fun j => decide (key j = y)
/-- the numbers below k, by their keys, those with keys below y -/
def byKey (key : Nat → Int) (k : Nat) : Nat → List Nat
  | 0 => []
  | y + 1 => byKey key k y ++ atKey key k y
theorem atKey_mem {key : Nat → Int} {i : Nat} {y : Int} {j : Nat} : j ∈ atKey key i y ↔ j < i ∧ key j = y := by
  unfold atKey; rw [List.mem_filter, List.mem_range, decide_eq_true_iff]
theorem byKey_mem {key : Nat → Int} {k y : Nat} {j : Nat} : j ∈ byKey key k y ↔ j < k ∧ 0 ≤ key j ∧ key j < y := by
  induction y with
  | zero => constructor
            · intro h; simp [byKey] at h
            · rintro ⟨-, h1, h2⟩; omega
  | succ y ih =>
    rw [byKey, List.mem_append, ih, atKey_mem]
    omega
theorem atKey_yes {key : Nat → Int} {i : Nat} {y : Int} (h : key i = y) : atKey key (i + 1) y = atKey key i y ++ [i] := by
  unfold atKey; rw [List.range_succ, List.filter_append]; simp [h]
theorem atKey_no {key : Nat → Int} {i : Nat} {y : Int} (h : key i ≠ y) : atKey key (i + 1) y = atKey key i y := by
  unfold atKey; rw [List.range_succ, List.filter_append]; simp [h]
theorem atKey_nodup (key : Nat → Int) (i : Nat) (y : Int) : (atKey key i y).Nodup := List.nodup_range.filter _
theorem byKey_nodup (key : Nat → Int) (k y : Nat) : (byKey key k y).Nodup := by
  induction y with
  | zero => exact List.nodup_nil
  | succ y ih =>
    rw [byKey]
    refine List.nodup_append.2 ⟨ih, atKey_nodup _ _ _, fun a ha b hb e => ?_⟩
    subst e
    have := byKey_mem.1 ha
    have := atKey_mem.1 hb
    omega
theorem byKey_sorted (key : Nat → Int) (k y : Nat) : (byKey key k y).Pairwise fun i j => key i ≤ key j := by
  induction y with
  | zero => exact List.Pairwise.nil
  | succ y ih =>
    rw [byKey]
    refine List.pairwise_append.2 ⟨ih, ?_, fun a ha b hb => ?_⟩
    · refine List.Pairwise.imp_of_mem (R := fun _ _ => True) (fun {a b} ha hb _ => ?_) (List.pairwise_of_forall (fun _ _ => trivial))
      have := atKey_mem.1 ha
      have := atKey_mem.1 hb
      omega
    · have := byKey_mem.1 ha
      have := atKey_mem.1 hb
      omega
theorem byKey_perm {key : Nat → Int} {k y : Nat} (h : ∀ j, j < k → 0 ≤ key j ∧ key j < y) : (byKey key k y).Perm (List.range k) := by
  refine (List.perm_ext_iff_of_nodup (byKey_nodup _ _ _) List.nodup_range).2 fun j => ?_
  rw [byKey_mem, List.mem_range]
  constructor
  · exact fun h => h.1
  · exact fun hj => ⟨hj, h j hj⟩
theorem byKey_len (key : Nat → Int) (k y : Nat) : (byKey key k y).length ≤ k := by
  have h : (byKey key k y).Perm ((List.range k).filter fun j => decide (0 ≤ key j ∧ key j < y)) := (List.perm_ext_iff_of_nodup (byKey_nodup _ _ _) (List.nodup_range.filter _)).2 fun j => by
    rw [byKey_mem, List.mem_filter, List.mem_range, decide_eq_true_iff]
  rw [h.length_eq]
  have := List.length_filter_le (fun j => decide (0 ≤ key j ∧ key j < (y : Int))) (List.range k)
  rw [List.length_range] at this
  exact this
theorem part_len {key : Nat → Int} {k y i : Nat} (hi : i ≤ k) : (byKey key k y ++ atKey key i y).length ≤ k := by
  have h1 := byKey_len key k (y + 1)
  rw [byKey, List.length_append] at h1
  rw [List.length_append]
  have h2 : (atKey key i y).length ≤ (atKey key k y).length := ((List.range_sublist.2 hi).filter _).length_le
  omega
/-- there is one order only, if no two keys are the same -/
theorem sorted_uniq {key : Nat → Int} : ∀ {l l' : List Nat}, l.Perm l' → l.Pairwise (fun i j => key i ≤ key j) → l'.Pairwise (fun i j => key i ≤ key j) → (∀ i j, i ∈ l → j ∈ l → key i = key j → i = j) → l = l'
  | [], l', hp, _, _, _ => by rw [List.nil_perm.1 hp]
  | a :: l, [], hp, _, _, _ => by have := hp.length_eq; simp at this
  | a :: l, b :: l', hp, h1, h2, hk => by
    have hb : b ∈ a :: l := hp.mem_iff.2 (List.mem_cons_self)
    have ha : a ∈ b :: l' := hp.mem_iff.1 (List.mem_cons_self)
    have e1 : key a ≤ key b := by
      rcases List.mem_cons.1 hb with rfl | hb
      · exact Int.le_refl _
      · exact (List.pairwise_cons.1 h1).1 b hb
    have e2 : key b ≤ key a := by
      rcases List.mem_cons.1 ha with rfl | ha
      · exact Int.le_refl _
      · exact (List.pairwise_cons.1 h2).1 a ha
    have e : a = b := hk a b (List.mem_cons_self) hb (by omega)
    subst e
    rw [sorted_uniq (List.perm_cons a |>.1 hp) (List.pairwise_cons.1 h1).2 (List.pairwise_cons.1 h2).2 (fun i j hi hj => hk i j (List.mem_cons_of_mem _ hi) (List.mem_cons_of_mem _ hj))]
theorem ln_pathB2 {W H : Int} {p : Int → Int} {k : Nat} (hW : 1 ≤ W) (hW2 : W ≤ 640) (hH : 1 ≤ H) (hg : GC 1073741824 W H (cst p W) k < 1073741824) : isPathB W H W.toNat (fun j => LN 1073741824 W H (cst p W) k j.toNat) = true :=
  path_B hW hH (by omega) (fun x x0 x1 => by have := ln_ok (cst_bd p W) (by omega) (by omega) (by omega) hg x.toNat (by omega); exact ⟨this.1, this.2.1⟩)
    (fun x x0 x1 => by have := ln_step (cst_bd p W) (by omega) (by omega) (by omega) hg x.toNat (by omega); show LN _ _ _ _ _ x.toNat - 1 ≤ LN _ _ _ _ _ (x + 1).toNat ∧ LN _ _ _ _ _ (x + 1).toNat ≤ LN _ _ _ _ _ x.toNat + 1; rw [show (x + 1).toNat = x.toNat + 1 by omega]; exact this)
end Go.Proofs.YtdimlpcbbkokiaaGreat

/- Walk: the reference's lines (custosref03.Trace). -/
namespace Go.Proofs.YtdimlpcbbkokiaaGreat
open Go.RowKit Go.Shelf
set_option linter.unusedVariables false
attribute [local go_sem] Oper.semAt_some

/-- truth values as pixels -/
def b01 (f : Int → Bool) : Int → Int := fun i => if f i = true then 1 else 0
theorem b01_set {f : Int → Bool} {g : Int → Bool} (i : Int) (h : ∀ j, (if j = i then true else f j) = g j) (j : Int) : upd (b01 f) i 1 j = b01 g j := by
  unfold upd b01
  rw [← h j]
  by_cases e : j = i
  · rw [if_pos e, if_pos e, if_pos rfl]
  · rw [if_neg e, if_neg e]
theorem b01_congr {f g : Int → Bool} {i : Int} (h : f i = g i) : b01 f i = b01 g i := by unfold b01; rw [h]
theorem b01_ink {W H : Int} {f : Int → Bool} {x y : Int} (x0 : 0 ≤ x) (x1 : x < W) (y0 : 0 ≤ y) (y1 : y < H) : inkB W H (b01 f) x y = f (y * W + x) := by
  rw [inkB_in x0 x1 y0 y1]
  unfold b01
  cases f (y * W + x) <;> simp

theorem Found.drew {B : Nat} {w : World} {m : Nat} {ln : Nat → Nat → Int} {k : Nat} {vo : Value} {v : Nat → Value} (h : Found B w m ln k vo v) : Found B w.drew m ln k vo v := ⟨h.row, h.lines⟩
theorem Found.grownBlk {B : Nat} {w w' : World} {m g t : Nat} {cs : Array Value} {ln : Nat → Nat → Int} {k : Nat} {vo : Value} {v : Nat → Value} (h : Found B w m ln k vo v) (hb : Blk w g t cs) (h1 : t ≠ 37) (h2 : t ≠ 3) (hg : w.grownBy w' (some g)) : Found B w' m ln k vo v :=
  ⟨own_move h.row fun j hj => hg.block j (own_ge h.row hj).2 fun e => own_neB h.row hb h1 (by rw [← e]; exact hj.symm), fun i hi => own_move (h.lines i hi) fun j hj => hg.block j (own_ge (h.lines i hi) hj).2 fun e => own_neB (h.lines i hi) hb h2 (by rw [← e]; exact hj.symm)⟩

set_option maxRecDepth 100000 in
set_option maxHeartbeats 4000000 in
theorem rtrace_ok (W H : Int) (A : Option Addr) (n c : Nat) (p : Int → Int) (w : World) (hA : ArrB w w.heap.size A n p) (hE : chk W H n p = 0) (hW : 1 ≤ W) (hH : 1 ≤ H) :
    Calls Tryz.prog 8 #[.agg #[.int .i64 W, .int .i64 H, .slice A n c]] w (New w fun v w' => TraceOut w W H p v w') := by
  obtain ⟨Wn, hWn⟩ : ∃ Wn : Nat, W = Wn := ⟨W.toNat, by omega⟩
  obtain ⟨Hn, hHn⟩ : ∃ Hn : Nat, H = Hn := ⟨H.toNat, by omega⟩
  subst hWn
  subst hHn
  obtain ⟨hW1, hW2, hH1, hH2, hnn, -⟩ := chk_ok hE
  obtain ⟨m1, m2⟩ := area_bd hW1 hW2 hH1 hH2
  have RN := Lib.hid fun w' => rnew_any Wn Hn n w' hW1 hW2 hH1 hH2 hnn
  have BE := Lib.hid fun k A' c' w' hA' hF' => rbest_any Wn Hn Wn Hn A A' n c n c' p (b01 (FB 1073741824 Wn Hn (cst p Wn) k)) (fun x y => FB 1073741824 Wn Hn (cst p Wn) k (y * Wn + x)) w' hA' hE hF' hnn (fun x y x0 x1 y0 y1 => b01_ink x0 x1 y0 y1) hW hH rfl rfl
  have RLQ := Lib.hid fun k => rleast_eq (N := 1073741824) (M := 1000000000) (W := Wn) (H := Hn) (c := cst p Wn) (F := fun x y => FB 1073741824 Wn Hn (cst p Wn) k (y * Wn + x)) (cst_bd p Wn) (by omega) (by omega) (by omega) (by omega)
  have CO := Lib.hid fun (l : Int → Int) P' d' w' hA' hP' hI => rcostOf_any Wn Hn A P' n c Wn d' p l w' hA' hP' hE hI
  have bW : ((Wn : Int) == 0) = false := by simp; omega
  have bH : ((Hn : Int) == 0) = false := by simp; omega
  have HNN := Lib.hid hnn
  clear hE hnn
  go_enter Tryz.func8, Tryz.ntmps8
  go_wp2_with fail
  refine (RN.out _).mono ?_
  rintro e w1 ⟨_, rfl, ⟨gp, rfl, hgp, kp⟩, hb1⟩
  have k1 : Blk w1 w.heap.size 24 #[.int .i64 Wn, .int .i64 Hn, .slice A n c] := (Blk.new _ _ _).below' hb1
  have b1 : Below w.heap.size w w1 := below_call (by (repeat (first | exact Below.refl _ _ | assumption | refine Below.drew ?_ | refine below_drewN ?_ _ | refine Below.alloc ?_ (by first | omega | (simp; done) | (simp; omega)) _ | refine Below.setCell ?_ (by first | omega | (simp; done) | (simp; omega)) _ | refine below_setRow ?_ (by first | omega | (simp; done) | (simp; omega)) _ ))) (by simp; try omega) hb1
  have z1 := kp.lt
  have z2 : w.heap.size < gp := by simp at hgp; omega
  have z3 := k1.lt
  clear hb1
  have k2 := k1.alloc (.cells #[.int .i64 Wn, .int .i64 Hn, .slice (some ⟨gp, 0, none⟩) n n] 24)
  have kx2 := Blk.new w1 24 #[.int .i64 Wn, .int .i64 Hn, .slice (some ⟨gp, 0, none⟩) n n]
  have kp2 : Blk (w1.alloc (.cells #[.int .i64 Wn, .int .i64 Hn, .slice (some ⟨gp, 0, none⟩) n n] 24)) gp 5 (u8s n (b01 (FB 1073741824 Wn Hn (cst p Wn) 0))) := (kp.alloc _).u8conv fun _ _ _ => rfl
  have b2 : Below w.heap.size w (w1.alloc (.cells #[.int .i64 Wn, .int .i64 Hn, .slice (some ⟨gp, 0, none⟩) n n] 24)) := b1.alloc b1.size _
  have F2 : Found w.heap.size (w1.alloc (.cells #[.int .i64 Wn, .int .i64 Hn, .slice (some ⟨gp, 0, none⟩) n n] 24)) Wn (LN 1073741824 Wn Hn (cst p Wn)) 0 (.slice none 0 0) (fun _ => .slice none 0 0) := ⟨World.ownsRow_nil _ _ _ _, fun i hi => by omega⟩
  have k2 := k1.alloc (.cells #[.int .i64 Wn, .int .i64 Hn, .slice (some ⟨gp, 0, none⟩) n n] 24)
  have kx2 := Blk.new w1 24 #[.int .i64 Wn, .int .i64 Hn, .slice (some ⟨gp, 0, none⟩) n n]
  have kp2 : Blk (w1.alloc (.cells #[.int .i64 Wn, .int .i64 Hn, .slice (some ⟨gp, 0, none⟩) n n] 24)) gp 5 (u8s n (b01 (FB 1073741824 Wn Hn (cst p Wn) 0))) := (kp.alloc _).u8conv fun _ _ _ => rfl
  have b2 : Below w.heap.size w (w1.alloc (.cells #[.int .i64 Wn, .int .i64 Hn, .slice (some ⟨gp, 0, none⟩) n n] 24)) := b1.alloc b1.size _
  have F2 : Found w.heap.size (w1.alloc (.cells #[.int .i64 Wn, .int .i64 Hn, .slice (some ⟨gp, 0, none⟩) n n] 24)) Wn (LN 1073741824 Wn Hn (cst p Wn)) 0 (.slice none 0 0) (fun _ => .slice none 0 0) := ⟨World.ownsRow_nil _ _ _ _, fun i hi => by omega⟩
  have k2 := k1.alloc (.cells #[.int .i64 Wn, .int .i64 Hn, .slice (some ⟨gp, 0, none⟩) n n] 24)
  have kx2 := Blk.new w1 24 #[.int .i64 Wn, .int .i64 Hn, .slice (some ⟨gp, 0, none⟩) n n]
  have kp2 : Blk (w1.alloc (.cells #[.int .i64 Wn, .int .i64 Hn, .slice (some ⟨gp, 0, none⟩) n n] 24)) gp 5 (u8s n (b01 (FB 1073741824 Wn Hn (cst p Wn) 0))) := (kp.alloc _).u8conv fun _ _ _ => rfl
  have b2 : Below w.heap.size w (w1.alloc (.cells #[.int .i64 Wn, .int .i64 Hn, .slice (some ⟨gp, 0, none⟩) n n] 24)) := b1.alloc b1.size _
  have F2 : Found w.heap.size (w1.alloc (.cells #[.int .i64 Wn, .int .i64 Hn, .slice (some ⟨gp, 0, none⟩) n n] 24)) Wn (LN 1073741824 Wn Hn (cst p Wn)) 0 (.slice none 0 0) (fun _ => .slice none 0 0) := ⟨World.ownsRow_nil _ _ _ _, fun i hi => by omega⟩
  have k2 := k1.alloc (.cells #[.int .i64 Wn, .int .i64 Hn, .slice (some ⟨gp, 0, none⟩) n n] 24)
  have kx2 := Blk.new w1 24 #[.int .i64 Wn, .int .i64 Hn, .slice (some ⟨gp, 0, none⟩) n n]
  have kp2 : Blk (w1.alloc (.cells #[.int .i64 Wn, .int .i64 Hn, .slice (some ⟨gp, 0, none⟩) n n] 24)) gp 5 (u8s n (b01 (FB 1073741824 Wn Hn (cst p Wn) 0))) := (kp.alloc _).u8conv fun _ _ _ => rfl
  have b2 : Below w.heap.size w (w1.alloc (.cells #[.int .i64 Wn, .int .i64 Hn, .slice (some ⟨gp, 0, none⟩) n n] 24)) := b1.alloc b1.size _
  have F2 : Found w.heap.size (w1.alloc (.cells #[.int .i64 Wn, .int .i64 Hn, .slice (some ⟨gp, 0, none⟩) n n] 24)) Wn (LN 1073741824 Wn Hn (cst p Wn)) 0 (.slice none 0 0) (fun _ => .slice none 0 0) := ⟨World.ownsRow_nil _ _ _ _, fun i hi => by omega⟩
  have k2 := k1.alloc (.cells #[.int .i64 Wn, .int .i64 Hn, .slice (some ⟨gp, 0, none⟩) n n] 24)
  have kx2 := Blk.new w1 24 #[.int .i64 Wn, .int .i64 Hn, .slice (some ⟨gp, 0, none⟩) n n]
  have kp2 : Blk (w1.alloc (.cells #[.int .i64 Wn, .int .i64 Hn, .slice (some ⟨gp, 0, none⟩) n n] 24)) gp 5 (u8s n (b01 (FB 1073741824 Wn Hn (cst p Wn) 0))) := (kp.alloc _).u8conv fun _ _ _ => rfl
  have b2 : Below w.heap.size w (w1.alloc (.cells #[.int .i64 Wn, .int .i64 Hn, .slice (some ⟨gp, 0, none⟩) n n] 24)) := b1.alloc b1.size _
  have F2 : Found w.heap.size (w1.alloc (.cells #[.int .i64 Wn, .int .i64 Hn, .slice (some ⟨gp, 0, none⟩) n n] 24)) Wn (LN 1073741824 Wn Hn (cst p Wn)) 0 (.slice none 0 0) (fun _ => .slice none 0 0) := ⟨World.ownsRow_nil _ _ _ _, fun i hi => by omega⟩
  have k2 := k1.alloc (.cells #[.int .i64 Wn, .int .i64 Hn, .slice (some ⟨gp, 0, none⟩) n n] 24)
  have kx2 := Blk.new w1 24 #[.int .i64 Wn, .int .i64 Hn, .slice (some ⟨gp, 0, none⟩) n n]
  have kp2 : Blk (w1.alloc (.cells #[.int .i64 Wn, .int .i64 Hn, .slice (some ⟨gp, 0, none⟩) n n] 24)) gp 5 (u8s n (b01 (FB 1073741824 Wn Hn (cst p Wn) 0))) := (kp.alloc _).u8conv fun _ _ _ => rfl
  have b2 : Below w.heap.size w (w1.alloc (.cells #[.int .i64 Wn, .int .i64 Hn, .slice (some ⟨gp, 0, none⟩) n n] 24)) := b1.alloc b1.size _
  have F2 : Found w.heap.size (w1.alloc (.cells #[.int .i64 Wn, .int .i64 Hn, .slice (some ⟨gp, 0, none⟩) n n] 24)) Wn (LN 1073741824 Wn Hn (cst p Wn)) 0 (.slice none 0 0) (fun _ => .slice none 0 0) := ⟨World.ownsRow_nil _ _ _ _, fun i hi => by omega⟩
  have k2 := k1.alloc (.cells #[.int .i64 Wn, .int .i64 Hn, .slice (some ⟨gp, 0, none⟩) n n] 24)
  have kx2 := Blk.new w1 24 #[.int .i64 Wn, .int .i64 Hn, .slice (some ⟨gp, 0, none⟩) n n]
  have kp2 : Blk (w1.alloc (.cells #[.int .i64 Wn, .int .i64 Hn, .slice (some ⟨gp, 0, none⟩) n n] 24)) gp 5 (u8s n (b01 (FB 1073741824 Wn Hn (cst p Wn) 0))) := (kp.alloc _).u8conv fun _ _ _ => rfl
  have b2 : Below w.heap.size w (w1.alloc (.cells #[.int .i64 Wn, .int .i64 Hn, .slice (some ⟨gp, 0, none⟩) n n] 24)) := b1.alloc b1.size _
  have F2 : Found w.heap.size (w1.alloc (.cells #[.int .i64 Wn, .int .i64 Hn, .slice (some ⟨gp, 0, none⟩) n n] 24)) Wn (LN 1073741824 Wn Hn (cst p Wn)) 0 (.slice none 0 0) (fun _ => .slice none 0 0) := ⟨World.ownsRow_nil _ _ _ _, fun i hi => by omega⟩
  go_upto_block 0 with fail
  generalize w1.alloc (.cells #[.int .i64 Wn, .int .i64 Hn, .slice (some ⟨gp, 0, none⟩) n n] 24) = w2 at *
  generalize w1.heap.size = gx at *
  clear k1 b1 kp
  have NE : Hid (gp ≠ gx ∧ w.heap.size ≠ gx ∧ w.heap.size ≠ gp) := by show _ ∧ _; omega
  go_cut [3] from 25 to 80 (fun vo wx => ∃ (k : Nat) (v : Nat → Value), Many 1073741824 Wn Hn (cst p Wn) k ∧ Found w.heap.size wx Wn (LN 1073741824 Wn Hn (cst p Wn)) k vo v ∧ Below w.heap.size w wx ∧ Blk wx w.heap.size 24 #[.int .i64 Wn, .int .i64 Hn, .slice A n c])
  case first =>
    obtain ⟨i0, hi0, hz0, hz1, hz2⟩ := info_parts infoInts
    go_wp2_with fail
    go_loopw [3] (fun vo wr => ∃ (k : Nat) (v : Nat → Value), k ≤ 60 ∧ (∀ j, j < k → Good 1073741824 Wn Hn (cst p Wn) j) ∧ Found w.heap.size wr Wn (LN 1073741824 Wn Hn (cst p Wn)) k vo v ∧ Below w.heap.size w wr ∧ Blk wr w.heap.size 24 #[.int .i64 Wn, .int .i64 Hn, .slice A n c] ∧ Blk wr gx 24 #[.int .i64 Wn, .int .i64 Hn, .slice (some ⟨gp, 0, none⟩) n n] ∧ Blk wr gp 5 (u8s n (b01 (FB 1073741824 Wn Hn (cst p Wn) k)))) (fun vo _ => 60 - lenV vo)
    case atStart => exact ⟨0, _, by omega, fun j hj => by omega, F2, b2, k2, kx2, kp2⟩
    case round =>
      obtain ⟨k, v, hk, hg, hF, b3, ki, kx, kf⟩ := hrel
      clear b2 k2 kx2 kp2 F2
      have rl := own_len hF.row
      obtain ⟨Ao, co, rfl, -, -⟩ := own_arr hF.row
      obtain ⟨p1, p2, p3⟩ := ki.cells3
      obtain ⟨r1, r2, r3⟩ := kx.cells3
      have a3 := hA.to b3
      have HK := Lib.hid hk
      have z5 := kx.lt
      have z6 := b3.size
      clear hk
      by_cases h60 : (k : Int) < 60
      · have RLk := Lib.hid (show (GC 1073741824 Wn Hn (cst p Wn) k < 1073741824 ∧ rleast 1000000000 Wn Hn (cst p Wn) (fun x y => FB 1073741824 Wn Hn (cst p Wn) k (y * Wn + x)) = GC 1073741824 Wn Hn (cst p Wn) k ∧ rleast 1000000000 Wn Hn (cst p Wn) (fun x y => FB 1073741824 Wn Hn (cst p Wn) k (y * Wn + x)) < 1000000000) ∨ (GC 1073741824 Wn Hn (cst p Wn) k = 1073741824 ∧ rleast 1000000000 Wn Hn (cst p Wn) (fun x y => FB 1073741824 Wn Hn (cst p Wn) k (y * Wn + x)) = 1000000000) from RLQ.out k)
        go_wp2_with fail
        refine (BE.out k (some ⟨gp, 0, none⟩) n _ a3 (kf.arrB kf.lt)).mono ?_
        rintro e w6 ⟨_, rfl, hout, hb6⟩
        have F6 := hF.below hb6
        have b6 := below_call b3 b3.size hb6
        have k6 := ki.below' hb6
        have kx6 := kx.below' hb6
        have kf6 := kf.below' hb6
        have z9 := b6.size
        clear hF b3 ki kx kf hb6 a3 p1 p2 p3 r1 r2 r3
        obtain ⟨p1, p2, p3⟩ := k6.cells3
        obtain ⟨r1, r2, r3⟩ := kx6.cells3
        rcases hout with ⟨hN, rfl⟩ | ⟨hlt, vp, rfl, hown⟩
        · have HN2 := Lib.hid hN
          clear hN
          have MK : Hid (Many 1073741824 Wn Hn (cst p Wn) k) := by
            show Many _ _ _ _ _
            exact ⟨HK.out, hg, fun _ h => by have := h.1; have := RLk.out; have := HN2.out; omega⟩
          go_wp2_with fail
          go_quiet (fail)
          go_wp2_with fail
          go_meet
          exact ⟨k, v, MK.out, F6.below (drewN_below _), below_drewN b6 _, k6.drewN _⟩
        · have hlg : GC 1073741824 Wn Hn (cst p Wn) k < 1073741824 := by have := RLk.out; omega
          replace hown : w6.ownsRow wr.heap.size 3 1 vp Wn ((List.range Wn).map fun j => Value.int .i64 (LN 1073741824 Wn Hn (cst p Wn) k j)) := hown
          obtain ⟨g, cp, rfl⟩ := own_some hown (by omega)
          obtain ⟨A6, c6, e6, ha6⟩ := own_arrI hown
          cases e6
          have PB := ln_pathB2 (p := p) (k := k) hW (by omega) hH hlg
          have LC := ln_cost (N := 1073741824) (W := Wn) (H := Hn) (c := cst p Wn) (k := k) (cst_bd p Wn) (by omega) (by omega) (by omega) hlg
          have CB := costP_bd (cst_bd p Wn) (fun i => LN 1073741824 Wn Hn (cst p Wn) k i.toNat) Wn
          rw [Int.toNat_natCast] at PB LC
          have COk := Lib.hid fun P' d' w' hA' hP' => CO.out (fun j => LN 1073741824 Wn Hn (cst p Wn) k j.toNat) P' d' w' hA' hP' PB
          rw [LC] at COk CB
          have PL := Lib.hid fun (x : Nat) (hx : (x : Int) < Wn) => ln_ok (cst_bd p Wn) (by omega) (by omega) (by omega) hlg x hx
          have GD := Lib.hid (show 8 * GC 1073741824 Wn Hn (cst p Wn) k ≤ Wn → Good 1073741824 Wn Hn (cst p Wn) k from fun h => ⟨hlg, h⟩)
          have NG := Lib.hid (show ¬ 8 * GC 1073741824 Wn Hn (cst p Wn) k ≤ Wn → ¬ Good 1073741824 Wn Hn (cst p Wn) k from fun h g => h g.2)
          generalize GC 1073741824 Wn Hn (cst p Wn) k = C at *
          obtain ⟨CB1, CB2⟩ := CB
          have v1 : IntKind.i64.wrap (8 * C) = 8 * C := IntWalk.i64_in _ (by omega)
          have B6 := Lib.hid b6; have K6 := Lib.hid k6; have KX6 := Lib.hid kx6; have KF6 := Lib.hid kf6; have FF6 := Lib.hid F6; have HO := Lib.hid hown; have HA6 := Lib.hid ha6
          clear b6 kx6 kf6 F6 hown ha6 PB LC hlt RLk BE
          go_wp2_with fail
          go_region_held3 (fun w' => w'.cell? ⟨w.heap.size, 0, none⟩ = some (.int .i64 Wn) ∧ w'.cell? ⟨w.heap.size, 1, none⟩ = some (.int .i64 Hn) ∧ w'.cell? ⟨w.heap.size, 2, none⟩ = some (.slice A n c))
            (first | (simp [go_sem, *]; done) | (go_keep; done))
            ((go_at_call 26
              refine (COk.out _ _ _ (hA.to B6.out.drew) (show ArrI w6.drew w6.drew.heap.size _ _ _ from HA6.out)).mono ?_
              rintro e w7 ⟨rfl, hb7⟩
              have b7 := below_call B6.out.drew B6.out.drew.size hb7
              have k7 := K6.out.drew.below' hb7
              have kx7 := KX6.out.drew.below' hb7
              have kf7 := KF6.out.drew.below' hb7
              have F7 := FF6.out.drew.below hb7
              have own7 := own_below (w := w6.drew) HO.out hb7
              obtain ⟨x1, x2, x3⟩ := k7.cells3))
          clear p1 p2 p3 r1 r2 r3 k6
          obtain ⟨p1, p2, p3⟩ := k7.cells3
          obtain ⟨r1, r2, r3⟩ := kx7.cells3
          by_cases hc : 8 * C ≤ Wn
          · have dc : decide ((Wn : Int) < 8 * C) = false := decide_eq_false (by omega)
            go_wp2_with (at_builtin; refine wpList_append_own _ rfl (.tmp 45) (.tmp 47) 25 rfl w.heap.size 37 i0 (.slice none 0 0) 1 24 Tryz.underlying25 hi0 hz0 hz1 hz2 rfl (by decide) _ _ _ rfl (F7.row.alloc _) ⟨w7.heap.size, 0, none⟩ 1 1 [.slice (some ⟨g, 0, none⟩) Wn cp] rfl rfl ?c1 ?c2 ?c3 ?c4 ?c5 ?_)
            try (case c1 => exact cell_one_new _ _ _)
            try (case c2 => simp [Value.oneCell'])
            try (case c3 => unfold maxLen; omega)
            try (case c4 => omega)
            try (case c5 => first | omega | (simp; done) | (simp; have := b7.size; omega))
            intro v' w8 own8 hg8 _
            have G1 := GD.out hc
            obtain ⟨vf, hv1⟩ : ∃ vf : Nat → Value, vf = fun i => if i = k then .slice (some ⟨g, 0, none⟩) Wn cp else v i := ⟨_, rfl⟩
            have F8 : Found w.heap.size w8 Wn (LN 1073741824 Wn Hn (cst p Wn)) (k + 1) v' vf := by
              refine ⟨?_, fun i hi => ?_⟩
              · rw [range_snoc, hv1]
                simp only [if_true]
                rw [show (List.range k).map (fun i => if i = k then Value.slice (some ⟨g, 0, none⟩) Wn cp else v i) = (List.range k).map v from List.map_congr_left fun i hi => by rw [if_neg]; have := List.mem_range.1 hi; omega]
                exact own8
              · rw [hv1]
                show World.ownsRow _ _ _ _ (if i = k then _ else v i) _ _
                by_cases e : i = k
                · subst e
                  rw [if_pos rfl]
                  exact own_grown ((own_base own7 z6).alloc _) (F7.row.alloc _) (by decide) hg8
                · rw [if_neg e]
                  exact own_grown ((F7.lines i (by omega)).alloc _) (F7.row.alloc _) (by decide) hg8
            have b8 : Below w.heap.size w w8 := (b7.alloc b7.size (.cells #[.slice (some ⟨g, 0, none⟩) Wn cp] 37)).grown hg8 (by simp; have := b7.size; omega) (fun j hj => (own_ge F7.row hj).1)
            have k8 := (k7.alloc (.cells #[.slice (some ⟨g, 0, none⟩) Wn cp] 37)).grown hg8 (own_neB F7.row k7 (by decide))
            have kx8 := (kx7.alloc (.cells #[.slice (some ⟨g, 0, none⟩) Wn cp] 37)).grown hg8 (own_neB F7.row kx7 (by decide))
            have kf8 := (kf7.alloc (.cells #[.slice (some ⟨g, 0, none⟩) Wn cp] 37)).grown hg8 (own_neB F7.row kf7 (by decide))
            have v1k : vf k = .slice (some ⟨g, 0, none⟩) Wn cp := by rw [hv1]; simp
            have V1K := Lib.hid v1k
            have ln8 := own_len own8
            clear hv1 v1k k7 kx7 kf7 F7 b7 own7 own8 hg8 v1 p1 p2 p3 r1 r2 r3 dc hc x1 x2 x3
            obtain ⟨f, hf⟩ : ∃ f, f = FB 1073741824 Wn Hn (cst p Wn) k := ⟨_, rfl⟩
            have FBS : Hid (FB 1073741824 Wn Hn (cst p Wn) (k + 1) = mkF Wn f (LN 1073741824 Wn Hn (cst p Wn) k)) := by show _ = _; rw [hf]; rfl
            rw [← hf] at kf8
            have kf8 := kf8.u8conv (r := b01 (mkS Wn f (LN 1073741824 Wn Hn (cst p Wn) k) (0 : Nat) (0 : Nat))) fun i i0 i1 => b01_congr (mkS_zero (by omega) i0).symm
            clear hf
            go_wp2_with fail
            go_loopw [7] (fun s wr => ∃ x : Nat, (x : Int) ≤ Wn ∧ s = .int .i64 x ∧ Found w.heap.size wr Wn (LN 1073741824 Wn Hn (cst p Wn)) (k + 1) v' vf ∧ Below w.heap.size w wr ∧ Blk wr w.heap.size 24 #[.int .i64 Wn, .int .i64 Hn, .slice A n c] ∧ Blk wr gx 24 #[.int .i64 Wn, .int .i64 Hn, .slice (some ⟨gp, 0, none⟩) n n] ∧ Blk wr gp 5 (u8s n (b01 (mkS Wn f (LN 1073741824 Wn Hn (cst p Wn) k) x (0 : Nat))))) (fun s _ => (Wn - intOf s).toNat)
            case atStart => exact ⟨0, by omega, rfl, F8, b8, k8, kx8, kf8⟩
            case round =>
              obtain ⟨x, hx, rfl, F9, b9, k9, kx9, kf9⟩ := hrel
              clear F8 b8 k8 kx8 kf8
              obtain ⟨p1, p2, p3⟩ := k9.cells3
              obtain ⟨r1, r2, r3⟩ := kx9.cells3
              by_cases xl : (x : Int) < Wn
              · obtain ⟨pl0, pl1, -⟩ := PL.out x xl
                go_wp2_with fail
                go_loopw [8] (fun s wr => ∃ y : Nat, (y : Int) ≤ Hn ∧ s = .int .i64 y ∧ Found w.heap.size wr Wn (LN 1073741824 Wn Hn (cst p Wn)) (k + 1) v' vf ∧ Below w.heap.size w wr ∧ Blk wr w.heap.size 24 #[.int .i64 Wn, .int .i64 Hn, .slice A n c] ∧ Blk wr gx 24 #[.int .i64 Wn, .int .i64 Hn, .slice (some ⟨gp, 0, none⟩) n n] ∧ Blk wr gp 5 (u8s n (b01 (mkS Wn f (LN 1073741824 Wn Hn (cst p Wn) k) x y)))) (fun s _ => (Hn - intOf s).toNat)
                case atStart => exact ⟨0, by omega, rfl, F9, b9, k9, kx9, kf9⟩
                case round =>
                  obtain ⟨y, hy, rfl, F10, b10, k10, kx10, kf10⟩ := hrel
                  clear p1 p2 p3 r1 r2 r3 F9 b9 k9 kx9 kf9
                  obtain ⟨p1, p2, p3⟩ := k10.cells3
                  obtain ⟨r1, r2, r3⟩ := kx10.cells3
                  by_cases yl : (y : Int) < Hn
                  · have hl := F10.lines k (by omega)
                    rw [V1K.out] at hl
                    obtain ⟨A7, c7, e7, ha7⟩ := own_arrI hl
                    cases e7
                    obtain ⟨bb, oo, ee, -, cpx⟩ := ArrI.at_ ha7 (i := (x : Int)) (by omega) xl
                    cases ee
                    rw [Nat.zero_add, Int.toNat_natCast] at cpx
                    have SK := Lib.hid fun h i => mkS_skip (W := Wn) (f := f) (P := LN 1073741824 Wn Hn (cst p Wn) k) (x := x) (y := (y : Int)) h i
                    have SS := Lib.hid fun h1 h2 i => mkS_set (W := Wn) (f := f) (P := LN 1073741824 Wn Hn (cst p Wn) k) (x := x) (y := (y : Int)) xl h1 h2 i
                    generalize LN 1073741824 Wn Hn (cst p Wn) k x = Px at *
                    have u1 : IntKind.i64.wrap (Px - 2) = Px - 2 := IntWalk.i64_in _ (by omega)
                    have u2 : IntKind.i64.wrap (Px + 2) = Px + 2 := IntWalk.i64_in _ (by omega)
                    by_cases y1 : Px - 2 ≤ (y : Int)
                    · by_cases y2 : (y : Int) ≤ Px + 2
                      · have RS := Lib.hid (rset_any Wn Hn gp n n 5 (b01 (mkS Wn f (LN 1073741824 Wn Hn (cst p Wn) k) x y)) x y wr kf10 (by omega) xl (by omega) yl hW2 hH2 HNN.out)
                        have SS2 := Lib.hid (SS.out y1 y2)
                        go_wp2_with fail
                        refine RS.out.mono ?_
                        rintro e w11 ⟨rfl, kf11, hg11⟩
                        have b11 := b10.grown hg11 (by have := b10.size; exact this) (fun j hj => by cases hj; omega)
                        have k11 := k10.grown hg11 (fun e => NE.out.2.2 (Option.some.inj e))
                        have kx11 := kx10.grown hg11 (fun e => NE.out.1 (Option.some.inj e).symm)
                        have F11 := F10.grownBlk kf10 (by decide) (by decide) hg11
                        clear p1 p2 p3 r1 r2 r3 cpx
                        obtain ⟨p1, p2, p3⟩ := k11.cells3
                        go_wp2_with fail
                        go_roundw
                        case rel => exact ⟨y + 1, by omega, by go_num, F11, b11, k11, kx11, kf11.u8conv fun i _ _ => b01_set _ SS2.out i⟩
                        case measure => simp [intOf]; omega
                      · have S2 := Lib.hid (SK.out (fun h => y2 h.2))
                        have dy : decide ((y : Int) ≤ Px + 2) = false := decide_eq_false y2
                        go_wp2_with fail
                        go_roundw
                        case rel => exact ⟨y + 1, by omega, by go_num, F10, b10, k10, kx10, kf10.u8conv fun i _ _ => b01_congr (S2.out i)⟩
                        case measure => simp [intOf]; omega
                    · have S2 := Lib.hid (SK.out (fun h => y1 h.1))
                      go_wp2_with fail
                      go_roundw
                      case rel => exact ⟨y + 1, by omega, by go_num, F10, b10, k10, kx10, kf10.u8conv fun i _ _ => b01_congr (S2.out i)⟩
                      case measure => simp [intOf]; omega
                  · have ey : (y : Int) = Hn := by omega
                    have kf11 := kf10.u8conv (r := b01 (mkS Wn f (LN 1073741824 Wn Hn (cst p Wn) k) (x + 1 : Nat) (0 : Nat))) fun i i0 i1 => b01_congr (by rw [ey]; exact mkS_col i0 (by have := HNN.out; omega) (by omega))
                    clear ey kf10
                    go_wp2_with fail
                    go_roundw
                    case rel => exact ⟨x + 1, by omega, by go_num, F10, b10, k10, kx10, kf11⟩
                    case measure => simp [intOf]; omega
              · have kf10 := kf9.u8conv (r := b01 (FB 1073741824 Wn Hn (cst p Wn) (k + 1))) fun i i0 i1 => b01_congr (by rw [FBS.out]; exact mkS_end (by omega) (by omega))
                clear kf9
                go_wp2_with fail
                go_roundw
                case rel => exact ⟨k + 1, vf, by have := HK.out; omega, fun j hj => by
                  rcases Nat.lt_succ_iff_lt_or_eq.1 hj with h | rfl
                  · exact hg j h
                  · exact G1, F9, b9, k9, kx9, kf10⟩
                case measure => rw [rl, ln8]; omega
          · have MK : Hid (Many 1073741824 Wn Hn (cst p Wn) k) := by
              show Many _ _ _ _ _
              exact ⟨HK.out, hg, fun _ h => NG.out (by omega) h⟩
            have dc : decide ((Wn : Int) < 8 * C) = true := decide_eq_true (by omega)
            go_wp2_with fail
            go_meet
            exact ⟨k, v, MK.out, F7, b7, k7⟩
      · obtain rfl : k = 60 := by have := HK.out; omega
        go_wp2_with fail
        go_meet
        exact ⟨60, v, ⟨by omega, hg, fun h => by omega⟩, hF, b3, ki⟩
  case rest =>
    clear k2 kx2 kp2 b2 F2
    obtain ⟨k, v, MK, hF, bw, kw⟩ := hcut
    clear RN BE CO
    obtain ⟨i0, hi0, hz0, hz1, hz2⟩ := info_parts infoInts
    obtain ⟨Ao, co, rfl, hco, hAo⟩ := own_arr hF.row
    have kb : k ≤ 60 := MK.1
    obtain ⟨key, hkey⟩ : ∃ key : Nat → Int, key = fun i => LN 1073741824 Wn Hn (cst p Wn) i 0 := ⟨_, rfl⟩
    have KB : ∀ j, j < k → 0 ≤ key j ∧ key j < Hn := fun j hj => by
      have := ln_ok (cst_bd p Wn) (by omega) (by omega) (by omega) (MK.2.1 j hj).1 0 (by omega)
      rw [hkey]; exact ⟨this.1, this.2.1⟩
    have VS : Hid (∀ i : Nat, i < k → ∃ bo oo g c, Ao = some ⟨bo, oo, none⟩ ∧ bo < wc.heap.size ∧ v i = .slice (some ⟨g, 0, none⟩) Wn c ∧ wc.cell? ⟨bo, oo + i, none⟩ = some (v i) ∧ g < wc.heap.size ∧ wc.cell? ⟨g, 0, none⟩ = some (.int .i64 (key i))) := by
      show ∀ _, _
      intro i hi
      obtain ⟨bo, oo, e1, hb, hc⟩ := Arr.at_ hAo (i := (i : Int)) (by omega) (by omega)
      rw [Int.toNat_natCast] at hc
      have hl := hF.lines i hi
      obtain ⟨g, c2, e2⟩ := own_some hl (by omega)
      obtain ⟨A2, c3, e3, ha⟩ := own_arrI hl
      rw [e2] at e3
      cases e3
      obtain ⟨b3, o3, e4, hb3, hc3⟩ := ArrI.at_ ha (i := 0) (by omega) (by omega)
      cases e4
      refine ⟨bo, oo, g, c2, e1, hb, e2, ?_, hb3, ?_⟩
      · rw [hc, List.getD_eq_getElem?_getD, List.getElem?_map, List.getElem?_range hi]; rfl
      · rw [hkey]; exact hc3
    have HMK := Lib.hid MK
    have HKEY := Lib.hid hkey
    have HF := Lib.hid hF
    clear hkey MK hAo hF
    obtain ⟨p1, p2, p3⟩ := kw.cells3
    have zw := bw.size
    go_wp2_with fail
    generalize wc = wB at *
    go_loopw [9, 10] (fun vo s wr => ∃ y : Nat, y ≤ Hn ∧ s = .int .i64 y ∧ Below wB.heap.size wB wr ∧ wr.ownsRow wB.heap.size 37 1 vo (byKey key k y).length ((byKey key k y).map v)) (fun _ s _ => Hn - (intOf s).toNat)
    case atStart => exact ⟨0, by omega, rfl, Below.refl _ _, World.ownsRow_nil _ _ _ _⟩
    case round =>
      obtain ⟨y, hy, rfl, b5, own⟩ := hrel
      clear p1 p2 p3
      obtain ⟨p1, p2, p3⟩ := (kw.below' b5).cells3
      by_cases yl : (y : Int) < Hn
      · go_wp2_with fail
        go_loopw [9, 11] (fun vo s wr => ∃ i : Nat, i ≤ k ∧ s = .int .i64 i ∧ Below wB.heap.size wB wr ∧ wr.ownsRow wB.heap.size 37 1 vo (byKey key k y ++ atKey key i y).length ((byKey key k y ++ atKey key i y).map v)) (fun _ s _ => k - (intOf s).toNat)
        case atStart => exact ⟨0, by omega, rfl, b5, by simpa [atKey] using own⟩
        case round =>
          obtain ⟨i, hi, rfl, b6, own6⟩ := hrel
          clear own b5 p1 p2 p3
          obtain ⟨p1, p2, p3⟩ := (kw.below' b6).cells3
          obtain ⟨Ap, cp, rfl, -, -⟩ := own_arr own6
          by_cases il : (i : Int) < k
          · obtain ⟨bo, oo, g, c2, e1, hb, e2, hc, hg, hk⟩ := VS.out i (by omega)
            subst e1
            have ci := (b6.cell (p := ⟨bo, oo + i, none⟩) hb).trans hc
            have ck := (b6.cell (p := ⟨g, 0, none⟩) hg).trans hk
            rw [e2] at ci
            have VI := Lib.hid e2
            have ky := KB i (by omega)
            obtain ⟨ky0, ky1⟩ := ky
            have AY := Lib.hid fun h => atKey_yes (key := key) (i := i) (y := (y : Int)) h
            have AN := Lib.hid fun h => atKey_no (key := key) (i := i) (y := (y : Int)) h
            have AL : Hid ((byKey key k y ++ atKey key i y).length ≤ 60) := by
              show _ ≤ _
              have := part_len (key := key) (k := k) (y := y) (i := i) hi
              omega
            clear e2 hc hk
            generalize hK : key i = K at *
            generalize hLL : byKey key k y ++ atKey key i y = LL at *
            have HLL := Lib.hid hLL
            clear hK hLL
            by_cases e : K = y
            · have be : (K == (y : Int)) = true := by simp [e]
              have AY2 := Lib.hid (AY.out e)
              have AL2 := AL.out
              clear e
              go_wp2_with (at_builtin; refine wpList_append_own _ rfl (.tmp 101) (.tmp 106) 25 rfl wB.heap.size 37 i0 (.slice none 0 0) 1 24 Tryz.underlying25 hi0 hz0 hz1 hz2 rfl (by decide) _ _ _ rfl (own6.alloc _) ⟨wr.heap.size, 0, none⟩ 1 1 [.slice (some ⟨g, 0, none⟩) Wn c2] rfl rfl ?c1 ?c2 ?c3 ?c4 ?c5 ?_)
              try (case c1 => exact cell_one_new _ _ _)
              try (case c2 => simp [Value.oneCell'])
              try (case c3 => unfold maxLen; omega)
              try (case c4 => omega)
              try (case c5 => first | omega | (simp; done) | (simp; have := b6.size; omega))
              intro v' w7 own7 hg7 _
              have b7 : Below wB.heap.size wB w7 := (b6.alloc b6.size (.cells #[.slice (some ⟨g, 0, none⟩) Wn c2] 37)).grown hg7 (by simp; have := b6.size; omega) (fun j hj => (own_ge own6 hj).1)
              clear p1 p2 p3 ci ck
              obtain ⟨p1, p2, p3⟩ := (kw.below' b7).cells3
              go_wp2_with fail
              go_roundw
              case rel => exact ⟨i + 1, by omega, by go_num, b7, by rw [AY2.out, ← List.append_assoc, HLL.out, List.map_append, List.length_append]; simp only [List.map_cons, List.map_nil, List.length_cons, List.length_nil]; rw [VI.out]; exact own7⟩
              case measure => simp [intOf]; omega
            · have be : (K == (y : Int)) = false := by simp [e]
              have AN2 := Lib.hid (AN.out e)
              clear e
              go_wp2_with fail
              go_roundw
              case rel => exact ⟨i + 1, by omega, by go_num, b6, by rw [AN2.out, HLL.out]; exact own6⟩
              case measure => simp [intOf]; omega
          · obtain rfl : k = i := by omega
            go_wp2_with fail
            go_roundw
            case rel => exact ⟨y + 1, by omega, by go_num, b6, own6⟩
            case measure => simp [intOf]; omega
      · obtain rfl : Hn = y := by omega
        go_wp2_with fail
        go_ret
        refine ⟨_, rfl, ⟨k, byKey key k Hn, v, HMK.out, byKey_perm KB, ?_, ?_, fun i hi => ?_⟩, below_call bw bw.size b5⟩
        · refine (byKey_sorted key k Hn).imp fun {a b} h => ?_
          rw [HKEY.out] at h
          exact h
        · have hl : (byKey key k Hn).length = k := by rw [(byKey_perm KB).length_eq, List.length_range]
          rw [hl] at own
          exact own_base own zw
        · exact own_below (HF.out.lines i hi) b5
end Go.Proofs.YtdimlpcbbkokiaaGreat

/- Walks: the lines of any valid image, the program's and the reference's; an image that is not valid. -/
namespace Go.Proofs.YtdimlpcbbkokiaaGreat
open Go.RowKit Go.Shelf
set_option linter.unusedVariables false
attribute [local go_sem] Oper.semAt_some

set_option maxHeartbeats 1000000 in
theorem trace_bad (W H : Int) (A : Option Addr) (n c : Nat) (p : Int → Int) (z : Int) (w : World) (hA : ArrB w w.heap.size A n p) (hn : n ≤ maxLen) (hE : chk W H n p = z) (hz : z ≠ 0) :
    Calls Tryz.prog 4 #[.agg #[.int .i64 W, .int .i64 H, .slice A n c]] w fun e w' => e = .returned (.tuple #[.slice none 0 0, .int .i64 z]) ∧ Below w.heap.size w w' := by
  have CK := Lib.hid fun w' hA' => check_any W H A n c p w' hA' hn
  rw [hE] at CK
  have hb : (z != 0) = true := by simp [hz]
  have HZ := Lib.hid hz; clear hz hE
  go_enter Tryz.func4, Tryz.ntmps4
  go_wp2_with fail
  refine (CK.out _ (hA.to (by (repeat (first | exact Below.refl _ _ | assumption | refine Below.drew ?_ | refine below_drewN ?_ _ | refine Below.alloc ?_ (by first | omega | (simp; done) | (simp; omega)) _ | refine Below.setCell ?_ (by first | omega | (simp; done) | (simp; omega)) _ | refine below_setRow ?_ (by first | omega | (simp; done) | (simp; omega)) _ ))))).mono ?_
  rintro e w1 ⟨rfl, hb1⟩
  have b1 : Below w.heap.size w w1 := below_call (by (repeat (first | exact Below.refl _ _ | assumption | refine Below.drew ?_ | refine below_drewN ?_ _ | refine Below.alloc ?_ (by first | omega | (simp; done) | (simp; omega)) _ | refine Below.setCell ?_ (by first | omega | (simp; done) | (simp; omega)) _ | refine below_setRow ?_ (by first | omega | (simp; done) | (simp; omega)) _ ))) (by simp; try omega) hb1
  go_wp2
  refine bodyPost_ret (results_tmp2 rfl _ _ _) rfl ?_
  exact ⟨rfl, b1⟩
set_option maxHeartbeats 1000000 in
theorem rtrace_empty (W H : Int) (A : Option Addr) (n c : Nat) (w : World) (h : W = 0 ∨ H = 0) :
    Calls Tryz.prog 8 #[.agg #[.int .i64 W, .int .i64 H, .slice A n c]] w fun e w' => e = .returned (.slice none 0 0) ∧ Below w.heap.size w w' := by
  by_cases hw : W = 0
  · have bW : (W == 0) = true := by simp [hw]
    have HW := Lib.hid hw
    clear hw h
    go_enter Tryz.func8, Tryz.ntmps8
    go_wp2
    go_ret
    exact ⟨rfl, by (repeat (first | exact Below.refl _ _ | assumption | refine Below.drew ?_ | refine below_drewN ?_ _ | refine Below.alloc ?_ (by first | omega | (simp; done) | (simp; omega)) _ | refine Below.setCell ?_ (by first | omega | (simp; done) | (simp; omega)) _ | refine below_setRow ?_ (by first | omega | (simp; done) | (simp; omega)) _ ))⟩
  · have bW : (W == 0) = false := by simp [hw]
    have bH : (H == 0) = true := by have : H = 0 := by omega
                                    simp [this]
    clear hw h
    go_enter Tryz.func8, Tryz.ntmps8
    go_wp2
    go_ret
    exact ⟨rfl, by (repeat (first | exact Below.refl _ _ | assumption | refine Below.drew ?_ | refine below_drewN ?_ _ | refine Below.alloc ?_ (by first | omega | (simp; done) | (simp; omega)) _ | refine Below.setCell ?_ (by first | omega | (simp; done) | (simp; omega)) _ | refine below_setRow ?_ (by first | omega | (simp; done) | (simp; omega)) _ ))⟩
/-- so many lines a valid image has, and these, in the order of their first rows -/
def TL (W H : Int) (p : Int → Int) (k : Nat) (ln : Nat → Nat → Int) : Prop :=
  if W = 0 ∨ H = 0 then k = 0 ∧ ln = (fun _ _ => 0) else ∃ l : List Nat, Many 1073741824 W H (cst p W) k ∧ l.Perm (List.range k) ∧ l.Pairwise (fun i j => LN 1073741824 W H (cst p W) i 0 ≤ LN 1073741824 W H (cst p W) j 0) ∧ ln = fun t j => LN 1073741824 W H (cst p W) (l.getD t 0) j
theorem TL.uniq {W H : Int} {p : Int → Int} {k k' : Nat} {ln ln' : Nat → Nat → Int} (hW : 0 ≤ W) (hW2 : W ≤ 640) (hH : 0 ≤ H) (h : TL W H p k ln) (h' : TL W H p k' ln') : k = k' ∧ ln = ln' := by
  unfold TL at h h'
  split at h
  · rw [if_pos ‹_›] at h'
    exact ⟨by rw [h.1, h'.1], by rw [h.2, h'.2]⟩
  · rw [if_neg ‹_›] at h'
    obtain ⟨l, m1, m2, m3, m4⟩ := h
    obtain ⟨l', n1, n2, n3, n4⟩ := h'
    obtain rfl := m1.uniq n1
    refine ⟨rfl, ?_⟩
    have : l = l' := sorted_uniq (key := fun i => LN 1073741824 W H (cst p W) i 0) (m2.trans n2.symm) m3 n3 fun i j hi hj e => by
      have hi := List.mem_range.1 (m2.mem_iff.1 hi)
      have hj := List.mem_range.1 (m2.mem_iff.1 hj)
      rcases Nat.lt_trichotomy i j with g | g | g
      · have := ln_off (cst_bd p W) (by omega) (by omega) (by omega) g (m1.2.1 j hj).1 0 (by omega)
        omega
      · exact g
      · have := ln_off (cst_bd p W) (by omega) (by omega) (by omega) g (m1.2.1 i hi).1 0 (by omega)
        omega
    rw [m4, n4, this]
theorem TraceOut.lines {w w' : World} {W H : Int} {p : Int → Int} {v : Value} (h : TraceOut w W H p v w') (hW : 1 ≤ W) (hH : 1 ≤ H) : ∃ A k c ln, v = .slice A k c ∧ k ≤ 60 ∧ TL W H p k ln ∧ Lines w' w'.heap.size A k (fun _ => W.toNat) ln := by
  obtain ⟨k, l, vs, m1, m2, m3, hr, hl⟩ := h
  obtain ⟨A, c, rfl, -, ha⟩ := own_arr hr
  have hlen : l.length = k := by rw [m2.length_eq, List.length_range]
  refine ⟨A, k, c, fun t j => LN 1073741824 W H (cst p W) (l.getD t 0) j, rfl, m1.1, ?_, fun t => vs (l.getD t 0), Arr.congr ha fun i i0 i1 => ?_, fun i hi => ?_⟩
  · unfold TL
    rw [if_neg (by omega)]
    exact ⟨l, m1, m2, m3, rfl⟩
  · show _ = vs (l.getD i.toNat 0)
    rw [List.getD_eq_getElem?_getD, List.getElem?_map, List.getD_eq_getElem?_getD, List.getElem?_eq_getElem (by omega)]; rfl
  · have hm : l.getD i 0 < k := by
      rw [List.getD_eq_getElem?_getD, List.getElem?_eq_getElem (by omega)]
      exact List.mem_range.1 (m2.mem_iff.1 (List.getElem_mem _))
    obtain ⟨A', c', e', ha'⟩ := own_arrI (hl _ hm)
    exact ⟨A', c', e', ha'⟩
theorem trace_tl (W H : Int) (A : Option Addr) (n c : Nat) (p : Int → Int) (w : World) (hA : ArrB w w.heap.size A n p) (hn : n ≤ maxLen) (hB : IsB p) (hE : chk W H n p = 0) :
    Calls Tryz.prog 4 #[.agg #[.int .i64 W, .int .i64 H, .slice A n c]] w (New w fun v w' => ∃ A' k c' ln, v = .tuple #[.slice A' k c', .int .i64 0] ∧ k ≤ 60 ∧ TL W H p k ln ∧ Lines w' w'.heap.size A' k (fun _ => W.toNat) ln) := by
  obtain ⟨hW1, hW2, hH1, hH2, -, -⟩ := chk_ok hE
  by_cases h : W = 0 ∨ H = 0
  · refine (trace_empty W H A n c p w hA hn hE h).mono ?_
    rintro e w' ⟨rfl, hb⟩
    exact ⟨_, rfl, ⟨none, 0, 0, _, rfl, by omega, by unfold TL; rw [if_pos h]; exact ⟨rfl, rfl⟩, fun _ => default, Arr.nil, fun i hi => by omega⟩, hb⟩
  · refine (trace_ok W H A n c p w hA hn hB hE (by omega) (by omega)).mono ?_
    rintro e w' ⟨_, rfl, ⟨vo, rfl, hT⟩, hb⟩
    obtain ⟨A', k, c', ln, rfl, h1, h2, h3⟩ := hT.lines (by omega) (by omega)
    exact ⟨_, rfl, ⟨A', k, c', ln, rfl, h1, h2, h3⟩, hb⟩
theorem rtrace_tl (W H : Int) (A : Option Addr) (n c : Nat) (p : Int → Int) (w : World) (hA : ArrB w w.heap.size A n p) (hE : chk W H n p = 0) :
    Calls Tryz.prog 8 #[.agg #[.int .i64 W, .int .i64 H, .slice A n c]] w (New w fun v w' => ∃ A' k c' ln, v = .slice A' k c' ∧ k ≤ 60 ∧ TL W H p k ln ∧ Lines w' w'.heap.size A' k (fun _ => W.toNat) ln) := by
  obtain ⟨hW1, hW2, hH1, hH2, -, -⟩ := chk_ok hE
  by_cases h : W = 0 ∨ H = 0
  · refine (rtrace_empty W H A n c w h).mono ?_
    rintro e w' ⟨rfl, hb⟩
    exact ⟨_, rfl, ⟨none, 0, 0, _, rfl, by omega, by unfold TL; rw [if_pos h]; exact ⟨rfl, rfl⟩, fun _ => default, Arr.nil, fun i hi => by omega⟩, hb⟩
  · refine (rtrace_ok W H A n c p w hA hE (by omega) (by omega)).mono ?_
    rintro e w' ⟨v, rfl, hT, hb⟩
    obtain ⟨A', k, c', ln, rfl, h1, h2, h3⟩ := hT.lines (by omega) (by omega)
    exact ⟨_, rfl, ⟨A', k, c', ln, rfl, h1, h2, h3⟩, hb⟩

set_option maxRecDepth 100000 in
set_option maxHeartbeats 4000000 in
theorem stavePaths_any (W H : Int) (A P : Option Addr) (n c m d : Nat) (p q : Int → Int) (w : World) (hA : ArrB w w.heap.size A n p) (hn : n ≤ maxLen) (hc : A = none → c = 0) (hB : IsB p) (hP : ArrI w w.heap.size P m q) (hm : m ≤ maxLen) :
    Calls Tryz.prog 13 #[.agg #[.int .i64 W, .int .i64 H, .slice A n c], .slice P m d] w fun e w' => e = .returned (.bool true) ∧ Below w.heap.size w w' := by
  have AW := Lib.hid fun w' => awake3_any w'
  have FW := Lib.hid fun w' => few_any W H A n c w'
  by_cases hf : (n : Int) ≤ 6000
  · rw [decide_eq_true hf] at FW
    by_cases hl : (m : Int) ≤ 700
    · have dl : decide ((700 : Int) < (m : Int)) = false := decide_eq_false (by omega)
      obtain ⟨E, hE⟩ : ∃ E, costE W H n p m q = E := ⟨_, rfl⟩
      obtain ⟨V, hV⟩ : ∃ V, costV W H n p m q = V := ⟨_, rfl⟩
      obtain ⟨z, hz⟩ : ∃ z, chk W H n p = z := ⟨_, rfl⟩
      have hn9 : n ≤ 140737488355328 := by omega
      have CI := Lib.hid fun w' hA' => copyInk_any W H A n c p w' hA' hc hn9
      have CL := Lib.hid fun w' hP' => clone_all P m d q w' hP' (by omega)
      have CA := Lib.hid fun A' c' P' d' w' hA' hP' => cost_all W H A' P' n c' m d' p q E V w' hA' hn hB hP' hm hE hV
      have RA := Lib.hid fun w' hA' hP' => rcost_all W H A P n c m d p q E V w' hA' hn hB hP' hm hE hV
      have SE := Lib.hid fun P' d' w' hP1 hP2 => equalI_any P' P m m d' d q q w' hP1 hP2 hm hm
      have SI := Lib.hid fun A' c' w' h1 h2 => sameInk_true W H A' A n c' c p p w' h1 h2 hn (fun _ _ _ => rfl)
      have CK := Lib.hid fun w' hA' => rcheck_any W H A n c p w' hA' hn hB
      have HMM := Lib.hid hm; have HNN := Lib.hid hn
      have sII : sameI m m q q = true := sameI_iff.2 ⟨rfl, fun _ _ _ => rfl⟩
      rw [sII] at SE
      rw [hz] at CK
      have HZ := Lib.hid hz
      clear hE hV hc sII hz
      go_enter Tryz.func13, Tryz.ntmps13
      go_wp2_with fail
      refine (FW.out _).mono ?_
      rintro e w1 ⟨rfl, hb1⟩
      have b1 : Below w.heap.size w w1 := below_call (by (repeat (first | exact Below.refl _ _ | assumption | refine Below.drew ?_ | refine below_drewN ?_ _ | refine Below.alloc ?_ (by first | omega | (simp; done) | (simp; omega)) _ | refine Below.setCell ?_ (by first | omega | (simp; done) | (simp; omega)) _ | refine below_setRow ?_ (by first | omega | (simp; done) | (simp; omega)) _ ))) (by simp; try omega) hb1
      have k1 : Blk w1 w.heap.size 24 #[.int .i64 W, .int .i64 H, .slice A n c] := (Blk.new _ _ _).below' hb1
      clear hb1
      obtain ⟨p1, p2, p3⟩ := k1.cells3
      go_wp2_with fail
      refine (CI.out _ (hA.to b1)).mono ?_
      rintro e w2 ⟨_, rfl, ⟨_, rfl, A', c', rfl, -, -, -, ha2⟩, hb2⟩
      have b2 := below_call b1 b1.size hb2
      have k2 := k1.below' hb2
      clear b1 k1 hb2 p1 p2 p3
      go_wp2_with fail
      refine (CL.out _ (hP.to b2)).mono ?_
      rintro e w3 ⟨_, rfl, ⟨P', d', rfl, hq3⟩, hb3⟩
      have b3 := below_call b2 b2.size hb3
      have k3 := k2.below' hb3
      have ha3 := ha2.to hb3
      have bb : Below w3.heap.size w3 (w3.alloc (.cells #[.int .i64 W, .int .i64 H, .slice A' n c'] 24)) := (Below.refl _ _).alloc (Nat.le_refl _) _
      have b4 := below_call b3 b3.size bb
      have k4 := k3.below' bb
      have ha4 := ha3.to bb
      have hq4 := hq3.to bb
      have kx4 := Blk.new w3 24 #[.int .i64 W, .int .i64 H, .slice A' n c']
      clear b2 k2 ha2 hb3 b3 k3 ha3 hq3 bb
      obtain ⟨p1, p2, p3⟩ := k4.cells3
      obtain ⟨r1, r2, r3⟩ := kx4.cells3
      go_wp2_with fail
      generalize w3.alloc (.cells #[.int .i64 W, .int .i64 H, .slice A' n c'] 24) = w4 at *
      generalize w3.heap.size = gx at *
      refine (CA.out _ _ _ _ _ ha4 hq4).mono ?_
      rintro e w5 ⟨rfl, hb5⟩
      have b5 := below_call b4 b4.size hb5
      have k5 := k4.below' hb5
      have kx5 := kx4.below' hb5
      have ha5 := ha4.to hb5
      have hq5 := hq4.to hb5
      clear b4 k4 kx4 ha4 hq4 hb5 p1 p2 p3 r1 r2 r3
      obtain ⟨p1, p2, p3⟩ := k5.cells3
      obtain ⟨r1, r2, r3⟩ := kx5.cells3
      go_wp2_with fail
      refine (RA.out _ (hA.to b5) (hP.to b5)).mono ?_
      rintro e w6 ⟨rfl, hb6⟩
      have b6 := below_call b5 b5.size hb6
      have k6 := k5.below' hb6
      have kx6 := kx5.below' hb6
      have ha6 := ha5.to hb6
      have hq6 := hq5.to hb6
      clear b5 k5 kx5 ha5 hq5 hb6 p1 p2 p3 r1 r2 r3
      obtain ⟨p1, p2, p3⟩ := k6.cells3
      obtain ⟨r1, r2, r3⟩ := kx6.cells3
      go_wp2_with fail
      refine (SE.out _ _ _ hq6 (hP.to b6)).mono ?_
      rintro e w7 ⟨rfl, nq, rfl⟩
      have b7 := below_drewN b6 nq
      have k7 := k6.drewN nq
      have kx7 := kx6.drewN nq
      have ha7 : ArrB (w6.drewN nq) (w6.drewN nq).heap.size A' n p := ha6
      clear b6 k6 kx6 ha6 hq6 p1 p2 p3 r1 r2 r3
      generalize w6.drewN nq = w7 at *
      obtain ⟨p1, p2, p3⟩ := k7.cells3
      obtain ⟨r1, r2, r3⟩ := kx7.cells3
      by_cases z0 : z = 0
      · subst z0
        have TR := Lib.hid fun A1 c1 w' hA' => trace_tl W H A1 n c1 p w' hA' hn hB HZ.out
        have RT := Lib.hid fun w' hA' => rtrace_tl W H A n c p w' hA' HZ.out
        obtain ⟨hW1, hW2, hH1, hH2, -, -⟩ := chk_ok HZ.out
        go_wp2_with fail
        refine (TR.out _ _ _ ha7).mono ?_
        rintro e w8 ⟨_, rfl, ⟨A1, K, c1, ln, rfl, hK, hTL, hL⟩, hb8⟩
        have b8 := below_call b7 b7.size hb8
        have k8 := k7.below' hb8
        have kx8 := kx7.below' hb8
        have ha8 := ha7.to hb8
        clear b7 k7 kx7 ha7 hb8 p1 p2 p3 r1 r2 r3
        obtain ⟨p1, p2, p3⟩ := k8.cells3
        obtain ⟨r1, r2, r3⟩ := kx8.cells3
        go_wp2_with fail
        refine (CK.out _ (hA.to b8)).mono ?_
        rintro e w9 ⟨rfl, hb9⟩
        have b9 := below_call b8 b8.size hb9
        have k9 := k8.below' hb9
        have kx9 := kx8.below' hb9
        have ha9 := ha8.to hb9
        have hL9 := hL.below hb9
        clear b8 k8 kx8 ha8 hb9 hL p1 p2 p3 r1 r2 r3
        obtain ⟨p1, p2, p3⟩ := k9.cells3
        obtain ⟨r1, r2, r3⟩ := kx9.cells3
        go_wp2_with fail
        refine (RT.out _ (hA.to b9)).mono ?_
        rintro e w10 ⟨_, rfl, ⟨A2, K2, c2, ln2, rfl, hK2, hTL2, hL2⟩, hb10⟩
        obtain ⟨rfl, rfl⟩ := hTL.uniq hW1 hW2 hH1 hTL2
        have b10 := below_call b9 b9.size hb10
        have k10 := k9.below' hb10
        have kx10 := kx9.below' hb10
        have ha10 := ha9.to hb10
        have hL10 := hL9.below hb10
        clear b9 k9 kx9 ha9 hb10 hL9 hTL hTL2 p1 p2 p3 r1 r2 r3
        have SL := Lib.hid (sameLists_any A1 A2 K K c1 c2 (fun _ => W.toNat) (fun _ => W.toNat) ln ln w10 hL10 hL2 (by unfold maxLen; omega) (by unfold maxLen; omega) (fun _ _ => by unfold maxLen; omega) (fun _ _ => by unfold maxLen; omega))
        have sLL : sameL K K (fun _ => W.toNat) (fun _ => W.toNat) ln ln = true := sameL_iff.2 ⟨rfl, fun _ _ => ⟨rfl, fun _ _ => rfl⟩⟩
        rw [sLL] at SL
        clear sLL
        go_wp2_with fail
        refine SL.out.mono ?_
        rintro e w11 ⟨rfl, nq2, rfl⟩
        have b11 := below_drewN b10 nq2
        have k11 := k10.drewN nq2
        have kx11 := kx10.drewN nq2
        have ha11 : ArrB (w10.drewN nq2) (w10.drewN nq2).heap.size A' n p := ha10
        clear b10 k10 kx10 ha10 hL10 hL2 SL
        generalize w10.drewN nq2 = w11 at *
        obtain ⟨p1, p2, p3⟩ := k11.cells3
        obtain ⟨r1, r2, r3⟩ := kx11.cells3
        go_wp2_with fail
        refine (SI.out _ _ _ ha11 (hA.to b11)).mono ?_
        rintro e w12 ⟨rfl, hb12⟩
        have b12 := below_call b11 b11.size hb12
        clear p1 p2 p3 r1 r2 r3
        go_wp2_with fail
        refine (AW.out _).mono ?_
        rintro e w13 ⟨rfl, hb13⟩
        have b13 := below_call b12 b12.size hb13
        go_wp2
        go_ret
        exact ⟨rfl, b13⟩
      · have TR := Lib.hid fun A1 c1 w' hA' => trace_bad W H A1 n c1 p z w' hA' hn HZ.out z0
        have zb : (z != 0) = true := by simp [z0]
        have HZ0 := Lib.hid z0
        clear z0
        go_wp2_with fail
        refine (TR.out _ _ _ ha7).mono ?_
        rintro e w8 ⟨rfl, hb8⟩
        have b8 := below_call b7 b7.size hb8
        have k8 := k7.below' hb8
        have kx8 := kx7.below' hb8
        have ha8 := ha7.to hb8
        clear b7 k7 kx7 ha7 hb8 p1 p2 p3 r1 r2 r3
        obtain ⟨p1, p2, p3⟩ := k8.cells3
        obtain ⟨r1, r2, r3⟩ := kx8.cells3
        go_wp2_with fail
        refine (CK.out _ (hA.to b8)).mono ?_
        rintro e w9 ⟨rfl, hb9⟩
        have b9 := below_call b8 b8.size hb9
        have k9 := k8.below' hb9
        have kx9 := kx8.below' hb9
        have ha9 := ha8.to hb9
        clear b8 k8 kx8 ha8 hb9 p1 p2 p3 r1 r2 r3
        obtain ⟨p1, p2, p3⟩ := k9.cells3
        obtain ⟨r1, r2, r3⟩ := kx9.cells3
        go_wp2_with fail
        refine (SI.out _ _ _ ha9 (hA.to b9)).mono ?_
        rintro e w12 ⟨rfl, hb12⟩
        have b12 := below_call b9 b9.size hb12
        clear p1 p2 p3 r1 r2 r3
        go_wp2_with fail
        refine (AW.out _).mono ?_
        rintro e w13 ⟨rfl, hb13⟩
        have b13 := below_call b12 b12.size hb13
        go_wp2
        go_ret
        exact ⟨rfl, b13⟩
    · have dl : decide ((700 : Int) < (m : Int)) = true := decide_eq_true (by omega)
      have hm2 := hm
      unfold maxLen at hm2
      go_enter Tryz.func13, Tryz.ntmps13
      go_wp2_with fail
      refine (FW.out _).mono ?_
      rintro e w1 ⟨rfl, hb1⟩
      have b1 : Below w.heap.size w w1 := below_call (by (repeat (first | exact Below.refl _ _ | assumption | refine Below.drew ?_ | refine below_drewN ?_ _ | refine Below.alloc ?_ (by first | omega | (simp; done) | (simp; omega)) _ | refine Below.setCell ?_ (by first | omega | (simp; done) | (simp; omega)) _ | refine below_setRow ?_ (by first | omega | (simp; done) | (simp; omega)) _ ))) (by simp; try omega) hb1
      clear hb1
      go_wp2_with fail
      refine (AW.out _).mono ?_
      rintro e w4 ⟨rfl, hb4⟩
      have b4 := below_call b1 b1.size hb4
      go_wp2
      go_ret
      exact ⟨rfl, b4⟩
  · rw [decide_eq_false hf] at FW
    go_enter Tryz.func13, Tryz.ntmps13
    go_wp2_with fail
    refine (FW.out _).mono ?_
    rintro e w1 ⟨rfl, hb1⟩
    have b1 : Below w.heap.size w w1 := below_call (by (repeat (first | exact Below.refl _ _ | assumption | refine Below.drew ?_ | refine below_drewN ?_ _ | refine Below.alloc ?_ (by first | omega | (simp; done) | (simp; omega)) _ | refine Below.setCell ?_ (by first | omega | (simp; done) | (simp; omega)) _ | refine below_setRow ?_ (by first | omega | (simp; done) | (simp; omega)) _ ))) (by simp; try omega) hb1
    clear hb1
    go_wp2_with fail
    refine (AW.out _).mono ?_
    rintro e w4 ⟨rfl, hb4⟩
    have b4 := below_call b1 b1.size hb4
    go_wp2
    go_ret
    exact ⟨rfl, b4⟩
end Go.Proofs.YtdimlpcbbkokiaaGreat
