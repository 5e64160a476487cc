/- Texts of mine in build order: I3, C10, I4, K2. Conditions: each theorem's own. -/
import Derived.Test.YtoonkpjddfiopaaMCleanRecipesx5
/- Walk: the components of an image (image.Components). Written by gen/i3.py. -/
namespace Go.Proofs.Ytoonkpjddfiopaa
open Go.RowKit Go.Shelf
set_option linter.unusedVariables false
attribute [local go_sem] Oper.semAt_some

/-- a component's cells: the rectangle and the pixels -/
def encC (t : Nat × (Int × Int × Int × Int) × Value) : List Value := [.int .i64 t.2.1.1, .int .i64 t.2.1.2.1, .int .i64 t.2.1.2.2.1, .int .i64 t.2.1.2.2.2, t.2.2]
theorem encC_len (t : Nat × (Int × Int × Int × Int) × Value) : (encC t).length = 5 := rfl
/-- a row of the components that begin ahead of k -/
def CRow (w : World) (B : Nat) (T : TypeId) (W n : Nat) (e : Bool) (p : Int → Int) (k : Nat) (vo : Value) : Prop :=
  ∃ L : List (Nat × (Int × Int × Int × Int) × Value), L.map (·.1) = rootK k (InkN n p) (AdjN W e) ∧ ERow w B T 5 encC vo L ∧
    ∀ t ∈ L, IsBox W (partN n (InkN n p) (AdjN W e) t.1) t.2.1 ∧ ERow w B 97 2 (encP W) t.2.2 (partN n (InkN n p) (AdjN W e) t.1)
section
variable {α : Type} {w w' : World} {B T k : Nat} {enc : α → List Value} {v : Value} {l : List α}
theorem own_cellsE (h : ERow w B T k enc v l) {j : Nat} (hj : v.ownBlock = some j) : ∃ cs, Blk w j T cs := own_cells h hj
theorem ERow.but {gl gp t : Nat} {cs : Array Value} (h : ERow w B T k enc v l) (hb : But gl gp w w') (hB : w.heap.size = gl) (hp : Blk w gp t cs) (ht : t ≠ T) : ERow w' B T k enc v l :=
  h.move fun j hj => hb.block j (hB ▸ (own_ge h hj).2) fun e => by
    obtain ⟨cs', hc⟩ := own_cellsE h hj
    subst e
    have e1 : w.heap[j]? = _ := hc
    have e2 : w.heap[j]? = _ := hp
    rw [e1] at e2
    exact ht (show T = t from congrArg (fun o : Option Obj => match o with | some (.cells _ t _) => t | _ => 0) e2).symm
theorem ERow.far {g t : Nat} {cs : Array Value} (h : ERow w B T k enc v l) (hp : Blk w g t cs) (ht : t ≠ T) (o : Nat) (u : Value) : ERow (w.setCell ⟨g, o, none⟩ u) B T k enc v l :=
  h.move fun j hj => heap_setCell_other w ⟨g, o, none⟩ j u fun e => by
    obtain ⟨cs', hc⟩ := own_cellsE h hj
    have e : j = g := e
    subst e
    have e1 : w.heap[j]? = _ := hc
    have e2 : w.heap[j]? = _ := hp
    rw [e1] at e2
    exact ht (show T = t from congrArg (fun o : Option Obj => match o with | some (.cells _ t _) => t | _ => 0) e2).symm
end
section
variable {w w' : World} {B T W n k : Nat} {e : Bool} {p : Int → Int} {vo : Value}
theorem CRow.below (h : CRow w B T W n e p k vo) (hb : Below w.heap.size w w') : CRow w' B T W n e p k vo := by
  obtain ⟨L, h1, h2, h3⟩ := h
  exact ⟨L, h1, h2.below hb, fun t ht => ⟨(h3 t ht).1, (h3 t ht).2.below hb⟩⟩
theorem CRow.base {B' : Nat} (h : CRow w B T W n e p k vo) (hB : B' ≤ B) : CRow w B' T W n e p k vo := by
  obtain ⟨L, h1, h2, h3⟩ := h
  exact ⟨L, h1, h2.base hB, fun t ht => ⟨(h3 t ht).1, (h3 t ht).2.base hB⟩⟩
theorem CRow.but {gl gp t : Nat} {cs : Array Value} (h : CRow w B T W n e p k vo) (hb : But gl gp w w') (hB : w.heap.size = gl) (hp : Blk w gp t cs) (ht : t ≠ T) (ht2 : t ≠ 97) : CRow w' B T W n e p k vo := by
  obtain ⟨L, h1, h2, h3⟩ := h
  exact ⟨L, h1, h2.but hb hB hp ht, fun t ht => ⟨(h3 t ht).1, (h3 t ht).2.but hb hB hp ht2⟩⟩
theorem CRow.zero (w : World) (B T W n : Nat) (e : Bool) (p : Int → Int) : CRow w B T W n e p 0 (.slice none 0 0) := ⟨[], rfl, ERow.nil _ _ _ _ _, fun t ht => by simp at ht⟩
theorem CRow.skip (h : CRow w B T W n e p k vo) (hr : ¬ Root (InkN n p) (AdjN W e) k) : CRow w B T W n e p (k + 1) vo := by
  obtain ⟨L, h1, h2, h3⟩ := h
  exact ⟨L, by rw [h1, rootK_no hr], h2, h3⟩
theorem CRow.val (h : CRow w B T W n e p k vo) : ∃ A c, vo = .slice A (rootK k (InkN n p) (AdjN W e)).length c ∧ (rootK k (InkN n p) (AdjN W e)).length ≤ c := by
  obtain ⟨L, h1, h2, h3⟩ := h
  obtain ⟨A, c, e, hc⟩ := h2.val
  rw [← h1, List.length_map]
  exact ⟨A, c, e, hc⟩
end
theorem But.grow {B g : Nat} {w w' w'' : World} {row : Option Nat} (h : But B g w w') (hg : w'.grownBy w'' row) (hr : ∀ j, row = some j → B ≤ j) : But B g w w'' :=
  ⟨hg.os.trans h.os, hg.tape.trans h.tape, hg.output.trans h.output, Nat.le_trans h.size hg.size, fun j hj hk => (hg.block j (Nat.lt_of_lt_of_le hj h.size) fun e => by have := hr j e.symm; omega).trans (h.block j hj hk)⟩
theorem But.trans' {B B' g : Nat} {w w' w'' : World} (h : But B g w w') (h' : But B' g w' w'') (hB : B ≤ B') : But B g w w'' :=
  ⟨h'.os.trans h.os, h'.tape.trans h.tape, h'.output.trans h.output, Nat.le_trans hB h'.size, fun j hj hk => (h'.block j (by omega) hk).trans (h.block j hj hk)⟩
theorem ERow.apart {α β : Type} {w : World} {B B' T T' k k' : Nat} {enc : α → List Value} {enc' : β → List Value} {v v' : Value} {l : List α} {l' : List β} (h : ERow w B T k enc v l) (h' : ERow w B' T' k' enc' v' l') (ht : T ≠ T') {j : Nat} (hj : v.ownBlock = some j) : some j ≠ v'.ownBlock := fun e => by
  obtain ⟨c1, h1⟩ := own_cellsE h hj
  obtain ⟨c2, h2⟩ := own_cellsE h' e.symm
  have e1 : w.heap[j]? = _ := h1
  have e2 : w.heap[j]? = _ := h2
  rw [e1] at e2
  exact ht (show T = T' from congrArg (fun o : Option Obj => match o with | some (.cells _ t _) => t | _ => 0) e2)
theorem ERow.neB {α : Type} {w : World} {B T k g t : Nat} {enc : α → List Value} {v : Value} {l : List α} {cs : Array Value} (h : ERow w B T k enc v l) (hb : Blk w g t cs) (ht : t ≠ T) : some g ≠ v.ownBlock := fun e => by
  obtain ⟨c1, h1⟩ := own_cellsE h e.symm
  have e1 : w.heap[g]? = _ := h1
  have e2 : w.heap[g]? = _ := hb
  rw [e1] at e2
  exact ht (show T = t from congrArg (fun o : Option Obj => match o with | some (.cells _ t _) => t | _ => 0) e2).symm
/-- a component more -/
theorem crow_snoc {w w' : World} {B T W n k : Nat} {e : Bool} {p : Int → Int} {vo v' vl : Value} {b : Int × Int × Int × Int} {L : List (Nat × (Int × Int × Int × Int) × Value)} (hT : T ≠ 97) (h1 : L.map (·.1) = rootK k (InkN n p) (AdjN W e)) (h2 : ERow w B T 5 encC vo L)
    (h3 : ∀ t ∈ L, IsBox W (partN n (InkN n p) (AdjN W e) t.1) t.2.1 ∧ ERow w B 97 2 (encP W) t.2.2 (partN n (InkN n p) (AdjN W e) t.1)) (hr : Root (InkN n p) (AdjN W e) k)
    (hb : IsBox W (partN n (InkN n p) (AdjN W e) k) b) (hv : ERow w B 97 2 (encP W) vl (partN n (InkN n p) (AdjN W e) k)) (hg : w.grownBy w' vo.ownBlock) (ho : w'.ownsRow B T 5 v' (L.length + 1) (flatE encC L ++ [.int .i64 b.1, .int .i64 b.2.1, .int .i64 b.2.2.1, .int .i64 b.2.2.2, vl])) : CRow w' B T W n e p (k + 1) v' := by
  have mv : ∀ {vx : Value} {l : List Nat}, ERow w B 97 2 (encP W) vx l → ERow w' B 97 2 (encP W) vx l := fun h => h.move fun j hj => hg.block j (own_ge h hj).2 (h.apart h2 hT.symm hj)
  refine ⟨L ++ [(k, b, vl)], by rw [List.map_append, h1, rootK_yes hr]; rfl, ?_, fun t ht => ?_⟩
  · unfold ERow
    rw [flatE_snoc, List.length_append]
    exact ho
  · rcases List.mem_append.1 ht with ht | ht
    · exact ⟨(h3 t ht).1, mv (h3 t ht).2⟩
    · rw [List.mem_singleton] at ht
      subst ht
      exact ⟨hb, mv hv⟩
theorem enterC1 (args : Array Value) (w : World) : (callFunc 77 args).run Try.prog w = .ok (.enter 77 args) w := by kernel_rfl
set_option maxHeartbeats 1000000 in
theorem comp1_any (W H x y : Int) (A : Option Addr) (n c bx : Nat) (p : Int → Int) (w : World) (hk : Blk w bx 29 #[.int .i64 W, .int .i64 H, .slice A n c]) (hA : ArrB w w.heap.size A n p) (hE : chk W H n p = 0) (x0 : 0 ≤ x) (x1 : x < W) (y0 : 0 ≤ y) (y1 : y < H) :
    Calls Try.prog 77 #[.int .i64 x, .int .i64 y, .pointer (some ⟨bx, 0, none⟩)] w fun e w' => e = .returned (.int .u8 (p (y * W + x))) ∧ Below w.heap.size w w' := by
  obtain ⟨hW1, hW2, hH1, hH2, hnn, hp⟩ := chk_ok hE
  obtain ⟨p1, p2, p3⟩ := hk.cells3
  obtain ⟨j1, j2, j3⟩ := idx_lt x0 x1 y0 y1
  rw [Int.mul_comm H W] at j2
  have j4 : y * W + x < (n : Int) := by omega
  have nb := (area_bd hW1 hW2 hH1 hH2).2
  obtain ⟨b, off, rfl, hb, hc⟩ := ArrB.at_ hA j1 j4
  generalize p (y * W + x) = v at *
  clear hE hnn hp hA
  go_enter Try.func77, Try.ntmps77
  go_wp2_with fail
  go_ret
  exact ⟨rfl, Below.refl _ _⟩
theorem around_at (j : Nat) (h : j < 8) (w : World) : (Instr.index 115 aroundV (.int .i64 (j : Int))).run Try.prog w = .ok (.agg #[.int .i64 (dX j), .int .i64 (dY j)]) w := by
  rcases (show j = 0 ∨ j = 1 ∨ j = 2 ∨ j = 3 ∨ j = 4 ∨ j = 5 ∨ j = 6 ∨ j = 7 by omega) with rfl | rfl | rfl | rfl | rfl | rfl | rfl | rfl <;> kernel_rfl
theorem info_Pt : (Try.prog.info? 97).map (fun i => (i.zero, i.size, i.bytes)) = some (some (.agg #[.int .i64 0, .int .i64 0]), 2, 16) := by kernel_rfl
theorem info_Co : (Try.prog.info? 111).map (fun i => (i.zero, i.size, i.bytes)) = some (some (.agg #[.int .i64 0, .int .i64 0, .int .i64 0, .int .i64 0, .slice none 0 0]), 5, 56) := by kernel_rfl

set_option maxRecDepth 100000 in
set_option maxHeartbeats 8000000 in
theorem comps_any (W H : Nat) (e : Bool) (A : Option Addr) (n c : Nat) (p : Int → Int) (w : World) (hA : ArrB w w.heap.size A n p) (hW : W ≤ 640) (hH : H ≤ 640) (hn : n = W * H) (hp : ∀ i : Int, 0 ≤ i → i < n → p i = 0 ∨ p i = 1) :
    Calls Try.prog 72 #[.agg #[.int .i64 W, .int .i64 H, .slice A n c], .bool e] w (New w fun v w' => ∃ vo, v = .tuple #[vo, .int .i64 0] ∧ CRow w' w.heap.size 111 W n e p n vo) := by
  have hn9 : n ≤ 409600 := by rw [hn]; exact Nat.mul_le_mul hW hH
  have hnI : (n : Int) = (W : Int) * H := by rw [hn]; push_cast; rfl
  have hE : chk W H n p = 0 := chk_mk (by omega) (by omega) (by omega) (by omega) hnI fun i a b => by have := hp i a b; omega
  have CK := Lib.hid fun w' hA' => check_any W H A n c p w' hA' (by unfold maxLen; omega)
  rw [hE] at CK
  have C1 := Lib.hid fun x y bx w' hk hA' => comp1_any W H x y A n c bx p w' hk hA' hE
  have MD := Lib.hid fun (w' : World) (hk : Blk w' w.heap.size 29 #[.int .i64 W, .int .i64 H, .slice A n c]) (hA' : ArrB w' w'.heap.size A n p) => pixmade_any W H n 77 #[.pointer (some ⟨w.heap.size, 0, none⟩)] (fun x y => p (y * W + x)) w' enterC1 (by omega) (by omega) (by omega) (by omega) hnI
    (fun x y v x0 x1 y0 y1 hb => by
      show Calls _ _ #[_, _, _] _ _
      exact C1.out x y w.heap.size v (hk.below' hb) (hA'.to hb) x0 x1 y0 y1)
  have HP := Lib.hid hp
  have HN := Lib.hid hn
  have HNI := Lib.hid hnI
  have HA := Lib.hid hA
  obtain ⟨r0, hr0, hrz0, hrz1, hrz2⟩ := info_parts info_Pt
  obtain ⟨r1, hs0, hsz0, hsz1, hsz2⟩ := info_parts info_Co
  clear hE hp hA hn hnI
  go_enter Try.func72, Try.ntmps72
  go_wp2_with fail
  have k1 := Blk.new w 29 #[.int .i64 W, .int .i64 H, .slice A n c]
  have b1 : Below w.heap.size w (w.alloc (.cells #[.int .i64 W, .int .i64 H, .slice A n c] 29)) := (Below.refl _ _).alloc (Nat.le_refl _) _
  generalize w.alloc (.cells #[.int .i64 W, .int .i64 H, .slice A n c] 29) = w1 at *
  refine (CK.out w1 (HA.out.to b1)).mono ?_
  rintro ee w2 ⟨rfl, hb2⟩
  have k2 := k1.below' hb2
  have b2 := below_call b1 b1.size hb2
  have hA2 := Lib.hid (HA.out.to b2)
  have K2 := Lib.hid k2
  have g2 := k2.lt
  obtain ⟨p1, p2, p3⟩ := k2.cells3
  have hmf : ∀ (fn : Fn) (first cap : Array Value) (w : World), (Instr.makeFunc fn first cap).run Try.prog w = .ok (.func fn first cap) w := fun _ _ _ _ => rfl
  clear k1 b1 hb2 k2 CK
  go_wp2_with fail
  refine (MD.out _ K2.out hA2.out).mono ?_
  rintro ee w3 ⟨_, rfl, ⟨gp, rfl, hgp, kp⟩, hb3⟩
  have b3 := below_call b2 b2.size hb3
  have K3 := K2.out.below' hb3
  have kp3 : Blk w3 gp 5 (u8s n p) := kp.u8conv fun i i0 i1 => by
    unfold byPix
    have := Int.emod_add_mul_ediv i W
    rw [Int.mul_comm] at this
    show p (i / W * W + i % W) = p i
    rw [show i / (W : Int) * W + i % W = i by omega]
  clear kp p1 p2 p3 K2 hA2 C1 MD hb3 b2 hmf HA
  have x7 := Blk.new w3 29 #[.int .i64 W, .int .i64 H, .slice (some ⟨gp, 0, none⟩) n n]
  have b7 : Below w3.heap.size w3 (w3.alloc (.cells #[.int .i64 W, .int .i64 H, .slice (some ⟨gp, 0, none⟩) n n] 29)) := (Below.refl _ _).alloc (Nat.le_refl _) _
  have KG := Lib.hid (K3.below' b7)
  have kp4 := kp3.below' b7
  have B4 := Lib.hid (below_call b3 b3.size b7)
  have zgp := kp3.lt
  obtain ⟨g7, hg7⟩ : ∃ g, w3.heap.size = g := ⟨_, rfl⟩
  go_upto_region 6 with fail
  rw [hg7] at x7 zgp
  have z7 := x7.lt
  generalize w3.alloc (.cells #[.int .i64 W, .int .i64 H, .slice (some ⟨gp, 0, none⟩) n n] 29) = w4 at *
  have KX := Lib.hid x7
  obtain ⟨p1, p2, p3⟩ := x7.cells3
  clear b3 K3 kp3 x7 b7 hg7
  obtain ⟨gl0, hgl0⟩ : ∃ g, w4.heap.size = g := ⟨_, rfl⟩
  have HG := Lib.hid hgl0
  rw [hgl0] at z7
  clear hgl0
  go_wp2_with fail
  clear p1 p2 p3
  go_loopw [29, 8] (fun s vo wr => ∃ (i : Nat) (lf : Int → Int), i ≤ n ∧ s = .int .i64 i ∧ Hid (LfI n W e p i lf) ∧ But gl0 gp w4 wr ∧ Blk wr gp 5 (u8s n lf) ∧ CRow wr gl0 111 W n e p i vo) (fun s _ _ => n - (intOf s).toNat)
  case atStart => exact ⟨0, p, by omega, rfl, Lib.hid (LfI.start HP.out), But.refl _ (by rw [HG.out]; exact Nat.le_refl _), kp4, CRow.zero _ _ _ _ _ _ _⟩
  case round =>
    obtain ⟨i, lf, hi, rfl, HLf, bu, mp, hC⟩ := hrel
    clear kp4
    have m7 := KX.out.but bu z7 (by omega)
    have m2 := KG.out.but bu (by omega) (by omega)
    obtain ⟨p1, p2, p3⟩ := m7.cells3
    obtain ⟨q1, q2, q3⟩ := m2.cells3
    by_cases il : (i : Int) < n
    · have hc := mp.u8at (i := (i : Int)) (by omega) il
      rw [Int.toNat_natCast] at hc
      have HC := Lib.hid hC
      clear hC
      rcases (HLf.out i (by omega)).2 with h0 | h1
      · rw [h0] at hc
        have HS := Lib.hid (HLf.out.skip (by omega) (by omega))
        clear h0
        go_wp2_with fail
        go_roundw
        case rel => exact ⟨i + 1, lf, by omega, by go_num, Lib.hid HS.out.2, bu, mp, HC.out.skip HS.out.1⟩
        case measure => simp [intOf]; omega
      · rw [h1] at hc
        have hW0 : 0 < W := by
          rcases Nat.eq_zero_or_pos W with h | h
          · have := HN.out; rw [h, Nat.zero_mul] at this; omega
          · exact h
        obtain ⟨HR, hbf⟩ := Bfs.start HLf.out (by omega : i < n) h1
        have HBF := Lib.hid hbf
        have HR := Lib.hid HR
        clear h1 hbf
        obtain ⟨X, hX⟩ : ∃ X : Int, ((i % W : Nat) : Int) = X := ⟨_, rfl⟩
        obtain ⟨Y, hY⟩ : ∃ Y : Int, ((i / W : Nat) : Int) = Y := ⟨_, rfl⟩
        have t1 : (i : Int).tmod W = X := by rw [← hX]; exact (Int.ofNat_tmod i W).symm
        have t2 : (i : Int).tdiv W = Y := by rw [← hY]; exact (Int.ofNat_tdiv i W).symm
        have Yb : Y ≤ 1000000 := by rw [← hY]; have := Nat.div_le_self i W; omega
        have Y0 : 0 ≤ Y := by rw [← hY]; exact Int.natCast_nonneg _
        have t3 : IntKind.i64.wrap Y = Y := IntWalk.i64_in _ (by omega)
        have wz : ¬ (W : Int) = 0 := by omega
        have wz' : ((W : Int) == 0) = false := by simp; omega
        have wz2 : ¬ W = 0 := by omega
        have HX := Lib.hid hX; have HY := Lib.hid hY
        obtain ⟨gl, hgl⟩ : ∃ g, wr.heap.size = g := ⟨_, rfl⟩
        clear hX hY
        go_upto_region 10 with fail
        go_cut [10] (fun v wx => ∃ gq, v = .slice (some ⟨gq, 0, none⟩) 1 1 ∧ gl ≤ gq ∧ Blk wx gq 97 #[.int .i64 X, .int .i64 Y] ∧ Below wr.heap.size wr wx)
        case first =>
          refine wp_region_held_drew (S := fun w' => w'.cell? ⟨w.heap.size, 0, none⟩ = some (.int .i64 W)) (by kernel_rfl) (by simp [go_sem, *]) (fun hHeld => ?_)
          refine wpAnyH_take (i := 0) (oi := _) (v := ?_) (by simp only [List.getElem?_toArray, List.getElem?_cons_zero]; exact rfl) (by kernel_rfl) (by kernel_rfl) (by kernel_rfl) (by exact fun _ _ _ h => h) (Or.inl ⟨by rfl, ?_⟩) (by assumption) ?_
          rotate_left 1
          · intro w hSw
            (try dsimp only at hSw)
            go_simp
            try with_reducible rfl
          try simp only [Act.put, List.setIfInBounds_toArray, List.set_cons_zero, List.set_cons_succ]
          refine wpAnyH_take (i := 1) (oi := _) (v := ?_) (by simp only [List.getElem?_toArray, List.getElem?_cons_zero, List.getElem?_cons_succ]; exact rfl) (by kernel_rfl) (by kernel_rfl) (by kernel_rfl) (by exact fun _ _ _ h => h) (Or.inl ⟨by rfl, ?_⟩) (by assumption) ?_
          rotate_left 1
          · intro w hSw
            (try dsimp only at hSw)
            go_simp
            try with_reducible rfl
          try simp only [Act.put, List.setIfInBounds_toArray, List.set_cons_zero, List.set_cons_succ]
          refine wpAnyH_take (i := 2) (oi := _) (v := ?_) (by simp only [List.getElem?_toArray, List.getElem?_cons_zero, List.getElem?_cons_succ]; exact rfl) (by kernel_rfl) (by kernel_rfl) (by kernel_rfl) (by exact fun _ _ _ h => h) (Or.inl ⟨by rfl, ?_⟩) (by assumption) ?_
          rotate_left 1
          · intro w hSw
            (try dsimp only at hSw)
            go_simp
            try with_reducible rfl
          try simp only [Act.put, List.setIfInBounds_toArray, List.set_cons_zero, List.set_cons_succ]
          refine wpAnyH_take (i := 3) (oi := _) (v := ?_) (by simp only [List.getElem?_toArray, List.getElem?_cons_zero, List.getElem?_cons_succ]; exact rfl) (by kernel_rfl) (by kernel_rfl) (by kernel_rfl) (by exact fun _ _ _ h => h) (Or.inl ⟨by rfl, ?_⟩) (by assumption) ?_
          rotate_left 1
          · intro w hSw
            (try dsimp only at hSw)
            go_simp
            try with_reducible rfl
          try simp only [Act.put, List.setIfInBounds_toArray, List.set_cons_zero, List.set_cons_succ]
          refine wpAnyH_take (i := 4) (oi := _) (v := ?_) (by simp only [List.getElem?_toArray, List.getElem?_cons_zero, List.getElem?_cons_succ]; exact rfl) (by kernel_rfl) (by kernel_rfl) (by kernel_rfl) (by exact fun _ _ _ h => h) (Or.inl ⟨by rfl, ?_⟩) (by assumption) ?_
          rotate_left 1
          · intro w hSw
            (try dsimp only at hSw)
            go_simp
            try with_reducible rfl
          try simp only [Act.put, List.setIfInBounds_toArray, List.set_cons_zero, List.set_cons_succ]
          refine wpAnyH_take (i := 5) (oi := _) (v := ?_) (by simp only [List.getElem?_toArray, List.getElem?_cons_zero, List.getElem?_cons_succ]; exact rfl) (by kernel_rfl) (by kernel_rfl) (by kernel_rfl) (by exact fun _ _ _ h => h) (Or.inl ⟨by rfl, ?_⟩) (by assumption) ?_
          rotate_left 1
          · intro w hSw
            (try dsimp only at hSw)
            go_simp
            try with_reducible rfl
          try simp only [Act.put, List.setIfInBounds_toArray, List.set_cons_zero, List.set_cons_succ]
          refine wpAnyH_take (i := 6) (oi := _) (v := ?_) (by simp only [List.getElem?_toArray, List.getElem?_cons_zero, List.getElem?_cons_succ]; exact rfl) (by kernel_rfl) (by kernel_rfl) (by kernel_rfl) (by exact fun _ _ _ h => h) (Or.inl ⟨by rfl, ?_⟩) (by assumption) ?_
          rotate_left 1
          · intro w hSw
            (try dsimp only at hSw)
            go_simp
            try with_reducible rfl
          try simp only [Act.put, List.setIfInBounds_toArray, List.set_cons_zero, List.set_cons_succ]
          refine wpAnyH_take (i := 7) (oi := _) (v := ?_) (by simp only [List.getElem?_toArray, List.getElem?_cons_zero, List.getElem?_cons_succ]; exact rfl) (by kernel_rfl) (by kernel_rfl) (by kernel_rfl) (by exact fun _ _ _ h => h) (Or.inl ⟨by rfl, ?_⟩) (by assumption) ?_
          rotate_left 1
          · intro w hSw
            (try dsimp only at hSw)
            go_simp
            try with_reducible rfl
          try simp only [Act.put, List.setIfInBounds_toArray, List.set_cons_zero, List.set_cons_succ]
          refine wpAnyH_take (i := 8) (oi := _) (v := ?_) (by simp only [List.getElem?_toArray, List.getElem?_cons_zero, List.getElem?_cons_succ]; exact rfl) (by kernel_rfl) (by kernel_rfl) (by kernel_rfl) (by exact fun _ _ _ h => h) (Or.inl ⟨by rfl, ?_⟩) (by assumption) ?_
          rotate_left 1
          · intro w hSw
            (try dsimp only at hSw)
            go_simp
            try with_reducible rfl
          try simp only [Act.put, List.setIfInBounds_toArray, List.set_cons_zero, List.set_cons_succ]
          refine wpAnyH_ready (rs := [9]) (by kernel_rfl) (by simp) ?_
          refine AllReadyH.cons (o := _) (by simp only [List.getElem?_toArray, List.getElem?_cons_zero, List.getElem?_cons_succ]; exact rfl) (fun K' hK => ?_) AllReadyH.nil
          go_simp
          refine hK.out _ _ (by first | (simp [go_sem, *]; done) | (go_keep; done)) (fun hHeld => ?_)
          clear hK K'
          try simp only [Act.put, List.setIfInBounds_toArray, List.set_cons_zero, List.set_cons_succ]
          refine wpAnyH_take (i := 10) (oi := _) (v := ?_) (by simp only [List.getElem?_toArray, List.getElem?_cons_zero, List.getElem?_cons_succ]; exact rfl) (by kernel_rfl) (by kernel_rfl) (by kernel_rfl) (by exact fun _ _ _ h => h) (Or.inl ⟨by rfl, ?_⟩) (by assumption) ?_
          rotate_left 1
          · intro w hSw
            (try dsimp only at hSw)
            go_simp
            try with_reducible rfl
          try simp only [Act.put, List.setIfInBounds_toArray, List.set_cons_zero, List.set_cons_succ]
          refine wpAnyH_done (by kernel_rfl) ?_ _
          go_wp2_with fail
          go_meet
          have kn := (Blk.new wr 97 #[.int .i64 X, .int .i64 Y]).drew
          rw [hgl] at kn
          exact ⟨gl, rfl, Nat.le_refl _, kn, by (repeat (first | exact Below.refl _ _ | assumption | refine Below.drew ?_ | refine below_drewN ?_ _ | refine Below.alloc ?_ (by first | omega | (simp; done) | (simp; omega)) _ | refine Below.setCell ?_ (by first | omega | (simp; done) | (simp; omega)) _ | refine below_setRow ?_ (by first | omega | (simp; done) | (simp; omega)) _ ))⟩
        case rest =>
        obtain ⟨gq, rfl, hgq, kq, hb5⟩ := hcut
        generalize wc = w5 at *
        rw [hgl] at hb5
        have zg0 : gl0 ≤ gl := by rw [← hgl]; exact bu.size
        have mp5 := mp.move (hb5.block gp (by omega))
        have m75 := m7.move (hb5.block g7 (by omega))
        have m25 := m2.move (hb5.block w.heap.size (by omega))
        have bu5 : But gl gp wr w5 := (But.refl gp (by rw [hgl]; exact Nat.le_refl _)).then hb5
        have ng : gq ≠ gp := by omega
        have n7 : g7 ≠ gp := by omega
        have n2 : w.heap.size ≠ gp := by omega
        have hf := mp5.frozen i
        have hc5 := mp5.u8at (i := (i : Int)) (by omega) il
        have mp6 := mp5.u8set (i : Int) (by omega) 0
        have kq6 := kq.far (p := ⟨gp, i, none⟩) ng (.int .u8 0)
        have m76 := m75.far (p := ⟨gp, i, none⟩) n7 (.int .u8 0)
        have m26 := m25.far (p := ⟨gp, i, none⟩) n2 (.int .u8 0)
        have bu6 := bu5.set i (.int .u8 0)
        rw [Int.toNat_natCast] at hc5 mp6
        clear hc p1 p2 p3 q1 q2 q3 mp5 kq hb5 bu5 m25
        obtain ⟨p1, p2, p3⟩ := m75.cells3
        go_upto_region 12 with fail
        generalize w5.setCell ⟨gp, i, none⟩ (.int .u8 0) = w6 at *
        have R6 : ERow w6 gl 97 2 (encP W) (.slice (some ⟨gq, 0, none⟩) 1 1) [i] := ERow.of (encP_len W) kq6 hgq (Nat.le_refl _) (by unfold maxLen; omega) rfl (by
          show [Value.int .i64 X, .int .i64 Y] = [Value.int .i64 _, .int .i64 _]
          rw [HX.out, HY.out])
        have m7w := Lib.hid m7
        have m2w := Lib.hid m2
        have mpw := Lib.hid mp
        have BU := Lib.hid bu
        clear hf hc5 p1 p2 p3 m75 m76 m26 kq6 m7 m2 mp bu t1 t2 t3 Yb Y0
        go_wp2_with fail
        generalize wr = wA at *
        go_loopw [11, 10] (fun s v wx => ∃ (k : Nat) (l : List Nat) (lf' : Int → Int), k ≤ l.length ∧ s = .int .i64 k ∧ Hid (Bfs n W e p i l k 0 lf') ∧ But gl gp wA wx ∧ Blk wx gp 5 (u8s n lf') ∧ ERow wx gl 97 2 (encP W) v l) (fun s _ _ => n - (intOf s).toNat)
        case atStart => exact ⟨0, [i], _, by omega, rfl, HBF, bu6, mp6, R6⟩
        case round =>
          obtain ⟨k, l, lf2, hk, rfl, HB2, bu7, mp7, R7⟩ := hrel
          clear bu6 mp6 R6
          obtain ⟨gL, cL, cs, rfl, hcL, hgL, kL, hsL, hmL, htL⟩ := R7.blk (List.ne_nil_of_mem HB2.out.mem)
          have hln := HB2.out.len
          obtain ⟨L, hL⟩ : ∃ L, l.length = L := ⟨_, rfl⟩
          rw [hL] at hk hln hcL
          rw [hL]
          have HL := Lib.hid hL
          by_cases kl : (k : Int) < L
          · obtain ⟨x, hx⟩ : ∃ x, l[k]? = some x := ⟨l[k]'(by omega), List.getElem?_eq_getElem _⟩
            have HXX := Lib.hid hx
            go_wp2_with fail
            refine (around_any _).mono ?_
            rintro ee w8 ⟨rfl, hb8⟩
            have bu8 := bu7.then (hb8.mono bu7.size)
            have mp8 := mp7.below' hb8
            have R8 : ERow w8 gl 97 2 (encP W) (.slice (some ⟨gL, 0, none⟩) L cL) l := by rw [← hL]; exact R7.below hb8
            clear bu7 mp7 R7 hb8 kL htL hx hsL hmL hgL hL
            go_wp2_with fail
            go_loopw [59, 10] (fun s v wx => ∃ (j : Nat) (l : List Nat) (lf' : Int → Int), j ≤ 8 ∧ s = .int .i64 j ∧ Hid (Bfs n W e p i l k j lf') ∧ Hid (l[k]? = some x) ∧ But gl gp wA wx ∧ Blk wx gp 5 (u8s n lf') ∧ ERow wx gl 97 2 (encP W) v l) (fun s _ _ => 8 - (intOf s).toNat)
            case atStart => exact ⟨0, l, lf2, by omega, rfl, HB2, HXX, bu8, mp8, R8⟩
            case round =>
              obtain ⟨j, l3, lf3, hj, rfl, HB3, HX3, bu9, mp9, R9⟩ := hrel
              clear bu8 mp8 R8
              by_cases jl : (j : Int) < 8
              · obtain ⟨g3, c3, cs3, rfl, hc3, hg3, k3, hs3, hm3, ht3⟩ := R9.blk (List.ne_nil_of_mem HB3.out.mem)
                have hkl : k < l3.length := (List.getElem?_eq_some_iff.1 HX3.out).1
                have hl3n := HB3.out.len
                have e0 := ERow.cell (encP_len W) k3 ht3 HX3.out (t := 0) (by omega)
                have e1 := ERow.cell (encP_len W) k3 ht3 HX3.out (t := 1) (by omega)
                change _ = some (Value.int .i64 ((x % W : Nat) : Int)) at e0
                change _ = some (Value.int .i64 ((x / W : Nat) : Int)) at e1
                rw [Nat.add_zero] at e0
                have hxn : x < n := HB3.out.in_ x (List.mem_of_getElem? HX3.out)
                obtain ⟨x0, hx0⟩ : ∃ x0 : Int, ((x % W : Nat) : Int) = x0 := ⟨_, rfl⟩
                obtain ⟨y0, hy0⟩ : ∃ y0 : Int, ((x / W : Nat) : Int) = y0 := ⟨_, rfl⟩
                have xb : 0 ≤ x0 ∧ x0 ≤ 409600 := by rw [← hx0]; have h9 : x % W ≤ 409600 := Nat.le_trans (Nat.mod_le x W) (by omega); exact ⟨Int.natCast_nonneg _, Int.ofNat_le.2 h9⟩
                have yb : 0 ≤ y0 ∧ y0 ≤ 409600 := by rw [← hy0]; have h9 : x / W ≤ 409600 := Nat.le_trans (Nat.div_le_self x W) (by omega); exact ⟨Int.natCast_nonneg _, Int.ofNat_le.2 h9⟩
                rw [hx0] at e0
                rw [hy0] at e1
                have db := dXY_bd j
                obtain ⟨dx, hdx⟩ : ∃ d, dX j = d := ⟨_, rfl⟩
                obtain ⟨dy, hdy⟩ : ∃ d, dY j = d := ⟨_, rfl⟩
                rw [hdx, hdy] at db
                obtain ⟨px, hpx⟩ : ∃ q, x0 + dx = q := ⟨_, rfl⟩
                obtain ⟨py, hpy⟩ : ∃ q, y0 + dy = q := ⟨_, rfl⟩
                have v1 : IntKind.i64.wrap (x0 + dx) = px := (IntWalk.i64_in _ (by omega)).trans hpx
                have v2 : IntKind.i64.wrap (y0 + dy) = py := (IntWalk.i64_in _ (by omega)).trans hpy
                have HX0 := Lib.hid hx0; have HY0 := Lib.hid hy0; have HDX := Lib.hid hdx; have HDY := Lib.hid hdy; have HPX := Lib.hid hpx; have HPY := Lib.hid hpy
                have PB := Lib.hid (show px ≤ 500000 ∧ py ≤ 500000 ∧ -10 ≤ px ∧ -10 ≤ py by omega)
                clear hx0 hy0 hpx hpy hxn
                obtain ⟨L3, hL3⟩ : ∃ L, l3.length = L := ⟨_, rfl⟩
                have HL3 := Lib.hid hL3
                have R9' : ERow wr gl 97 2 (encP W) (.slice (some ⟨g3, 0, none⟩) L3 c3) l3 := by rw [← hL3]; exact R9
                rw [hL3] at hkl hl3n
                rw [hL3]
                clear R9 hL3 ht3 hs3 hm3 hc3
                go_upto_region 17 with fail
                go_cut [12, 13] (fun a b wx => a = .int .i64 j ∧ ∃ gd, b = .pointer (some ⟨gd, 0, none⟩) ∧ wr.heap.size ≤ gd ∧ Blk wx gd 97 #[.int .i64 dx, .int .i64 dy] ∧ Below wr.heap.size wr wx)
                case first =>
                  clear v1 v2 e0 e1
                  have RI := fun w => around_at j (by omega) w
                  rw [hdx, hdy] at RI
                  go_wp2_with fail
                  go_meet
                  exact ⟨rfl, _, rfl, Nat.le_refl _, Blk.new _ _ _, by (repeat (first | exact Below.refl _ _ | assumption | refine Below.drew ?_ | refine below_drewN ?_ _ | refine Below.alloc ?_ (by first | omega | (simp; done) | (simp; omega)) _ | refine Below.setCell ?_ (by first | omega | (simp; done) | (simp; omega)) _ | refine below_setRow ?_ (by first | omega | (simp; done) | (simp; omega)) _ ))⟩
                case rest =>
                obtain ⟨rfl, gd, rfl, hgd, kd, hb10⟩ := hcut
                generalize wc = w10 at *
                clear hdx hdy
                have bu10 := bu9.then (hb10.mono bu9.size)
                have mp10 := mp9.below' hb10
                have R10 := R9'.below hb10
                have k310 := k3.below' hb10
                have e0' := (hb10.cell (p := ⟨g3, k * 2, none⟩) k3.lt).trans e0
                have e1' := (hb10.cell (p := ⟨g3, k * 2 + 1, none⟩) k3.lt).trans e1
                obtain ⟨d0, d1⟩ := kd.cells2
                have KS := Lib.hid fun w' (hb : Below w10.heap.size w10 w') => (show w'.cell? ⟨g3, k * 2, none⟩ = some (.int .i64 x0) ∧ w'.cell? ⟨g3, k * 2 + 1, none⟩ = some (.int .i64 y0) ∧ w'.cell? ⟨gd, 0, none⟩ = some (.int .i64 dx) ∧ w'.cell? ⟨gd, 1, none⟩ = some (.int .i64 dy) from
                  ⟨(hb.cell (p := ⟨g3, k * 2, none⟩) k310.lt).trans e0', (hb.cell (p := ⟨g3, k * 2 + 1, none⟩) k310.lt).trans e1', (hb.cell (p := ⟨gd, 0, none⟩) kd.lt).trans d0, (hb.cell (p := ⟨gd, 1, none⟩) kd.lt).trans d1⟩)
                have m710 := m7w.out.but bu10 (by omega) n7
                have m210 := m2w.out.but bu10 (by omega) n2
                have hkl' : (k : Int) < (L3 : Int) := by omega
                clear e0 e1 k3 mp9 bu9 R9' hb10 hgd
                go_upto_region 18 with fail
                obtain ⟨gt, hgt⟩ : ∃ g, w10.heap.size = g := ⟨_, rfl⟩
                go_cut [14] (fun a wx => a = .pointer (some ⟨gt, 0, none⟩) ∧ Blk wx gt 97 #[.int .i64 px, .int .i64 py] ∧ Below gt w10 wx)
                case first =>
                  refine wp_region_held_drew (S := fun w' => w'.cell? ⟨g3, k * 2, none⟩ = some (.int .i64 x0) ∧ w'.cell? ⟨g3, k * 2 + 1, none⟩ = some (.int .i64 y0) ∧ w'.cell? ⟨gd, 0, none⟩ = some (.int .i64 dx) ∧ w'.cell? ⟨gd, 1, none⟩ = some (.int .i64 dy)) (by kernel_rfl) (KS.out _ (Below.refl _ _).drew) (fun hHeld => ?_)
                  refine wpAnyH_take (i := 0) (oi := _) (v := ?_) (by simp only [List.getElem?_toArray, List.getElem?_cons_zero]; exact rfl) (by kernel_rfl) (by kernel_rfl) (by kernel_rfl) (by exact fun _ _ _ h => h) (Or.inl ⟨by rfl, ?_⟩) (by assumption) ?_
                  rotate_left 1
                  · intro w hSw
                    (try dsimp only at hSw)
                    go_simp
                    try with_reducible rfl
                  try simp only [Act.put, List.setIfInBounds_toArray, List.set_cons_zero, List.set_cons_succ]
                  refine wpAnyH_take (i := 1) (oi := _) (v := ?_) (by simp only [List.getElem?_toArray, List.getElem?_cons_zero, List.getElem?_cons_succ]; exact rfl) (by kernel_rfl) (by kernel_rfl) (by kernel_rfl) (by exact fun _ _ _ h => h) (Or.inl ⟨by rfl, ?_⟩) (by assumption) ?_
                  rotate_left 1
                  · intro w hSw
                    (try dsimp only at hSw)
                    go_simp
                    try with_reducible rfl
                  try simp only [Act.put, List.setIfInBounds_toArray, List.set_cons_zero, List.set_cons_succ]
                  refine wpAnyH_take (i := 2) (oi := _) (v := ?_) (by simp only [List.getElem?_toArray, List.getElem?_cons_zero, List.getElem?_cons_succ]; exact rfl) (by kernel_rfl) (by kernel_rfl) (by kernel_rfl) (by exact fun _ _ _ h => h) (Or.inl ⟨by rfl, ?_⟩) (by assumption) ?_
                  rotate_left 1
                  · intro w hSw
                    (try dsimp only at hSw)
                    go_simp
                    try with_reducible rfl
                  try simp only [Act.put, List.setIfInBounds_toArray, List.set_cons_zero, List.set_cons_succ]
                  refine wpAnyH_take (i := 3) (oi := _) (v := ?_) (by simp only [List.getElem?_toArray, List.getElem?_cons_zero, List.getElem?_cons_succ]; exact rfl) (by kernel_rfl) (by kernel_rfl) (by kernel_rfl) (by exact fun _ _ _ h => h) (Or.inl ⟨by rfl, ?_⟩) (by assumption) ?_
                  rotate_left 1
                  · intro w hSw
                    (try dsimp only at hSw)
                    go_simp
                    try with_reducible rfl
                  try simp only [Act.put, List.setIfInBounds_toArray, List.set_cons_zero, List.set_cons_succ]
                  refine wpAnyH_take (i := 4) (oi := _) (v := ?_) (by simp only [List.getElem?_toArray, List.getElem?_cons_zero, List.getElem?_cons_succ]; exact rfl) (by kernel_rfl) (by kernel_rfl) (by kernel_rfl) (by exact fun _ _ _ h => h) (Or.inl ⟨by rfl, ?_⟩) (by assumption) ?_
                  rotate_left 1
                  · intro w hSw
                    (try dsimp only at hSw)
                    go_simp
                    try with_reducible rfl
                  try simp only [Act.put, List.setIfInBounds_toArray, List.set_cons_zero, List.set_cons_succ]
                  refine wpAnyH_take (i := 5) (oi := _) (v := ?_) (by simp only [List.getElem?_toArray, List.getElem?_cons_zero, List.getElem?_cons_succ]; exact rfl) (by kernel_rfl) (by kernel_rfl) (by kernel_rfl) (by exact fun _ _ _ h => h) (Or.inl ⟨by rfl, ?_⟩) (by assumption) ?_
                  rotate_left 1
                  · intro w hSw
                    (try dsimp only at hSw)
                    go_simp
                    try with_reducible rfl
                  try simp only [Act.put, List.setIfInBounds_toArray, List.set_cons_zero, List.set_cons_succ]
                  refine wpAnyH_take (i := 6) (oi := _) (v := ?_) (by simp only [List.getElem?_toArray, List.getElem?_cons_zero, List.getElem?_cons_succ]; exact rfl) (by kernel_rfl) (by kernel_rfl) (by kernel_rfl) (by exact fun _ _ _ h => h) (Or.inl ⟨by rfl, ?_⟩) (by assumption) ?_
                  rotate_left 1
                  · intro w hSw
                    (try dsimp only at hSw)
                    go_simp
                    try with_reducible rfl
                  try simp only [Act.put, List.setIfInBounds_toArray, List.set_cons_zero, List.set_cons_succ]
                  refine wpAnyH_take (i := 7) (oi := _) (v := ?_) (by simp only [List.getElem?_toArray, List.getElem?_cons_zero, List.getElem?_cons_succ]; exact rfl) (by kernel_rfl) (by kernel_rfl) (by kernel_rfl) (by exact fun _ _ _ h => h) (Or.inl ⟨by rfl, ?_⟩) (by assumption) ?_
                  rotate_left 1
                  · intro w hSw
                    (try dsimp only at hSw)
                    go_simp
                    try with_reducible rfl
                  try simp only [Act.put, List.setIfInBounds_toArray, List.set_cons_zero, List.set_cons_succ]
                  refine wpAnyH_take (i := 8) (oi := _) (v := ?_) (by simp only [List.getElem?_toArray, List.getElem?_cons_zero, List.getElem?_cons_succ]; exact rfl) (by kernel_rfl) (by kernel_rfl) (by kernel_rfl) (by exact fun _ _ _ h => h) (Or.inl ⟨by rfl, ?_⟩) (by assumption) ?_
                  rotate_left 1
                  · intro w hSw
                    (try dsimp only at hSw)
                    go_simp
                    try with_reducible rfl
                  try simp only [Act.put, List.setIfInBounds_toArray, List.set_cons_zero, List.set_cons_succ]
                  refine wpAnyH_take (i := 9) (oi := _) (v := ?_) (by simp only [List.getElem?_toArray, List.getElem?_cons_zero, List.getElem?_cons_succ]; exact rfl) (by kernel_rfl) (by kernel_rfl) (by kernel_rfl) (by exact fun _ _ _ h => h) (Or.inl ⟨by rfl, ?_⟩) (by assumption) ?_
                  rotate_left 1
                  · intro w hSw
                    (try dsimp only at hSw)
                    go_simp
                    try with_reducible rfl
                  try simp only [Act.put, List.setIfInBounds_toArray, List.set_cons_zero, List.set_cons_succ]
                  refine wpAnyH_take (i := 10) (oi := _) (v := ?_) (by simp only [List.getElem?_toArray, List.getElem?_cons_zero, List.getElem?_cons_succ]; exact rfl) (by kernel_rfl) (by kernel_rfl) (by kernel_rfl) (by exact fun _ _ _ h => h) (Or.inl ⟨by rfl, ?_⟩) (by assumption) ?_
                  rotate_left 1
                  · intro w hSw
                    (try dsimp only at hSw)
                    go_simp
                    try with_reducible rfl
                  try simp only [Act.put, List.setIfInBounds_toArray, List.set_cons_zero, List.set_cons_succ]
                  refine wpAnyH_take (i := 11) (oi := _) (v := ?_) (by simp only [List.getElem?_toArray, List.getElem?_cons_zero, List.getElem?_cons_succ]; exact rfl) (by kernel_rfl) (by kernel_rfl) (by kernel_rfl) (by exact fun _ _ _ h => h) (Or.inl ⟨by rfl, ?_⟩) (by assumption) ?_
                  rotate_left 1
                  · intro w hSw
                    (try dsimp only at hSw)
                    go_simp
                    try with_reducible rfl
                  try simp only [Act.put, List.setIfInBounds_toArray, List.set_cons_zero, List.set_cons_succ]
                  refine wpAnyH_take (i := 12) (oi := _) (v := ?_) (by simp only [List.getElem?_toArray, List.getElem?_cons_zero, List.getElem?_cons_succ]; exact rfl) (by kernel_rfl) (by kernel_rfl) (by kernel_rfl) (by exact fun _ _ _ h => h) (Or.inl ⟨by rfl, ?_⟩) (by assumption) ?_
                  rotate_left 1
                  · intro w hSw
                    (try dsimp only at hSw)
                    go_simp
                    try with_reducible rfl
                  try simp only [Act.put, List.setIfInBounds_toArray, List.set_cons_zero, List.set_cons_succ]
                  refine wpAnyH_take (i := 13) (oi := _) (v := ?_) (by simp only [List.getElem?_toArray, List.getElem?_cons_zero, List.getElem?_cons_succ]; exact rfl) (by kernel_rfl) (by kernel_rfl) (by kernel_rfl) (by exact fun _ _ _ h => h) (Or.inl ⟨by rfl, ?_⟩) (by assumption) ?_
                  rotate_left 1
                  · intro w hSw
                    (try dsimp only at hSw)
                    go_simp
                    try with_reducible rfl
                  try simp only [Act.put, List.setIfInBounds_toArray, List.set_cons_zero, List.set_cons_succ]
                  refine wpAnyH_take (i := 14) (oi := _) (v := ?_) (by simp only [List.getElem?_toArray, List.getElem?_cons_zero, List.getElem?_cons_succ]; exact rfl) (by kernel_rfl) (by kernel_rfl) (by kernel_rfl) (by exact fun _ _ _ h => h) (Or.inl ⟨by rfl, ?_⟩) (by assumption) ?_
                  rotate_left 1
                  · intro w hSw
                    (try dsimp only at hSw)
                    go_simp
                    try with_reducible rfl
                  try simp only [Act.put, List.setIfInBounds_toArray, List.set_cons_zero, List.set_cons_succ]
                  refine wpAnyH_take (i := 15) (oi := _) (v := ?_) (by simp only [List.getElem?_toArray, List.getElem?_cons_zero, List.getElem?_cons_succ]; exact rfl) (by kernel_rfl) (by kernel_rfl) (by kernel_rfl) (by exact fun _ _ _ h => h) (Or.inl ⟨by rfl, ?_⟩) (by assumption) ?_
                  rotate_left 1
                  · intro w hSw
                    (try dsimp only at hSw)
                    go_simp
                    try with_reducible rfl
                  try simp only [Act.put, List.setIfInBounds_toArray, List.set_cons_zero, List.set_cons_succ]
                  refine wpAnyH_take (i := 16) (oi := _) (v := ?_) (by simp only [List.getElem?_toArray, List.getElem?_cons_zero, List.getElem?_cons_succ]; exact rfl) (by kernel_rfl) (by kernel_rfl) (by kernel_rfl) (by exact fun _ _ _ h => h) (Or.inl ⟨by rfl, ?_⟩) (by assumption) ?_
                  rotate_left 1
                  · intro w hSw
                    (try dsimp only at hSw)
                    go_simp
                    try with_reducible rfl
                  try simp only [Act.put, List.setIfInBounds_toArray, List.set_cons_zero, List.set_cons_succ]
                  refine wpAnyH_ready (rs := [17]) (by kernel_rfl) (by simp) ?_
                  refine AllReadyH.cons (o := _) (by simp only [List.getElem?_toArray, List.getElem?_cons_zero, List.getElem?_cons_succ]; exact rfl) (fun K' hK => ?_) AllReadyH.nil
                  go_simp
                  refine hK.out _ _ (KS.out _ (by (repeat (first | exact Below.refl _ _ | assumption | refine Below.drew ?_ | refine below_drewN ?_ _ | refine Below.alloc ?_ (by first | omega | (simp; done) | (simp; omega)) _ | refine Below.setCell ?_ (by first | omega | (simp; done) | (simp; omega)) _ | refine below_setRow ?_ (by first | omega | (simp; done) | (simp; omega)) _ )))) (fun hHeld => ?_)
                  clear hK K'
                  try simp only [Act.put, List.setIfInBounds_toArray, List.set_cons_zero, List.set_cons_succ]
                  refine wpAnyH_ready (rs := [18]) (by kernel_rfl) (by simp) ?_
                  refine AllReadyH.cons (o := _) (by simp only [List.getElem?_toArray, List.getElem?_cons_zero, List.getElem?_cons_succ]; exact rfl) (fun K' hK => ?_) AllReadyH.nil
                  go_simp
                  refine hK.out _ _ (KS.out _ (by (repeat (first | exact Below.refl _ _ | assumption | refine Below.drew ?_ | refine below_drewN ?_ _ | refine Below.alloc ?_ (by first | omega | (simp; done) | (simp; omega)) _ | refine Below.setCell ?_ (by first | omega | (simp; done) | (simp; omega)) _ | refine below_setRow ?_ (by first | omega | (simp; done) | (simp; omega)) _ )))) (fun hHeld => ?_)
                  clear hK K'
                  try simp only [Act.put, List.setIfInBounds_toArray, List.set_cons_zero, List.set_cons_succ]
                  refine wpAnyH_done (by kernel_rfl) ?_ _
                  go_wp2_with fail
                  go_meet
                  have kt := (Blk.new w10 97 #[.int .i64 px, .int .i64 py]).drew
                  rw [hgt] at kt
                  exact ⟨rfl, kt, by rw [← hgt]; (repeat (first | exact Below.refl _ _ | assumption | refine Below.drew ?_ | refine below_drewN ?_ _ | refine Below.alloc ?_ (by first | omega | (simp; done) | (simp; omega)) _ | refine Below.setCell ?_ (by first | omega | (simp; done) | (simp; omega)) _ | refine below_setRow ?_ (by first | omega | (simp; done) | (simp; omega)) _ ))⟩
                case rest =>
                obtain ⟨rfl, kt, hb11⟩ := hcut
                generalize wc = w11 at *
                rw [← hgt] at hb11
                have bu11 := bu10.then (hb11.mono bu10.size)
                have mp11 := mp10.below' hb11
                have R11 := R10.below hb11
                have m711 := m710.below' hb11
                have m211 := m210.below' hb11
                have AT := Lib.hid fun w' hA' => at_all W H (some ⟨gp, 0, none⟩) n n px py lf3 w' hA' (by omega) (by omega) (by omega) (by omega) HNI.out (fun i i0 i1 => by have := HB3.out.lz i.toNat (by omega); rwa [Int.toNat_of_nonneg i0] at this)
                clear k310 e0' e1' d0 d1 KS m710 m210 hkl' R10 mp10 bu10 hb11 kd v1 v2 db xb yb
                go_upto_region 19 with fail
                go_cut [94] (fun t wx => t = .bool ((e || decide (j % 2 = 0)) && inkB W H lf3 px py) ∧ Below w11.heap.size w11 wx)
                case first =>
                  obtain ⟨s1, s2, s3⟩ := m711.cells3
                  obtain ⟨f1, f2⟩ := kt.cells2
                  have AT1 := Lib.hid (AT.out w11 (mp11.arrB mp11.lt))
                  obtain ⟨bi, hbi⟩ : ∃ b, inkB W H lf3 px py = b := ⟨_, rfl⟩
                  rw [hbi] at AT1
                  have HBI := Lib.hid hbi
                  clear hbi
                  cases e with
                  | true =>
                    cases bi
                    all_goals
                      go_wp2_with fail
                      refine AT1.out.mono ?_
                      rintro ee w12 ⟨rfl, hb12⟩
                      go_wp2_with fail
                      go_meet
                      exact ⟨by rw [HBI.out]; rfl, hb12⟩
                  | false =>
                    by_cases j2 : j % 2 = 0
                    · have tj : (j : Int).tmod 2 = 0 := by rw [Int.tmod_eq_emod_of_nonneg (by omega)]; omega
                      have tj2 : (j : Int) % 2 = 0 := by omega
                      cases bi
                      all_goals
                        go_wp2_with fail
                        refine AT1.out.mono ?_
                        rintro ee w12 ⟨rfl, hb12⟩
                        go_wp2_with fail
                        go_meet
                        exact ⟨by rw [HBI.out, decide_eq_true j2]; rfl, hb12⟩
                    · have tj : (j : Int).tmod 2 = 1 := by rw [Int.tmod_eq_emod_of_nonneg (by omega)]; omega
                      have tj2 : (j : Int) % 2 = 1 := by omega
                      go_wp2_with fail
                      go_meet
                      exact ⟨by rw [decide_eq_false j2]; rfl, Below.refl _ _⟩
                case rest =>
                obtain ⟨rfl, hb12⟩ := hcut
                generalize wc = w12 at *
                have bu12 := bu11.then (hb12.mono bu11.size)
                have mp12 := mp11.below' hb12
                have R12 := R11.below hb12
                have m712 := m711.below' hb12
                have m212 := m211.below' hb12
                have kt12 := kt.below' hb12
                clear bu11 mp11 R11 m711 m211 kt hb12 AT
                obtain ⟨qq, hqq⟩ : ∃ q, ((e || decide (j % 2 = 0)) && inkB W H lf3 px py) = q := ⟨_, rfl⟩
                rw [hqq]
                cases qq with
                | false =>
                  have SK := Lib.hid (HB3.out.skip HR.out HX3.out (by omega) fun ask y hy h1 h2 h3 => by
                    rw [HX0.out, HDX.out, HPX.out] at h1
                    rw [HY0.out, HDY.out, HPY.out] at h2
                    have hy9 : (y : Int) = py * W + px := by
                      rw [← h1, ← h2]
                      have := Nat.div_add_mod y W
                      rw [Nat.mul_comm] at this
                      have h9 : ((y / W * W + y % W : Nat) : Int) = (y : Int) := by rw [this]
                      push_cast at h9 ⊢
                      exact h9.symm
                    have hin : inkB W H lf3 px py = true := inkB_iff.2 ⟨by rw [← h1]; exact Int.natCast_nonneg _, by rw [← h1]; exact Int.ofNat_lt.2 (Nat.mod_lt _ hW0), by rw [← h2]; exact Int.natCast_nonneg _, by rw [← h2]; exact Int.ofNat_lt.2 (Nat.div_lt_of_lt_mul (HN.out ▸ hy)), by rw [← hy9]; exact h3⟩
                    rw [hin, Bool.and_true] at hqq
                    rcases ask with h | h
                    · rw [h] at hqq; cases hqq
                    · rw [decide_eq_true h, Bool.or_true] at hqq; cases hqq)
                  clear hqq m712 m212 kt12
                  go_wp2_with fail
                  go_roundw
                  case rel => exact ⟨j + 1, l3, lf3, by omega, by go_num, SK, HX3, bu12, mp12, R12⟩
                  case measure => simp [intOf]; omega
                | true =>
                  rw [Bool.and_eq_true, Bool.or_eq_true, decide_eq_true_iff] at hqq
                  obtain ⟨ask, hin⟩ := hqq
                  obtain ⟨i1, i2, i3, i4, i5⟩ := inkB_iff.1 hin
                  obtain ⟨o1, o2, -⟩ := idx_lt i1 i2 i3 i4
                  rw [Int.mul_comm (H : Int) W, ← HNI.out] at o2
                  obtain ⟨y, hy⟩ : ∃ y : Nat, py * W + px = (y : Int) := ⟨(py * W + px).toNat, by omega⟩
                  have hyn : y < n := by omega
                  have ymod : ((y % W : Nat) : Int) = px := by
                    rw [Int.natCast_emod, ← hy]; exact idx_mod i1 i2
                  have ydiv : ((y / W : Nat) : Int) = py := by
                    rw [Int.natCast_ediv, ← hy]; exact idx_div i1 i2
                  have TK := Lib.hid (HB3.out.take HX3.out (by omega) ask hyn (by rw [ymod, HX0.out, HDX.out, HPX.out]) (by rw [ydiv, HY0.out, HDY.out, HPY.out]) (by rw [← hy]; exact i5))
                  have HYM := Lib.hid ymod; have HYD := Lib.hid ydiv
                  have wm := idx_lt i1 i2 i3 i4
                  have v3 : IntKind.i64.wrap (py * W) = py * W := IntWalk.i64_in _ (by omega)
                  have v4 : IntKind.i64.wrap (py * W + px) = (y : Int) := (IntWalk.i64_in _ (by omega)).trans hy
                  have yn : (y : Int) < n := by omega
                  clear hin i5 ymod ydiv hy ask wm o1 o2
                  go_upto_region 20 with fail
                  obtain ⟨s1, s2, s3⟩ := m712.cells3
                  obtain ⟨u1, u2, u3⟩ := m212.cells3
                  obtain ⟨f1, f2⟩ := kt12.cells2
                  have hc := mp12.u8at (i := (y : Int)) (by omega) yn
                  have hf := mp12.frozen y
                  rw [Int.toNat_natCast] at hc
                  have mp13 := mp12.u8set (y : Int) (by omega) 0
                  rw [Int.toNat_natCast] at mp13
                  have R13 := R12.far mp12 (by decide) y (.int .u8 0)
                  have ntp : gt ≠ gp := by
                    have := HG.out
                    have h9 := bu12.size
                    intro e9
                    have e1 : w12.heap[gt]? = _ := kt12
                    have e2 : w12.heap[gp]? = _ := mp12
                    rw [e9, e2] at e1
                    exact absurd (show 5 = 97 from congrArg (fun o : Option Obj => match o with | some (.cells _ t _) => t | _ => 0) e1) (by decide)
                  have kt13 := kt12.far (p := ⟨gp, y, none⟩) ntp (.int .u8 0)
                  have bu13 := bu12.set y (.int .u8 0)
                  go_upto_region 21 with fail
                  generalize w12.setCell ⟨gp, y, none⟩ (.int .u8 0) = w13 at *
                  clear s1 s2 s3 u1 u2 u3 f1 f2 hc hf m712 m212 bu12 R12 mp12 v3 v4 i1 i2 i3 i4 kt12
                  obtain ⟨f1, f2⟩ := kt13.cells2
                  have hl3m := HB3.out.len
                  go_wp2_with (at_builtin; refine wpList_append_own _ rfl (.tmp 106) (.tmp 108) 93 rfl gl 97 r0 (.agg #[.int .i64 0, .int .i64 0]) 2 16 Try.underlying93 hr0 hrz0 hrz1 hrz2 rfl (by decide) _ _ _ rfl (ERow.below R13 ((Below.refl _ _).alloc (Nat.le_refl _) _)) ⟨w13.heap.size, 0, none⟩ 1 1 [.int .i64 px, .int .i64 py] rfl rfl ?c1 ?c2 ?c3 ?c4 ?c5 ?_)
                  case c1 =>
                    intro t u ht
                    match t, ht with
                    | 0, ht => cases ht; exact (Blk.new w13 97 #[.int .i64 px, .int .i64 py]).cell 0
                    | 1, ht => cases ht; exact (Blk.new w13 97 #[.int .i64 px, .int .i64 py]).cell 1
                    | t + 2, ht => simp at ht
                  case c2 => simp [Value.oneCell']
                  case c3 => unfold maxLen; omega
                  case c4 => omega
                  case c5 => have := bu13.size; simp; omega
                  intro v' w14 own14 hg14 _
                  have bn : Below w13.heap.size w13 (w13.alloc (.cells #[.int .i64 px, .int .i64 py] 97)) := (Below.refl _ _).alloc (Nat.le_refl _) _
                  have bu14 := (bu13.then (bn.mono bu13.size)).grow hg14 (fun b hb => (own_ge R13 hb).1)
                  have mp14 := (mp13.below' bn).grown hg14 (ERow.neB (R13.below bn) (mp13.below' bn) (by decide))
                  have R14 : ERow w14 gl 97 2 (encP W) v' (l3 ++ [y]) := by
                    unfold ERow
                    rw [flatE_snoc, List.length_append]
                    show World.ownsRow _ _ _ _ _ _ (_ ++ [Value.int .i64 _, .int .i64 _])
                    rw [HYM.out, HYD.out]
                    exact own14
                  have HX4 : Hid ((l3 ++ [y])[k]? = some x) := Lib.hid (by rw [List.getElem?_append_left (by rw [HL3.out]; exact hkl)]; exact HX3.out)
                  clear own14 hg14 bn R13 mp13 bu13 kt13 f1 f2
                  go_wp2
                  go_roundw
                  case rel => exact ⟨j + 1, _, _, by omega, by go_num, TK, HX4, bu14, mp14, R14⟩
                  case measure => simp [intOf]; omega
              · obtain rfl : j = 8 := by omega
                have hkl : k < l3.length := (List.getElem?_eq_some_iff.1 HX3.out).1
                have NX := Lib.hid (HB3.out.next hkl)
                have hln3 := HB3.out.len
                clear HB3 HX3
                go_wp2_with fail
                go_roundw
                case rel => exact ⟨k + 1, l3, lf3, hkl, by go_num, NX, bu9, mp9, R9⟩
                case measure => simp [intOf]; omega
          · have ek : k = L := by omega
            have HB9 := Lib.hid (show Bfs n W e p i l l.length 0 lf2 from by rw [hL, ← ek]; exact HB2.out)
            have R7' : ERow wr gl 97 2 (encP W) (.slice (some ⟨gL, 0, none⟩) L cL) l := by rw [← hL]; exact R7
            have hlt : ∀ r ∈ l, r < 1000000 := fun r hr => by have := HB2.out.in_ r hr; omega
            have SO := Lib.hid (sortPtRow_any W gl _ l wr R7' (Nat.le_trans (by rw [← hgl]; exact Nat.le_refl _) bu7.size) hlt HB2.out.nd (List.ne_nil_of_mem HB2.out.mem))
            clear HB2 R7 R7' kL htL hsL hmL ek
            go_wp2_with fail
            refine SO.out.mono ?_
            rintro ee w8 ⟨rfl, l9, hp9, hs9, R9, hb9⟩
            have e9 : l9 = partN n (InkN n p) (AdjN W e) i := HB9.out.sorted hp9 (hs9.imp fun h => Nat.le_of_lt h)
            have hL9 : l9.length = L := by rw [hp9.length_eq, hL]
            have bu8 := bu7.then hb9
            have mp8 := mp7.move (hb9.block gp (by omega))
            obtain ⟨A9, c9, ev, -, hE9⟩ := R9.arr (encP_len W)
            have eA : A9 = some ⟨gL, 0, none⟩ := by cases ev; rfl
            subst eA
            clear ev
            have BXX := Lib.hid (box_any W (some ⟨gL, 0, none⟩) l9 cL w8 hE9 (fun r hr => hlt r (hp9.mem_iff.1 hr)) (by omega))
            rw [hL9] at BXX
            clear SO hp9 hs9 hE9 bu7 mp7 hb9 hlt
            go_wp2_with fail
            refine BXX.out.mono ?_
            rintro ee w10 ⟨⟨b1, b2, b3, b4⟩, rfl, hbx, hb10⟩
            have hbv : boxV (b1, b2, b3, b4) = .agg #[.int .i64 b1, .int .i64 b2, .int .i64 b3, .int .i64 b4] := rfl
            rw [hbv]
            have bu10 := bu8.then (hb10.mono bu8.size)
            have mp10 := mp8.below' hb10
            have R10 := R9.below hb10
            rw [e9] at R10 hbx
            obtain ⟨LC, hc1, hc2, hc3⟩ := HC.out
            have c2 := hc2.but bu10 hgl mpw.out (by decide)
            have hcl : LC.length ≤ n := by
              have := congrArg List.length hc1
              rw [List.length_map] at this
              have h9 := rootK_len i (InkN n p) (AdjN W e)
              omega
            have bnw : Below w10.heap.size w10 (w10.alloc (.cells #[.int .i64 b1, .int .i64 b2, .int .i64 b3, .int .i64 b4, .slice (some ⟨gL, 0, none⟩) L cL] 111)) := (Below.refl _ _).alloc (Nat.le_refl _) _
            have HBX := Lib.hid hbx
            clear BXX bu8 mp8 R9 hb10 hbv hbx
            have z10 := bu10.size
            go_wp2_with (at_builtin; refine wpList_append_own _ rfl (.tmp 113) (.tmp 118) 108 rfl gl0 111 r1 (.agg #[.int .i64 0, .int .i64 0, .int .i64 0, .int .i64 0, .slice none 0 0]) 5 56 Try.underlying108 hs0 hsz0 hsz1 hsz2 rfl (by decide) _ _ _ rfl (ERow.below c2 bnw) ⟨w10.heap.size, 0, none⟩ 1 1 [.int .i64 b1, .int .i64 b2, .int .i64 b3, .int .i64 b4, .slice (some ⟨gL, 0, none⟩) L cL] rfl rfl ?d1 ?d2 ?d3 ?d4 ?d5 ?_)
            case d1 =>
              intro t u ht
              match t, ht with
              | 0, ht => cases ht; exact (Blk.new w10 111 #[.int .i64 b1, .int .i64 b2, .int .i64 b3, .int .i64 b4, .slice (some ⟨gL, 0, none⟩) L cL]).cell 0
              | 1, ht => cases ht; exact (Blk.new w10 111 #[.int .i64 b1, .int .i64 b2, .int .i64 b3, .int .i64 b4, .slice (some ⟨gL, 0, none⟩) L cL]).cell 1
              | 2, ht => cases ht; exact (Blk.new w10 111 #[.int .i64 b1, .int .i64 b2, .int .i64 b3, .int .i64 b4, .slice (some ⟨gL, 0, none⟩) L cL]).cell 2
              | 3, ht => cases ht; exact (Blk.new w10 111 #[.int .i64 b1, .int .i64 b2, .int .i64 b3, .int .i64 b4, .slice (some ⟨gL, 0, none⟩) L cL]).cell 3
              | 4, ht => cases ht; exact (Blk.new w10 111 #[.int .i64 b1, .int .i64 b2, .int .i64 b3, .int .i64 b4, .slice (some ⟨gL, 0, none⟩) L cL]).cell 4
              | t + 5, ht => simp at ht
            case d2 => simp [Value.oneCell']
            case d3 => unfold maxLen; omega
            case d4 => omega
            case d5 => simp; omega
            intro v' w14 own14 hg14 _
            have C14 := crow_snoc (by decide) hc1 (c2.below bnw) (fun t ht => ⟨(hc3 t ht).1, ((hc3 t ht).2.but bu10 hgl mpw.out (by decide)).below bnw⟩) HR.out HBX.out ((R10.base zg0).below bnw) hg14 own14
            have bu14 : But gl0 gp w4 w14 := ((BU.out.trans' bu10 zg0).then (bnw.mono (by omega))).grow hg14 (fun b hb => (own_ge c2 hb).1)
            have mp14 := (mp10.below' bnw).grown hg14 (ERow.neB (c2.below bnw) (mp10.below' bnw) (by decide))
            have LF := Lib.hid (HB9.out.left HR.out)
            clear own14 hg14 bnw c2 hc1 hc2 hc3 bu10 mp10 R10 HBX
            go_wp2
            go_roundw
            case rel => exact ⟨i + 1, lf2, by omega, by go_num, LF, bu14, mp14, C14⟩
            case measure => simp [intOf]; omega
    · obtain rfl : i = n := by omega
      have zz := HG.out
      have bE := B4.out.trans (bu.to zz (by omega) (by omega))
      have zsz := B4.out.size
      clear HLf mp m7 m2 p1 p2 p3 q1 q2 q3
      go_wp2_with fail
      refine bodyPost_ret (results_tmp2 rfl _ _ _) rfl ?_
      exact ⟨_, rfl, ⟨_, rfl, hC.base (by omega)⟩, bE⟩
end Go.Proofs.Ytoonkpjddfiopaa

/- Plain: great parts alone. No program in sight. -/
namespace Go.Proofs.Ytoonkpjddfiopaa
set_option linter.unusedVariables false
/-- in a part of at least m places -/
def bigN (n : Nat) (ink : Nat → Prop) (A : Nat → Nat → Prop) (m : Int) (i : Nat) : Prop := ink i ∧ m ≤ ((partN n ink A i).length : Int)
section
variable {n : Nat} {ink : Nat → Prop} {A : Nat → Nat → Prop} {m m' : Int} {i j : Nat}
theorem part_eq (hA : ∀ a b, A a b → A b a) (h : Cn ink A i j) : partN n ink A i = partN n ink A j := by
  refine sorted_ext partN_sorted partN_sorted fun x => ?_
  rw [mem_partN, mem_partN]
  exact ⟨fun ⟨a, b⟩ => ⟨a, (h.symm hA).trans b⟩, fun ⟨a, b⟩ => ⟨a, h.trans b⟩⟩
theorem big_cn (hA : ∀ a b, A a b → A b a) (hb : bigN n ink A m i) (h : Cn ink A i j) : Cn (bigN n ink A m) A i j := by
  induction h with
  | refl _ => exact .refl hb
  | step h1 h2 h3 ih =>
    refine ih.step ⟨h2, ?_⟩ h3
    rw [← part_eq hA (h1.step h2 h3)]
    exact hb.2
theorem cn_big (h : Cn (bigN n ink A m) A i j) : Cn ink A i j := h.mono (fun _ h => h.1) fun _ _ h => h
theorem big_part (hA : ∀ a b, A a b → A b a) (hb : bigN n ink A m i) : partN n (bigN n ink A m) A i = partN n ink A i := by
  refine sorted_ext partN_sorted partN_sorted fun x => ?_
  rw [mem_partN, mem_partN]
  exact ⟨fun ⟨a, b⟩ => ⟨a, cn_big b⟩, fun ⟨a, b⟩ => ⟨a, big_cn hA hb b⟩⟩
theorem big_root (hA : ∀ a b, A a b → A b a) : Root (bigN n ink A m) A i ↔ bigN n ink A m i ∧ Root ink A i :=
  ⟨fun h => ⟨h.1, h.1.1, fun j hj => h.2 j (big_cn hA h.1 hj)⟩, fun h => ⟨h.1, fun j hj => h.2.2 j (cn_big hj)⟩⟩
theorem big_big (hA : ∀ a b, A a b → A b a) : bigN n (bigN n ink A m) A m i ↔ bigN n ink A m i := by
  constructor
  · exact fun h => h.1
  · exact fun h => ⟨h, by rw [big_part hA h]; exact h.2⟩
theorem big_less (hm : m ≤ m') (h : bigN n ink A m' i) : bigN n ink A m i := ⟨h.1, Int.le_trans hm h.2⟩
theorem big_roots (hA : ∀ a b, A a b → A b a) : rootN n (bigN n ink A m) A = (rootN n ink A).filter fun i => decide (m ≤ ((partN n ink A i).length : Int)) := by
  refine sorted_ext rootN_sorted (rootN_sorted.filter _) fun x => ?_
  rw [mem_rootN, List.mem_filter, mem_rootN, big_root hA, decide_eq_true_iff]
  constructor
  · rintro ⟨a, b, c⟩; exact ⟨⟨a, c⟩, b.2⟩
  · rintro ⟨⟨a, c⟩, b⟩; exact ⟨a, ⟨c.1, b⟩, c⟩
theorem cn_congr {ink' : Nat → Prop} (h : ∀ x, ink x ↔ ink' x) : Cn ink A i j ↔ Cn ink' A i j := ⟨fun c => c.mono (fun x hx => (h x).1 hx) fun _ _ h => h, fun c => c.mono (fun x hx => (h x).2 hx) fun _ _ h => h⟩
end
end Go.Proofs.Ytoonkpjddfiopaa

/- Walk: small components removed (image.Despeckle). -/
namespace Go.Proofs.Ytoonkpjddfiopaa
open Go.RowKit Go.Shelf
set_option linter.unusedVariables false
attribute [local go_sem] Oper.semAt_some

open Classical in
/-- the ink of the great components -/
noncomputable def bgQ (n W : Nat) (p : Int → Int) (m : Int) : Int → Int := fun i => if bigN n (InkN n p) (AdjN W true) m i.toNat then 1 else 0
/-- what the first t roots of a list and the first j places of the next one fill -/
def DoneN (n : Nat) (ink : Nat → Prop) (A : Nat → Nat → Prop) (m : Int) (l : List Nat) (t : Nat) (i : Nat) : Prop := ∃ s r, s < t ∧ l[s]? = some r ∧ m ≤ ((partN n ink A r).length : Int) ∧ i ∈ partN n ink A r
section
variable {n W : Nat} {ink : Nat → Prop} {A : Nat → Nat → Prop} {m : Int} {l : List Nat} {t i r : Nat}
theorem done_skip (hr : l[t]? = some r) (h : ¬ m ≤ ((partN n ink A r).length : Int)) : DoneN n ink A m l (t + 1) i ↔ DoneN n ink A m l t i := by
  constructor
  · rintro ⟨s, r', h1, h2, h3, h4⟩
    by_cases e : s = t
    · subst e
      rw [hr] at h2; cases h2
      exact absurd h3 h
    · exact ⟨s, r', by omega, h2, h3, h4⟩
  · rintro ⟨s, r', h1, h2, h3, h4⟩
    exact ⟨s, r', by omega, h2, h3, h4⟩
theorem done_take (hr : l[t]? = some r) (h : m ≤ ((partN n ink A r).length : Int)) : DoneN n ink A m l (t + 1) i ↔ DoneN n ink A m l t i ∨ i ∈ partN n ink A r := by
  constructor
  · rintro ⟨s, r', h1, h2, h3, h4⟩
    by_cases e : s = t
    · subst e
      rw [hr] at h2; cases h2
      exact .inr h4
    · exact .inl ⟨s, r', by omega, h2, h3, h4⟩
  · rintro (⟨s, r', h1, h2, h3, h4⟩ | h4)
    · exact ⟨s, r', by omega, h2, h3, h4⟩
    · exact ⟨t, r, by omega, hr, h, h4⟩
theorem done_all (hA : ∀ a b, A a b → A b a) (hin : ∀ x, ink x → x < n) : DoneN n ink A m (rootN n ink A) (rootN n ink A).length i ↔ bigN n ink A m i := by
  constructor
  · rintro ⟨s, r, h1, h2, h3, h4⟩
    have hc := (mem_partN.1 h4).2
    exact ⟨hc.right, by rw [← part_eq hA hc]; exact h3⟩
  · rintro ⟨h1, h2⟩
    obtain ⟨r, hr, hR, hc⟩ := root_ex hA h1
    have hm : r ∈ rootN n ink A := mem_rootN.2 ⟨hin _ hR.1, hR⟩
    obtain ⟨s, hs, e⟩ := List.getElem_of_mem hm
    exact ⟨s, r, hs, by rw [List.getElem?_eq_getElem hs, e], by rw [part_eq hA hc]; exact h2, mem_partN.2 ⟨hin _ h1, hc⟩⟩
end
/-- the image while it is filled: what is filled, and nothing else, is ink -/
def FillI (n : Nat) (q : Int → Int) (D : Nat → Prop) : Prop := ∀ i : Nat, i < n → (q i = 1 ↔ D i) ∧ (q i = 0 ∨ q i = 1)
theorem FillI.set {n : Nat} {q : Int → Int} {D D' : Nat → Prop} (h : FillI n q D) {x : Nat} (hD : ∀ i, D' i ↔ D i ∨ i = x) : FillI n (upd q x 1) D' := fun i hi => by
  unfold upd
  by_cases e : (i : Int) = x
  · have e' : i = x := by omega
    rw [if_pos e]
    exact ⟨⟨fun _ => (hD i).2 (.inr e'), fun _ => rfl⟩, .inr rfl⟩
  · rw [if_neg e]
    refine ⟨?_, (h i hi).2⟩
    rw [(h i hi).1, hD i]
    exact ⟨.inl, fun h => h.elim id fun e' => absurd (by omega) e⟩
theorem FillI.conv {n : Nat} {q : Int → Int} {D D' : Nat → Prop} (h : FillI n q D) (hD : ∀ i, D' i ↔ D i) : FillI n q D' := fun i hi => ⟨(h i hi).1.trans (hD i).symm, (h i hi).2⟩
theorem FillI.end_ {n W : Nat} {q p : Int → Int} {m : Int} (h : FillI n q (bigN n (InkN n p) (AdjN W true) m)) (i : Int) (h0 : 0 ≤ i) (h1 : i < n) : q i = bgQ n W p m i := by
  have h2 := h i.toNat (by omega)
  rw [Int.toNat_of_nonneg h0] at h2
  unfold bgQ
  by_cases c : bigN n (InkN n p) (AdjN W true) m i.toNat
  · rw [if_pos c]; exact h2.1.2 c
  · rw [if_neg c]
    rcases h2.2 with h3 | h3
    · exact h3
    · exact absurd (h2.1.1 h3) c
set_option maxRecDepth 100000 in
set_option maxHeartbeats 4000000 in
theorem desp_any (W H : Nat) (least : Int) (A : Option Addr) (n c : Nat) (p : Int → Int) (w : World) (hA : ArrB w w.heap.size A n p) (hW : W ≤ 640) (hH : H ≤ 640) (hn : n = W * H) (hp : ∀ i : Int, 0 ≤ i → i < n → p i = 0 ∨ p i = 1) :
    Calls Try.prog 54 #[.agg #[.int .i64 W, .int .i64 H, .slice A n c], .int .i64 least] w (New w fun v w' => OutT w w' 0 W H n (bgQ n W p least) v) := by
  have hnI : (n : Int) = (W : Int) * H := by rw [hn]; push_cast; rfl
  have hn9 : n ≤ 409600 := by rw [hn]; exact Nat.mul_le_mul hW hH
  have CO := Lib.hid fun w' hA' => comps_any W H true A n c p w' hA' hW hH hn hp
  have BL := Lib.hid fun w' => (blank_any W H w' (by omega) (by omega) (by omega) (by omega)).mono fun e w'' (⟨v, he, ho, hb⟩ : New w' (fun v w'' => OutImg w' w'' W H (fun _ => 0) v) e w'') => (show New w' (fun v w'' => OutN w' w'' W H n (fun _ => 0) v) e w'' from ⟨v, he, ho.outN hnI, hb⟩)
  have HN := Lib.hid hn
  have HNI := Lib.hid hnI
  clear hn hnI hp
  have b1 : Below w.heap.size w ((w.alloc (.cells #[.int .i64 W, .int .i64 H, .slice A n c] 29)).alloc (.cells #[.int .i64 0, .int .i64 0, .slice none 0 0] 29)) := by (repeat (first | exact Below.refl _ _ | assumption | refine Below.drew ?_ | refine below_drewN ?_ _ | refine Below.alloc ?_ (by first | omega | (simp; done) | (simp; omega)) _ | refine Below.setCell ?_ (by first | omega | (simp; done) | (simp; omega)) _ | refine below_setRow ?_ (by first | omega | (simp; done) | (simp; omega)) _ ))
  have k1 : Blk ((w.alloc (.cells #[.int .i64 W, .int .i64 H, .slice A n c] 29)).alloc (.cells #[.int .i64 0, .int .i64 0, .slice none 0 0] 29)) w.heap.size 29 #[.int .i64 W, .int .i64 H, .slice A n c] := (Blk.new _ _ _).alloc _
  have k2 : Blk ((w.alloc (.cells #[.int .i64 W, .int .i64 H, .slice A n c] 29)).alloc (.cells #[.int .i64 0, .int .i64 0, .slice none 0 0] 29)) (w.heap.size + 1) 29 #[.int .i64 0, .int .i64 0, .slice none 0 0] := Blk.new' (by simp) _ _
  go_enter Try.func54, Try.ntmps54
  go_wp2_with fail
  generalize (w.alloc (.cells #[.int .i64 W, .int .i64 H, .slice A n c] 29)).alloc (.cells #[.int .i64 0, .int .i64 0, .slice none 0 0] 29) = w1 at *
  refine (CO.out w1 (hA.to b1)).mono ?_
  rintro e w2 ⟨_, rfl, ⟨vo, rfl, hC⟩, hb2⟩
  have b2 := below_call b1 b1.size hb2
  replace k1 := k1.below' hb2
  replace k2 := k2.below' hb2
  obtain ⟨L, hc1, hc2, hc3⟩ := hC
  have HC1 := Lib.hid hc1
  obtain ⟨AL, cL, rfl, hcL, hEL⟩ := hc2.arr encC_len
  clear b1 hb2 CO hc1 hA
  obtain ⟨p1, p2, p3⟩ := k1.cells3
  go_wp2_with fail
  refine (BL.out w2).mono ?_
  rintro e w3 ⟨_, rfl, ⟨g, rfl, hg, kg⟩, hb3⟩
  have b3 := below_call b2 b2.size hb3
  have zk2 := k2.lt
  replace k1 := (k1.below' hb3).alloc (.cells #[.int .i64 W, .int .i64 H, .slice (some ⟨g, 0, none⟩) n n] 29)
  replace k2 := (k2.below' hb3).alloc (.cells #[.int .i64 W, .int .i64 H, .slice (some ⟨g, 0, none⟩) n n] 29)
  have zg := kg.lt
  have kx := Blk.new w3 29 #[.int .i64 W, .int .i64 H, .slice (some ⟨g, 0, none⟩) n n]
  have zs := hb3.size
  have bl : Below w2.heap.size w2 (w3.alloc (.cells #[.int .i64 W, .int .i64 H, .slice (some ⟨g, 0, none⟩) n n] 29)) := hb3.alloc hb3.size _
  have b4 := below_call b2 b2.size bl
  have HEL := Lib.hid (hEL.to bl)
  have HC3 := Lib.hid fun t ht => (show _ ∧ _ from ⟨(hc3 t ht).1, (hc3 t ht).2.below bl⟩)
  obtain ⟨gx, hgx⟩ : ∃ gx, w3.heap.size = gx := ⟨_, rfl⟩
  have zz : (w3.alloc (.cells #[.int .i64 W, .int .i64 H, .slice (some ⟨g, 0, none⟩) n n] 29)).heap.size = gx + 1 := by simp [hgx]
  have kp := kg.alloc (.cells #[.int .i64 W, .int .i64 H, .slice (some ⟨g, 0, none⟩) n n] 29)
  have zel : ∀ gL, AL = some ⟨gL, 0, none⟩ → L ≠ [] → gL < w2.heap.size := fun gL e hne => by
    obtain ⟨g', e', hlt, -⟩ := hEL hne
    rw [e] at e'; cases e'; exact hlt
  rw [hgx] at kx zg zs
  clear kg b3 p1 p2 p3 hb3 hEL hc3 hc2 BL bl
  go_upto_region 5 with fail
  generalize w3.alloc (.cells #[.int .i64 W, .int .i64 H, .slice (some ⟨g, 0, none⟩) n n] 29) = w4 at *
  clear hgx
  obtain ⟨K, hK⟩ : ∃ K, L.length = K := ⟨_, rfl⟩
  have HK := Lib.hid hK
  have HZE := Lib.hid zel
  rw [hK] at hcL
  rw [hK]
  have hKn : K ≤ 409600 := by
    have := congrArg List.length HC1.out
    rw [List.length_map, hK] at this
    have := rootK_len n (InkN n p) (AdjN W true)
    omega
  clear hK zel
  have F0 := Lib.hid (show FillI n (fun _ => 0) (DoneN n (InkN n p) (AdjN W true) least (rootN n (InkN n p) (AdjN W true)) 0) from fun i hi => ⟨⟨fun h => absurd (show (0 : Int) = 1 from h) (by decide), fun h => by
    obtain ⟨s, r, h, -⟩ := h
    omega⟩, .inl rfl⟩)
  have KP4 := Lib.hid kp
  have ZZ := Lib.hid zz
  go_wp2_with fail
  go_loopw [29] (fun s wr => ∃ (t : Nat) (q : Int → Int), t ≤ K ∧ s = .int .i64 t ∧ Hid (FillI n q (DoneN n (InkN n p) (AdjN W true) least (rootN n (InkN n p) (AdjN W true)) t)) ∧ But (gx + 1) g w4 wr ∧ Blk wr g 5 (u8s n q)) (fun s _ => K - (intOf s).toNat)
  case atStart => exact ⟨0, _, by omega, rfl, F0, But.refl _ (by omega), kp⟩
  case round =>
    obtain ⟨t, q, ht, rfl, HF, bu, mp⟩ := hrel
    clear kp
    have m1 := k1.but bu (by omega) (by omega)
    have mx := kx.but bu (by omega) (by omega)
    by_cases tl : (t : Int) < K
    · obtain ⟨⟨r, ⟨c1, c2, c3, c4⟩, v⟩, hLt⟩ : ∃ y, L[t]? = some y := ⟨L[t]'(by rw [HK.out]; omega), List.getElem?_eq_getElem _⟩
      have hne : L ≠ [] := fun e => by rw [e] at hLt; simp at hLt
      obtain ⟨gL, rfl, hgL, hcl⟩ := HEL.out hne
      have zgL := HZE.out gL rfl hne
      have cells : ∀ s, s < 5 → wr.cell? ⟨gL, t * 5 + s, none⟩ = (encC (r, (c1, c2, c3, c4), v))[s]? := fun s hs => by
        rw [← hcl t _ hLt s hs]
        exact World.cell?_of_block (bu.block gL (by omega) (by omega))
      have q0 := cells 0 (by omega); have q1 := cells 1 (by omega); have q2 := cells 2 (by omega); have q3 := cells 3 (by omega); have q4 := cells 4 (by omega)
      change _ = some (Value.int .i64 c1) at q0
      change _ = some (Value.int .i64 c2) at q1
      change _ = some (Value.int .i64 c3) at q2
      change _ = some (Value.int .i64 c4) at q3
      change _ = some v at q4
      rw [Nat.add_zero] at q0
      have hER : ERow w4 w1.heap.size 97 2 (encP W) v (partN n (InkN n p) (AdjN W true) r) := (HC3.out _ (List.mem_of_getElem? hLt)).2
      have hroot : (rootN n (InkN n p) (AdjN W true))[t]? = some r := by
        have h9 := HC1.out
        rw [rootK_n] at h9
        rw [← h9, List.getElem?_map, hLt]; rfl
      have HRT := Lib.hid hroot
      obtain ⟨part, hpart⟩ : ∃ l, partN n (InkN n p) (AdjN W true) r = l := ⟨_, rfl⟩
      have HPT := Lib.hid hpart
      rw [hpart] at hER
      have hplt : ∀ x ∈ part, x < n := fun x hx => by rw [← hpart] at hx; exact (mem_partN.1 hx).1
      obtain ⟨AP, cP, rfl, hcP⟩ := hER.val
      have HER := Lib.hid hER
      obtain ⟨P, hP⟩ : ∃ P, part.length = P := ⟨_, rfl⟩
      have HPL := Lib.hid hP
      rw [hP] at q4 hcP
      have hPn : P ≤ 409600 := by
        rw [← hP, ← hpart]
        exact Nat.le_trans partK_len hn9
      clear cells hroot hpart hER hP hLt hcl
      obtain ⟨gc, hgc⟩ : ∃ g, wr.heap.size = g := ⟨_, rfl⟩
      go_upto_region 8 with fail
      have kc := Blk.new wr 111 #[.int .i64 c1, .int .i64 c2, .int .i64 c3, .int .i64 c4, .slice AP P cP]
      have bc : Below wr.heap.size wr (wr.alloc (.cells #[.int .i64 c1, .int .i64 c2, .int .i64 c3, .int .i64 c4, .slice AP P cP] 111)) := (Below.refl _ _).alloc (Nat.le_refl _) _
      have bu2 := bu.then (bc.mono bu.size)
      have mp2 := mp.below' bc
      have q9 := kc.cell 4
      rw [hgc] at q9
      change _ = some (Value.slice AP P cP) at q9
      generalize wr.alloc (.cells #[.int .i64 c1, .int .i64 c2, .int .i64 c3, .int .i64 c4, .slice AP P cP] 111) = w5 at *
      clear bu mp m1 mx kc bc q0 q1 q2 q3 q4 hgc
      by_cases hle : (P : Int) < least
      · have FS := Lib.hid (HF.out.conv (D' := DoneN n (InkN n p) (AdjN W true) least (rootN n (InkN n p) (AdjN W true)) (t + 1)) fun i => done_skip HRT.out (by rw [HPT.out, HPL.out]; omega))
        go_wp2_with fail
        go_roundw
        case rel => exact ⟨t + 1, q, by omega, by go_num, FS, bu2, mp2⟩
        case measure => simp [intOf]; omega
      · have FS := Lib.hid (HF.out.conv (D' := fun i => DoneN n (InkN n p) (AdjN W true) least (rootN n (InkN n p) (AdjN W true)) t i ∨ i ∈ part.take 0) fun i => by simp)
        have HLE := Lib.hid hle
        go_wp2_with fail
        clear hle
        go_loopw [41] (fun s wr => ∃ (u : Nat) (q : Int → Int), u ≤ P ∧ s = .int .i64 u ∧ Hid (FillI n q (fun i => DoneN n (InkN n p) (AdjN W true) least (rootN n (InkN n p) (AdjN W true)) t i ∨ i ∈ part.take u)) ∧ But (gx + 1) g w4 wr ∧ Blk wr g 5 (u8s n q)) (fun s _ => P - (intOf s).toNat)
        case atStart => exact ⟨0, q, by omega, rfl, FS, bu2, mp2⟩
        case round =>
          obtain ⟨u, q2, hu, rfl, HF2, bu3, mp3⟩ := hrel
          clear bu2 mp2 q9
          by_cases ul : (u : Int) < P
          · have m1 := k1.but bu3 (by omega) (by omega)
            have mx := kx.but bu3 (by omega) (by omega)
            obtain ⟨x, hx⟩ : ∃ x, part[u]? = some x := ⟨part[u]'(by rw [HPL.out]; omega), List.getElem?_eq_getElem _⟩
            have hne : part ≠ [] := fun e => by rw [e] at hx; simp at hx
            have hE3 := HER.out.but bu3 ZZ.out KP4.out (by decide)
            obtain ⟨gP, cP', cs, ev, -, -, kP, -, -, htP⟩ := hE3.blk hne
            have eA : AP = some ⟨gP, 0, none⟩ := by cases ev; rfl
            subst eA
            have e0 := ERow.cell (encP_len W) kP htP hx (t := 0) (by omega)
            have e1 := ERow.cell (encP_len W) kP htP hx (t := 1) (by omega)
            change _ = some (Value.int .i64 ((x % W : Nat) : Int)) at e0
            change _ = some (Value.int .i64 ((x / W : Nat) : Int)) at e1
            rw [Nat.add_zero] at e0
            have hxn := hplt x (List.mem_of_getElem? hx)
            have hW0 : 0 < W := by
              rcases Nat.eq_zero_or_pos W with h | h
              · have := HN.out; rw [h, Nat.zero_mul] at this; omega
              · exact h
            obtain ⟨X, hX⟩ : ∃ X : Int, ((x % W : Nat) : Int) = X := ⟨_, rfl⟩
            obtain ⟨Y, hY⟩ : ∃ Y : Int, ((x / W : Nat) : Int) = Y := ⟨_, rfl⟩
            have X0 : 0 ≤ X := by rw [← hX]; exact Int.natCast_nonneg _
            have X1 : X < W := by rw [← hX]; exact Int.ofNat_lt.2 (Nat.mod_lt _ hW0)
            have Y0 : 0 ≤ Y := by rw [← hY]; exact Int.natCast_nonneg _
            have Y1 : Y < H := by rw [← hY]; exact Int.ofNat_lt.2 (Nat.div_lt_of_lt_mul (HN.out ▸ hxn))
            have hxy : Y * W + X = (x : Int) := by
              rw [← hX, ← hY]
              have := Nat.div_add_mod x W
              rw [Nat.mul_comm] at this
              have h9 : ((x / W * W + x % W : Nat) : Int) = (x : Int) := by rw [this]
              push_cast at h9 ⊢
              exact h9
            rw [hX] at e0
            rw [hY] at e1
            have wm := idx_lt X0 X1 Y0 Y1
            have v1 : IntKind.i64.wrap (Y * W) = Y * W := IntWalk.i64_in _ (by omega)
            have v2 : IntKind.i64.wrap (Y * W + X) = (x : Int) := (IntWalk.i64_in _ (by omega)).trans hxy
            have hxn' : (x : Int) < n := by omega
            have HXT := Lib.hid (show part.take (u + 1) = part.take u ++ [x] by rw [List.take_add_one, hx]; rfl)
            clear hX hY X0 X1 Y0 Y1 wm hE3 ev kP htP hne hx hxn hxy
            obtain ⟨gt, hgt⟩ : ∃ g, wr.heap.size = g := ⟨_, rfl⟩
            go_upto_region 12 with fail
            have kt := Blk.new wr 97 #[.int .i64 X, .int .i64 Y]
            have bt : Below wr.heap.size wr (wr.alloc (.cells #[.int .i64 X, .int .i64 Y] 97)) := (Below.refl _ _).alloc (Nat.le_refl _) _
            have bu4 := bu3.then (bt.mono bu3.size)
            have mp4 := mp3.below' bt
            have n1 := m1.below' bt
            have nx := mx.below' bt
            rw [hgt] at kt
            generalize wr.alloc (.cells #[.int .i64 X, .int .i64 Y] 97) = w6 at *
            obtain ⟨f1, f2⟩ := kt.cells2
            obtain ⟨s1, s2, s3⟩ := n1.cells3
            obtain ⟨r1, r2, r3⟩ := nx.cells3
            have hc := mp4.u8at (i := (x : Int)) (by omega) hxn'
            have hf := mp4.frozen x
            rw [Int.toNat_natCast] at hc
            have mp5 := mp4.u8set (x : Int) (by omega) 1
            rw [Int.toNat_natCast] at mp5
            have bu5 := bu4.set x (.int .u8 1)
            have FS2 := Lib.hid (HF2.out.set (x := x) (D' := fun i => DoneN n (InkN n p) (AdjN W true) least (rootN n (InkN n p) (AdjN W true)) t i ∨ i ∈ part.take (u + 1)) fun i => by
              rw [HXT.out, List.mem_append, List.mem_singleton, or_assoc])
            clear bu3 mp3 m1 mx e0 e1 bt hgt bu4
            go_wp2_with fail
            go_roundw
            case rel => exact ⟨u + 1, _, by omega, by go_num, FS2, bu5, mp5⟩
            case measure => simp [intOf]; omega
          · have eu : u = P := by omega
            have FE := Lib.hid (HF2.out.conv (D' := DoneN n (InkN n p) (AdjN W true) least (rootN n (InkN n p) (AdjN W true)) (t + 1)) fun i => by
              rw [done_take HRT.out (by rw [HPT.out, HPL.out]; have := HLE.out; omega), HPT.out, eu, ← HPL.out, List.take_length])
            clear hu eu
            go_wp2_with fail
            go_roundw
            case rel => exact ⟨t + 1, q2, by omega, by go_num, FE, bu3, mp3⟩
            case measure => simp [intOf]; omega
    · have et : t = K := by omega
      have m2 := k2.but bu (by omega) (by omega)
      obtain ⟨x1, x2, x3⟩ := mx.cells3
      obtain ⟨f1, f2, f3⟩ := m2.frozen3
      obtain ⟨y1, y2, y3⟩ := m2.cells3
      have k5 := ((m2.set_ 0 (.int .i64 W)).set_ 1 (.int .i64 H)).set_ 2 (.slice (some ⟨g, 0, none⟩) n n)
      obtain ⟨s1, s2, s3⟩ := Blk.cells3 (a := .int .i64 W) (b := .int .i64 H) (c := .slice (some ⟨g, 0, none⟩) n n) k5
      have bE : Below w.heap.size w wr := b4.trans (bu.to ZZ.out (by omega) (by omega))
      have hlen : K = (rootN n (InkN n p) (AdjN W true)).length := by
        have := congrArg List.length HC1.out
        rw [List.length_map, HK.out, rootK_n] at this
        exact this
      have FE := HF.out.conv (D' := bigN n (InkN n p) (AdjN W true) least) fun i => by
        rw [et, hlen, done_all AdjN.symm fun x hx => hx.1]
      have mpE := mp.u8conv fun i i0 i1 => FE.end_ i i0 i1
      clear ht et HF hlen FE
      go_wp2_with fail
      refine bodyPost_ret (v := .tuple #[.agg #[.int .i64 W, .int .i64 H, .slice (some ⟨g, 0, none⟩) n n], .int .i64 0]) (by simp [results, Try.results54, go_sem, s1, s2, s3]) rfl ?_
      have g1 : g ≠ w.heap.size + 1 := by omega
      refine ⟨_, rfl, ⟨_, _, rfl, (fun a e => by cases e; show w.heap.size ≤ g; omega), ?_⟩, by (repeat (first | exact Below.refl _ _ | assumption | refine Below.drew ?_ | refine below_drewN ?_ _ | refine Below.alloc ?_ (by first | omega | (simp; done) | (simp; omega)) _ | refine Below.setCell ?_ (by first | omega | (simp; done) | (simp; omega)) _ | refine below_setRow ?_ (by first | omega | (simp; done) | (simp; omega)) _ ))⟩
      have KE := Blk.far (Blk.far (Blk.far mpE (p := ⟨w.heap.size + 1, 0, none⟩) g1 (.int .i64 W)) (p := ⟨w.heap.size + 1, 1, none⟩) g1 (.int .i64 H)) (p := ⟨w.heap.size + 1, 2, none⟩) g1 (.slice (some ⟨g, 0, none⟩) n n)
      exact KE.arrB KE.lt
end Go.Proofs.Ytoonkpjddfiopaa

/- Walks: the nine functions of clean's steps, and the list of the steps. -/
namespace Go.Proofs.Ytoonkpjddfiopaa
open Go.RowKit
set_option linter.unusedVariables false

/-- the cells of the work on an image -/
def wkV (W H : Int) (S : Value) (IW IH : Int) (IS : Value) (r0 r1 r2 : Int) : Array Value := #[.int .i64 W, .int .i64 H, S, .int .i64 IW, .int .i64 IH, IS, .int .i64 r0, .int .i64 r1, .int .i64 r2]
theorem wk_cells {w : World} {g : Nat} {W H IW IH r0 r1 r2 : Int} {S IS : Value} (h : Blk w g 60 (wkV W H S IW IH IS r0 r1 r2)) :
    (w.cell? ⟨g, 0, none⟩ = some (.int .i64 W) ∧ w.cell? ⟨g, 1, none⟩ = some (.int .i64 H) ∧ w.cell? ⟨g, 2, none⟩ = some S) ∧ (w.cell? ⟨g, 3, none⟩ = some (.int .i64 IW) ∧ w.cell? ⟨g, 4, none⟩ = some (.int .i64 IH) ∧ w.cell? ⟨g, 5, none⟩ = some IS) ∧
    (w.cell? ⟨g, 6, none⟩ = some (.int .i64 r0) ∧ w.cell? ⟨g, 7, none⟩ = some (.int .i64 r1) ∧ w.cell? ⟨g, 8, none⟩ = some (.int .i64 r2)) := by
  refine ⟨⟨?_, ?_, ?_⟩, ⟨?_, ?_, ?_⟩, ⟨?_, ?_, ?_⟩⟩ <;> (rw [h.cell]; rfl)
theorem wk_img {w : World} {g : Nat} {W H IW IH r0 r1 r2 : Int} {S IS : Value} (h : Blk w g 60 (wkV W H S IW IH IS r0 r1 r2)) (IW' IH' : Int) (IS' : Value) :
    Blk (((w.setCell ⟨g, 3, none⟩ (.int .i64 IW')).setCell ⟨g, 4, none⟩ (.int .i64 IH')).setCell ⟨g, 5, none⟩ IS') g 60 (wkV W H S IW' IH' IS' r0 r1 r2) := ((h.set_ 3 _).set_ 4 _).set_ 5 _
/-- the functions of the steps, as they lie in the list -/
def stV : Array Value := #[.func (.func 44) #[] #[], .func (.func 45) #[] #[], .func (.func 46) #[] #[], .func (.func 48) #[] #[], .func (.func 49) #[] #[], .func (.func 50) #[] #[], .func (.func 51) #[] #[], .func (.func 52) #[] #[], .func (.func 53) #[] #[]]
set_option maxHeartbeats 400000 in
theorem steps_any (w : World) : Calls Try.prog 26 #[] w fun e w' => e = .returned (.slice (some ⟨w.heap.size, 0, none⟩) 3 3) ∧ w' = w.alloc (.cells stV 65) := by
  go_enter Try.func26, Try.ntmps26
  go_wp2
  go_ret
  exact ⟨rfl, rfl⟩

set_option maxHeartbeats 400000 in
/-- the first step: the threshold -/
theorem stepThr_any (W H z IW IH r0 r1 r2 : Int) (A : Option Addr) (n c : Nat) (p : Int → Int) (IS : Value) (E W2 H2 : Int) (N : Nat) (gw : Nat) (w : World) (hk : Blk w gw 60 (wkV W H (.slice A n c) IW IH IS r0 r1 r2)) (hA : ArrB w w.heap.size A n p) (hB : IsB p) (hE : thrE W H n z = E) (hs : RSize E W H W2 H2 N) :
    Calls Try.prog 46 #[.pointer (some ⟨gw, 0, none⟩), .int .i64 z] w (New w fun v w' => OutT w w' E W2 H2 N (thrQ p z) v) := by
  have TH := Lib.hid fun w' hA' => thr_all W H z A n c p E W2 H2 N w' hA' hB hE hs
  obtain ⟨⟨c0, c1, c2⟩, ⟨c3, c4, c5⟩, -⟩ := wk_cells hk
  have hg0 := hk.lt
  clear hE hs hB c3 c4 c5
  go_enter Try.func46, Try.ntmps46
  go_wp2_with fail
  refine (TH.out _ (hA.to (by (repeat (first | exact Below.refl _ _ | assumption | refine Below.drew ?_ | refine below_drewN ?_ _ | refine Below.alloc ?_ (by first | omega | (simp; done) | (simp; omega)) _ | refine Below.setCell ?_ (by first | omega | (simp; done) | (simp; omega)) _ | refine below_setRow ?_ (by first | omega | (simp; done) | (simp; omega)) _ ))))).mono ?_
  rintro e w2 ⟨_, rfl, ⟨A', c', rfl, hg, ha⟩, hb2⟩
  have k6 : Blk w2 w.heap.size 29 #[.int .i64 0, .int .i64 0, .slice none 0 0] := (Blk.new _ _ _).below' hb2
  have b2 : Below w.heap.size w w2 := below_call (by (repeat (first | exact Below.refl _ _ | assumption | refine Below.drew ?_ | refine below_drewN ?_ _ | refine Below.alloc ?_ (by first | omega | (simp; done) | (simp; omega)) _ | refine Below.setCell ?_ (by first | omega | (simp; done) | (simp; omega)) _ | refine below_setRow ?_ (by first | omega | (simp; done) | (simp; omega)) _ ))) (by simp; try omega) hb2
  obtain ⟨r1, r2, r3⟩ := k6.cells3
  obtain ⟨f1, f2, f3⟩ := k6.frozen3
  simp only [World.size_alloc] at hg
  have k9 := ((k6.set_ 0 (.int .i64 W2)).set_ 1 (.int .i64 H2)).set_ 2 (.slice A' N c')
  obtain ⟨s1, s2, s3⟩ := Blk.cells3 (a := .int .i64 W2) (b := .int .i64 H2) (c := .slice A' N c') k9
  go_wp2_with fail
  refine bodyPost_ret (v := .tuple #[.agg #[.int .i64 W2, .int .i64 H2, .slice A' N c'], .int .i64 E]) (by simp [results, Try.results46, go_sem, s1, s2, s3]) rfl ?_
  exact ⟨_, rfl, ⟨A', c', rfl, fun a e => by have := hg a e; omega, ha.fill1 fun a e => by have := hg a e; omega⟩, by (repeat (first | exact Below.refl _ _ | assumption | refine Below.drew ?_ | refine below_drewN ?_ _ | refine Below.alloc ?_ (by first | omega | (simp; done) | (simp; omega)) _ | refine Below.setCell ?_ (by first | omega | (simp; done) | (simp; omega)) _ | refine below_setRow ?_ (by first | omega | (simp; done) | (simp; omega)) _ ))⟩

set_option maxHeartbeats 400000 in
/-- the second step: the skew -/
theorem stepMov_any (GW GH z W H r0 r1 r2 : Int) (A : Option Addr) (n c : Nat) (p : Int → Int) (GS : Value) (E Wm Hm : Int) (N : Nat) (gw : Nat) (w : World) (hk : Blk w gw 60 (wkV GW GH GS W H (.slice A n c) r0 r1 r2)) (hA : ArrB w w.heap.size A n p) (hn : n ≤ maxLen) (hB : IsB p) (hE : movE W H n p z (-1) = E) (hs : MSize W H (-grt W z) E Wm Hm N) :
    Calls Try.prog 50 #[.pointer (some ⟨gw, 0, none⟩), .int .i64 z] w (New w fun v w' => OutM w w' E Wm Hm N (movQ W H p z (-1)) v) := by
  have TH := Lib.hid fun w' hA' => unskew_all W H Wm Hm E N A n c p z w' hA' hn hB hE hs
  obtain ⟨⟨c0, c1, c2⟩, ⟨c3, c4, c5⟩, -⟩ := wk_cells hk
  have hg0 := hk.lt
  clear hE hs hB hn c0 c1 c2
  go_enter Try.func50, Try.ntmps50
  go_wp2_with fail
  refine (TH.out _ (hA.to (by (repeat (first | exact Below.refl _ _ | assumption | refine Below.drew ?_ | refine below_drewN ?_ _ | refine Below.alloc ?_ (by first | omega | (simp; done) | (simp; omega)) _ | refine Below.setCell ?_ (by first | omega | (simp; done) | (simp; omega)) _ | refine below_setRow ?_ (by first | omega | (simp; done) | (simp; omega)) _ ))))).mono ?_
  rintro e w2 ⟨_, rfl, ⟨A', c', rfl, hg, ha⟩, hb2⟩
  have k6 : Blk w2 w.heap.size 29 #[.int .i64 0, .int .i64 0, .slice none 0 0] := (Blk.new _ _ _).below' hb2
  have b2 : Below w.heap.size w w2 := below_call (by (repeat (first | exact Below.refl _ _ | assumption | refine Below.drew ?_ | refine below_drewN ?_ _ | refine Below.alloc ?_ (by first | omega | (simp; done) | (simp; omega)) _ | refine Below.setCell ?_ (by first | omega | (simp; done) | (simp; omega)) _ | refine below_setRow ?_ (by first | omega | (simp; done) | (simp; omega)) _ ))) (by simp; try omega) hb2
  obtain ⟨r1, r2, r3⟩ := k6.cells3
  obtain ⟨f1, f2, f3⟩ := k6.frozen3
  simp only [World.size_alloc] at hg
  have k9 := ((k6.set_ 0 (.int .i64 Wm)).set_ 1 (.int .i64 Hm)).set_ 2 (.slice A' N c')
  obtain ⟨s1, s2, s3⟩ := Blk.cells3 (a := .int .i64 Wm) (b := .int .i64 Hm) (c := .slice A' N c') k9
  go_wp2_with fail
  refine bodyPost_ret (v := .tuple #[.agg #[.int .i64 Wm, .int .i64 Hm, .slice A' N c'], .int .i64 E]) (by simp [results, Try.results50, go_sem, s1, s2, s3]) rfl ?_
  exact ⟨_, rfl, ⟨A', c', rfl, fun a e => by have := hg a e; omega, ha.fill1 fun a e => by have := hg a e; omega⟩, by (repeat (first | exact Below.refl _ _ | assumption | refine Below.drew ?_ | refine below_drewN ?_ _ | refine Below.alloc ?_ (by first | omega | (simp; done) | (simp; omega)) _ | refine Below.setCell ?_ (by first | omega | (simp; done) | (simp; omega)) _ | refine below_setRow ?_ (by first | omega | (simp; done) | (simp; omega)) _ ))⟩

set_option maxHeartbeats 400000 in
/-- the third step: the specks -/
theorem stepDsp_any (GW GH z : Int) (W H : Nat) (r0 r1 r2 : Int) (A : Option Addr) (N c : Nat) (p : Int → Int) (GS : Value) (gw : Nat) (w : World) (hk : Blk w gw 60 (wkV GW GH GS W H (.slice A N c) r0 r1 r2)) (hA : ArrB w w.heap.size A N p) (hW : W ≤ 640) (hH : H ≤ 640) (hn : N = W * H) (hp : ∀ i : Int, 0 ≤ i → i < N → p i = 0 ∨ p i = 1) :
    Calls Try.prog 53 #[.pointer (some ⟨gw, 0, none⟩), .int .i64 z] w (New w fun v w' => OutT w w' 0 W H N (bgQ N W p z) v) := by
  have TH := Lib.hid fun w' hA' => desp_any W H z A N c p w' hA' hW hH hn hp
  obtain ⟨⟨c0, c1, c2⟩, ⟨c3, c4, c5⟩, -⟩ := wk_cells hk
  have hg0 := hk.lt
  clear hn hp c0 c1 c2
  go_enter Try.func53, Try.ntmps53
  go_wp2_with fail
  refine (TH.out _ (hA.to (by (repeat (first | exact Below.refl _ _ | assumption | refine Below.drew ?_ | refine below_drewN ?_ _ | refine Below.alloc ?_ (by first | omega | (simp; done) | (simp; omega)) _ | refine Below.setCell ?_ (by first | omega | (simp; done) | (simp; omega)) _ | refine below_setRow ?_ (by first | omega | (simp; done) | (simp; omega)) _ ))))).mono ?_
  rintro e w2 ⟨_, rfl, ⟨A', c', rfl, hg, ha⟩, hb2⟩
  have k6 : Blk w2 w.heap.size 29 #[.int .i64 0, .int .i64 0, .slice none 0 0] := (Blk.new _ _ _).below' hb2
  have b2 : Below w.heap.size w w2 := below_call (by (repeat (first | exact Below.refl _ _ | assumption | refine Below.drew ?_ | refine below_drewN ?_ _ | refine Below.alloc ?_ (by first | omega | (simp; done) | (simp; omega)) _ | refine Below.setCell ?_ (by first | omega | (simp; done) | (simp; omega)) _ | refine below_setRow ?_ (by first | omega | (simp; done) | (simp; omega)) _ ))) (by simp; try omega) hb2
  obtain ⟨r1, r2, r3⟩ := k6.cells3
  obtain ⟨f1, f2, f3⟩ := k6.frozen3
  simp only [World.size_alloc] at hg
  have k9 := ((k6.set_ 0 (.int .i64 W)).set_ 1 (.int .i64 H)).set_ 2 (.slice A' N c')
  obtain ⟨s1, s2, s3⟩ := Blk.cells3 (a := .int .i64 W) (b := .int .i64 H) (c := .slice A' N c') k9
  go_wp2_with fail
  refine bodyPost_ret (v := .tuple #[.agg #[.int .i64 W, .int .i64 H, .slice A' N c'], .int .i64 0]) (by simp [results, Try.results53, go_sem, s1, s2, s3]) rfl ?_
  exact ⟨_, rfl, ⟨A', c', rfl, fun a e => by have := hg a e; omega, ha.fill1 fun a e => by have := hg a e; omega⟩, by (repeat (first | exact Below.refl _ _ | assumption | refine Below.drew ?_ | refine below_drewN ?_ _ | refine Below.alloc ?_ (by first | omega | (simp; done) | (simp; omega)) _ | refine Below.setCell ?_ (by first | omega | (simp; done) | (simp; omega)) _ | refine below_setRow ?_ (by first | omega | (simp; done) | (simp; omega)) _ ))⟩

set_option maxHeartbeats 400000 in
/-- the threshold is kept -/
theorem keepThr_any (z : Int) (cs : Array Value) (u : Value) (gw : Nat) (w : World) (hk : Blk w gw 60 cs) (hu : cs[6]? = some u) :
    Calls Try.prog 45 #[.pointer (some ⟨gw, 0, none⟩), .int .i64 z] w fun e w' => e = .returned (.tuple #[]) ∧ w' = w.setCell ⟨gw, 6, none⟩ (.int .i64 z) := by
  have c0 : w.cell? ⟨gw, 6, none⟩ = some u := (hk.cell 6).trans hu
  have f0 := hk.frozen 6
  go_enter Try.func45, Try.ntmps45
  go_wp2
  go_end0
  exact ⟨rfl, rfl⟩

set_option maxHeartbeats 400000 in
/-- the skew is kept -/
theorem keepSkew_any (z : Int) (cs : Array Value) (u : Value) (gw : Nat) (w : World) (hk : Blk w gw 60 cs) (hu : cs[7]? = some u) :
    Calls Try.prog 49 #[.pointer (some ⟨gw, 0, none⟩), .int .i64 z] w fun e w' => e = .returned (.tuple #[]) ∧ w' = w.setCell ⟨gw, 7, none⟩ (.int .i64 z) := by
  have c0 : w.cell? ⟨gw, 7, none⟩ = some u := (hk.cell 7).trans hu
  have f0 := hk.frozen 7
  go_enter Try.func49, Try.ntmps49
  go_wp2
  go_end0
  exact ⟨rfl, rfl⟩

set_option maxHeartbeats 400000 in
/-- the size of specks is kept -/
theorem keepSpeck_any (z : Int) (cs : Array Value) (u : Value) (gw : Nat) (w : World) (hk : Blk w gw 60 cs) (hu : cs[8]? = some u) :
    Calls Try.prog 52 #[.pointer (some ⟨gw, 0, none⟩), .int .i64 z] w fun e w' => e = .returned (.tuple #[]) ∧ w' = w.setCell ⟨gw, 8, none⟩ (.int .i64 z) := by
  have c0 : w.cell? ⟨gw, 8, none⟩ = some u := (hk.cell 8).trans hu
  have f0 := hk.frozen 8
  go_enter Try.func52, Try.ntmps52
  go_wp2
  go_end0
  exact ⟨rfl, rfl⟩

set_option maxHeartbeats 400000 in
/-- the level is found -/
theorem findThr_any (W H IW IH r0 r1 r2 : Int) (A : Option Addr) (n c : Nat) (p : Int → Int) (IS : Value) (E V : Int) (gw : Nat) (w : World) (hk : Blk w gw 60 (wkV W H (.slice A n c) IW IH IS r0 r1 r2)) (hA : ArrB w w.heap.size A n p) (hn : n ≤ maxLen) (hB : IsB p) (hE : levE W H n = E) (hV : V = if E = 0 then levelS n p else 0) :
    Calls Try.prog 44 #[.pointer (some ⟨gw, 0, none⟩)] w fun e w' => e = .returned (.tuple #[.int .i64 V, .int .i64 E]) ∧ Below w.heap.size w w' := by
  have TH := Lib.hid (level_all W H A n c p E V w hA hn hB hE hV)
  obtain ⟨⟨c0, c1, c2⟩, -, -⟩ := wk_cells hk
  clear hE hV hB
  go_enter Try.func44, Try.ntmps44
  go_wp2_with fail
  refine TH.out.mono ?_
  rintro e w2 ⟨rfl, hb2⟩
  go_wp2
  go_ret2
  exact ⟨rfl, hb2⟩

set_option maxHeartbeats 400000 in
/-- the skew is found -/
theorem findSkw_any (GW GH W H r0 r1 r2 : Int) (A : Option Addr) (n c : Nat) (p : Int → Int) (GS : Value) (E V : Int) (gw : Nat) (w : World) (hk : Blk w gw 60 (wkV GW GH GS W H (.slice A n c) r0 r1 r2)) (hA : ArrB w w.heap.size A n p) (hn : n ≤ maxLen) (hB : IsB p) (hE : chk W H n p = E) (hV : V = if E = 0 then findS W H n p else 0) :
    Calls Try.prog 48 #[.pointer (some ⟨gw, 0, none⟩)] w fun e w' => e = .returned (.tuple #[.int .i64 V, .int .i64 E]) ∧ Below w.heap.size w w' := by
  have TH := Lib.hid (findSkew_all W H A n c p E V w hA hn hB hE hV)
  obtain ⟨-, ⟨c0, c1, c2⟩, -⟩ := wk_cells hk
  clear hE hV hB
  go_enter Try.func48, Try.ntmps48
  go_wp2_with fail
  refine TH.out.mono ?_
  rintro e w2 ⟨rfl, hb2⟩
  go_wp2
  go_ret2
  exact ⟨rfl, hb2⟩

set_option maxHeartbeats 400000 in
theorem findSpk_any (a : Value) (w : World) : Calls Try.prog 51 #[a] w fun e w' => e = .returned (.tuple #[.int .i64 2, .int .i64 0]) ∧ w' = w := by
  go_enter Try.func51, Try.ntmps51
  go_wp2
  go_ret2
  exact ⟨rfl, rfl⟩
end Go.Proofs.Ytoonkpjddfiopaa
