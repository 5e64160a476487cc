/- Texts of mine in build order: I9, J22, Q3, W19, G4, S11, S12, C8, C12, G5, J7, J23. Conditions: each theorem's own. -/
import Derived.Test.YtoonkpjddfiopaaDoorMImageSetsx8
import Derived.Test.YtoonkpjddfiopaaDoorMImageSpecksx1
import Derived.BigQuiet
import Derived.Deep.QuietTactic
import Derived.Deep.RegionHeld3
import Derived.Deep.DeepCutAuto
import Derived.Deep.Cut
import Derived.Deep.CutBlock
/- Walk: the reference's Despeckle. Written by gen/i9.py. -/
namespace Go.Proofs.YtoonkpjddfiopaaDoor
open Go.RowKit Go.Shelf
set_option linter.unusedVariables false
attribute [local go_sem] Oper.semAt_some
set_option maxRecDepth 100000 in
set_option maxHeartbeats 8000000 in
theorem rdesp_any (W H : Nat) (least : Int) (A : Option Addr) (n c : Nat) (p : Int → Int) (w : World) (hA : ArrB w w.heap.size A n p) (hB : IsB p) (hW : W ≤ 640) (hH : H ≤ 640) (hn : n = W * H) (hp : ∀ i : Int, 0 ≤ i → i < n → p i = 0 ∨ p i = 1) :
    Calls Tryd.prog 31 #[.agg #[.int .i64 W, .int .i64 H, .slice A n c], .int .i64 least] w (New w fun v w' => OutN w w' W H n (bgQ n W p least) v) := by
  have hnI : (n : Int) = (W : Int) * H := by rw [hn]; push_cast; rfl
  have hn9 : n ≤ 409600 := by rw [hn]; exact Nat.mul_le_mul hW hH
  have CO := Lib.hid fun w' hA' => rcomps_any W H true A n c p w' hA' hB hW hH hn hp
  have NW := Lib.hid fun w' => rnew_any W H n w' (by omega) (by omega) (by omega) (by omega) hnI
  have HN := Lib.hid hn
  have HNI := Lib.hid hnI
  have HA := Lib.hid hA
  clear hn hnI hp hB hA
  have b1 : Below w.heap.size w ((w.alloc (.cells #[.int .i64 W, .int .i64 H, .slice A n c] 24)).alloc (.cells #[.int .i64 0, .int .i64 0, .slice none 0 0] 24)) := by (repeat (first | exact Below.refl _ _ | assumption | refine Below.drew ?_ | refine below_drewN ?_ _ | refine Below.alloc ?_ (by first | omega | (simp; done) | (simp; omega)) _ | refine Below.setCell ?_ (by first | omega | (simp; done) | (simp; omega)) _ | refine below_setRow ?_ (by first | omega | (simp; done) | (simp; omega)) _ ))
  have k1 : Blk ((w.alloc (.cells #[.int .i64 W, .int .i64 H, .slice A n c] 24)).alloc (.cells #[.int .i64 0, .int .i64 0, .slice none 0 0] 24)) w.heap.size 24 #[.int .i64 W, .int .i64 H, .slice A n c] := (Blk.new _ _ _).alloc _
  have k2 : Blk ((w.alloc (.cells #[.int .i64 W, .int .i64 H, .slice A n c] 24)).alloc (.cells #[.int .i64 0, .int .i64 0, .slice none 0 0] 24)) (w.heap.size + 1) 24 #[.int .i64 0, .int .i64 0, .slice none 0 0] := Blk.new' (by simp) _ _
  go_enter Tryd.func31, Tryd.ntmps31
  go_wp2_with fail
  generalize (w.alloc (.cells #[.int .i64 W, .int .i64 H, .slice A n c] 24)).alloc (.cells #[.int .i64 0, .int .i64 0, .slice none 0 0] 24) = w1 at *
  refine (NW.out w1).mono ?_
  rintro e w2 ⟨_, rfl, ⟨g, rfl, hg, kg⟩, hb2⟩
  have b2 := below_call b1 b1.size hb2
  have zk2 := k2.lt
  replace k1 := (k1.below' hb2).alloc (.cells #[.int .i64 W, .int .i64 H, .slice (some ⟨g, 0, none⟩) n n] 24)
  replace k2 := (k2.below' hb2).alloc (.cells #[.int .i64 W, .int .i64 H, .slice (some ⟨g, 0, none⟩) n n] 24)
  have zg := kg.lt
  have kx := Blk.new w2 24 #[.int .i64 W, .int .i64 H, .slice (some ⟨g, 0, none⟩) n n]
  have kp := kg.alloc (.cells #[.int .i64 W, .int .i64 H, .slice (some ⟨g, 0, none⟩) n n] 24)
  have b3 := b2.alloc b2.size (.cells #[.int .i64 W, .int .i64 H, .slice (some ⟨g, 0, none⟩) n n] 24)
  obtain ⟨gx, hgx⟩ : ∃ gx, w2.heap.size = gx := ⟨_, rfl⟩
  have zs := hb2.size
  rw [hgx] at kx zg zs
  go_upto_region 2 with fail
  generalize w2.alloc (.cells #[.int .i64 W, .int .i64 H, .slice (some ⟨g, 0, none⟩) n n] 24) = w3 at *
  clear kg b2 b1 hb2 hgx NW
  obtain ⟨p1, p2, p3⟩ := k1.cells3
  go_wp2_with fail
  refine (CO.out w3 (HA.out.to b3)).mono ?_
  rintro e w4 ⟨vo, rfl, hC, hb4⟩
  have b4 := below_call b3 b3.size hb4
  replace k2 := k2.below' hb4
  replace kx := kx.below' hb4
  replace kp := kp.below' hb4
  obtain ⟨L, hc1, hc2, hc3⟩ := hC
  have HC1 := Lib.hid hc1
  have HC3 := Lib.hid hc3
  obtain ⟨AL, cL, rfl, hcL⟩ := hc2.val
  have HC2 := Lib.hid hc2
  clear b3 hb4 CO hc1 hc2 hc3 k1 p1 p2 p3 HA
  obtain ⟨K, hK⟩ : ∃ K, L.length = K := ⟨_, rfl⟩
  have HK := Lib.hid hK
  rw [hK] at hcL
  rw [hK]
  have hKn : K ≤ 409600 := by
    have := congrArg List.length HC1.out
    rw [List.length_map, hK] at this
    have := rootK_len n (InkN n p) (AdjN W true)
    omega
  clear hK
  obtain ⟨B4, hB4⟩ : ∃ g, w4.heap.size = g := ⟨_, rfl⟩
  have HB4 := Lib.hid hB4
  have zB1 : gx < B4 := by rw [← hB4]; exact kx.lt
  have F0 := Lib.hid (show FillI n (fun _ => 0) (DoneN n (InkN n p) (AdjN W true) least (rootN n (InkN n p) (AdjN W true)) 0) from fun i hi => ⟨⟨fun h => absurd (show (0 : Int) = 1 from h) (by decide), fun h => by
    obtain ⟨s, r, h, -⟩ := h
    omega⟩, .inl rfl⟩)
  have KP4 := Lib.hid kp
  have KX := Lib.hid kx
  have K2 := Lib.hid k2
  clear hB4 k2 kx
  go_wp2_with fail
  go_loopw [7] (fun s wr => ∃ (t : Nat) (q : Int → Int), t ≤ K ∧ s = .int .i64 t ∧ Hid (FillI n q (DoneN n (InkN n p) (AdjN W true) least (rootN n (InkN n p) (AdjN W true)) t)) ∧ But B4 g w4 wr ∧ Blk wr g 5 (u8s n q)) (fun s _ => K - (intOf s).toNat)
  case atStart => exact ⟨0, _, by omega, rfl, F0, But.refl _ (by rw [HB4.out]; exact Nat.le_refl _), kp⟩
  case round =>
    obtain ⟨t, q, ht, rfl, HF, bu, mp⟩ := hrel
    clear kp
    by_cases tl : (t : Int) < K
    · obtain ⟨⟨r, ⟨c1, c2, c3, c4⟩, v⟩, hLt⟩ : ∃ y, L[t]? = some y := ⟨L[t]'(by rw [HK.out]; omega), List.getElem?_eq_getElem _⟩
      have hne : L ≠ [] := fun e => by rw [e] at hLt; simp at hLt
      have hER : ERow w4 w3.heap.size 51 2 (encP W) v (partN n (InkN n p) (AdjN W true) r) := (HC3.out _ (List.mem_of_getElem? hLt)).2
      have hroot : (rootN n (InkN n p) (AdjN W true))[t]? = some r := by
        have h9 := HC1.out
        rw [rootK_n] at h9
        rw [← h9, List.getElem?_map, hLt]; rfl
      have HRT := Lib.hid hroot
      obtain ⟨part, hpart⟩ : ∃ l, partN n (InkN n p) (AdjN W true) r = l := ⟨_, rfl⟩
      have HPT := Lib.hid hpart
      rw [hpart] at hER
      have hplt : ∀ x ∈ part, x < n := fun x hx => by rw [← hpart] at hx; exact (mem_partN.1 hx).1
      obtain ⟨AP, cP, rfl, hcP⟩ := hER.val
      have HER := Lib.hid hER
      obtain ⟨P, hP⟩ : ∃ P, part.length = P := ⟨_, rfl⟩
      have HPL := Lib.hid hP
      rw [hP] at hLt hcP
      have HLT := Lib.hid hLt
      have hPn : P ≤ 409600 := by
        rw [← hP, ← hpart]
        exact Nat.le_trans partK_len hn9
      have hAL : ∃ gL, AL = some ⟨gL, 0, none⟩ := by
        obtain ⟨gL, cL', cs, ev, -⟩ := HC2.out.blk hne
        cases ev; exact ⟨gL, rfl⟩
      obtain ⟨gL, rfl⟩ := hAL
      have KLC := Lib.hid fun wr (bu : But B4 g w4 wr) => (show gL < wr.heap.size ∧ wr.cell? ⟨gL, t * 5 + 4, none⟩ = some (.slice AP P cP) from by
        obtain ⟨gL', cL', cs, ev, -, -, kL, -, -, htL⟩ := (HC2.out.but bu HB4.out KP4.out (by decide)).blk hne
        cases ev
        exact ⟨kL.lt, ERow.cell encC_len kL htL HLT.out (t := 4) (by omega)⟩)
      clear hroot hpart hER hP hLt
      have FS := Lib.hid (HF.out.conv (D' := fun i => DoneN n (InkN n p) (AdjN W true) least (rootN n (InkN n p) (AdjN W true)) t i ∨ i ∈ part.take 0) fun i => by simp)
      clear HF
      go_wp2_with fail
      go_loopw [8] (fun s wr => ∃ (u : Nat) (q : Int → Int), u ≤ P ∧ (¬ least ≤ (P : Int) → u = 0) ∧ s = .int .i64 u ∧ Hid (FillI n q (fun i => DoneN n (InkN n p) (AdjN W true) least (rootN n (InkN n p) (AdjN W true)) t i ∨ i ∈ part.take u)) ∧ But B4 g w4 wr ∧ Blk wr g 5 (u8s n q)) (fun s _ => P - (intOf s).toNat)
      case atStart => exact ⟨0, q, by omega, fun _ => rfl, rfl, FS, bu, mp⟩
      case round =>
        obtain ⟨u, q2, hu, hul, rfl, HF2, bu3, mp3⟩ := hrel
        clear bu mp FS
        obtain ⟨zL, cellL⟩ := KLC.out wr bu3
        by_cases ul : (u : Int) < P
        · by_cases hle : least ≤ (P : Int)
          · have mx := KX.out.but bu3 zB1 (by omega)
            obtain ⟨p1, p2, p3⟩ := mx.cells3
            obtain ⟨x, hx⟩ : ∃ x, part[u]? = some x := ⟨part[u]'(by rw [HPL.out]; omega), List.getElem?_eq_getElem _⟩
            have hpne : part ≠ [] := fun e => by rw [e] at hx; simp at hx
            have hE3 := HER.out.but bu3 HB4.out KP4.out (by decide)
            obtain ⟨gP, cP', cs, ev, -, -, kP, -, -, htP⟩ := hE3.blk hpne
            have eA : AP = some ⟨gP, 0, none⟩ := by cases ev; rfl
            subst eA
            have e0 := ERow.cell (encP_len W) kP htP hx (t := 0) (by omega)
            have e1 := ERow.cell (encP_len W) kP htP hx (t := 1) (by omega)
            change _ = some (Value.int .i64 ((x % W : Nat) : Int)) at e0
            change _ = some (Value.int .i64 ((x / W : Nat) : Int)) at e1
            rw [Nat.add_zero] at e0
            have hxn := hplt x (List.mem_of_getElem? hx)
            have hW0 : 0 < W := by
              rcases Nat.eq_zero_or_pos W with h | h
              · have := HN.out; rw [h, Nat.zero_mul] at this; omega
              · exact h
            obtain ⟨X, hX⟩ : ∃ X : Int, ((x % W : Nat) : Int) = X := ⟨_, rfl⟩
            obtain ⟨Y, hY⟩ : ∃ Y : Int, ((x / W : Nat) : Int) = Y := ⟨_, rfl⟩
            have X0 : 0 ≤ X := by rw [← hX]; exact Int.natCast_nonneg _
            have X1 : X < W := by rw [← hX]; exact Int.ofNat_lt.2 (Nat.mod_lt _ hW0)
            have Y0 : 0 ≤ Y := by rw [← hY]; exact Int.natCast_nonneg _
            have Y1 : Y < H := by rw [← hY]; exact Int.ofNat_lt.2 (Nat.div_lt_of_lt_mul (HN.out ▸ hxn))
            have hxy : Y * W + X = (x : Int) := by
              rw [← hX, ← hY]
              have := Nat.div_add_mod x W
              rw [Nat.mul_comm] at this
              have h9 : ((x / W * W + x % W : Nat) : Int) = (x : Int) := by rw [this]
              push_cast at h9 ⊢
              exact h9
            rw [hX] at e0
            rw [hY] at e1
            have HXY := Lib.hid hxy
            have HXT := Lib.hid (show part.take (u + 1) = part.take u ++ [x] by rw [List.take_add_one, hx]; rfl)
            have zP := kP.lt
            have KS := Lib.hid fun (w' : World) (hh : ∀ j, j < wr.heap.size → j ≠ g → w'.heap[j]? = wr.heap[j]?) => (show (w'.cell? ⟨gx, 0, none⟩ = some (.int .i64 W) ∧ w'.cell? ⟨gx, 1, none⟩ = some (.int .i64 H) ∧ w'.cell? ⟨gx, 2, none⟩ = some (.slice (some ⟨g, 0, none⟩) n n)) ∧ w'.cell? ⟨gL, t * 5 + 4, none⟩ = some (.slice (some ⟨gP, 0, none⟩) P cP) ∧ w'.cell? ⟨gP, u * 2, none⟩ = some (.int .i64 X) ∧ w'.cell? ⟨gP, u * 2 + 1, none⟩ = some (.int .i64 Y) from by
              have nL : gL ≠ g := fun e9 => by
                have h1 := cellL
                rw [e9, mp3.cell] at h1
                have h2 := (Array.getElem?_eq_some_iff.1 h1)
                obtain ⟨h3, h4⟩ := h2
                simp [u8s, cellsF] at h4
              have nP : gP ≠ g := fun e9 => by
                have h1 := e0
                rw [e9, mp3.cell] at h1
                obtain ⟨h3, h4⟩ := (Array.getElem?_eq_some_iff.1 h1)
                simp [u8s, cellsF] at h4
              exact ⟨⟨(World.cell?_of_block (hh gx mx.lt (by omega))).trans p1, (World.cell?_of_block (hh gx mx.lt (by omega))).trans p2, (World.cell?_of_block (hh gx mx.lt (by omega))).trans p3⟩, (World.cell?_of_block (hh gL zL nL)).trans cellL, (World.cell?_of_block (hh gP zP nP)).trans e0, (World.cell?_of_block (hh gP zP nP)).trans e1⟩)
            clear hX hY hE3 ev kP htP hpne hx hxn hxy
            go_upto_region 9 with fail
            refine wp_region_held_drew (S := fun w' => (w'.cell? ⟨gx, 0, none⟩ = some (.int .i64 W) ∧ w'.cell? ⟨gx, 1, none⟩ = some (.int .i64 H) ∧ w'.cell? ⟨gx, 2, none⟩ = some (.slice (some ⟨g, 0, none⟩) n n)) ∧ w'.cell? ⟨gL, t * 5 + 4, none⟩ = some (.slice (some ⟨gP, 0, none⟩) P cP) ∧ w'.cell? ⟨gP, u * 2, none⟩ = some (.int .i64 X) ∧ w'.cell? ⟨gP, u * 2 + 1, none⟩ = some (.int .i64 Y)) (by kernel_rfl) (KS.out _ fun _ _ _ => rfl) (fun hHeld => ?_)
            refine wpAnyH_take (i := 0) (oi := _) (v := ?_) (by simp only [List.getElem?_toArray, List.getElem?_cons_zero]; exact rfl) (by kernel_rfl) (by kernel_rfl) (by kernel_rfl) (by exact fun _ _ _ h => h) (Or.inl ⟨by rfl, ?_⟩) (by assumption) ?_
            rotate_left 1
            · intro w hSw
              (try dsimp only at hSw)
              go_simp
              try with_reducible rfl
            try simp only [Act.put, List.setIfInBounds_toArray, List.set_cons_zero, List.set_cons_succ]
            refine wpAnyH_take (i := 1) (oi := _) (v := ?_) (by simp only [List.getElem?_toArray, List.getElem?_cons_zero, List.getElem?_cons_succ]; exact rfl) (by kernel_rfl) (by kernel_rfl) (by kernel_rfl) (by exact fun _ _ _ h => h) (Or.inl ⟨by rfl, ?_⟩) (by assumption) ?_
            rotate_left 1
            · intro w hSw
              (try dsimp only at hSw)
              go_simp
              try with_reducible rfl
            try simp only [Act.put, List.setIfInBounds_toArray, List.set_cons_zero, List.set_cons_succ]
            refine wpAnyH_take (i := 2) (oi := _) (v := ?_) (by simp only [List.getElem?_toArray, List.getElem?_cons_zero, List.getElem?_cons_succ]; exact rfl) (by kernel_rfl) (by kernel_rfl) (by kernel_rfl) (by exact fun _ _ _ h => h) (Or.inl ⟨by rfl, ?_⟩) (by assumption) ?_
            rotate_left 1
            · intro w hSw
              (try dsimp only at hSw)
              go_simp
              try with_reducible rfl
            try simp only [Act.put, List.setIfInBounds_toArray, List.set_cons_zero, List.set_cons_succ]
            refine wpAnyH_take (i := 3) (oi := _) (v := ?_) (by simp only [List.getElem?_toArray, List.getElem?_cons_zero, List.getElem?_cons_succ]; exact rfl) (by kernel_rfl) (by kernel_rfl) (by kernel_rfl) (by exact fun _ _ _ h => h) (Or.inl ⟨by rfl, ?_⟩) (by assumption) ?_
            rotate_left 1
            · intro w hSw
              (try dsimp only at hSw)
              go_simp
              try with_reducible rfl
            try simp only [Act.put, List.setIfInBounds_toArray, List.set_cons_zero, List.set_cons_succ]
            refine wpAnyH_take (i := 4) (oi := _) (v := ?_) (by simp only [List.getElem?_toArray, List.getElem?_cons_zero, List.getElem?_cons_succ]; exact rfl) (by kernel_rfl) (by kernel_rfl) (by kernel_rfl) (by exact fun _ _ _ h => h) (Or.inl ⟨by rfl, ?_⟩) (by assumption) ?_
            rotate_left 1
            · intro w hSw
              (try dsimp only at hSw)
              go_simp
              try with_reducible rfl
            try simp only [Act.put, List.setIfInBounds_toArray, List.set_cons_zero, List.set_cons_succ]
            refine wpAnyH_take (i := 5) (oi := _) (v := ?_) (by simp only [List.getElem?_toArray, List.getElem?_cons_zero, List.getElem?_cons_succ]; exact rfl) (by kernel_rfl) (by kernel_rfl) (by kernel_rfl) (by exact fun _ _ _ h => h) (Or.inl ⟨by rfl, ?_⟩) (by assumption) ?_
            rotate_left 1
            · intro w hSw
              (try dsimp only at hSw)
              go_simp
              try with_reducible rfl
            try simp only [Act.put, List.setIfInBounds_toArray, List.set_cons_zero, List.set_cons_succ]
            refine wpAnyH_take (i := 6) (oi := _) (v := ?_) (by simp only [List.getElem?_toArray, List.getElem?_cons_zero, List.getElem?_cons_succ]; exact rfl) (by kernel_rfl) (by kernel_rfl) (by kernel_rfl) (by exact fun _ _ _ h => h) (Or.inl ⟨by rfl, ?_⟩) (by assumption) ?_
            rotate_left 1
            · intro w hSw
              (try dsimp only at hSw)
              go_simp
              try with_reducible rfl
            try simp only [Act.put, List.setIfInBounds_toArray, List.set_cons_zero, List.set_cons_succ]
            refine wpAnyH_take (i := 7) (oi := _) (v := ?_) (by simp only [List.getElem?_toArray, List.getElem?_cons_zero, List.getElem?_cons_succ]; exact rfl) (by kernel_rfl) (by kernel_rfl) (by kernel_rfl) (by exact fun _ _ _ h => h) (Or.inl ⟨by rfl, ?_⟩) (by assumption) ?_
            rotate_left 1
            · intro w hSw
              (try dsimp only at hSw)
              go_simp
              try with_reducible rfl
            try simp only [Act.put, List.setIfInBounds_toArray, List.set_cons_zero, List.set_cons_succ]
            refine wpAnyH_take (i := 8) (oi := _) (v := ?_) (by simp only [List.getElem?_toArray, List.getElem?_cons_zero, List.getElem?_cons_succ]; exact rfl) (by kernel_rfl) (by kernel_rfl) (by kernel_rfl) (by exact fun _ _ _ h => h) (Or.inl ⟨by rfl, ?_⟩) (by assumption) ?_
            rotate_left 1
            · intro w hSw
              (try dsimp only at hSw)
              go_simp
              try with_reducible rfl
            try simp only [Act.put, List.setIfInBounds_toArray, List.set_cons_zero, List.set_cons_succ]
            refine wpAnyH_take (i := 9) (oi := _) (v := ?_) (by simp only [List.getElem?_toArray, List.getElem?_cons_zero, List.getElem?_cons_succ]; exact rfl) (by kernel_rfl) (by kernel_rfl) (by kernel_rfl) (by exact fun _ _ _ h => h) (Or.inl ⟨by rfl, ?_⟩) (by assumption) ?_
            rotate_left 1
            · intro w hSw
              (try dsimp only at hSw)
              go_simp
              try with_reducible rfl
            try simp only [Act.put, List.setIfInBounds_toArray, List.set_cons_zero, List.set_cons_succ]
            refine wpAnyH_take (i := 10) (oi := _) (v := ?_) (by simp only [List.getElem?_toArray, List.getElem?_cons_zero, List.getElem?_cons_succ]; exact rfl) (by kernel_rfl) (by kernel_rfl) (by kernel_rfl) (by exact fun _ _ _ h => h) (Or.inl ⟨by rfl, ?_⟩) (by assumption) ?_
            rotate_left 1
            · intro w hSw
              (try dsimp only at hSw)
              go_simp
              try with_reducible rfl
            try simp only [Act.put, List.setIfInBounds_toArray, List.set_cons_zero, List.set_cons_succ]
            refine wpAnyH_take (i := 11) (oi := _) (v := ?_) (by simp only [List.getElem?_toArray, List.getElem?_cons_zero, List.getElem?_cons_succ]; exact rfl) (by kernel_rfl) (by kernel_rfl) (by kernel_rfl) (by exact fun _ _ _ h => h) (Or.inl ⟨by rfl, ?_⟩) (by assumption) ?_
            rotate_left 1
            · intro w hSw
              (try dsimp only at hSw)
              go_simp
              try with_reducible rfl
            try simp only [Act.put, List.setIfInBounds_toArray, List.set_cons_zero, List.set_cons_succ]
            refine wpAnyH_take (i := 12) (oi := _) (v := ?_) (by simp only [List.getElem?_toArray, List.getElem?_cons_zero, List.getElem?_cons_succ]; exact rfl) (by kernel_rfl) (by kernel_rfl) (by kernel_rfl) (by exact fun _ _ _ h => h) (Or.inl ⟨by rfl, ?_⟩) (by assumption) ?_
            rotate_left 1
            · intro w hSw
              (try dsimp only at hSw)
              go_simp
              try with_reducible rfl
            try simp only [Act.put, List.setIfInBounds_toArray, List.set_cons_zero, List.set_cons_succ]
            refine wpAnyH_take (i := 13) (oi := _) (v := ?_) (by simp only [List.getElem?_toArray, List.getElem?_cons_zero, List.getElem?_cons_succ]; exact rfl) (by kernel_rfl) (by kernel_rfl) (by kernel_rfl) (by exact fun _ _ _ h => h) (Or.inl ⟨by rfl, ?_⟩) (by assumption) ?_
            rotate_left 1
            · intro w hSw
              (try dsimp only at hSw)
              go_simp
              try with_reducible rfl
            try simp only [Act.put, List.setIfInBounds_toArray, List.set_cons_zero, List.set_cons_succ]
            refine wpAnyH_take (i := 14) (oi := _) (v := ?_) (by simp only [List.getElem?_toArray, List.getElem?_cons_zero, List.getElem?_cons_succ]; exact rfl) (by kernel_rfl) (by kernel_rfl) (by kernel_rfl) (by exact fun _ _ _ h => h) (Or.inl ⟨by rfl, ?_⟩) (by assumption) ?_
            rotate_left 1
            · intro w hSw
              (try dsimp only at hSw)
              go_simp
              try with_reducible rfl
            try simp only [Act.put, List.setIfInBounds_toArray, List.set_cons_zero, List.set_cons_succ]
            refine wpAnyH_take (i := 15) (oi := _) (v := ?_) (by simp only [List.getElem?_toArray, List.getElem?_cons_zero, List.getElem?_cons_succ]; exact rfl) (by kernel_rfl) (by kernel_rfl) (by kernel_rfl) (by exact fun _ _ _ h => h) (Or.inl ⟨by rfl, ?_⟩) (by assumption) ?_
            rotate_left 1
            · intro w hSw
              (try dsimp only at hSw)
              go_simp
              try with_reducible rfl
            try simp only [Act.put, List.setIfInBounds_toArray, List.set_cons_zero, List.set_cons_succ]
            refine wpAnyH_take (i := 16) (oi := _) (v := ?_) (by simp only [List.getElem?_toArray, List.getElem?_cons_zero, List.getElem?_cons_succ]; exact rfl) (by kernel_rfl) (by kernel_rfl) (by kernel_rfl) (by exact fun _ _ _ h => h) (Or.inl ⟨by rfl, ?_⟩) (by assumption) ?_
            rotate_left 1
            · intro w hSw
              (try dsimp only at hSw)
              go_simp
              try with_reducible rfl
            try simp only [Act.put, List.setIfInBounds_toArray, List.set_cons_zero, List.set_cons_succ]
            refine wpAnyH_take (i := 17) (oi := _) (v := ?_) (by simp only [List.getElem?_toArray, List.getElem?_cons_zero, List.getElem?_cons_succ]; exact rfl) (by kernel_rfl) (by kernel_rfl) (by kernel_rfl) (by exact fun _ _ _ h => h) (Or.inl ⟨by rfl, ?_⟩) (by assumption) ?_
            rotate_left 1
            · intro w hSw
              (try dsimp only at hSw)
              go_simp
              try with_reducible rfl
            try simp only [Act.put, List.setIfInBounds_toArray, List.set_cons_zero, List.set_cons_succ]
            refine wpAnyH_take (i := 18) (oi := _) (v := ?_) (by simp only [List.getElem?_toArray, List.getElem?_cons_zero, List.getElem?_cons_succ]; exact rfl) (by kernel_rfl) (by kernel_rfl) (by kernel_rfl) (by exact fun _ _ _ h => h) (Or.inl ⟨by rfl, ?_⟩) (by assumption) ?_
            rotate_left 1
            · intro w hSw
              (try dsimp only at hSw)
              go_simp
              try with_reducible rfl
            try simp only [Act.put, List.setIfInBounds_toArray, List.set_cons_zero, List.set_cons_succ]
            refine wpAnyH_ready (rs := [19]) (by kernel_rfl) (by simp) ?_
            refine AllReadyH.cons (o := _) (by simp only [List.getElem?_toArray, List.getElem?_cons_zero, List.getElem?_cons_succ]; exact rfl) (fun K' hK => ?_) AllReadyH.nil
            go_simp
            refine (rset_any W H g n n 5 q2 X Y wr.drew mp3.drew X0 X1 Y0 Y1 (by omega) (by omega) HNI.out).mono ?_
            rintro e w7 ⟨rfl, hk7, hg7⟩
            rw [HXY.out] at hk7
            have hg8 : wr.grownBy w7 (some g) := ⟨hg7.os, hg7.tape, hg7.output, hg7.size, hg7.block⟩
            refine hK.out _ _ (KS.out _ fun j hj hn => hg7.block j hj (fun e9 => hn (by cases e9; rfl))) (fun hHeld => ?_)
            clear hK K'
            try simp only [Act.put, List.setIfInBounds_toArray, List.set_cons_zero, List.set_cons_succ]
            refine wpAnyH_done (by kernel_rfl) ?_ _
            have mp6 := hk7
            have hg6 := hg8
            generalize w7 = w6 at *
            have bu6 : But B4 g w4 w6 := ⟨hg6.os.trans bu3.os, hg6.tape.trans bu3.tape, hg6.output.trans bu3.output, Nat.le_trans bu3.size hg6.size, fun j hj hk => (hg6.block j (Nat.lt_of_lt_of_le hj bu3.size) (fun e => hk (by cases e; rfl))).trans (bu3.block j hj hk)⟩
            have FS2 := Lib.hid (HF2.out.set (x := x) (D' := fun i => DoneN n (InkN n p) (AdjN W true) least (rootN n (InkN n p) (AdjN W true)) t i ∨ i ∈ part.take (u + 1)) fun i => by
              rw [HXT.out, List.mem_append, List.mem_singleton, or_assoc])
            clear hg6 hg7 hg8 hk7 KS cellL zL hHeld
            go_wp2_with fail
            go_roundw
            case rel => exact ⟨u + 1, _, by omega, fun h => absurd hle h, by go_num, FS2, bu6, mp6⟩
            case measure => simp [intOf]; omega
          · have hu0 := hul hle
            have FE := Lib.hid (HF2.out.conv (D' := DoneN n (InkN n p) (AdjN W true) least (rootN n (InkN n p) (AdjN W true)) (t + 1)) fun i => by
              rw [done_skip HRT.out (by rw [HPT.out, HPL.out]; exact hle), hu0]; simp)
            have hle' : (P : Int) < least := by omega
            clear hle hul hu0
            go_wp2_with fail
            go_roundw
            case rel => exact ⟨t + 1, q2, by omega, by go_num, FE, bu3, mp3⟩
            case measure => simp [intOf]; omega
        · have eu : u = P := by omega
          have FE := Lib.hid (HF2.out.conv (D' := DoneN n (InkN n p) (AdjN W true) least (rootN n (InkN n p) (AdjN W true)) (t + 1)) fun i => by
            by_cases hle : least ≤ (P : Int)
            · rw [done_take HRT.out (by rw [HPT.out, HPL.out]; exact hle), HPT.out, eu, ← HPL.out, List.take_length]
            · rw [done_skip HRT.out (by rw [HPT.out, HPL.out]; exact hle), hul hle]; simp)
          clear hu hul eu
          go_wp2_with fail
          go_roundw
          case rel => exact ⟨t + 1, q2, by omega, by go_num, FE, bu3, mp3⟩
          case measure => simp [intOf]; omega
    · have et : t = K := by omega
      have m2 := K2.out.but bu (by omega) (by omega)
      have mx := KX.out.but bu zB1 (by omega)
      obtain ⟨x1, x2, x3⟩ := mx.cells3
      obtain ⟨f1, f2, f3⟩ := m2.frozen3
      obtain ⟨y1, y2, y3⟩ := m2.cells3
      have k5 := ((m2.set_ 0 (.int .i64 W)).set_ 1 (.int .i64 H)).set_ 2 (.slice (some ⟨g, 0, none⟩) n n)
      obtain ⟨s1, s2, s3⟩ := Blk.cells3 (a := .int .i64 W) (b := .int .i64 H) (c := .slice (some ⟨g, 0, none⟩) n n) k5
      have bE : Below w.heap.size w wr := b4.trans (bu.to HB4.out (by omega) (by omega))
      have hlen : K = (rootN n (InkN n p) (AdjN W true)).length := by
        have := congrArg List.length HC1.out
        rw [List.length_map, HK.out, rootK_n] at this
        exact this
      have FE := HF.out.conv (D' := bigN n (InkN n p) (AdjN W true) least) fun i => by
        rw [et, hlen, done_all AdjN.symm fun x hx => hx.1]
      have mpE := mp.u8conv fun i i0 i1 => FE.end_ i i0 i1
      clear ht et HF hlen FE
      go_wp2_with fail
      refine bodyPost_ret (v := .agg #[.int .i64 W, .int .i64 H, .slice (some ⟨g, 0, none⟩) n n]) (by simp [results, Tryd.results31, go_sem, s1, s2, s3]) rfl ?_
      have g1 : g ≠ w.heap.size + 1 := by omega
      refine ⟨_, rfl, OutN.mk (by omega) ?_, by (repeat (first | exact Below.refl _ _ | assumption | refine Below.drew ?_ | refine below_drewN ?_ _ | refine Below.alloc ?_ (by first | omega | (simp; done) | (simp; omega)) _ | refine Below.setCell ?_ (by first | omega | (simp; done) | (simp; omega)) _ | refine below_setRow ?_ (by first | omega | (simp; done) | (simp; omega)) _ ))⟩
      exact Blk.far (Blk.far (Blk.far mpE (p := ⟨w.heap.size + 1, 0, none⟩) g1 (.int .i64 W)) (p := ⟨w.heap.size + 1, 1, none⟩) g1 (.int .i64 H)) (p := ⟨w.heap.size + 1, 2, none⟩) g1 (.slice (some ⟨g, 0, none⟩) n n)
end Go.Proofs.YtoonkpjddfiopaaDoor

/- Walks: lists of components compared; Components and Despeckle of an image that is not valid. -/
namespace Go.Proofs.YtoonkpjddfiopaaDoor
open Go.RowKit
set_option linter.unusedVariables false
attribute [local go_sem] Oper.semAt_some

set_option maxHeartbeats 1000000 in
theorem eqPts_any (W : Nat) (L : List Nat) (A B : Option Addr) (K c d : Nat) (w : World) (hA : EArr w w.heap.size 2 (encP W) A L) (hB : EArr w w.heap.size 2 (encP W) B L) (hK : L.length = K) (hKm : K ≤ 1000000000) :
    Calls Tryd.prog 30 #[.slice A K c, .slice B K d] w fun e w' => e = .returned (.bool true) ∧ Below w.heap.size w w' := by
  have HA := Lib.hid hA; clear hA
  have HB := Lib.hid hB; clear hB
  have HK := Lib.hid hK; clear hK
  go_enter Tryd.func30, Tryd.ntmps30
  go_wp2_with fail
  go_loopw [13] (fun s wr => ∃ t : Nat, t ≤ K ∧ s = .int .i64 t ∧ Below w.heap.size w wr) (fun s _ => K - (intOf s).toNat)
  case atStart => exact ⟨0, by omega, rfl, Below.refl _ _⟩
  case round =>
    obtain ⟨t, ht, rfl, hb⟩ := hrel
    by_cases tl : (t : Int) < K
    · obtain ⟨i, hLt⟩ : ∃ y, L[t]? = some y := ⟨L[t]'(by rw [HK.out]; omega), List.getElem?_eq_getElem _⟩
      have hne : L ≠ [] := fun e => by rw [e] at hLt; simp at hLt
      obtain ⟨gA, rfl, hgA, hca⟩ := HA.out hne
      obtain ⟨gB, rfl, hgB, hcb⟩ := HB.out hne
      have a0 := (hb.cell (p := ⟨gA, t * 2 + 0, none⟩) hgA).trans (hca t i hLt 0 (by omega))
      have a1 := (hb.cell (p := ⟨gA, t * 2 + 1, none⟩) hgA).trans (hca t i hLt 1 (by omega))
      have b0 := (hb.cell (p := ⟨gB, t * 2 + 0, none⟩) hgB).trans (hcb t i hLt 0 (by omega))
      have b1 := (hb.cell (p := ⟨gB, t * 2 + 1, none⟩) hgB).trans (hcb t i hLt 1 (by omega))
      change _ = some (Value.int .i64 ((i % W : Nat) : Int)) at a0 b0
      change _ = some (Value.int .i64 ((i / W : Nat) : Int)) at a1 b1
      generalize ((i % W : Nat) : Int) = X at *
      generalize ((i / W : Nat) : Int) = Y at *
      rw [Nat.add_zero] at a0 b0
      clear hca hcb hLt hne
      go_upto_region 6 with fail
      go_quiet (fail)
      go_wp2_with fail
      go_roundw
      case rel => exact ⟨t + 1, by omega, by go_num, by (repeat (first | exact Below.refl _ _ | assumption | refine Below.drew ?_ | refine below_drewN ?_ _ | refine Below.alloc ?_ (by first | omega | (simp; done) | (simp; omega)) _ | refine Below.setCell ?_ (by first | omega | (simp; done) | (simp; omega)) _ | refine below_setRow ?_ (by first | omega | (simp; done) | (simp; omega)) _ ))⟩
      case measure => simp [intOf]; omega
    · go_wp2_with fail
      go_ret
      exact ⟨rfl, by (repeat (first | exact Below.refl _ _ | assumption | refine Below.drew ?_ | refine below_drewN ?_ _ | refine Below.alloc ?_ (by first | omega | (simp; done) | (simp; omega)) _ | refine Below.setCell ?_ (by first | omega | (simp; done) | (simp; omega)) _ | refine below_setRow ?_ (by first | omega | (simp; done) | (simp; omega)) _ ))⟩
theorem enterCmp1 (args : Array Value) (w : World) : (callFunc 29 args).run Tryd.prog w = .ok (.enter 29 args) w := by kernel_rfl
set_option maxHeartbeats 1000000 in
theorem cmpC_any (W : Nat) (L : List Nat) (c1 c2 c3 c4 : Int) (A B : Option Addr) (K c d : Nat) (w : World) (hA : EArr w w.heap.size 2 (encP W) A L) (hB : EArr w w.heap.size 2 (encP W) B L) (hK : L.length = K) (hKm : K ≤ 1000000000) :
    Calls Tryd.prog 29 #[.agg #[.int .i64 c1, .int .i64 c2, .int .i64 c3, .int .i64 c4, .slice A K c], .agg #[.int .i64 c1, .int .i64 c2, .int .i64 c3, .int .i64 c4, .slice B K d]] w fun e w' => e = .returned (.bool true) ∧ Below w.heap.size w w' := by
  have HA := Lib.hid hA; clear hA
  have HB := Lib.hid hB; clear hB
  have EQ := Lib.hid fun w' (a : EArr w' w'.heap.size 2 (encP W) A L) (b : EArr w' w'.heap.size 2 (encP W) B L) => eqPts_any W L A B K c d w' a b hK hKm
  clear hK
  have hb : Below w.heap.size w ((w.alloc (.cells #[.int .i64 c1, .int .i64 c2, .int .i64 c3, .int .i64 c4, .slice A K c] 47)).alloc (.cells #[.int .i64 c1, .int .i64 c2, .int .i64 c3, .int .i64 c4, .slice B K d] 48)) := by (repeat (first | exact Below.refl _ _ | assumption | refine Below.drew ?_ | refine below_drewN ?_ _ | refine Below.alloc ?_ (by first | omega | (simp; done) | (simp; omega)) _ | refine Below.setCell ?_ (by first | omega | (simp; done) | (simp; omega)) _ | refine below_setRow ?_ (by first | omega | (simp; done) | (simp; omega)) _ ))
  have k1 : Blk ((w.alloc (.cells #[.int .i64 c1, .int .i64 c2, .int .i64 c3, .int .i64 c4, .slice A K c] 47)).alloc (.cells #[.int .i64 c1, .int .i64 c2, .int .i64 c3, .int .i64 c4, .slice B K d] 48)) w.heap.size 47 #[.int .i64 c1, .int .i64 c2, .int .i64 c3, .int .i64 c4, .slice A K c] := (Blk.new _ _ _).alloc _
  have k2 : Blk ((w.alloc (.cells #[.int .i64 c1, .int .i64 c2, .int .i64 c3, .int .i64 c4, .slice A K c] 47)).alloc (.cells #[.int .i64 c1, .int .i64 c2, .int .i64 c3, .int .i64 c4, .slice B K d] 48)) (w.heap.size + 1) 48 #[.int .i64 c1, .int .i64 c2, .int .i64 c3, .int .i64 c4, .slice B K d] := Blk.new' (by simp) _ _
  go_enter Tryd.func29, Tryd.ntmps29
  go_upto_region 1 with fail
  generalize (w.alloc (.cells #[.int .i64 c1, .int .i64 c2, .int .i64 c3, .int .i64 c4, .slice A K c] 47)).alloc (.cells #[.int .i64 c1, .int .i64 c2, .int .i64 c3, .int .i64 c4, .slice B K d] 48) = w1 at *
  have q0 := k1.cell 0; have q1 := k1.cell 1; have q2 := k1.cell 2; have q3 := k1.cell 3; have q4 := k1.cell 4
  have s0 := k2.cell 0; have s1 := k2.cell 1; have s2 := k2.cell 2; have s3 := k2.cell 3; have s4 := k2.cell 4
  change _ = some (Value.int .i64 c1) at q0 s0
  change _ = some (Value.int .i64 c2) at q1 s1
  change _ = some (Value.int .i64 c3) at q2 s2
  change _ = some (Value.int .i64 c4) at q3 s3
  change _ = some (Value.slice A K c) at q4
  change _ = some (Value.slice B K d) at s4
  clear k1 k2
  go_wp2_with fail
  refine (EQ.out _ (HA.out.to hb) (HB.out.to hb)).mono ?_
  rintro e w2 ⟨rfl, hb2⟩
  have b2 := below_call hb hb.size hb2
  go_wp2_with fail
  go_ret
  exact ⟨rfl, b2⟩
set_option maxRecDepth 100000 in
set_option maxHeartbeats 2000000 in
theorem compsEq_any (W n B1 B2 : Nat) (e : Bool) (p : Int → Int) (v1 v2 : Value) (w : World) (h1 : CRow w B1 47 W n e p n v1) (h2 : CRow w B2 48 W n e p n v2) (hn : n ≤ 1000000000) :
    Calls Tryd.prog 28 #[v1, v2, .func (.func 29) #[] #[]] w fun x w' => x = .returned (.bool true) ∧ Below w.heap.size w w' := by
  obtain ⟨L1, m1, r1, t1⟩ := h1
  obtain ⟨L2, m2, r2, t2⟩ := h2
  have hmap : L1.map (·.1) = L2.map (·.1) := m1.trans m2.symm
  have hlen : L2.length = L1.length := by have := congrArg List.length hmap; simpa using this.symm
  have hL1 : L1.length ≤ n := by
    have := congrArg List.length m1
    rw [List.length_map] at this
    rw [this]; exact rootK_len _ _ _
  obtain ⟨A1, c1, rfl, -, E1⟩ := r1.arr encC_len
  obtain ⟨A2, c2, rfl, -, E2⟩ := r2.arr encC_len
  rw [hlen]
  have RD : Hid (∀ (t r r' : Nat) (b b' : Int × Int × Int × Int) (v v' : Value), L1[t]? = some (r, b, v) → L2[t]? = some (r', b', v') → b = b' ∧ ∃ PL : List Nat, PL.length ≤ n ∧ ERow w B1 51 2 (encP W) v PL ∧ ERow w B2 51 2 (encP W) v' PL) := Lib.hid (by
    intro t r r' b b' v v' e1 e2
    have er : r = r' := by
      have h3 := congrArg (fun l : List Nat => l[t]?) hmap
      simp only [List.getElem?_map, e1, e2, Option.map_some] at h3
      exact Option.some.inj h3
    subst er
    have a1 := t1 _ (List.mem_of_getElem? e1)
    have a2 := t2 _ (List.mem_of_getElem? e2)
    refine ⟨a1.1.uniq a2.1, _, ?_, a1.2, a2.2⟩
    unfold partN
    exact Nat.le_trans (List.length_filter_le _ _) (by simp))
  obtain ⟨K, hK⟩ : ∃ K, L1.length = K := ⟨_, rfl⟩
  rw [hK] at hlen hL1 ⊢
  have HK1 := Lib.hid hK
  have HK2 := Lib.hid hlen
  have HE1 := Lib.hid E1
  have HE2 := Lib.hid E2
  have CM := Lib.hid fun (PL : List Nat) (a b c d : Int) (A B : Option Addr) (KP c' d' : Nat) w' hA hB hKP hKm => cmpC_any W PL a b c d A B KP c' d' w' hA hB hKP hKm
  have hent := enterCmp1
  clear m1 m2 r1 r2 t1 t2 hmap E1 E2 hK hlen
  go_enter Tryd.func28, Tryd.ntmps28
  go_wp2_with fail
  go_loopw [17] (fun s wr => ∃ t : Nat, t ≤ K ∧ s = .int .i64 t ∧ Below w.heap.size w wr) (fun s _ => K - (intOf s).toNat)
  case atStart => exact ⟨0, by omega, rfl, Below.refl _ _⟩
  case round =>
    obtain ⟨t, ht, rfl, hb⟩ := hrel
    by_cases tl : (t : Int) < K
    · obtain ⟨⟨r, ⟨b1, b2, b3, b4⟩, v⟩, hLt⟩ : ∃ y, L1[t]? = some y := ⟨L1[t]'(by rw [HK1.out]; omega), List.getElem?_eq_getElem _⟩
      obtain ⟨⟨r', b', v'⟩, hLt2⟩ : ∃ y, L2[t]? = some y := ⟨L2[t]'(by rw [HK2.out]; omega), List.getElem?_eq_getElem _⟩
      obtain ⟨rfl, PL, hPL, R1, R2⟩ := RD.out t r r' _ b' v v' hLt hLt2
      have hne : L1 ≠ [] := fun e => by rw [e] at hLt; simp at hLt
      have hne2 : L2 ≠ [] := fun e => by rw [e] at hLt2; simp at hLt2
      obtain ⟨gA, rfl, hgA, hca⟩ := HE1.out hne
      obtain ⟨gB, rfl, hgB, hcb⟩ := HE2.out hne2
      obtain ⟨AP, cP, rfl, -, EP1⟩ := (R1.below hb).arr (encP_len W)
      obtain ⟨BP, dP, rfl, -, EP2⟩ := (R2.below hb).arr (encP_len W)
      have cA : ∀ s, s < 5 → wr.cell? ⟨gA, t * 5 + s, none⟩ = _ := fun s hs => (hb.cell (p := ⟨gA, t * 5 + s, none⟩) hgA).trans (hca t _ hLt s hs)
      have cB : ∀ s, s < 5 → wr.cell? ⟨gB, t * 5 + s, none⟩ = _ := fun s hs => (hb.cell (p := ⟨gB, t * 5 + s, none⟩) hgB).trans (hcb t _ hLt2 s hs)
      obtain ⟨KP, hKP⟩ : ∃ K, PL.length = K := ⟨_, rfl⟩
      rw [hKP] at hPL cA cB
      have a0 := cA 0 (by omega); have a1 := cA 1 (by omega); have a2 := cA 2 (by omega); have a3 := cA 3 (by omega); have a4 := cA 4 (by omega)
      have d0 := cB 0 (by omega); have d1 := cB 1 (by omega); have d2 := cB 2 (by omega); have d3 := cB 3 (by omega); have d4 := cB 4 (by omega)
      change _ = some (Value.int .i64 b1) at a0 d0
      change _ = some (Value.int .i64 b2) at a1 d1
      change _ = some (Value.int .i64 b3) at a2 d2
      change _ = some (Value.int .i64 b4) at a3 d3
      change _ = some (Value.slice AP KP cP) at a4
      change _ = some (Value.slice BP KP dP) at d4
      rw [Nat.add_zero] at a0 d0
      have CC := Lib.hid fun (w' : World) (h : Below wr.heap.size wr w') => CM.out PL b1 b2 b3 b4 AP BP KP cP dP w' (EP1.to h) (EP2.to h) hKP (by omega)
      have bA : Below wr.heap.size wr (wr.alloc (.cells #[.int .i64 b1, .int .i64 b2, .int .i64 b3, .int .i64 b4, .slice AP KP cP] 47)) := (Below.refl _ _).alloc (Nat.le_refl _) _
      have zA : gB < wr.heap.size := by have := hb.size; omega
      have f0 := (bA.cell (p := ⟨gB, t * 5, none⟩) zA).trans d0
      have f1 := (bA.cell (p := ⟨gB, t * 5 + 1, none⟩) zA).trans d1
      have f2 := (bA.cell (p := ⟨gB, t * 5 + 2, none⟩) zA).trans d2
      have f3 := (bA.cell (p := ⟨gB, t * 5 + 3, none⟩) zA).trans d3
      have f4 := (bA.cell (p := ⟨gB, t * 5 + 4, none⟩) zA).trans d4
      have HB := Lib.hid hb
      clear cA cB hca hcb hLt hLt2 hne hne2 R1 R2 EP1 EP2 hKP hPL d0 d1 d2 d3 d4 hb
      have hb2 : Below wr.heap.size wr ((wr.alloc (.cells #[.int .i64 b1, .int .i64 b2, .int .i64 b3, .int .i64 b4, .slice AP KP cP] 47)).alloc (.cells #[.int .i64 b1, .int .i64 b2, .int .i64 b3, .int .i64 b4, .slice BP KP dP] 48)) := bA.alloc bA.size _
      go_wp2_with fail
      refine (CC.out _ hb2).mono ?_
      rintro x w' ⟨rfl, hb'⟩
      have hb3 := below_call HB.out HB.out.size (below_call hb2 hb2.size hb')
      clear a0 a1 a2 a3 a4 f0 f1 f2 f3 f4
      go_wp2_with fail
      go_roundw
      case rel => exact ⟨t + 1, by omega, by go_num, hb3⟩
      case measure => simp [intOf]; omega
    · go_wp2_with fail
      go_ret
      exact ⟨rfl, by (repeat (first | exact Below.refl _ _ | assumption | refine Below.drew ?_ | refine below_drewN ?_ _ | refine Below.alloc ?_ (by first | omega | (simp; done) | (simp; omega)) _ | refine Below.setCell ?_ (by first | omega | (simp; done) | (simp; omega)) _ | refine below_setRow ?_ (by first | omega | (simp; done) | (simp; omega)) _ ))⟩
end Go.Proofs.YtoonkpjddfiopaaDoor

/- Plain laws: the threshold by all pairs of levels is the threshold by one pass. No program in sight. -/
namespace Go.Proofs.YtoonkpjddfiopaaDoor
open Go.RowKit
set_option linter.unusedVariables false

theorem first_occ (c : Int → Int) (a : Nat) (h : a ≤ 256) : ∃ m : Nat, a ≤ m ∧ m ≤ 256 ∧ (∀ j : Nat, a ≤ j → j < m → c j = 0) ∧ (m < 256 → c m ≠ 0) := by
  by_cases e : a = 256
  · exact ⟨a, by omega, by omega, fun j h1 h2 => by omega, fun h => by omega⟩
  · by_cases hc : c a = 0
    · obtain ⟨m, h1, h2, h3, h4⟩ := first_occ c (a + 1) (by omega)
      refine ⟨m, by omega, h2, fun j j1 j2 => ?_, h4⟩
      by_cases ej : j = a
      · subst ej; exact hc
      · exact h3 j (by omega) j2
    · exact ⟨a, by omega, by omega, fun j h1 h2 => by omega, fun _ => hc⟩
termination_by 256 - a
theorem levP_skip (c : Int → Int) (a m : Nat) (h : a ≤ m) (hz : ∀ j : Nat, a ≤ j → j < m → c j = 0) : levP c m = levP c a := by
  induction m with
  | zero => obtain rfl : a = 0 := by omega
            rfl
  | succ m ih =>
    by_cases e : a = m + 1
    · rw [e]
    · rw [levP, if_pos (hz m (by omega) (by omega))]
      exact ih (by omega) fun j h1 h2 => hz j h1 (by omega)
/-- the pairs that begin before the level a are done; m is the first level that occurs from a on -/
structure RL (c : Int → Int) (a m : Nat) (o b : Int) : Prop where
  le : a ≤ m
  top : m ≤ 256
  gap : ∀ j : Nat, a ≤ j → j < m → c j = 0
  occ : m < 256 → c m ≠ 0
  o : o = (levP c (min (m + 1) 256)).1
  b : b = (levP c (min (m + 1) 256)).2.1
theorem RL.start (c : Int → Int) : ∃ m, RL c 0 m 128 0 := by
  obtain ⟨m, h1, h2, h3, h4⟩ := first_occ c 0 (by omega)
  have hs := levP_skip c 0 m h1 h3
  by_cases e : m < 256
  · have hl : levP c (m + 1) = (128, 0, (m : Int)) := by
      rw [levP, if_neg (h4 e), hs]
      simp [levP]
    refine ⟨m, h1, h2, h3, h4, ?_, ?_⟩ <;> rw [Nat.min_eq_left (by omega), hl]
  · obtain rfl : m = 256 := by omega
    refine ⟨256, h1, h2, h3, h4, ?_, ?_⟩ <;> rw [Nat.min_eq_right (by omega), hs] <;> rfl
theorem RL.skip {c : Int → Int} {a m : Nat} {o b : Int} (h : RL c a m o b) (ha : a < 256) (hc : c a = 0) : RL c (a + 1) m o b := by
  have : a ≠ m := by rintro rfl; exact h.occ ha hc
  have := h.le
  exact ⟨by omega, h.top, fun j h1 h2 => h.gap j (by omega) h2, h.occ, h.o, h.b⟩
theorem RL.here {c : Int → Int} {a m : Nat} {o b : Int} (h : RL c a m o b) (ha : a < 256) (hc : c a ≠ 0) : levP c (a + 1) = (o, b, (a : Int)) := by
  have h1 := h.le
  have : m = a := by
    by_cases e : m = a
    · exact e
    · exact absurd (h.gap a (by omega) (by omega)) hc
  subst this
  have ho := h.o; have hb := h.b
  rw [Nat.min_eq_left (by omega)] at ho hb
  rw [ho, hb]
  have h3 : (levP c (m + 1)).2.2 = m := by
    rw [levP, if_neg hc]; split <;> rfl
  rw [← h3]
theorem RL.next {c : Int → Int} {a m : Nat} {o b : Int} (h : RL c a m o b) (ha : a < 256) (hc : c a ≠ 0) {k : Nat} (h1 : a < k) (hk : k < 256) (hz : ∀ j : Nat, a < j → j < k → c j = 0) (hck : c k ≠ 0) :
    RL c (a + 1) k (if b < (k : Int) - a then ((a : Int) + k + 1) / 2 else o) (if b < (k : Int) - a then (k : Int) - a else b) := by
  have hl := h.here ha hc
  have hs := levP_skip c (a + 1) k (by omega) fun j j1 j2 => hz j (by omega) j2
  rw [hl] at hs
  have e : levP c (k + 1) = if b < (k : Int) - a then (((a : Int) + k + 1) / 2, (k : Int) - a, (k : Int)) else (o, b, (k : Int)) := by
    rw [levP, if_neg hck, hs]
    by_cases hb : b < (k : Int) - a
    · simp [hb]
    · simp [hb]
  refine ⟨by omega, by omega, fun j j1 j2 => hz j (by omega) j2, fun _ => hck, ?_, ?_⟩ <;> rw [Nat.min_eq_left (by omega), e] <;> split <;> rfl
theorem RL.none {c : Int → Int} {a m : Nat} {o b : Int} (h : RL c a m o b) (ha : a < 256) (hc : c a ≠ 0) (hz : ∀ j : Nat, a < j → j < 256 → c j = 0) : RL c (a + 1) 256 o b := by
  have hl := h.here ha hc
  have hs := levP_skip c (a + 1) 256 (by omega) fun j j1 j2 => hz j (by omega) j2
  rw [hl] at hs
  refine ⟨by omega, by omega, fun j j1 j2 => hz j (by omega) j2, fun h => by omega, ?_, ?_⟩ <;> rw [Nat.min_eq_right (by omega), hs]
theorem RL.end_ {c : Int → Int} {m : Nat} {o b : Int} (h : RL c 256 m o b) : o = (levP c 256).1 := by
  have h1 := h.le; have h2 := h.top
  rw [h.o, Nat.min_eq_right (by omega)]
theorem RL.bd {c : Int → Int} {a m : Nat} {o b : Int} (h : RL c a m o b) : 0 ≤ o ∧ o ≤ 384 ∧ 0 ≤ b ∧ b ≤ 256 := by
  have hm := Nat.min_le_right (m + 1) 256
  rw [h.o, h.b]
  obtain ⟨d1, d2, d3, d4, d5, d6⟩ := levP_bd c (min (m + 1) 256)
  omega
end Go.Proofs.YtoonkpjddfiopaaDoor

/- Walks: copies of grey images; the reference's threshold; the image of two levels. -/
namespace Go.Proofs.YtoonkpjddfiopaaDoor
open Go.RowKit
set_option linter.unusedVariables false

set_option maxHeartbeats 1000000 in
theorem copyGrey_any (W H : Int) (A : Option Addr) (n c : Nat) (p : Int → Int) (w : World) (hA : ArrB w w.heap.size A n p) (hc : A = none → c = 0) (hn : n ≤ 140737488355328) :
    Calls Tryd.prog 32 #[.agg #[.int .i64 W, .int .i64 H, .slice A n c]] w (New w fun v w' => OutCopy w w' W H n p v) := by
  have CB := Lib.hid fun w' hA' => copyBytes_any A n c p w' hA' hc hn
  clear hc
  go_enter Tryd.func32, Tryd.ntmps32
  go_wp2_with fail
  have k1 := (Blk.new w 55 #[.int .i64 W, .int .i64 H, .slice A n c]).alloc (.cells #[.int .i64 0, .int .i64 0, .slice none 0 0] 55)
  have k2 := Blk.new' (w := w.alloc (.cells #[.int .i64 W, .int .i64 H, .slice A n c] 55)) (World.size_alloc _ _) 55 #[.int .i64 0, .int .i64 0, .slice none 0 0]
  have b1 : Below w.heap.size w ((w.alloc (.cells #[.int .i64 W, .int .i64 H, .slice A n c] 55)).alloc (.cells #[.int .i64 0, .int .i64 0, .slice none 0 0] 55)) := by (repeat (first | exact Below.refl _ _ | assumption | refine Below.drew ?_ | refine below_drewN ?_ _ | refine Below.alloc ?_ (by first | omega | (simp; done) | (simp; omega)) _ | refine Below.setCell ?_ (by first | omega | (simp; done) | (simp; omega)) _ | refine below_setRow ?_ (by first | omega | (simp; done) | (simp; omega)) _ ))
  have hA1 := hA.to b1
  generalize (w.alloc (.cells #[.int .i64 W, .int .i64 H, .slice A n c] 55)).alloc (.cells #[.int .i64 0, .int .i64 0, .slice none 0 0] 55) = w1 at *
  clear hA
  have K1 := Lib.hid k1; have K2 := Lib.hid k2; have B1 := Lib.hid b1; have A1 := Lib.hid hA1
  obtain ⟨p1, p2, p3⟩ := k1.cells3
  obtain ⟨r1, r2, r3⟩ := k2.cells3
  obtain ⟨f1, f2, f3⟩ := k2.frozen3
  clear k1 k2 b1 hA1
  go_region_held3 (fun w' => w'.cell? ⟨w.heap.size, 0, none⟩ = some (.int .i64 W) ∧ w'.cell? ⟨w.heap.size, 1, none⟩ = some (.int .i64 H) ∧ w'.cell? ⟨w.heap.size, 2, none⟩ = some (.slice A n c))
    (simp [go_sem, *])
    (first
      | (go_at_call 77; refine (CB.out _ A1.out.drew).mono ?_; rintro e w2 ⟨_, rfl, ⟨A', c', rfl, hc', hnil', hge', ha'⟩, hb2⟩
         have k3 := K1.out.drew.below' hb2; have k4 := K2.out.drew.below' hb2
         obtain ⟨x1, x2, x3⟩ := k3.cells3; obtain ⟨y1, y2, y3⟩ := k4.cells3; obtain ⟨z1, z2, z3⟩ := k4.frozen3
         have b2 : Below w.heap.size w w2 := B1.out.drew.trans (hb2.mono B1.out.size)
         have z2 := K2.out.lt))
  go_wp2
  refine bodyPost_ret (v := .agg #[.int .i64 W, .int .i64 H, .slice A' n c']) (by simp [results, Tryd.results32, go_sem, y1, y2, y3]) rfl ?_
  have hfar : ∀ i, ∀ a, A' = some a → a.block ≠ (⟨w.heap.size + 1, i, none⟩ : Addr).block := fun i a e h => by
    have := hge' a e
    simp at h this
    omega
  refine ⟨_, rfl, ⟨_, rfl, A', c', rfl, hc', hnil', fun a e => ?_, ?_⟩, by (repeat (first | exact Below.refl _ _ | assumption | refine Below.drew ?_ | refine below_drewN ?_ _ | refine Below.alloc ?_ (by first | omega | (simp; done) | (simp; omega)) _ | refine Below.setCell ?_ (by first | omega | (simp; done) | (simp; omega)) _ | refine below_setRow ?_ (by first | omega | (simp; done) | (simp; omega)) _ ))⟩
  · have := hge' a e; have := B1.out.size; simp at *; omega
  · simpa using ((ha'.far (hfar 0) _).far (hfar 1) _).far (hfar 2) _

set_option maxHeartbeats 1000000 in
theorem sameGrey_any (W H W' H' : Int) (A B : Option Addr) (n m c d : Nat) (p q : Int → Int) (w : World) (hA : ArrB w w.heap.size A n p) (hB : ArrB w w.heap.size B m q) (hn : n ≤ maxLen) (hm : m ≤ maxLen) :
    Calls Tryd.prog 39 #[.agg #[.int .i64 W, .int .i64 H, .slice A n c], .agg #[.int .i64 W', .int .i64 H', .slice B m d]] w
      fun e w' => e = .returned (.bool (decide (W = W') && decide (H = H') && sameB n m p q)) ∧ Below w.heap.size w w' := by
  have SA := Lib.hid fun w1 h1 h2 => sameBytes_any A B n m c d p q w1 h1 h2 hn hm
  by_cases hW : W = W'
  · subst hW
    by_cases hH : H = H'
    · subst hH
      have hr : Hid ((decide (W = W) && decide (H = H) && sameB n m p q) = sameB n m p q) := by show _ = _; simp
      rw [hr.out]
      go_enter Tryd.func39, Tryd.ntmps39
      go_wp2_with fail
      refine (SA.out _ (hA.to (by (repeat (first | exact Below.refl _ _ | assumption | refine Below.drew ?_ | refine below_drewN ?_ _ | refine Below.alloc ?_ (by first | omega | (simp; done) | (simp; omega)) _ | refine Below.setCell ?_ (by first | omega | (simp; done) | (simp; omega)) _ | refine below_setRow ?_ (by first | omega | (simp; done) | (simp; omega)) _ )))) (hB.to (by (repeat (first | exact Below.refl _ _ | assumption | refine Below.drew ?_ | refine below_drewN ?_ _ | refine Below.alloc ?_ (by first | omega | (simp; done) | (simp; omega)) _ | refine Below.setCell ?_ (by first | omega | (simp; done) | (simp; omega)) _ | refine below_setRow ?_ (by first | omega | (simp; done) | (simp; omega)) _ ))))).mono ?_
      rintro e w' ⟨rfl, k, rfl⟩
      generalize hb : sameB n m p q = b
      have HBB := Lib.hid hb; clear hb
      cases b <;> (go_wp2; go_ret; exact ⟨ret_bool HBB.out.symm, by (repeat (first | exact Below.refl _ _ | assumption | refine Below.drew ?_ | refine below_drewN ?_ _ | refine Below.alloc ?_ (by first | omega | (simp; done) | (simp; omega)) _ | refine Below.setCell ?_ (by first | omega | (simp; done) | (simp; omega)) _ | refine below_setRow ?_ (by first | omega | (simp; done) | (simp; omega)) _ ))⟩)
    · have hb : (H == H') = false := by simp [hH]
      have hr : Hid ((decide (W = W) && decide (H = H') && sameB n m p q) = false) := by show _ = _; simp [hH]
      rw [hr.out]
      have HH := Lib.hid hH; clear hH
      go_enter Tryd.func39, Tryd.ntmps39
      go_wp2
      go_ret
      exact ⟨rfl, by (repeat (first | exact Below.refl _ _ | assumption | refine Below.drew ?_ | refine below_drewN ?_ _ | refine Below.alloc ?_ (by first | omega | (simp; done) | (simp; omega)) _ | refine Below.setCell ?_ (by first | omega | (simp; done) | (simp; omega)) _ | refine below_setRow ?_ (by first | omega | (simp; done) | (simp; omega)) _ ))⟩
  · have hb : (W == W') = false := by simp [hW]
    have hr : Hid ((decide (W = W') && decide (H = H') && sameB n m p q) = false) := by show _ = _; simp [hW]
    rw [hr.out]
    have HW := Lib.hid hW; clear hW
    go_enter Tryd.func39, Tryd.ntmps39
    go_wp2
    go_ret
    exact ⟨rfl, by (repeat (first | exact Below.refl _ _ | assumption | refine Below.drew ?_ | refine below_drewN ?_ _ | refine Below.alloc ?_ (by first | omega | (simp; done) | (simp; omega)) _ | refine Below.setCell ?_ (by first | omega | (simp; done) | (simp; omega)) _ | refine below_setRow ?_ (by first | omega | (simp; done) | (simp; omega)) _ ))⟩

theorem sameGrey_true (W H : Int) (A B : Option Addr) (n c d : Nat) (p q : Int → Int) (w : World) (hA : ArrB w w.heap.size A n p) (hB : ArrB w w.heap.size B n q) (hn : n ≤ maxLen) (he : ∀ i : Int, 0 ≤ i → i < n → p i = q i) :
    Calls Tryd.prog 39 #[.agg #[.int .i64 W, .int .i64 H, .slice A n c], .agg #[.int .i64 W, .int .i64 H, .slice B n d]] w
      fun e w' => e = .returned (.bool true) ∧ Below w.heap.size w w' :=
  (sameGrey_any W H W H A B n n c d p q w hA hB hn hn).mono fun e w' ⟨h, hb⟩ => ⟨by rw [h, sameB_iff.2 ⟨rfl, he⟩]; simp, hb⟩

set_option maxHeartbeats 1000000 in
theorem rlevels_any (W H : Int) (A : Option Addr) (n c : Nat) (p : Int → Int) (w : World) (hA : ArrB w w.heap.size A n p) (hn : n ≤ maxLen) (hB : IsB p) :
    Calls Tryd.prog 38 #[.agg #[.int .i64 W, .int .i64 H, .slice A n c]] w
      (New w fun v w' => ∃ g, v = .slice (some ⟨g, 0, none⟩) 256 256 ∧ w.heap.size ≤ g ∧ Blk w' g 3 (i64s 256 (cntS n p))) := by
  have hmk := make256
  unfold maxLen at hn
  go_enter Tryd.func38, Tryd.ntmps38
  go_wp2_with fail
  go_loopw [4] (fun s wr => ∃ i : Nat, i ≤ n ∧ s = .int .i64 i ∧ Below w.heap.size w wr ∧ Blk wr w.heap.size 55 #[.int .i64 W, .int .i64 H, .slice A n c] ∧ Blk wr (w.heap.size + 1) 3 (i64s 256 (cntS i p))) (fun s _ => n - (intOf s).toNat)
  case atStart => exact ⟨0, by omega, rfl, by (repeat (first | exact Below.refl _ _ | assumption | refine Below.drew ?_ | refine below_drewN ?_ _ | refine Below.alloc ?_ (by first | omega | (simp; done) | (simp; omega)) _ | refine Below.setCell ?_ (by first | omega | (simp; done) | (simp; omega)) _ | refine below_setRow ?_ (by first | omega | (simp; done) | (simp; omega)) _ )), (Blk.new _ _ _).alloc _, Blk.new' (by simp) _ _⟩
  case round =>
    obtain ⟨i, hi, rfl, b2, k1, kr⟩ := hrel
    clear hmk
    obtain ⟨p1, p2, p3⟩ := k1.cells3
    by_cases hlt : i < n
    · have hi0 : (0 : Int) ≤ i := by omega
      have hiN : (i : Int) < n := by omega
      obtain ⟨pb1, pb2⟩ := hB i
      obtain ⟨b, off, rfl, hbB, hcell⟩ := ArrB.at_ (ArrB.below hA b2) hi0 hiN
      rw [Int.toNat_natCast] at hcell
      have hr := kr.i64at pb1 (by omega)
      have fr := kr.frozen (p i).toNat
      have SR := Lib.hid (fun v => cntS_step (n := i) (p := p) v)
      obtain ⟨c1, c2⟩ := cntS_bd i p (p i)
      have UR := Lib.hid (kr.i64set _ pb1 (cntS i p (p i) + 1))
      go_wp2
      go_roundw
      case rel => exact ⟨i + 1, by omega, by go_num, by (repeat (first | exact Below.refl _ _ | assumption | refine Below.drew ?_ | refine below_drewN ?_ _ | refine Below.alloc ?_ (by first | omega | (simp; done) | (simp; omega)) _ | refine Below.setCell ?_ (by first | omega | (simp; done) | (simp; omega)) _ | refine below_setRow ?_ (by first | omega | (simp; done) | (simp; omega)) _ )), k1.far (by simp) _, UR.out.i64conv fun v _ _ => SR.out v⟩
      case measure => simp [intOf]; omega
    · obtain rfl : i = n := by omega
      go_wp2
      go_ret
      exact ⟨_, rfl, ⟨_, rfl, by omega, kr⟩, b2⟩

/-! ### clean.Grey -/
def greyQ (p : Int → Int) (d l : Int) : Int → Int := fun i => if p i = 1 then d else l
def greyP (p : Int → Int) (d l : Int) (k : Nat) : Int → Int := fun i => if i < k then greyQ p d l i else 0
theorem greyP_l {p : Int → Int} {d l : Int} {k : Nat} (h : p k ≠ 1) (i : Int) : upd (greyP p d l k) k l i = greyP p d l (k + 1) i := by
  unfold upd greyP
  by_cases e : i = k
  · subst e; rw [if_pos rfl, if_pos (by omega)]; unfold greyQ; rw [if_neg h]
  · rw [if_neg e]
    by_cases h2 : i < k
    · rw [if_pos h2, if_pos (by omega)]
    · rw [if_neg h2, if_neg (by omega)]
theorem greyP_d {p : Int → Int} {d l x : Int} {k : Nat} (h : p k = 1) (i : Int) : upd (upd (greyP p d l k) k x) k d i = greyP p d l (k + 1) i := by
  unfold upd greyP
  by_cases e : i = k
  · subst e; rw [if_pos rfl, if_pos (by omega)]; unfold greyQ; rw [if_pos h]
  · rw [if_neg e]
    show (if i = (k : Int) then x else _) = _
    rw [if_neg e]
    by_cases h2 : i < k
    · rw [if_pos h2, if_pos (by omega)]
    · rw [if_neg h2, if_neg (by omega)]
theorem greyP_end {p : Int → Int} {d l : Int} {n : Nat} {i : Int} (h : i < n) : greyP p d l n i = greyQ p d l i := by unfold greyP; rw [if_pos h]

end Go.Proofs.YtoonkpjddfiopaaDoor

/- Walk: image.Threshold. -/
namespace Go.Proofs.YtoonkpjddfiopaaDoor
open Go.RowKit
set_option linter.unusedVariables false
attribute [local go_sem] Oper.semAt_some
/-- the error of a threshold -/
def thrE (W H : Int) (n : Nat) (lv : Int) : Int := if sidesB W H n then (if lv < 0 ∨ 256 < lv then 1 else 0) else 2
def thrQ (p : Int → Int) (lv : Int) : Int → Int := fun i => if p i < lv then 1 else 0
theorem enterThr1 (args : Array Value) (w : World) : (callFunc 99 args).run Tryd.prog w = .ok (.enter 99 args) w := by kernel_rfl
set_option maxHeartbeats 1000000 in
theorem thr1_any (W H lv x y : Int) (A : Option Addr) (n c bx bl : Nat) (p : Int → Int) (w : World) (hk : Blk w bx 55 #[.int .i64 W, .int .i64 H, .slice A n c]) (hl : Blk w bl 3 #[.int .i64 lv]) (hA : ArrB w w.heap.size A n p) (hB : IsB p) (h1 : 0 ≤ W) (h2 : W ≤ 640) (h3 : 0 ≤ H) (h4 : H ≤ 640) (hnn : (n : Int) = W * H) (x0 : 0 ≤ x) (x1 : x < W) (y0 : 0 ≤ y) (y1 : y < H) :
    Calls Tryd.prog 99 #[.int .i64 x, .int .i64 y, .pointer (some ⟨bx, 0, none⟩), .pointer (some ⟨bl, 0, none⟩)] w fun e w' => e = .returned (.int .u8 (if p (y * W + x) < lv then 1 else 0)) ∧ Below w.heap.size w w' := by
  obtain ⟨p1, p2, p3⟩ := hk.cells3
  have p4 := hl.cells1
  obtain ⟨j1, j2, j3⟩ := idx_lt x0 x1 y0 y1
  rw [Int.mul_comm H W] at j2
  have j4 : y * W + x < (n : Int) := by omega
  have nb := (area_bd h1 h2 h3 h4).2
  obtain ⟨b, off, rfl, hb, hc⟩ := ArrB.at_ hA j1 j4
  have q1 := hB (y * W + x)
  generalize p (y * W + x) = v at *
  obtain ⟨q2, q3⟩ := q1
  have v1 : IntKind.i64.wrap (y * W) = y * W := IntWalk.i64_in _ (by omega)
  have v2 : IntKind.i64.wrap (y * W + x) = y * W + x := IntWalk.i64_in _ (by omega)
  have v3 : IntKind.i64.wrap v = v := IntWalk.i64_in _ (by omega)
  clear hnn hA
  by_cases hv : v < lv
  · have e1 : (if v < lv then (1 : Int) else 0) = 1 := if_pos hv
    rw [e1]
    go_enter Tryd.func99, Tryd.ntmps99
    go_wp2_with fail
    go_quiet (fail)
    go_wp2_with fail
    go_ret
    exact ⟨rfl, by (repeat (first | exact Below.refl _ _ | assumption | refine Below.drew ?_ | refine below_drewN ?_ _ | refine Below.alloc ?_ (by first | omega | (simp; done) | (simp; omega)) _ | refine Below.setCell ?_ (by first | omega | (simp; done) | (simp; omega)) _ | refine below_setRow ?_ (by first | omega | (simp; done) | (simp; omega)) _ ))⟩
  · have e1 : (if v < lv then (1 : Int) else 0) = 0 := if_neg hv
    rw [e1]
    go_enter Tryd.func99, Tryd.ntmps99
    go_wp2_with fail
    go_quiet (fail)
    go_wp2_with fail
    go_ret
    exact ⟨rfl, by (repeat (first | exact Below.refl _ _ | assumption | refine Below.drew ?_ | refine below_drewN ?_ _ | refine Below.alloc ?_ (by first | omega | (simp; done) | (simp; omega)) _ | refine Below.setCell ?_ (by first | omega | (simp; done) | (simp; omega)) _ | refine below_setRow ?_ (by first | omega | (simp; done) | (simp; omega)) _ ))⟩
set_option maxRecDepth 100000 in
set_option maxHeartbeats 2000000 in
theorem thr_all (W H lv : Int) (A : Option Addr) (n c : Nat) (p : Int → Int) (E W2 H2 : Int) (N : Nat) (w : World) (hA : ArrB w w.heap.size A n p) (hB : IsB p) (hE : thrE W H n lv = E) (hs : RSize E W H W2 H2 N) :
    Calls Tryd.prog 33 #[.agg #[.int .i64 W, .int .i64 H, .slice A n c], .int .i64 lv] w (New w fun v w' => OutT w w' E W2 H2 N (thrQ p lv) v) := by
  have CK := Lib.hid fun w' => checkGrey_any W H A n c w'
  have b1 : Below w.heap.size w (((w.alloc (.cells #[.int .i64 W, .int .i64 H, .slice A n c] 55)).alloc (.cells #[.int .i64 lv] 3)).alloc (.cells #[.int .i64 0, .int .i64 0, .slice none 0 0] 24)) := by (repeat (first | exact Below.refl _ _ | assumption | refine Below.drew ?_ | refine below_drewN ?_ _ | refine Below.alloc ?_ (by first | omega | (simp; done) | (simp; omega)) _ | refine Below.setCell ?_ (by first | omega | (simp; done) | (simp; omega)) _ | refine below_setRow ?_ (by first | omega | (simp; done) | (simp; omega)) _ ))
  have k1 : Blk (((w.alloc (.cells #[.int .i64 W, .int .i64 H, .slice A n c] 55)).alloc (.cells #[.int .i64 lv] 3)).alloc (.cells #[.int .i64 0, .int .i64 0, .slice none 0 0] 24)) w.heap.size 55 #[.int .i64 W, .int .i64 H, .slice A n c] := ((Blk.new _ _ _).alloc _).alloc _
  have k2 : Blk (((w.alloc (.cells #[.int .i64 W, .int .i64 H, .slice A n c] 55)).alloc (.cells #[.int .i64 lv] 3)).alloc (.cells #[.int .i64 0, .int .i64 0, .slice none 0 0] 24)) (w.heap.size + 1) 3 #[.int .i64 lv] := (Blk.new' (by simp) _ _).alloc _
  have k3 : Blk (((w.alloc (.cells #[.int .i64 W, .int .i64 H, .slice A n c] 55)).alloc (.cells #[.int .i64 lv] 3)).alloc (.cells #[.int .i64 0, .int .i64 0, .slice none 0 0] 24)) (w.heap.size + 1 + 1) 24 #[.int .i64 0, .int .i64 0, .slice none 0 0] := Blk.new' (by simp) _ _
  have HS := Lib.hid hs
  cases hsd : sidesB W H n with
  | false =>
    have hE2 : E = 2 := by rw [← hE]; unfold thrE; rw [hsd]; rfl
    subst hE2
    rw [hsd] at CK
    clear hs hE hsd
    go_enter Tryd.func33, Tryd.ntmps33
    go_wp2_with fail
    generalize ((w.alloc (.cells #[.int .i64 W, .int .i64 H, .slice A n c] 55)).alloc (.cells #[.int .i64 lv] 3)).alloc (.cells #[.int .i64 0, .int .i64 0, .slice none 0 0] 24) = w1 at *
    refine (CK.out _).mono ?_
    rintro e w2 ⟨rfl, hb2⟩
    have b2 := below_call b1 b1.size hb2
    have k4 := k3.below' hb2
    obtain ⟨r1, r2, r3⟩ := k4.cells3
    obtain ⟨f1, f2, f3⟩ := k4.frozen3
    have k9 := ((k4.set_ 0 (.int .i64 0)).set_ 1 (.int .i64 0)).set_ 2 (.slice none 0 0)
    obtain ⟨s1, s2, s3⟩ := Blk.cells3 (a := .int .i64 0) (b := .int .i64 0) (c := .slice none 0 0) k9
    go_wp2_with fail
    refine bodyPost_ret (v := .tuple #[noImg, .int .i64 2]) (by simp [results, Tryd.results33, go_sem, noImg, s1, s2, s3]) rfl ?_
    exact ⟨_, rfl, outT_bad HS.out (by decide), by (repeat (first | with_reducible exact Below.refl _ _ | with_reducible assumption | with_reducible refine Below.drew ?_ | (with_reducible refine below_alloc' ?_ ?_; focus (first | omega | (simp; done) | (simp; omega))) | (with_reducible refine below_fill3' ?_ ?_; focus omega) | (with_reducible refine below_setCell' ?_ ?_; focus (first | omega | (simp; done) | (simp; omega))) | (with_reducible apply below_call'; (focus (with_reducible assumption)); (focus (first | omega | (simp; done) | (simp; omega))))))⟩
  | true =>
    rw [hsd] at CK
    obtain ⟨hW1, hW2, hH1, hH2, hnn⟩ := sidesB_iff.1 hsd
    by_cases hl : lv < 0 ∨ 256 < lv
    · have hE2 : E = 1 := by rw [← hE]; unfold thrE; rw [hsd, if_pos rfl, if_pos hl]
      subst hE2
      clear hs hE hsd hnn
      rcases (show lv < 0 ∨ (0 ≤ lv ∧ 256 < lv) by omega) with hl | ⟨hl0, hl⟩
      all_goals
        go_enter Tryd.func33, Tryd.ntmps33
        go_wp2_with fail
        generalize ((w.alloc (.cells #[.int .i64 W, .int .i64 H, .slice A n c] 55)).alloc (.cells #[.int .i64 lv] 3)).alloc (.cells #[.int .i64 0, .int .i64 0, .slice none 0 0] 24) = w1 at *
        refine (CK.out _).mono ?_
        rintro e w2 ⟨rfl, hb2⟩
        have b2 := below_call b1 b1.size hb2
        have k4 := k3.below' hb2
        have k5 := (k2.below' hb2).cells1
        obtain ⟨r1, r2, r3⟩ := k4.cells3
        obtain ⟨f1, f2, f3⟩ := k4.frozen3
        have k9 := ((k4.set_ 0 (.int .i64 0)).set_ 1 (.int .i64 0)).set_ 2 (.slice none 0 0)
        obtain ⟨s1, s2, s3⟩ := Blk.cells3 (a := .int .i64 0) (b := .int .i64 0) (c := .slice none 0 0) k9
        go_wp2_with fail
        refine bodyPost_ret (v := .tuple #[noImg, .int .i64 1]) (by simp [results, Tryd.results33, go_sem, noImg, s1, s2, s3]) rfl ?_
        exact ⟨_, rfl, outT_bad HS.out (by decide), by (repeat (first | with_reducible exact Below.refl _ _ | with_reducible assumption | with_reducible refine Below.drew ?_ | (with_reducible refine below_alloc' ?_ ?_; focus (first | omega | (simp; done) | (simp; omega))) | (with_reducible refine below_fill3' ?_ ?_; focus omega) | (with_reducible refine below_setCell' ?_ ?_; focus (first | omega | (simp; done) | (simp; omega))) | (with_reducible apply below_call'; (focus (with_reducible assumption)); (focus (first | omega | (simp; done) | (simp; omega))))))⟩
    · have hE2 : E = 0 := by rw [← hE]; unfold thrE; rw [hsd, if_pos rfl, if_neg hl]
      subst hE2
      obtain ⟨rfl, rfl, hN⟩ := hs.1 rfl
      obtain rfl : N = n := by omega
      have l0 : 0 ≤ lv := by omega
      have l1 : lv ≤ 256 := by omega
      have N1 := Lib.hid fun x y bx bl w' hk hl hA' => thr1_any W2 H2 lv x y A N c bx bl p w' hk hl hA' hB hW1 hW2 hH1 hH2 hnn
      have MD := Lib.hid fun (w' : World) (hk : Blk w' w.heap.size 55 #[.int .i64 W2, .int .i64 H2, .slice A N c]) (hl : Blk w' (w.heap.size + 1) 3 #[.int .i64 lv]) (hA' : ArrB w' w'.heap.size A N p) => pixmade_any W2 H2 N 99 #[.pointer (some ⟨w.heap.size, 0, none⟩), .pointer (some ⟨w.heap.size + 1, 0, none⟩)] (fun x y => if p (y * W2 + x) < lv then 1 else 0) w' enterThr1 hW1 hW2 hH1 hH2 hN
        (fun x y v x0 x1 y0 y1 hb => by
          show Calls _ _ #[_, _, _, _] _ _
          exact N1.out x y w.heap.size (w.heap.size + 1) v (hk.below' hb) (hl.below' hb) (hA'.to hb) x0 x1 y0 y1)
      clear hs hE hnn hB hN hsd hl
      go_enter Tryd.func33, Tryd.ntmps33
      go_wp2_with fail
      generalize ((w.alloc (.cells #[.int .i64 W2, .int .i64 H2, .slice A N c] 55)).alloc (.cells #[.int .i64 lv] 3)).alloc (.cells #[.int .i64 0, .int .i64 0, .slice none 0 0] 24) = w1 at *
      refine (CK.out _).mono ?_
      rintro e w2 ⟨rfl, hb2⟩
      have b2 := below_call b1 b1.size hb2
      have m1 := k1.below' hb2
      have m2 := k2.below' hb2
      have k4 := k3.below' hb2
      have hA2 := Lib.hid (hA.to b2)
      have M1 := Lib.hid m1
      have M2 := Lib.hid m2
      obtain ⟨p1, p2, p3⟩ := m1.cells3
      have p4 := m2.cells1
      have hmf : ∀ (fn : Fn) (first cap : Array Value) (w : World), (Instr.makeFunc fn first cap).run Tryd.prog w = .ok (.func fn first cap) w := fun _ _ _ _ => rfl
      clear b1 k1 k2 hb2 CK m1 m2
      go_wp2_with fail
      refine (MD.out _ M1.out M2.out hA2.out).mono ?_
      rintro e w3 ⟨_, rfl, ⟨gp, rfl, hgp, kp⟩, hb3⟩
      have b3 := below_call b2 b2.size hb3
      have k5 := k4.below' hb3
      have zz := k4.lt
      obtain ⟨r1, r2, r3⟩ := k5.cells3
      obtain ⟨f1, f2, f3⟩ := k5.frozen3
      have k6 := ((k5.set_ 0 (.int .i64 W2)).set_ 1 (.int .i64 H2)).set_ 2 (.slice (some ⟨gp, 0, none⟩) N N)
      obtain ⟨s1, s2, s3⟩ := Blk.cells3 (a := .int .i64 W2) (b := .int .i64 H2) (c := .slice (some ⟨gp, 0, none⟩) N N) k6
      have zb := b2.size
      clear p1 p2 p3 p4
      go_wp2_with fail
      refine bodyPost_ret (v := .tuple #[.agg #[.int .i64 W2, .int .i64 H2, .slice (some ⟨gp, 0, none⟩) N N], .int .i64 0]) (by simp [results, Tryd.results33, go_sem, s1, s2, s3]) rfl ?_
      have g1 : gp ≠ w.heap.size + 1 + 1 := by omega
      refine ⟨_, rfl, ⟨_, _, rfl, (fun a e => by cases e; show w.heap.size ≤ gp; omega), ?_⟩, by (repeat (first | exact Below.refl _ _ | assumption | refine Below.drew ?_ | refine below_drewN ?_ _ | refine Below.alloc ?_ (by first | omega | (simp; done) | (simp; omega)) _ | refine Below.setCell ?_ (by first | omega | (simp; done) | (simp; omega)) _ | refine below_setRow ?_ (by first | omega | (simp; done) | (simp; omega)) _ ))⟩
      have KE := Blk.far (Blk.far (Blk.far kp (p := ⟨w.heap.size + 1 + 1, 0, none⟩) g1 (.int .i64 W2)) (p := ⟨w.heap.size + 1 + 1, 1, none⟩) g1 (.int .i64 H2)) (p := ⟨w.heap.size + 1 + 1, 2, none⟩) g1 (.slice (some ⟨gp, 0, none⟩) N N)
      refine (KE.arrB KE.lt).congr fun i i0 i1 => ?_
      unfold byPix thrQ
      have := Int.emod_add_mul_ediv i W2
      rw [Int.mul_comm] at this
      show (if p (i / W2 * W2 + i % W2) < lv then (1 : Int) else 0) = _
      rw [show i / W2 * W2 + i % W2 = i by omega]
end Go.Proofs.YtoonkpjddfiopaaDoor

/- Plain: a strip put back column by column. No program in sight. -/
namespace Go.Proofs.YtoonkpjddfiopaaDoor
open Go.RowKit
set_option linter.unusedVariables false
/-- put back: the columns before x, and of column x the strip's rows above y -/
def rsP (W h : Int) (p q : Int → Int) (l : Nat → Int) (up x y : Int) : Int → Int := fun i =>
  if i % W < x ∨ (i % W = x ∧ i / W - l x.toNat + up < y) then resQ W 0 h p q l up i else p i
section
variable {W H h : Int} {p q : Int → Int} {l : Nat → Int} {up x y i : Int}
theorem resQ_out (hi : ¬ (0 ≤ i / W - l (i % W).toNat + up ∧ i / W - l (i % W).toNat + up < h)) : resQ W H h p q l up i = p i := by unfold resQ; rw [if_neg hi]
theorem resQ_H : resQ W H h p q l up i = resQ W 0 h p q l up i := rfl
theorem rsP_zero (hW : 0 < W) : rsP W h p q l up 0 0 i = p i := by
  have h1 : 0 ≤ i % W := Int.emod_nonneg _ (by omega)
  unfold rsP
  by_cases c : i % W < 0 ∨ (i % W = 0 ∧ i / W - l (0 : Int).toNat + up < 0)
  · rw [if_pos c]
    have c2 : i % W = 0 := by omega
    apply resQ_out
    rw [c2]; omega
  · rw [if_neg c]
theorem rsP_set (x0 : 0 ≤ x) (x1 : x < W) (y0 : 0 ≤ y) (y1 : y < h) : upd (rsP W h p q l up x y) ((l x.toNat - up + y) * W + x) (q (y * W + x)) i = rsP W h p q l up x (y + 1) i := by
  have a := idx_mod (y := l x.toNat - up + y) x0 x1
  have b := idx_div (y := l x.toNat - up + y) x0 x1
  unfold upd rsP
  by_cases e : i = (l x.toNat - up + y) * W + x
  · subst e
    rw [if_pos rfl, a, b, if_pos (.inr ⟨rfl, by omega⟩)]
    unfold resQ
    rw [a, b, if_pos (by omega), show l x.toNat - up + y - l x.toNat + up = y by omega]
  · rw [if_neg e]
    have hne : i % W = x → i / W ≠ l x.toNat - up + y := fun h3 h4 => e (by
      have := Int.emod_add_mul_ediv i W
      rw [h3, h4, Int.mul_comm] at this; omega)
    by_cases c : i % W < x ∨ (i % W = x ∧ i / W - l x.toNat + up < y)
    · rw [if_pos c, if_pos (by omega)]
    · rw [if_neg c, if_neg (by omega)]
theorem rsP_skip (hW : 0 < W) (h0 : 0 ≤ i) (hi : i < W * H) (hat : ¬ (0 ≤ l x.toNat - up + y ∧ l x.toNat - up + y < H)) : rsP W h p q l up x y i = rsP W h p q l up x (y + 1) i := by
  have h1 : i / W < H := Int.ediv_lt_of_lt_mul hW (by rw [Int.mul_comm]; exact hi)
  have h2 : 0 ≤ i / W := Int.ediv_nonneg h0 (by omega)
  unfold rsP
  by_cases c : i % W < x ∨ (i % W = x ∧ i / W - l x.toNat + up < y)
  · rw [if_pos c, if_pos (by omega)]
  · rw [if_neg c, if_neg (by omega)]
theorem rsP_col : rsP W h p q l up x h i = rsP W h p q l up (x + 1) 0 i := by
  unfold rsP
  by_cases c : i % W = x
  · rw [if_pos (.inl (by omega) : i % W < x + 1 ∨ _)]
    by_cases d : i / W - l x.toNat + up < h
    · rw [if_pos (.inr ⟨c, d⟩)]
    · rw [if_neg (by omega)]
      exact (resQ_out (by rw [c]; omega)).symm
  · by_cases d : i % W < x
    · rw [if_pos (.inl d), if_pos (.inl (by omega))]
    · rw [if_neg (by omega)]
      by_cases g : i % W < x + 1 ∨ (i % W = x + 1 ∧ i / W - l (x + 1).toNat + up < 0)
      · rw [if_pos g]
        exact (resQ_out (by
          have : i % W = x + 1 := by omega
          rw [this]; omega)).symm
      · rw [if_neg g]
theorem rsP_end (hW : 0 < W) : rsP W h p q l up W 0 i = resQ W 0 h p q l up i := by
  unfold rsP
  have h1 : i % W < W := Int.emod_lt_of_pos _ hW
  rw [if_pos (by omega)]
end
end Go.Proofs.YtoonkpjddfiopaaDoor

/- Plain: an image filled row by row by a condition; the strips as such images. No program in sight. -/
namespace Go.Proofs.YtoonkpjddfiopaaDoor
open Go.RowKit
set_option linter.unusedVariables false
/-- ink where the condition holds -/
def fillB (C : Int → Int → Bool) (W : Int) : Int → Int := fun i => if C (i % W) (i / W) = true then 1 else 0
section
variable {C : Int → Int → Bool} {W H h x y i : Int}
theorem fillB_at (x0 : 0 ≤ x) (x1 : x < W) : fillB C W (y * W + x) = if C x y = true then 1 else 0 := by
  unfold fillB; rw [idx_mod x0 x1, idx_div x0 x1]
theorem fill_yes (x0 : 0 ≤ x) (x1 : x < W) (hc : C x y = true) : upd (byRow W (fillB C W) (fun _ => 0) y x) (y * W + x) 1 i = byRow W (fillB C W) (fun _ => 0) y (x + 1) i := by
  have h := byRow_set (q := fillB C W) (z := fun _ => 0) (y := y) (i := i) x0 x1
  rwa [fillB_at x0 x1, if_pos hc] at h
theorem fill_no (x0 : 0 ≤ x) (x1 : x < W) (hc : C x y = false) : byRow W (fillB C W) (fun _ => 0) y x i = byRow W (fillB C W) (fun _ => 0) y (x + 1) i :=
  byRow_skip x0 x1 (by rw [fillB_at x0 x1, if_neg (by simp [hc])])
theorem fillB_is01 : Is01 (fillB C W) := fun i => by unfold fillB; split <;> simp
end
/-- the reference's condition for a strip -/
def recC (W H : Int) (p : Int → Int) (l : Nat → Int) (up : Int) : Int → Int → Bool := fun x y => inkB W H p x (l x.toNat - up + y)
def resC (W H h : Int) (p q : Int → Int) (l : Nat → Int) (up : Int) : Int → Int → Bool := fun x y =>
  if 0 ≤ y - l x.toNat + up ∧ y - l x.toNat + up < h then inkB W h q x (y - l x.toNat + up) else inkB W H p x y
theorem recC_eq {W H up : Int} {n : Nat} {p : Int → Int} {l : Nat → Int} {i : Int} (hE : chk W H n p = 0) (hB : IsB p) (hW : 1 ≤ W) (h0 : 0 ≤ i) : recQ W H p l up i = fillB (recC W H p l up) W i := by
  obtain ⟨-, -, -, -, hn, hp⟩ := chk_ok hE
  have m0 : 0 ≤ i % W := Int.emod_nonneg _ (by omega)
  have m1 : i % W < W := Int.emod_lt_of_pos _ (by omega)
  unfold recQ fillB recC
  by_cases c : 0 ≤ l (i % W).toNat - up + i / W ∧ l (i % W).toNat - up + i / W < H
  · rw [if_pos c, inkB_in m0 m1 c.1 c.2]
    obtain ⟨i1, i2, -⟩ := idx_lt m0 m1 c.1 c.2
    have a := hp _ i1 (by rw [hn, Int.mul_comm W H]; exact i2)
    have b := (hB ((l (i % W).toNat - up + i / W) * W + i % W)).1
    by_cases e : p ((l (i % W).toNat - up + i / W) * W + i % W) = 1
    · rw [if_pos (decide_eq_true e), e]
    · rw [if_neg (by simp [e])]; omega
  · rw [if_neg c, if_neg (fun h => c ⟨(inkB_iff.1 h).2.2.1, (inkB_iff.1 h).2.2.2.1⟩)]
theorem resC_eq {W H h up : Int} {n ns : Nat} {p q : Int → Int} {l : Nat → Int} {i : Int} (hE : chk W H n p = 0) (hS : chk W h ns q = 0) (hB : IsB p) (hBq : IsB q) (hW : 1 ≤ W) (h0 : 0 ≤ i) (hi : i < W * H) : resQ W H h p q l up i = fillB (resC W H h p q l up) W i := by
  obtain ⟨-, -, -, -, hn, hp⟩ := chk_ok hE
  obtain ⟨-, -, -, -, hns, hq⟩ := chk_ok hS
  have m0 : 0 ≤ i % W := Int.emod_nonneg _ (by omega)
  have m1 : i % W < W := Int.emod_lt_of_pos _ (by omega)
  have h2 : 0 ≤ i / W := Int.ediv_nonneg h0 (by omega)
  have h3 : i / W < H := Int.ediv_lt_of_lt_mul (by omega) (by rw [Int.mul_comm]; exact hi)
  have e1 : i / W * W + i % W = i := by have := Int.emod_add_mul_ediv i W; rw [Int.mul_comm] at this; omega
  unfold resQ fillB resC
  by_cases c : 0 ≤ i / W - l (i % W).toNat + up ∧ i / W - l (i % W).toNat + up < h
  · rw [if_pos c, if_pos c, inkB_in m0 m1 c.1 c.2]
    obtain ⟨i1, i2, -⟩ := idx_lt m0 m1 c.1 c.2
    have a := hq _ i1 (by rw [hns, Int.mul_comm W h]; exact i2)
    have b := (hBq ((i / W - l (i % W).toNat + up) * W + i % W)).1
    by_cases e : q ((i / W - l (i % W).toNat + up) * W + i % W) = 1
    · rw [if_pos (decide_eq_true e), e]
    · rw [if_neg (by simp [e])]; omega
  · rw [if_neg c, if_neg c, inkB_in m0 m1 h2 h3, e1]
    have a := hp i h0 (by omega)
    have b := (hB i).1
    by_cases e : p i = 1
    · rw [if_pos (decide_eq_true e), e]
    · rw [if_neg (by simp [e])]; omega
end Go.Proofs.YtoonkpjddfiopaaDoor

/- Plain: brushes. No program in sight. -/
namespace Go.Proofs.YtoonkpjddfiopaaDoor
set_option linter.unusedVariables false
def exB (f : Nat → Bool) : Nat → Bool
  | 0 => false
  | k + 1 => exB f k || f k
theorem exB_iff {f : Nat → Bool} : ∀ {k : Nat}, exB f k = true ↔ ∃ i, i < k ∧ f i = true
  | 0 => by simp [exB]
  | k + 1 => by
    rw [exB, Bool.or_eq_true, exB_iff]
    constructor
    · rintro (⟨i, h1, h2⟩ | h)
      · exact ⟨i, by omega, h2⟩
      · exact ⟨k, by omega, h⟩
    · rintro ⟨i, h1, h2⟩
      by_cases e : i = k
      · subst e; exact .inr h2
      · exact .inl ⟨i, by omega, h2⟩
theorem exB_no {f : Nat → Bool} {k : Nat} : exB f k = false ↔ ∀ i, i < k → f i = false := by
  rw [← Bool.not_eq_true, exB_iff]
  constructor
  · intro h i hi
    cases e : f i
    · rfl
    · exact absurd ⟨i, hi, e⟩ h
  · rintro h ⟨i, hi, e⟩
    rw [h i hi] at e; cases e
theorem exB_congr {f g : Nat → Bool} {k : Nat} (h : ∀ i, i < k → f i = g i) : exB f k = exB g k := by
  apply Bool.eq_iff_iff.2
  rw [exB_iff, exB_iff]
  exact ⟨fun ⟨i, a, b⟩ => ⟨i, a, by rw [← h i a]; exact b⟩, fun ⟨i, a, b⟩ => ⟨i, a, by rw [h i a]; exact b⟩⟩
theorem beqT (b : Bool) : (b == true) = b := by cases b <;> rfl
theorem beqF (b : Bool) : (b == false) = !b := by cases b <;> rfl
def inR (W H x y : Int) : Bool := decide (0 ≤ x ∧ x < W ∧ 0 ≤ y ∧ y < H)
/-- the program's spread: of ink (v) to the left and upwards, of paper to the right and downwards -/
def sprF (v : Bool) (W H : Int) (p : Int → Int) (dx dy : Int) (n : Nat) : Int → Int → Bool := fun x y => exB (fun i => inR W H (x + i * dx) (y + i * dy) && (inkB W H p (x + i * dx) (y + i * dy) == v)) n == v
def dirV (v : Bool) : Int := if v then 1 else -1
def brushQ (v : Bool) (W H : Int) (p : Int → Int) (w h : Nat) : Int → Int := fillB (sprF v W H (fillB (sprF v W H p (dirV v) 0 w) W) 0 (dirV v) h) W
/-- the reference's -/
def dilR (W H : Int) (p : Int → Int) (w h : Nat) : Int → Int → Bool := fun x y => exB (fun j => exB (fun i => inkB W H p (x + i) (y + j)) w) h
def eroR (W H : Int) (p : Int → Int) (w h : Nat) : Int → Int → Bool := fun x y => !exB (fun j => exB (fun i => !(decide (x - i < 0) || (decide (y - j < 0) || inkB W H p (x - i) (y - j)))) w) h
section
variable {W H x y : Int} {p : Int → Int} {w h : Nat} {C : Int → Int → Bool}
theorem inR_iff : inR W H x y = true ↔ 0 ≤ x ∧ x < W ∧ 0 ≤ y ∧ y < H := by unfold inR; rw [decide_eq_true_iff]
theorem inkB_inR (h : inkB W H p x y = true) : inR W H x y = true := inR_iff.2 (by have := inkB_iff.1 h; omega)
theorem inkB_fill : inkB W H (fillB C W) x y = (inR W H x y && C x y) := by
  apply Bool.eq_iff_iff.2
  rw [inkB_iff, Bool.and_eq_true, inR_iff]
  constructor
  · rintro ⟨h1, h2, h3, h4, h5⟩
    rw [fillB_at h1 h2] at h5
    refine ⟨⟨h1, h2, h3, h4⟩, ?_⟩
    cases e : C x y
    · rw [e] at h5; simp at h5
    · rfl
  · rintro ⟨⟨h1, h2, h3, h4⟩, h5⟩
    exact ⟨h1, h2, h3, h4, by rw [fillB_at h1 h2, h5]; rfl⟩
theorem dil_same (hx : inR W H x y = true) : sprF true W H (fillB (sprF true W H p 1 0 w) W) 0 1 h x y = dilR W H p w h x y := by
  obtain ⟨x0, x1, y0, y1⟩ := inR_iff.1 hx
  unfold sprF dilR
  rw [beqT]
  apply Bool.eq_iff_iff.2
  simp only [exB_iff, Bool.and_eq_true, beqT, inkB_fill, Int.mul_zero, Int.mul_one, Int.add_zero]
  constructor
  · rintro ⟨j, hj, h1, h2, i, hi, h3, h4⟩
    exact ⟨j, hj, i, hi, h4⟩
  · rintro ⟨j, hj, i, hi, h4⟩
    have hb := inkB_iff.1 h4
    have hr : inR W H x (y + j) = true := inR_iff.2 (by omega)
    exact ⟨j, hj, hr, hr, i, hi, inkB_inR h4, h4⟩
theorem ero_same (hx : inR W H x y = true) : sprF false W H (fillB (sprF false W H p (-1) 0 w) W) 0 (-1) h x y = eroR W H p w h x y := by
  obtain ⟨x0, x1, y0, y1⟩ := inR_iff.1 hx
  unfold sprF eroR
  rw [beqF]
  congr 1
  apply Bool.eq_iff_iff.2
  simp only [exB_iff, Bool.and_eq_true, beqF, Bool.not_eq_true', inkB_fill, Int.mul_zero, Int.add_zero, Bool.and_eq_false_iff, Bool.or_eq_false_iff, decide_eq_false_iff_not]
  constructor
  · rintro ⟨j, hj, h1, h2⟩
    obtain ⟨a0, a1, a2, a3⟩ := inR_iff.1 h1
    rcases h2 with h2 | h2
    · rw [h1] at h2; cases h2
    · rw [Bool.not_eq_false', exB_iff] at h2
      obtain ⟨i, hi, h3⟩ := h2
      rw [Bool.and_eq_true] at h3
      obtain ⟨c0, c1, c2, c3⟩ := inR_iff.1 h3.1
      have h4 : inkB W H p (x + i * -1) (y + j * -1) = false := by simpa using h3.2
      refine ⟨j, hj, i, hi, by omega, by omega, ?_⟩
      rw [show x - (i : Int) = x + i * -1 by omega, show y - (j : Int) = y + j * -1 by omega]; exact h4
  · rintro ⟨j, hj, i, hi, h1, h2, h3⟩
    have hr : inR W H x (y + j * -1) = true := inR_iff.2 (by omega)
    refine ⟨j, hj, hr, .inr ?_⟩
    rw [Bool.not_eq_false', exB_iff]
    refine ⟨i, hi, ?_⟩
    rw [Bool.and_eq_true]
    refine ⟨inR_iff.2 (by omega), ?_⟩
    rw [show x + (i : Int) * -1 = x - i by omega, show y + (j : Int) * -1 = y - j by omega, h3]; rfl
end
end Go.Proofs.YtoonkpjddfiopaaDoor

/- Plain: an image filled place by place, in any order of a grid. No program in sight. -/
namespace Go.Proofs.YtoonkpjddfiopaaDoor
set_option linter.unusedVariables false
/-- what is filled when the place (x, y) of the source comes up: sx, sy say where a place of the image comes from -/
def stQ (sx sy : Int → Int) (Q : Int → Int) (y x : Int) : Int → Int := fun i => if sy i < y ∨ (sy i = y ∧ sx i < x) then Q i else 0
section
variable {sx sy Q : Int → Int} {x y t v i : Int} {W H : Int}
theorem stQ_start (h1 : 0 ≤ sx i) (h2 : 0 ≤ sy i) : stQ sx sy Q 0 0 i = 0 := by
  unfold stQ; rw [if_neg (by omega)]
theorem stQ_set (hi : (sx i = x ∧ sy i = y) ↔ i = t) (hv : Q t = v) : upd (stQ sx sy Q y x) t v i = stQ sx sy Q y (x + 1) i := by
  unfold upd stQ
  by_cases e : i = t
  · have h := hi.2 e
    rw [if_pos e, if_pos (by omega), e, hv]
  · have h : ¬ (sx i = x ∧ sy i = y) := fun h => e (hi.1 h)
    rw [if_neg e]
    by_cases c : sy i < y ∨ (sy i = y ∧ sx i < x)
    · rw [if_pos c, if_pos (by omega)]
    · rw [if_neg c, if_neg (by omega)]
theorem stQ_skip (hi : (sx i = x ∧ sy i = y) ↔ i = t) (hv : Q t = 0) : stQ sx sy Q y x i = stQ sx sy Q y (x + 1) i := by
  unfold stQ
  by_cases e : i = t
  · have h := hi.2 e
    rw [if_neg (by omega), if_pos (by omega), e, hv]
  · have h : ¬ (sx i = x ∧ sy i = y) := fun h => e (hi.1 h)
    by_cases c : sy i < y ∨ (sy i = y ∧ sx i < x)
    · rw [if_pos c, if_pos (by omega)]
    · rw [if_neg c, if_neg (by omega)]
theorem stQ_line (h : 0 ≤ sx i) (hW : sx i < W) : stQ sx sy Q y W i = stQ sx sy Q (y + 1) 0 i := by
  unfold stQ
  by_cases c : sy i < y ∨ (sy i = y ∧ sx i < W)
  · rw [if_pos c, if_pos (by omega)]
  · rw [if_neg c, if_neg (by omega)]
theorem stQ_end (hH : sy i < H) : stQ sx sy Q H 0 i = Q i := by
  unfold stQ; rw [if_pos (.inl hH)]
/-- row by row -/
theorem row_at (h0 : 0 ≤ x) (h1 : x < W) : (i % W = x ∧ i / W = y) ↔ i = y * W + x := by
  have hd := Int.emod_add_mul_ediv i W
  constructor
  · rintro ⟨rfl, rfl⟩
    rw [Int.mul_comm]; omega
  · rintro rfl
    exact ⟨idx_mod h0 h1, idx_div h0 h1⟩
/-- clockwise turned: the source is W wide and H high, the image H wide -/
theorem rot_at (h0 : 0 ≤ y) (h1 : y < H) : (i / H = x ∧ H - 1 - i % H = y) ↔ i = x * H + (H - 1 - y) := by
  rw [← row_at (W := H) (x := H - 1 - y) (y := x) (i := i) (by omega) (by omega)]
  omega
end
end Go.Proofs.YtoonkpjddfiopaaDoor

/- Walk: the reference's Threshold. -/
namespace Go.Proofs.YtoonkpjddfiopaaDoor
open Go.RowKit
set_option linter.unusedVariables false
attribute [local go_sem] Oper.semAt_some

/-- row by row -/
abbrev rwQ (W : Int) (Q : Int → Int) (y x : Int) : Int → Int := stQ (fun i => i % W) (fun i => i / W) Q y x
section
variable {W H x y v i : Int} {Q : Int → Int}
theorem rwQ_zero (hW : 0 < W) (h0 : 0 ≤ i) : rwQ W Q 0 0 i = 0 := stQ_start (Int.emod_nonneg _ (by omega)) (Int.ediv_nonneg h0 (by omega))
theorem rwQ_set (h0 : 0 ≤ x) (h1 : x < W) (hv : Q (y * W + x) = v) : upd (rwQ W Q y x) (y * W + x) v i = rwQ W Q y (x + 1) i := stQ_set (row_at h0 h1) hv
theorem rwQ_skip (h0 : 0 ≤ x) (h1 : x < W) (hv : Q (y * W + x) = 0) : rwQ W Q y x i = rwQ W Q y (x + 1) i := stQ_skip (row_at h0 h1) hv
theorem rwQ_line (hW : 0 < W) : rwQ W Q y W i = rwQ W Q (y + 1) 0 i := stQ_line (Int.emod_nonneg _ (by omega)) (Int.emod_lt_of_pos _ hW)
theorem rwQ_end (hW : 0 < W) (hi : i < H * W) : rwQ W Q H 0 i = Q i := stQ_end (Int.ediv_lt_of_lt_mul hW hi)
end
set_option maxRecDepth 100000 in
set_option maxHeartbeats 4000000 in
theorem rthr_all (W H lv : Int) (A : Option Addr) (n c : Nat) (p : Int → Int) (E W2 H2 : Int) (N : Nat) (w : World) (hA : ArrB w w.heap.size A n p) (hn : n ≤ maxLen) (hB : IsB p) (hE : thrE W H n lv = E) (hs : RSize E W H W2 H2 N) :
    Calls Tryd.prog 34 #[.agg #[.int .i64 W, .int .i64 H, .slice A n c], .int .i64 lv] w (New w fun v w' => OutT w w' E W2 H2 N (thrQ p lv) v) := by
  have CK := Lib.hid fun w' => rcheckGrey_any W H A n c w' hn
  have b1 : Below w.heap.size w ((w.alloc (.cells #[.int .i64 W, .int .i64 H, .slice A n c] 55)).alloc (.cells #[.int .i64 0, .int .i64 0, .slice none 0 0] 24)) := by (repeat (first | exact Below.refl _ _ | assumption | refine Below.drew ?_ | refine below_drewN ?_ _ | refine Below.alloc ?_ (by first | omega | (simp; done) | (simp; omega)) _ | refine Below.setCell ?_ (by first | omega | (simp; done) | (simp; omega)) _ | refine below_setRow ?_ (by first | omega | (simp; done) | (simp; omega)) _ ))
  have k1 : Blk ((w.alloc (.cells #[.int .i64 W, .int .i64 H, .slice A n c] 55)).alloc (.cells #[.int .i64 0, .int .i64 0, .slice none 0 0] 24)) w.heap.size 55 #[.int .i64 W, .int .i64 H, .slice A n c] := (Blk.new _ _ _).alloc _
  have k3 : Blk ((w.alloc (.cells #[.int .i64 W, .int .i64 H, .slice A n c] 55)).alloc (.cells #[.int .i64 0, .int .i64 0, .slice none 0 0] 24)) (w.heap.size + 1) 24 #[.int .i64 0, .int .i64 0, .slice none 0 0] := Blk.new' (by simp) _ _
  have HS := Lib.hid hs
  cases hsd : sidesB W H n with
  | false =>
    have hE2 : E = 2 := by rw [← hE]; unfold thrE; rw [hsd]; rfl
    subst hE2
    rw [hsd] at CK
    clear hs hE hsd
    go_enter Tryd.func34, Tryd.ntmps34
    go_wp2_with fail
    generalize (w.alloc (.cells #[.int .i64 W, .int .i64 H, .slice A n c] 55)).alloc (.cells #[.int .i64 0, .int .i64 0, .slice none 0 0] 24) = w1 at *
    refine (CK.out _).mono ?_
    rintro e w2 ⟨rfl, hb2⟩
    have b2 := below_call b1 b1.size hb2
    have k4 := k3.below' hb2
    obtain ⟨r1, r2, r3⟩ := k4.cells3
    obtain ⟨f1, f2, f3⟩ := k4.frozen3
    have k9 := ((k4.set_ 0 (.int .i64 0)).set_ 1 (.int .i64 0)).set_ 2 (.slice none 0 0)
    obtain ⟨s1, s2, s3⟩ := Blk.cells3 (a := .int .i64 0) (b := .int .i64 0) (c := .slice none 0 0) k9
    go_wp2_with fail
    refine bodyPost_ret (v := .tuple #[noImg, .int .i64 2]) (by simp [results, Tryd.results34, go_sem, noImg, s1, s2, s3]) rfl ?_
    exact ⟨_, rfl, outT_bad HS.out (by decide), by (repeat (first | with_reducible exact Below.refl _ _ | with_reducible assumption | with_reducible refine Below.drew ?_ | (with_reducible refine below_alloc' ?_ ?_; focus (first | omega | (simp; done) | (simp; omega))) | (with_reducible refine below_fill3' ?_ ?_; focus omega) | (with_reducible refine below_setCell' ?_ ?_; focus (first | omega | (simp; done) | (simp; omega))) | (with_reducible apply below_call'; (focus (with_reducible assumption)); (focus (first | omega | (simp; done) | (simp; omega))))))⟩
  | true =>
    rw [hsd] at CK
    obtain ⟨hW1, hW2, hH1, hH2, hnn⟩ := sidesB_iff.1 hsd
    by_cases hl : lv < 0 ∨ 256 < lv
    · have hE2 : E = 1 := by rw [← hE]; unfold thrE; rw [hsd, if_pos rfl, if_pos hl]
      subst hE2
      clear hs hE hsd hnn
      rcases (show lv < 0 ∨ (0 ≤ lv ∧ 256 < lv) by omega) with hl | ⟨hl0, hl⟩
      all_goals
        go_enter Tryd.func34, Tryd.ntmps34
        go_wp2_with fail
        generalize (w.alloc (.cells #[.int .i64 W, .int .i64 H, .slice A n c] 55)).alloc (.cells #[.int .i64 0, .int .i64 0, .slice none 0 0] 24) = w1 at *
        refine (CK.out _).mono ?_
        rintro e w2 ⟨rfl, hb2⟩
        have b2 := below_call b1 b1.size hb2
        have k4 := k3.below' hb2
        obtain ⟨r1, r2, r3⟩ := k4.cells3
        obtain ⟨f1, f2, f3⟩ := k4.frozen3
        have k9 := ((k4.set_ 0 (.int .i64 0)).set_ 1 (.int .i64 0)).set_ 2 (.slice none 0 0)
        obtain ⟨s1, s2, s3⟩ := Blk.cells3 (a := .int .i64 0) (b := .int .i64 0) (c := .slice none 0 0) k9
        go_wp2_with fail
        refine bodyPost_ret (v := .tuple #[noImg, .int .i64 1]) (by simp [results, Tryd.results34, go_sem, noImg, s1, s2, s3]) rfl ?_
        exact ⟨_, rfl, outT_bad HS.out (by decide), by (repeat (first | with_reducible exact Below.refl _ _ | with_reducible assumption | with_reducible refine Below.drew ?_ | (with_reducible refine below_alloc' ?_ ?_; focus (first | omega | (simp; done) | (simp; omega))) | (with_reducible refine below_fill3' ?_ ?_; focus omega) | (with_reducible refine below_setCell' ?_ ?_; focus (first | omega | (simp; done) | (simp; omega))) | (with_reducible apply below_call'; (focus (with_reducible assumption)); (focus (first | omega | (simp; done) | (simp; omega))))))⟩
    · have hE2 : E = 0 := by rw [← hE]; unfold thrE; rw [hsd, if_pos rfl, if_neg hl]
      subst hE2
      obtain ⟨rfl, rfl, hN⟩ := hs.1 rfl
      obtain rfl : N = n := by omega
      have l0 : 0 ≤ lv := by omega
      have l1 : lv ≤ 256 := by omega
      obtain ⟨W, rfl⟩ : ∃ Wn : Nat, W2 = Wn := ⟨W2.toNat, by omega⟩
      obtain ⟨H, rfl⟩ : ∃ Hn : Nat, H2 = Hn := ⟨H2.toNat, by omega⟩
      have NW := Lib.hid fun w' => rnew_any W H N w' hW1 hW2 hH1 hH2 hN
      have HNN := Lib.hid hN
      have HA := Lib.hid hA
      have HBB := Lib.hid hB
      have hW640 : W ≤ 640 := by omega
      have hH640 : H ≤ 640 := by omega
      clear hs hE hnn hB hN hsd hl hA
      go_enter Tryd.func34, Tryd.ntmps34
      go_wp2_with fail
      generalize (w.alloc (.cells #[.int .i64 W, .int .i64 H, .slice A N c] 55)).alloc (.cells #[.int .i64 0, .int .i64 0, .slice none 0 0] 24) = w1 at *
      refine (CK.out _).mono ?_
      rintro e w1' ⟨rfl, hb1⟩
      have c1 := below_call b1 b1.size hb1
      replace k1 := k1.below' hb1
      replace k2 := k3.below' hb1
      clear b1 k3 hb1 CK
      obtain ⟨p1, p2, p3⟩ := k1.cells3
      go_wp2_with fail
      refine (NW.out _).mono ?_
      rintro e w2 ⟨_, rfl, ⟨g, rfl, hg, kg⟩, hb2⟩
      have b2 := below_call c1 c1.size hb2
      have zk2 := k2.lt
      have zc1 := c1.size
      replace k1 := (k1.below' hb2).alloc (.cells #[.int .i64 W, .int .i64 H, .slice (some ⟨g, 0, none⟩) N N] 24)
      replace k2 := (k2.below' hb2).alloc (.cells #[.int .i64 W, .int .i64 H, .slice (some ⟨g, 0, none⟩) N N] 24)
      have zg := kg.lt
      have kx := Blk.new w2 24 #[.int .i64 W, .int .i64 H, .slice (some ⟨g, 0, none⟩) N N]
      have zs := hb2.size
      obtain ⟨Q, hQ⟩ : ∃ Q, Q = thrQ p lv := ⟨_, rfl⟩
      have b3 := b2.alloc b2.size (.cells #[.int .i64 W, .int .i64 H, .slice (some ⟨g, 0, none⟩) N N] 24)
      obtain ⟨gx, hgx⟩ : ∃ gx, w2.heap.size = gx := ⟨_, rfl⟩
      have zz : (w2.alloc (.cells #[.int .i64 W, .int .i64 H, .slice (some ⟨g, 0, none⟩) N N] 24)).heap.size = gx + 1 := by simp [hgx]
      have kp : Blk (w2.alloc (.cells #[.int .i64 W, .int .i64 H, .slice (some ⟨g, 0, none⟩) N N] 24)) g 5 (u8s N (rwQ W Q (0 : Nat) (0 : Nat))) := (kg.alloc _).u8conv fun i i0 i1 => by
        by_cases hW0 : W = 0
        · have := HNN.out; rw [hW0] at this; simp at this; omega
        · exact (rwQ_zero (by omega) i0).symm
      rw [hgx] at kx zg zs
      have HQ := Lib.hid hQ
      clear kg hQ b2 c1 p1 p2 p3
      go_upto_region 7 with fail
      generalize w2.alloc (.cells #[.int .i64 W, .int .i64 H, .slice (some ⟨g, 0, none⟩) N N] 24) = w3 at *
      clear hgx hb2
      go_wp2_with fail
      go_loopw [8] (fun s wr => ∃ y : Nat, y ≤ H ∧ s = .int .i64 y ∧ But (gx + 1) g w3 wr ∧ Blk wr g 5 (u8s N (rwQ W Q y (0 : Nat)))) (fun s _ => H - (intOf s).toNat)
      case atStart => exact ⟨0, by omega, rfl, But.refl _ (by omega), kp⟩
      case round =>
        obtain ⟨y, hy, rfl, bu, ap⟩ := hrel
        clear kp
        have m1 := k1.but bu (by omega) (by omega)
        obtain ⟨p1, p2, p3⟩ := m1.cells3
        by_cases yl : (y : Int) < H
        · go_wp2_with fail
          go_loopw [9] (fun s wr => ∃ x : Nat, x ≤ W ∧ s = .int .i64 x ∧ But (gx + 1) g w3 wr ∧ Blk wr g 5 (u8s N (rwQ W Q y x))) (fun s _ => W - (intOf s).toNat)
          case atStart => exact ⟨0, by omega, rfl, bu, ap⟩
          case round =>
            obtain ⟨x, hx, rfl, bv, aq⟩ := hrel
            clear ap bu m1 p1 p2 p3
            have m1 := k1.but bv (by omega) (by omega)
            have mx := kx.but bv (by omega) (by omega)
            obtain ⟨p1, p2, p3⟩ := m1.cells3
            obtain ⟨x1, x2, x3⟩ := mx.cells3
            by_cases xl : (x : Int) < W
            · have hb0 : Below w.heap.size w wr := b3.trans (bv.to zz (by omega) (by omega))
              have hA4 := HA.out.to hb0
              obtain ⟨j1, j2, j3⟩ := idx_lt (x := (x : Int)) (y := (y : Int)) (W := W) (H := H) (by omega) xl (by omega) yl
              rw [Int.mul_comm (H : Int) W, ← HNN.out] at j2
              have nb := (area_bd (W := W) (H := H) (by omega) (by omega) (by omega) (by omega)).2
              rw [← HNN.out] at nb
              obtain ⟨z, hz⟩ : ∃ z : Nat, (y : Int) * W + x = (z : Int) := ⟨((y : Int) * W + x).toNat, by omega⟩
              have v1 : IntKind.i64.wrap ((y : Int) * W) = (y : Int) * W := IntWalk.i64_in _ (by omega)
              have v2 : IntKind.i64.wrap ((y : Int) * W + x) = (z : Int) := (IntWalk.i64_in _ (by omega)).trans hz
              have zN : (z : Int) < (N : Int) := by omega
              obtain ⟨bA, off, rfl, hbA, hcell⟩ := ArrB.at_ hA4 (i := (z : Int)) (by omega) zN
              rw [Int.toNat_natCast] at hcell
              have QE : Hid (Q ((y : Int) * W + x) = if p z < lv then 1 else 0) := Lib.hid (by rw [HQ.out, hz]; rfl)
              obtain ⟨q2, q3⟩ := HBB.out (z : Int)
              generalize p z = v at *
              have v3 : IntKind.i64.wrap v = v := IntWalk.i64_in _ (by omega)
              have HZ := Lib.hid hz
              clear hA4 hb0 hz j1 j2 j3
              by_cases hv : v < lv
              · rw [if_pos hv] at QE
                go_wp2_with fail
                refine (rset_any W H g N N 5 _ x y _ aq (by omega) xl (by omega) yl (by omega) (by omega) HNN.out).mono ?_
                rintro e w6 ⟨rfl, hk6, hg6⟩
                have bz6 : But (gx + 1) g w3 w6 := ⟨hg6.os.trans bv.os, hg6.tape.trans bv.tape, hg6.output.trans bv.output, Nat.le_trans bv.size hg6.size, fun j hj hk => (hg6.block j (Nat.lt_of_lt_of_le hj bv.size) (fun e => hk (by cases e; rfl))).trans (bv.block j hj hk)⟩
                have aq6 : Blk w6 g 5 (u8s N (rwQ W Q y ((x + 1 : Nat) : Int))) := hk6.u8conv fun i _ _ => by
                  have h := rwQ_set (Q := Q) (y := (y : Int)) (i := i) (show (0 : Int) ≤ x by omega) xl QE.out
                  rw [h]; push_cast; rfl
                clear hk6 hg6 mx x1 x2 x3
                go_wp2_with fail
                go_round
                case rel => exact ⟨x + 1, by omega, by go_num, bz6, aq6⟩
                case measure => simp [intOf]; omega
              · rw [if_neg hv] at QE
                have aq6 : Blk wr g 5 (u8s N (rwQ W Q y ((x + 1 : Nat) : Int))) := aq.u8conv fun i _ _ => by
                  have h := rwQ_skip (Q := Q) (y := (y : Int)) (i := i) (show (0 : Int) ≤ x by omega) xl QE.out
                  rw [h]; push_cast; rfl
                clear aq
                go_wp2_with fail
                go_round
                case rel => exact ⟨x + 1, by omega, by go_num, bv, aq6⟩
                case measure => simp [intOf]; omega
            · have hxW : x = W := by omega
              have aq6 : Blk wr g 5 (u8s N (rwQ W Q ((y + 1 : Nat) : Int) (0 : Nat))) := aq.u8conv fun i i0 i1 => by
                by_cases hW0 : W = 0
                · have := HNN.out; rw [hW0] at this; simp at this; omega
                · have h := rwQ_line (Q := Q) (W := W) (y := (y : Int)) (i := i) (by omega)
                  rw [hxW, h]; push_cast; rfl
              clear aq hxW
              go_wp2_with fail
              go_round
              case rel => exact ⟨y + 1, by omega, by go_num, bv, aq6⟩
              case measure => simp [intOf]; omega
        · have hyH : y = H := by omega
          have m2 := k2.but bu (by omega) (by omega)
          have mx := kx.but bu (by omega) (by omega)
          obtain ⟨x1, x2, x3⟩ := mx.cells3
          obtain ⟨f1, f2, f3⟩ := m2.frozen3
          obtain ⟨y1, y2, y3⟩ := m2.cells3
          have k5 := ((m2.set_ 0 (.int .i64 W)).set_ 1 (.int .i64 H)).set_ 2 (.slice (some ⟨g, 0, none⟩) N N)
          obtain ⟨s1, s2, s3⟩ := Blk.cells3 (a := .int .i64 W) (b := .int .i64 H) (c := .slice (some ⟨g, 0, none⟩) N N) k5
          have bE : Below w.heap.size w wr := b3.trans (bu.to zz (by omega) (by omega))
          have aq : Blk wr g 5 (u8s N Q) := ap.u8conv fun i i0 i1 => by
            rw [hyH]
            by_cases hW0 : W = 0
            · have := HNN.out; rw [hW0] at this; simp at this; omega
            · exact rwQ_end (by omega) (by rw [Int.mul_comm, ← HNN.out]; exact i1)
          clear ap hyH
          go_wp2_with fail
          refine bodyPost_ret (v := .tuple #[.agg #[.int .i64 W, .int .i64 H, .slice (some ⟨g, 0, none⟩) N N], .int .i64 0]) (by simp [results, Tryd.results34, go_sem, s1, s2, s3]) rfl ?_
          have g1 : g ≠ w.heap.size + 1 := by omega
          refine ⟨_, rfl, ⟨_, _, rfl, (fun a e => by cases e; show w.heap.size ≤ g; omega), ?_⟩, by (repeat (first | exact Below.refl _ _ | assumption | refine Below.drew ?_ | refine below_drewN ?_ _ | refine Below.alloc ?_ (by first | omega | (simp; done) | (simp; omega)) _ | refine Below.setCell ?_ (by first | omega | (simp; done) | (simp; omega)) _ | refine below_setRow ?_ (by first | omega | (simp; done) | (simp; omega)) _ ))⟩
          have KE := Blk.far (Blk.far (Blk.far aq (p := ⟨w.heap.size + 1, 0, none⟩) g1 (.int .i64 W)) (p := ⟨w.heap.size + 1, 1, none⟩) g1 (.int .i64 H)) (p := ⟨w.heap.size + 1, 2, none⟩) g1 (.slice (some ⟨g, 0, none⟩) N N)
          rw [← HQ.out]
          exact KE.arrB KE.lt
end Go.Proofs.YtoonkpjddfiopaaDoor

/- Walk of the law ImageGreys. -/
namespace Go.Proofs.YtoonkpjddfiopaaDoor
open Go.RowKit
set_option linter.unusedVariables false

theorem equalI_true (A B : Option Addr) (n c d : Nat) (p : Int → Int) (w : World) (hA : ArrI w w.heap.size A n p) (hB : ArrI w w.heap.size B n p) (hn : n ≤ maxLen) :
    Calls Tryd.prog 37 #[.slice A n c, .slice B n d] w fun e w' => e = .returned (.bool true) ∧ Below w.heap.size w w' := by
  refine (equalI_any A B n n c d p p w hA hB hn hn).mono ?_
  rintro e w' ⟨rfl, k, rfl⟩
  exact ⟨by rw [sameI_iff.2 ⟨rfl, fun _ _ _ => rfl⟩], below_drewN (Below.refl _ _) k⟩
set_option maxHeartbeats 400000 in
theorem same_true (W H E : Int) (A B : Option Addr) (n c d : Nat) (p q : Int → Int) (w : World) (hA : ArrB w w.heap.size A n p) (hB : ArrB w w.heap.size B n q) (hn : n ≤ maxLen) (he : ∀ i : Int, 0 ≤ i → i < n → p i = q i) :
    Calls Tryd.prog 24 #[.agg #[.int .i64 W, .int .i64 H, .slice A n c], .int .i64 E, .agg #[.int .i64 W, .int .i64 H, .slice B n d], .int .i64 E] w fun e w' => e = .returned (.bool true) ∧ Below w.heap.size w w' := by
  have b1 : Below w.heap.size w ((w.alloc (.cells #[.int .i64 W, .int .i64 H, .slice A n c] 24)).alloc (.cells #[.int .i64 W, .int .i64 H, .slice B n d] 24)) := by (repeat (first | exact Below.refl _ _ | assumption | refine Below.drew ?_ | refine below_drewN ?_ _ | refine Below.alloc ?_ (by first | omega | (simp; done) | (simp; omega)) _ | refine Below.setCell ?_ (by first | omega | (simp; done) | (simp; omega)) _ | refine below_setRow ?_ (by first | omega | (simp; done) | (simp; omega)) _ ))
  have SI := Lib.hid fun w' h1 h2 => sameInk_true W H A B n c d p q w' h1 h2 hn he
  clear he
  go_enter Tryd.func24, Tryd.ntmps24
  go_wp2_with fail
  refine (SI.out _ (hA.to b1) (hB.to b1)).mono ?_
  rintro e w2 ⟨rfl, hb2⟩
  have b2 := below_call b1 b1.size hb2
  go_wp2
  go_ret
  exact ⟨rfl, b2⟩

set_option maxRecDepth 100000 in
set_option maxHeartbeats 4000000 in
theorem imageGreys_any (W H lv : Int) (A : Option Addr) (n c : Nat) (p : Int → Int) (w : World) (hA : ArrB w w.heap.size A n p) (hn : n ≤ maxLen) (hB : IsB p) (hc : A = none → c = 0) :
    Calls Tryd.prog 5 #[.agg #[.int .i64 W, .int .i64 H, .slice A n c], .int .i64 lv] w fun e w' => e = .returned (.bool true) ∧ Below w.heap.size w w' := by
  unfold maxLen at hn
  by_cases h6 : (n : Int) > 4000
  · go_enter Tryd.func5, Tryd.ntmps5
    go_wp2_with fail
    refine (awake1_any _).mono ?_
    rintro e w1 ⟨rfl, hb1⟩
    go_wp2
    go_ret
    exact ⟨rfl, below_call (by (repeat (first | exact Below.refl _ _ | assumption | refine Below.drew ?_ | refine below_drewN ?_ _ | refine Below.alloc ?_ (by first | omega | (simp; done) | (simp; omega)) _ | refine Below.setCell ?_ (by first | omega | (simp; done) | (simp; omega)) _ | refine below_setRow ?_ (by first | omega | (simp; done) | (simp; omega)) _ ))) (by simp; try omega) hb1⟩
  have hnm : n ≤ maxLen := by unfold maxLen; omega
  have CG := Lib.hid fun w' hA' => copyGrey_any W H A n c p w' hA' hc (by omega)
  have hpos : thrE W H n lv = 0 → 0 ≤ W ∧ W ≤ 640 ∧ 0 ≤ H ∧ H ≤ 640 := by
    intro h
    unfold thrE at h
    split at h
    · rename_i hs; obtain ⟨a, b, c, d, _⟩ := sidesB_iff.1 hs; exact ⟨a, b, c, d⟩
    · cases h
  obtain ⟨Wx, Hx, Nx, ms⟩ := rsize_ex (thrE W H n lv) W H (fun h => by obtain ⟨a, b, c, d⟩ := hpos h; exact Int.mul_nonneg a c)
  have lx := rsize_le ms hpos
  have C1 := Lib.hid fun A' c' w' h' => thr_all W H lv A' n c' p _ Wx Hx Nx w' h' hB rfl ms
  have C2 := Lib.hid fun w' h' => rthr_all W H lv A n c p _ Wx Hx Nx w' h' hnm hB rfl ms
  have C4 := Lib.hid fun w' => rcheckGrey_any W H A n c w' hnm
  generalize thrQ p lv = qx at *
  generalize thrE W H n lv = Ex at *
  have b0 : Below w.heap.size w (w.alloc (.cells #[.int .i64 W, .int .i64 H, .slice A n c] 55)) := by (repeat (first | exact Below.refl _ _ | assumption | refine Below.drew ?_ | refine below_drewN ?_ _ | refine Below.alloc ?_ (by first | omega | (simp; done) | (simp; omega)) _ | refine Below.setCell ?_ (by first | omega | (simp; done) | (simp; omega)) _ | refine below_setRow ?_ (by first | omega | (simp; done) | (simp; omega)) _ ))
  have K0 := ((Kp.nil (w.alloc (.cells #[.int .i64 W, .int .i64 H, .slice A n c] 55))).addB (Blk.new w 55 #[.int .i64 W, .int .i64 H, .slice A n c])).addA (hA.to b0)
  cases hsd : sidesB W H n with
  | true =>
    rw [hsd] at C4
    have C3 := Lib.hid fun A' c' w' h' => levels_ok W H A' n c' p w' h' hnm hB hsd
    have C5 := Lib.hid fun w' h' => rlevels_any W H A n c p w' h' hnm hB
    clear ms hn hc hB hA hsd hpos
    go_enter Tryd.func5, Tryd.ntmps5
    go_wp2_with fail
    generalize w.alloc (.cells #[.int .i64 W, .int .i64 H, .slice A n c] 55) = w1 at *
    refine (CG.out _ (K0.a 0 rfl)).mono ?_
    rintro e v1 ⟨_, rfl, ⟨_, rfl, Aa, ca, rfl, hca, hna, hga, aa⟩, hb1⟩
    have K1a := (K0.below hb1).addA aa
    have b1a := below_call b0 b0.size hb1
    have z1 := b1a.size
    have b1 : Below w.heap.size w (v1.alloc (.cells #[.int .i64 W, .int .i64 H, .slice Aa n ca] 55)) := by (repeat (first | exact Below.refl _ _ | assumption | refine Below.drew ?_ | refine below_drewN ?_ _ | refine Below.alloc ?_ (by first | omega | (simp; done) | (simp; omega)) _ | refine Below.setCell ?_ (by first | omega | (simp; done) | (simp; omega)) _ | refine below_setRow ?_ (by first | omega | (simp; done) | (simp; omega)) _ ))
    have K1 := K1a.new 55 #[.int .i64 W, .int .i64 H, .slice Aa n ca]
    clear K0 b0 K1a b1a hb1 aa hga  z1 CG hca hna
    obtain ⟨p1, p2, p3⟩ := (K1.b 0 rfl).cells3
    go_wp2_with fail
    generalize v1.alloc (.cells #[.int .i64 W, .int .i64 H, .slice Aa n ca] 55) = w1 at *
    refine (C1.out _ _ _ (K1.a 0 rfl)).mono ?_
    rintro e v2 ⟨_, rfl, ⟨Ax, cx, rfl, hgx, ax⟩, hb2⟩
    have K2a := (K1.below hb2).addA ax
    have b2a := below_call b1 b1.size hb2
    have z2 := b2a.size
    have b2 : Below w.heap.size w (v2.alloc (.cells #[.int .i64 Wx, .int .i64 Hx, .slice Ax Nx cx] 24)) := by (repeat (first | exact Below.refl _ _ | assumption | refine Below.drew ?_ | refine below_drewN ?_ _ | refine Below.alloc ?_ (by first | omega | (simp; done) | (simp; omega)) _ | refine Below.setCell ?_ (by first | omega | (simp; done) | (simp; omega)) _ | refine below_setRow ?_ (by first | omega | (simp; done) | (simp; omega)) _ ))
    have K2 := K2a.new 24 #[.int .i64 Wx, .int .i64 Hx, .slice Ax Nx cx]
    clear K1 b1 K2a b2a hb2 ax hgx p1 p2 p3 z2 C1
    obtain ⟨p1, p2, p3⟩ := (K2.b 2 rfl).cells3
    go_wp2_with fail
    generalize v2.alloc (.cells #[.int .i64 Wx, .int .i64 Hx, .slice Ax Nx cx] 24) = w2 at *
    refine (C2.out _ (K2.a 2 rfl)).mono ?_
    rintro e v3 ⟨_, rfl, ⟨Ay, cy, rfl, hgy, ay⟩, hb3⟩
    have K3a := (K2.below hb3).addA ay
    have b3a := below_call b2 b2.size hb3
    have z3 := b3a.size
    have b3 : Below w.heap.size w (v3.alloc (.cells #[.int .i64 Wx, .int .i64 Hx, .slice Ay Nx cy] 24)) := by (repeat (first | exact Below.refl _ _ | assumption | refine Below.drew ?_ | refine below_drewN ?_ _ | refine Below.alloc ?_ (by first | omega | (simp; done) | (simp; omega)) _ | refine Below.setCell ?_ (by first | omega | (simp; done) | (simp; omega)) _ | refine below_setRow ?_ (by first | omega | (simp; done) | (simp; omega)) _ ))
    have K3 := K3a.new 24 #[.int .i64 Wx, .int .i64 Hx, .slice Ay Nx cy]
    clear K2 b2 K3a b3a hb3 ay hgy p1 p2 p3 z3 C2
    obtain ⟨p1, p2, p3⟩ := (K3.b 2 rfl).cells3
    go_wp2_with fail
    generalize v3.alloc (.cells #[.int .i64 Wx, .int .i64 Hx, .slice Ay Nx cy] 24) = w3 at *
    refine (C3.out _ _ _ (K3.a 2 rfl)).mono ?_
    rintro e v4 ⟨_, rfl, ⟨gl1, rfl, hgl1, kl1⟩, hb4⟩
    have K4 := (K3.below hb4).addB kl1
    have b4 := below_call b3 b3.size hb4
    clear K3 b3 hb4 p1 p2 p3 hgl1 kl1 C3
    obtain ⟨p1, p2, p3⟩ := (K4.b 4 rfl).cells3
    go_wp2_with fail
    refine (C4.out _).mono ?_
    rintro e v5 ⟨rfl, hb5⟩
    have K5 := K4.below hb5
    have b5 := below_call b4 b4.size hb5
    clear K4 b4 hb5 p1 p2 p3 C4
    obtain ⟨p1, p2, p3⟩ := (K5.b 4 rfl).cells3
    go_wp2_with fail
    refine (C5.out _ (K5.a 3 rfl)).mono ?_
    rintro e v6 ⟨_, rfl, ⟨gl2, rfl, hgl2, kl2⟩, hb6⟩
    have K6 := (K5.below hb6).addB kl2
    have b6 := below_call b5 b5.size hb6
    clear K5 b5 hb6 p1 p2 p3 hgl2 kl2 C5
    have e1 := (K6.b 1 rfl).arrI (K6.b 1 rfl).lt
    have e2 := (K6.b 0 rfl).arrI (K6.b 0 rfl).lt
    have EQ := Lib.hid (equalI_true (some ⟨gl1, 0, none⟩) (some ⟨gl2, 0, none⟩) 256 256 256 (cntS n p) _ e1 e2 (by unfold maxLen; omega))
    clear e1 e2
    go_wp2_with fail
    refine (EQ.out).mono ?_
    rintro e v7 ⟨rfl, hb7⟩
    have K7 := K6.below hb7
    have b7 := below_call b6 b6.size hb7
    clear K6 b6 hb7  EQ
    obtain ⟨p1, p2, p3⟩ := (K7.b 3 rfl).cells3
    obtain ⟨r1, r2, r3⟩ := (K7.b 2 rfl).cells3
    go_wp2_with fail
    refine (same_true Wx Hx Ex Ax Ay Nx cx cy qx qx _ (K7.a 1 rfl) (K7.a 0 rfl) (by unfold maxLen; omega) (fun _ _ _ => rfl)).mono ?_
    rintro e v8 ⟨rfl, hb8⟩
    have K8 := K7.below hb8
    have b8 := below_call b7 b7.size hb8
    clear K7 b7 hb8 p1 p2 p3 r1 r2 r3 
    obtain ⟨p1, p2, p3⟩ := (K8.b 4 rfl).cells3
    obtain ⟨r1, r2, r3⟩ := (K8.b 5 rfl).cells3
    go_wp2_with fail
    refine (sameGrey_true W H Aa A n ca c p p _ (K8.a 2 rfl) (K8.a 3 rfl) (by unfold maxLen; omega) (fun _ _ _ => rfl)).mono ?_
    rintro e v9 ⟨rfl, hb9⟩
    have K9 := K8.below hb9
    have b9 := below_call b8 b8.size hb9
    clear K8 b8 hb9 p1 p2 p3 r1 r2 r3 
    go_wp2_with fail
    refine (awake1_any _).mono ?_
    rintro e v10 ⟨rfl, hb10⟩
    have b10 := below_call b9 b9.size hb10
    go_wp2
    go_ret
    exact ⟨rfl, b10⟩
  | false =>
    rw [hsd] at C4
    have C3 := Lib.hid fun A' c' w' => levels_bad W H A' n c' w' hsd
    clear ms hn hc hB hA hsd hpos
    go_enter Tryd.func5, Tryd.ntmps5
    go_wp2_with fail
    generalize w.alloc (.cells #[.int .i64 W, .int .i64 H, .slice A n c] 55) = w1 at *
    refine (CG.out _ (K0.a 0 rfl)).mono ?_
    rintro e v1 ⟨_, rfl, ⟨_, rfl, Aa, ca, rfl, hca, hna, hga, aa⟩, hb1⟩
    have K1a := (K0.below hb1).addA aa
    have b1a := below_call b0 b0.size hb1
    have z1 := b1a.size
    have b1 : Below w.heap.size w (v1.alloc (.cells #[.int .i64 W, .int .i64 H, .slice Aa n ca] 55)) := by (repeat (first | exact Below.refl _ _ | assumption | refine Below.drew ?_ | refine below_drewN ?_ _ | refine Below.alloc ?_ (by first | omega | (simp; done) | (simp; omega)) _ | refine Below.setCell ?_ (by first | omega | (simp; done) | (simp; omega)) _ | refine below_setRow ?_ (by first | omega | (simp; done) | (simp; omega)) _ ))
    have K1 := K1a.new 55 #[.int .i64 W, .int .i64 H, .slice Aa n ca]
    clear K0 b0 K1a b1a hb1 aa hga  z1 CG hca hna
    obtain ⟨p1, p2, p3⟩ := (K1.b 0 rfl).cells3
    go_wp2_with fail
    generalize v1.alloc (.cells #[.int .i64 W, .int .i64 H, .slice Aa n ca] 55) = w1 at *
    refine (C1.out _ _ _ (K1.a 0 rfl)).mono ?_
    rintro e v2 ⟨_, rfl, ⟨Ax, cx, rfl, hgx, ax⟩, hb2⟩
    have K2a := (K1.below hb2).addA ax
    have b2a := below_call b1 b1.size hb2
    have z2 := b2a.size
    have b2 : Below w.heap.size w (v2.alloc (.cells #[.int .i64 Wx, .int .i64 Hx, .slice Ax Nx cx] 24)) := by (repeat (first | exact Below.refl _ _ | assumption | refine Below.drew ?_ | refine below_drewN ?_ _ | refine Below.alloc ?_ (by first | omega | (simp; done) | (simp; omega)) _ | refine Below.setCell ?_ (by first | omega | (simp; done) | (simp; omega)) _ | refine below_setRow ?_ (by first | omega | (simp; done) | (simp; omega)) _ ))
    have K2 := K2a.new 24 #[.int .i64 Wx, .int .i64 Hx, .slice Ax Nx cx]
    clear K1 b1 K2a b2a hb2 ax hgx p1 p2 p3 z2 C1
    obtain ⟨p1, p2, p3⟩ := (K2.b 2 rfl).cells3
    go_wp2_with fail
    generalize v2.alloc (.cells #[.int .i64 Wx, .int .i64 Hx, .slice Ax Nx cx] 24) = w2 at *
    refine (C2.out _ (K2.a 2 rfl)).mono ?_
    rintro e v3 ⟨_, rfl, ⟨Ay, cy, rfl, hgy, ay⟩, hb3⟩
    have K3a := (K2.below hb3).addA ay
    have b3a := below_call b2 b2.size hb3
    have z3 := b3a.size
    have b3 : Below w.heap.size w (v3.alloc (.cells #[.int .i64 Wx, .int .i64 Hx, .slice Ay Nx cy] 24)) := by (repeat (first | exact Below.refl _ _ | assumption | refine Below.drew ?_ | refine below_drewN ?_ _ | refine Below.alloc ?_ (by first | omega | (simp; done) | (simp; omega)) _ | refine Below.setCell ?_ (by first | omega | (simp; done) | (simp; omega)) _ | refine below_setRow ?_ (by first | omega | (simp; done) | (simp; omega)) _ ))
    have K3 := K3a.new 24 #[.int .i64 Wx, .int .i64 Hx, .slice Ay Nx cy]
    clear K2 b2 K3a b3a hb3 ay hgy p1 p2 p3 z3 C2
    obtain ⟨p1, p2, p3⟩ := (K3.b 2 rfl).cells3
    go_wp2_with fail
    generalize v3.alloc (.cells #[.int .i64 Wx, .int .i64 Hx, .slice Ay Nx cy] 24) = w3 at *
    refine (C3.out _ _ _).mono ?_
    rintro e v4 ⟨rfl, hb4⟩
    have K4 := K3.below hb4
    have b4 := below_call b3 b3.size hb4
    clear K3 b3 hb4 p1 p2 p3 C3
    obtain ⟨p1, p2, p3⟩ := (K4.b 3 rfl).cells3
    go_wp2_with fail
    refine (C4.out _).mono ?_
    rintro e v5 ⟨rfl, hb5⟩
    have K5 := K4.below hb5
    have b5 := below_call b4 b4.size hb5
    clear K4 b4 hb5 p1 p2 p3 C4
    obtain ⟨p1, p2, p3⟩ := (K5.b 1 rfl).cells3
    obtain ⟨r1, r2, r3⟩ := (K5.b 0 rfl).cells3
    go_wp2_with fail
    refine (same_true Wx Hx Ex Ax Ay Nx cx cy qx qx _ (K5.a 1 rfl) (K5.a 0 rfl) (by unfold maxLen; omega) (fun _ _ _ => rfl)).mono ?_
    rintro e v6 ⟨rfl, hb6⟩
    have K6 := K5.below hb6
    have b6 := below_call b5 b5.size hb6
    clear K5 b5 hb6 p1 p2 p3 r1 r2 r3 
    obtain ⟨p1, p2, p3⟩ := (K6.b 2 rfl).cells3
    obtain ⟨r1, r2, r3⟩ := (K6.b 3 rfl).cells3
    go_wp2_with fail
    refine (sameGrey_true W H Aa A n ca c p p _ (K6.a 2 rfl) (K6.a 3 rfl) (by unfold maxLen; omega) (fun _ _ _ => rfl)).mono ?_
    rintro e v7 ⟨rfl, hb7⟩
    have K7 := K6.below hb7
    have b7 := below_call b6 b6.size hb7
    clear K6 b6 hb7 p1 p2 p3 r1 r2 r3 
    go_wp2_with fail
    refine (awake1_any _).mono ?_
    rintro e v8 ⟨rfl, hb8⟩
    have b8 := below_call b7 b7.size hb8
    go_wp2
    go_ret
    exact ⟨rfl, b8⟩
end Go.Proofs.YtoonkpjddfiopaaDoor

/- Walk of the law ImageComponents. -/
namespace Go.Proofs.YtoonkpjddfiopaaDoor
open Go.RowKit
set_option linter.unusedVariables false

theorem comps_bad (W H : Int) (e : Bool) (A : Option Addr) (n c : Nat) (p : Int → Int) (w : World) (hA : ArrB w w.heap.size A n p) (hn : n ≤ maxLen) (h0 : chk W H n p ≠ 0) :
    Calls Tryd.prog 25 #[.agg #[.int .i64 W, .int .i64 H, .slice A n c], .bool e] w fun x w' => x = .returned (.tuple #[.slice none 0 0, .int .i64 (chk W H n p)]) ∧ Below w.heap.size w w' := by
  have CK := Lib.hid fun w' hA' => check_any W H A n c p w' hA' hn
  generalize chk W H n p = E at *
  have hz : (E != 0) = true := by simp [h0]
  clear h0
  have b1 : Below w.heap.size w (w.alloc (.cells #[.int .i64 W, .int .i64 H, .slice A n c] 24)) := by (repeat (first | exact Below.refl _ _ | assumption | refine Below.drew ?_ | refine below_drewN ?_ _ | refine Below.alloc ?_ (by first | omega | (simp; done) | (simp; omega)) _ | refine Below.setCell ?_ (by first | omega | (simp; done) | (simp; omega)) _ | refine below_setRow ?_ (by first | omega | (simp; done) | (simp; omega)) _ ))
  go_enter Tryd.func25, Tryd.ntmps25
  go_wp2_with fail
  refine (CK.out _ (hA.to b1)).mono ?_
  rintro x w2 ⟨rfl, hb2⟩
  have b2 := below_call b1 b1.size hb2
  go_wp2_with fail
  refine bodyPost_ret (results_tmp2 rfl _ _ _) rfl ?_
  exact ⟨rfl, b2⟩
theorem desp_bad (W H least : Int) (A : Option Addr) (n c : Nat) (p : Int → Int) (w : World) (hA : ArrB w w.heap.size A n p) (hn : n ≤ maxLen) (h0 : chk W H n p ≠ 0) :
    Calls Tryd.prog 26 #[.agg #[.int .i64 W, .int .i64 H, .slice A n c], .int .i64 least] w (New w fun v w' => OutT w w' (chk W H n p) 0 0 0 (fun _ => 0) v) := by
  have CK := Lib.hid fun w' hA' => comps_bad W H true A n c p w' hA' hn h0
  generalize chk W H n p = E at *
  have hz : (E != 0) = true := by simp [h0]
  clear h0
  have b1 : Below w.heap.size w ((w.alloc (.cells #[.int .i64 W, .int .i64 H, .slice A n c] 24)).alloc (.cells #[.int .i64 0, .int .i64 0, .slice none 0 0] 24)) := by (repeat (first | exact Below.refl _ _ | assumption | refine Below.drew ?_ | refine below_drewN ?_ _ | refine Below.alloc ?_ (by first | omega | (simp; done) | (simp; omega)) _ | refine Below.setCell ?_ (by first | omega | (simp; done) | (simp; omega)) _ | refine below_setRow ?_ (by first | omega | (simp; done) | (simp; omega)) _ ))
  have k2 : Blk ((w.alloc (.cells #[.int .i64 W, .int .i64 H, .slice A n c] 24)).alloc (.cells #[.int .i64 0, .int .i64 0, .slice none 0 0] 24)) (w.heap.size + 1) 24 #[.int .i64 0, .int .i64 0, .slice none 0 0] := Blk.new' (by simp) _ _
  go_enter Tryd.func26, Tryd.ntmps26
  go_wp2_with fail
  generalize (w.alloc (.cells #[.int .i64 W, .int .i64 H, .slice A n c] 24)).alloc (.cells #[.int .i64 0, .int .i64 0, .slice none 0 0] 24) = w1 at *
  refine (CK.out _ (hA.to b1)).mono ?_
  rintro x w2 ⟨rfl, hb2⟩
  have b2 := below_call b1 b1.size hb2
  have k4 := k2.below' hb2
  obtain ⟨r1, r2, r3⟩ := k4.cells3
  obtain ⟨f1, f2, f3⟩ := k4.frozen3
  have k9 := ((k4.set_ 0 (.int .i64 0)).set_ 1 (.int .i64 0)).set_ 2 (.slice none 0 0)
  obtain ⟨s1, s2, s3⟩ := Blk.cells3 (a := .int .i64 0) (b := .int .i64 0) (c := .slice none 0 0) k9
  go_wp2_with fail
  refine bodyPost_ret (v := .tuple #[noImg, .int .i64 E]) (by simp [results, Tryd.results26, go_sem, noImg, s1, s2, s3]) rfl ?_
  exact ⟨_, rfl, ⟨none, 0, rfl, (fun _ h => by cases h), ArrB.nil⟩, by (repeat (first | with_reducible exact Below.refl _ _ | with_reducible assumption | with_reducible refine Below.drew ?_ | (with_reducible refine below_alloc' ?_ ?_; focus (first | omega | (simp; done) | (simp; omega))) | (with_reducible refine below_fill3' ?_ ?_; focus omega) | (with_reducible refine below_setCell' ?_ ?_; focus (first | omega | (simp; done) | (simp; omega))) | (with_reducible apply below_call'; (focus (with_reducible assumption)); (focus (first | omega | (simp; done) | (simp; omega))))))⟩

set_option maxRecDepth 100000 in
set_option maxHeartbeats 4000000 in
theorem imageComponents_any (W H least : Int) (e : Bool) (A : Option Addr) (n c : Nat) (p : Int → Int) (w : World) (hA : ArrB w w.heap.size A n p) (hn : n ≤ maxLen) (hB : IsB p) (hc : A = none → c = 0) :
    Calls Tryd.prog 4 #[.agg #[.int .i64 W, .int .i64 H, .slice A n c], .bool e, .int .i64 least] w fun e w' => e = .returned (.bool true) ∧ Below w.heap.size w w' := by
  unfold maxLen at hn
  by_cases h6 : (n : Int) > 1200
  · go_enter Tryd.func4, Tryd.ntmps4
    go_wp2_with fail
    refine (awake1_any _).mono ?_
    rintro e w1 ⟨rfl, hb1⟩
    go_wp2
    go_ret
    exact ⟨rfl, below_call (by (repeat (first | exact Below.refl _ _ | assumption | refine Below.drew ?_ | refine below_drewN ?_ _ | refine Below.alloc ?_ (by first | omega | (simp; done) | (simp; omega)) _ | refine Below.setCell ?_ (by first | omega | (simp; done) | (simp; omega)) _ | refine below_setRow ?_ (by first | omega | (simp; done) | (simp; omega)) _ ))) (by simp; try omega) hb1⟩
  have hnm : n ≤ maxLen := by unfold maxLen; omega
  have CG := Lib.hid fun w' hA' => copyInk_any W H A n c p w' hA' hc (by omega)
  have C4 := Lib.hid fun w' h' => rcheck_any W H A n c p w' h' hnm hB
  have b0 : Below w.heap.size w (w.alloc (.cells #[.int .i64 W, .int .i64 H, .slice A n c] 24)) := by (repeat (first | exact Below.refl _ _ | assumption | refine Below.drew ?_ | refine below_drewN ?_ _ | refine Below.alloc ?_ (by first | omega | (simp; done) | (simp; omega)) _ | refine Below.setCell ?_ (by first | omega | (simp; done) | (simp; omega)) _ | refine below_setRow ?_ (by first | omega | (simp; done) | (simp; omega)) _ ))
  have K0 := ((Kp.nil (w.alloc (.cells #[.int .i64 W, .int .i64 H, .slice A n c] 24))).addB (Blk.new w 24 #[.int .i64 W, .int .i64 H, .slice A n c])).addA (hA.to b0)
  by_cases h0 : chk W H n p = 0
  · rw [h0] at C4
    obtain ⟨hW1, hW2, hH1, hH2, hnn, hp⟩ := chk_ok h0
    obtain ⟨Wn, rfl⟩ : ∃ x : Nat, W = x := ⟨W.toNat, by omega⟩
    obtain ⟨Hn, rfl⟩ : ∃ x : Nat, H = x := ⟨H.toNat, by omega⟩
    have hN : n = Wn * Hn := by exact_mod_cast hnn
    have h01 : ∀ i : Int, 0 ≤ i → i < n → p i = 0 ∨ p i = 1 := fun i i0 i1 => by have := hp i i0 i1; have := hB i; omega
    have C1 := Lib.hid fun A' c' w' h' => comps_any Wn Hn e A' n c' p w' h' (by omega) (by omega) hN h01
    have C2 := Lib.hid fun A' c' w' h' => desp_any Wn Hn least A' n c' p w' h' (by omega) (by omega) hN h01
    have C3 := Lib.hid fun w' h' => rcomps_any Wn Hn e A n c p w' h' hB (by omega) (by omega) hN h01
    have C5 := Lib.hid fun w' h' => rdesp_any Wn Hn least A n c p w' h' hB (by omega) (by omega) hN h01
    have CE := Lib.hid fun B1 B2 v1 v2 w' h1 h2 => compsEq_any Wn n B1 B2 e p v1 v2 w' h1 h2 (by omega)
    obtain ⟨qb, hqb⟩ : ∃ q, bgQ n Wn p least = q := ⟨_, rfl⟩
    rw [hqb] at C2 C5
    clear hn hc hB hA h0 hp hnn hN h01 hqb
    go_enter Tryd.func4, Tryd.ntmps4
    go_wp2_with fail
    generalize w.alloc (.cells #[.int .i64 Wn, .int .i64 Hn, .slice A n c] 24) = w1 at *
    refine (CG.out _ (K0.a 0 rfl)).mono ?_
    rintro e v1 ⟨_, rfl, ⟨_, rfl, Aa, ca, rfl, hca, hna, hga, aa⟩, hb1⟩
    have K1a := (K0.below hb1).addA aa
    have b1a := below_call b0 b0.size hb1
    have z1 := b1a.size
    have b1 : Below w.heap.size w (v1.alloc (.cells #[.int .i64 Wn, .int .i64 Hn, .slice Aa n ca] 24)) := by (repeat (first | exact Below.refl _ _ | assumption | refine Below.drew ?_ | refine below_drewN ?_ _ | refine Below.alloc ?_ (by first | omega | (simp; done) | (simp; omega)) _ | refine Below.setCell ?_ (by first | omega | (simp; done) | (simp; omega)) _ | refine below_setRow ?_ (by first | omega | (simp; done) | (simp; omega)) _ ))
    have K1 := K1a.new 24 #[.int .i64 Wn, .int .i64 Hn, .slice Aa n ca]
    clear K0 b0 K1a b1a hb1 aa hga  z1 CG hca hna
    obtain ⟨p1, p2, p3⟩ := (K1.b 0 rfl).cells3
    go_wp2_with fail
    generalize v1.alloc (.cells #[.int .i64 Wn, .int .i64 Hn, .slice Aa n ca] 24) = w1 at *
    refine (C1.out _ _ _ (K1.a 0 rfl)).mono ?_
    rintro x v2 ⟨_, rfl, ⟨vl, rfl, crl⟩, hb2⟩
    have Rl := Lib.hid crl
    have K2 := K1.below hb2
    have b2 := below_call b1 b1.size hb2
    clear K1 b1 hb2 crl p1 p2 p3
    replace Rl := Lib.hid (Rl.out.base (Nat.zero_le _))
    obtain ⟨p1, p2, p3⟩ := (K2.b 0 rfl).cells3
    go_wp2_with fail
    refine (C2.out _ _ _ (K2.a 0 rfl)).mono ?_
    rintro e v3 ⟨_, rfl, ⟨Ax, cx, rfl, hgx, ax⟩, hb3⟩
    replace Rl := Lib.hid ((Rl.out.below hb3).below ((Below.refl _ _).alloc (Nat.le_refl _) (.cells #[.int .i64 Wn, .int .i64 Hn, .slice Ax n cx] 24)))
    have K3a := (K2.below hb3).addA ax
    have b3a := below_call b2 b2.size hb3
    have z3 := b3a.size
    have b3 : Below w.heap.size w (v3.alloc (.cells #[.int .i64 Wn, .int .i64 Hn, .slice Ax n cx] 24)) := by (repeat (first | exact Below.refl _ _ | assumption | refine Below.drew ?_ | refine below_drewN ?_ _ | refine Below.alloc ?_ (by first | omega | (simp; done) | (simp; omega)) _ | refine Below.setCell ?_ (by first | omega | (simp; done) | (simp; omega)) _ | refine below_setRow ?_ (by first | omega | (simp; done) | (simp; omega)) _ ))
    have K3 := K3a.new 24 #[.int .i64 Wn, .int .i64 Hn, .slice Ax n cx]
    clear K2 b2 K3a b3a hb3 ax hgx p1 p2 p3 z3 C1 C2
    obtain ⟨p1, p2, p3⟩ := (K3.b 2 rfl).cells3
    go_wp2_with fail
    generalize v3.alloc (.cells #[.int .i64 Wn, .int .i64 Hn, .slice Ax n cx] 24) = w3 at *
    refine (C4.out _ (K3.a 2 rfl)).mono ?_
    rintro e v4 ⟨rfl, hb4⟩
    replace Rl := Lib.hid (Rl.out.below hb4)
    have K4 := K3.below hb4
    have b4 := below_call b3 b3.size hb4
    clear K3 b3 hb4 p1 p2 p3 C4
    obtain ⟨p1, p2, p3⟩ := (K4.b 2 rfl).cells3
    go_wp2_with fail
    refine (C3.out _ (K4.a 2 rfl)).mono ?_
    rintro x v5 ⟨_, rfl, crr, hb5⟩
    have Rr := Lib.hid crr
    replace Rl := Lib.hid (Rl.out.below hb5)
    have K5 := K4.below hb5
    have b5 := below_call b4 b4.size hb5
    clear K4 b4 hb5 crr p1 p2 p3
    replace Rr := Lib.hid (Rr.out.base (Nat.zero_le _))
    go_upto_region 10 with fail
    have KS := Lib.hid fun (w' : World) (h : Below v5.heap.size v5 w') => (⟨((K5.b 0 rfl).below' h).cells3.1, ((K5.b 0 rfl).below' h).cells3.2.1, ((K5.b 0 rfl).below' h).cells3.2.2, ((K5.b 1 rfl).below' h).cells3.1, ((K5.b 1 rfl).below' h).cells3.2.1, ((K5.b 1 rfl).below' h).cells3.2.2, ((K5.b 2 rfl).below' h).cells3.1, ((K5.b 2 rfl).below' h).cells3.2.1, ((K5.b 2 rfl).below' h).cells3.2.2⟩ : w'.cell? ⟨v3.heap.size, 0, none⟩ = some (.int .i64 Wn) ∧ w'.cell? ⟨v3.heap.size, 1, none⟩ = some (.int .i64 Hn) ∧ w'.cell? ⟨v3.heap.size, 2, none⟩ = some (.slice Ax n cx) ∧ w'.cell? ⟨v1.heap.size, 0, none⟩ = some (.int .i64 Wn) ∧ w'.cell? ⟨v1.heap.size, 1, none⟩ = some (.int .i64 Hn) ∧ w'.cell? ⟨v1.heap.size, 2, none⟩ = some (.slice Aa n ca) ∧ w'.cell? ⟨w.heap.size, 0, none⟩ = some (.int .i64 Wn) ∧ w'.cell? ⟨w.heap.size, 1, none⟩ = some (.int .i64 Hn) ∧ w'.cell? ⟨w.heap.size, 2, none⟩ = some (.slice A n c))
    have bw : Below v5.heap.size v5 v5.drew := (Below.refl _ _).drew
    refine wp_region_held_drew (S := fun w' => w'.cell? ⟨v3.heap.size, 0, none⟩ = some (.int .i64 Wn) ∧ w'.cell? ⟨v3.heap.size, 1, none⟩ = some (.int .i64 Hn) ∧ w'.cell? ⟨v3.heap.size, 2, none⟩ = some (.slice Ax n cx) ∧ w'.cell? ⟨v1.heap.size, 0, none⟩ = some (.int .i64 Wn) ∧ w'.cell? ⟨v1.heap.size, 1, none⟩ = some (.int .i64 Hn) ∧ w'.cell? ⟨v1.heap.size, 2, none⟩ = some (.slice Aa n ca) ∧ w'.cell? ⟨w.heap.size, 0, none⟩ = some (.int .i64 Wn) ∧ w'.cell? ⟨w.heap.size, 1, none⟩ = some (.int .i64 Hn) ∧ w'.cell? ⟨w.heap.size, 2, none⟩ = some (.slice A n c)) (by kernel_rfl) (KS.out _ (Below.refl _ _).drew) (fun hHeld => ?_)
    refine wpAnyH_take (i := 0) (oi := _) (v := ?_) (by simp only [List.getElem?_toArray, List.getElem?_cons_zero]; exact rfl) (by kernel_rfl) (by kernel_rfl) (by kernel_rfl) (by exact fun _ _ _ h => h) (Or.inl ⟨by rfl, ?_⟩) (by assumption) ?_
    rotate_left 1
    · intro w hSw
      (try dsimp only at hSw)
      go_simp
      try with_reducible rfl
    try simp only [Act.put, List.setIfInBounds_toArray, List.set_cons_zero, List.set_cons_succ]
    refine wpAnyH_take (i := 1) (oi := _) (v := ?_) (by simp only [List.getElem?_toArray, List.getElem?_cons_zero, List.getElem?_cons_succ]; exact rfl) (by kernel_rfl) (by kernel_rfl) (by kernel_rfl) (by exact fun _ _ _ h => h) (Or.inl ⟨by rfl, ?_⟩) (by assumption) ?_
    rotate_left 1
    · intro w hSw
      (try dsimp only at hSw)
      go_simp
      try with_reducible rfl
    try simp only [Act.put, List.setIfInBounds_toArray, List.set_cons_zero, List.set_cons_succ]
    refine wpAnyH_take (i := 2) (oi := _) (v := ?_) (by simp only [List.getElem?_toArray, List.getElem?_cons_zero, List.getElem?_cons_succ]; exact rfl) (by kernel_rfl) (by kernel_rfl) (by kernel_rfl) (by exact fun _ _ _ h => h) (Or.inl ⟨by rfl, ?_⟩) (by assumption) ?_
    rotate_left 1
    · intro w hSw
      (try dsimp only at hSw)
      go_simp
      try with_reducible rfl
    try simp only [Act.put, List.setIfInBounds_toArray, List.set_cons_zero, List.set_cons_succ]
    refine wpAnyH_take (i := 3) (oi := _) (v := ?_) (by simp only [List.getElem?_toArray, List.getElem?_cons_zero, List.getElem?_cons_succ]; exact rfl) (by kernel_rfl) (by kernel_rfl) (by kernel_rfl) (by exact fun _ _ _ h => h) (Or.inl ⟨by rfl, ?_⟩) (by assumption) ?_
    rotate_left 1
    · intro w hSw
      (try dsimp only at hSw)
      go_simp
      try with_reducible rfl
    try simp only [Act.put, List.setIfInBounds_toArray, List.set_cons_zero, List.set_cons_succ]
    refine wpAnyH_take (i := 4) (oi := _) (v := ?_) (by simp only [List.getElem?_toArray, List.getElem?_cons_zero, List.getElem?_cons_succ]; exact rfl) (by kernel_rfl) (by kernel_rfl) (by kernel_rfl) (by exact fun _ _ _ h => h) (Or.inl ⟨by rfl, ?_⟩) (by assumption) ?_
    rotate_left 1
    · intro w hSw
      (try dsimp only at hSw)
      go_simp
      try with_reducible rfl
    try simp only [Act.put, List.setIfInBounds_toArray, List.set_cons_zero, List.set_cons_succ]
    refine wpAnyH_take (i := 5) (oi := _) (v := ?_) (by simp only [List.getElem?_toArray, List.getElem?_cons_zero, List.getElem?_cons_succ]; exact rfl) (by kernel_rfl) (by kernel_rfl) (by kernel_rfl) (by exact fun _ _ _ h => h) (Or.inl ⟨by rfl, ?_⟩) (by assumption) ?_
    rotate_left 1
    · intro w hSw
      (try dsimp only at hSw)
      go_simp
      try with_reducible rfl
    try simp only [Act.put, List.setIfInBounds_toArray, List.set_cons_zero, List.set_cons_succ]
    refine wpAnyH_take (i := 6) (oi := _) (v := ?_) (by simp only [List.getElem?_toArray, List.getElem?_cons_zero, List.getElem?_cons_succ]; exact rfl) (by kernel_rfl) (by kernel_rfl) (by kernel_rfl) (by exact fun _ _ _ h => h) (Or.inl ⟨by rfl, ?_⟩) (by assumption) ?_
    rotate_left 1
    · intro w hSw
      (try dsimp only at hSw)
      go_simp
      try with_reducible rfl
    try simp only [Act.put, List.setIfInBounds_toArray, List.set_cons_zero, List.set_cons_succ]
    refine wpAnyH_take (i := 7) (oi := _) (v := ?_) (by simp only [List.getElem?_toArray, List.getElem?_cons_zero, List.getElem?_cons_succ]; exact rfl) (by kernel_rfl) (by kernel_rfl) (by kernel_rfl) (by exact fun _ _ _ h => h) (Or.inl ⟨by rfl, ?_⟩) (by assumption) ?_
    rotate_left 1
    · intro w hSw
      (try dsimp only at hSw)
      go_simp
      try with_reducible rfl
    try simp only [Act.put, List.setIfInBounds_toArray, List.set_cons_zero, List.set_cons_succ]
    refine wpAnyH_take (i := 8) (oi := _) (v := ?_) (by simp only [List.getElem?_toArray, List.getElem?_cons_zero, List.getElem?_cons_succ]; exact rfl) (by kernel_rfl) (by kernel_rfl) (by kernel_rfl) (by exact fun _ _ _ h => h) (Or.inl ⟨by rfl, ?_⟩) (by assumption) ?_
    rotate_left 1
    · intro w hSw
      (try dsimp only at hSw)
      go_simp
      try with_reducible rfl
    try simp only [Act.put, List.setIfInBounds_toArray, List.set_cons_zero, List.set_cons_succ]
    refine wpAnyH_ready (rs := [9]) (by kernel_rfl) (by simp) ?_
    refine (AllReadyH.cons (o := _) (by simp only [List.getElem?_toArray, List.getElem?_cons_zero, List.getElem?_cons_succ]; exact rfl) (fun K' hK => ?_) AllReadyH.nil)
    go_simp
    refine (CE.out _ _ _ _ _ (Rl.out.below bw) (Rr.out.below bw)).mono ?_
    rintro ee x1 ⟨rfl, hx1⟩
    have c1 := below_call bw bw.size hx1
    refine hK.out _ _ (KS.out _ c1) (fun hHeld => ?_)
    clear hK K'
    try simp only [Act.put, List.setIfInBounds_toArray, List.set_cons_zero, List.set_cons_succ]
    refine wpAnyH_take (i := 10) (oi := _) (v := ?_) (by simp only [List.getElem?_toArray, List.getElem?_cons_zero, List.getElem?_cons_succ]; exact rfl) (by kernel_rfl) (by kernel_rfl) (by kernel_rfl) (by exact fun _ _ _ h => h) (Or.inl ⟨by rfl, ?_⟩) (by assumption) ?_
    rotate_left 1
    · intro w hSw
      (try dsimp only at hSw)
      go_simp
      try with_reducible rfl
    try simp only [Act.put, List.setIfInBounds_toArray, List.set_cons_zero, List.set_cons_succ]
    refine wpAnyH_take (i := 11) (oi := _) (v := ?_) (by simp only [List.getElem?_toArray, List.getElem?_cons_zero, List.getElem?_cons_succ]; exact rfl) (by kernel_rfl) (by kernel_rfl) (by kernel_rfl) (by exact fun _ _ _ h => h) (Or.inl ⟨by rfl, ?_⟩) (by assumption) ?_
    rotate_left 1
    · intro w hSw
      (try dsimp only at hSw)
      go_simp
      try with_reducible rfl
    try simp only [Act.put, List.setIfInBounds_toArray, List.set_cons_zero, List.set_cons_succ]
    refine wpAnyH_take (i := 12) (oi := _) (v := ?_) (by simp only [List.getElem?_toArray, List.getElem?_cons_zero, List.getElem?_cons_succ]; exact rfl) (by kernel_rfl) (by kernel_rfl) (by kernel_rfl) (by exact fun _ _ _ h => h) (Or.inl ⟨by rfl, ?_⟩) (by assumption) ?_
    rotate_left 1
    · intro w hSw
      (try dsimp only at hSw)
      go_simp
      try with_reducible rfl
    try simp only [Act.put, List.setIfInBounds_toArray, List.set_cons_zero, List.set_cons_succ]
    refine wpAnyH_take (i := 13) (oi := _) (v := ?_) (by simp only [List.getElem?_toArray, List.getElem?_cons_zero, List.getElem?_cons_succ]; exact rfl) (by kernel_rfl) (by kernel_rfl) (by kernel_rfl) (by exact fun _ _ _ h => h) (Or.inl ⟨by rfl, ?_⟩) (by assumption) ?_
    rotate_left 1
    · intro w hSw
      (try dsimp only at hSw)
      go_simp
      try with_reducible rfl
    try simp only [Act.put, List.setIfInBounds_toArray, List.set_cons_zero, List.set_cons_succ]
    refine wpAnyH_take (i := 14) (oi := _) (v := ?_) (by simp only [List.getElem?_toArray, List.getElem?_cons_zero, List.getElem?_cons_succ]; exact rfl) (by kernel_rfl) (by kernel_rfl) (by kernel_rfl) (by exact fun _ _ _ h => h) (Or.inl ⟨by rfl, ?_⟩) (by assumption) ?_
    rotate_left 1
    · intro w hSw
      (try dsimp only at hSw)
      go_simp
      try with_reducible rfl
    try simp only [Act.put, List.setIfInBounds_toArray, List.set_cons_zero, List.set_cons_succ]
    refine wpAnyH_ready (rs := [15]) (by kernel_rfl) (by simp) ?_
    refine (AllReadyH.cons (o := _) (by simp only [List.getElem?_toArray, List.getElem?_cons_zero, List.getElem?_cons_succ]; exact rfl) (fun K' hK => ?_) AllReadyH.nil)
    go_simp
    refine (C5.out _ ((K5.below c1).a 2 rfl)).mono ?_
    rintro ee x2 ⟨_, rfl, ⟨gz, rfl, hgz, kz⟩, hx2⟩
    have c2 := below_call c1 c1.size hx2
    refine hK.out _ _ (KS.out _ c2) (fun hHeld => ?_)
    clear hK K'
    try simp only [Act.put, List.setIfInBounds_toArray, List.set_cons_zero, List.set_cons_succ]
    refine wpAnyH_ready (rs := [16]) (by kernel_rfl) (by simp) ?_
    refine (AllReadyH.cons (o := _) (by simp only [List.getElem?_toArray, List.getElem?_cons_zero, List.getElem?_cons_succ]; exact rfl) (fun K' hK => ?_) AllReadyH.nil)
    go_simp
    refine (sameInk_true Wn Hn Ax (some ⟨gz, 0, none⟩) n cx n qb qb _ ((K5.below c2).a 0 rfl) (kz.arrB kz.lt) hnm (fun _ _ _ => rfl)).mono ?_
    rintro ee x3 ⟨rfl, hx3⟩
    have c3 := below_call c2 c2.size hx3
    refine hK.out _ _ (KS.out _ c3) (fun hHeld => ?_)
    clear hK K'
    try simp only [Act.put, List.setIfInBounds_toArray, List.set_cons_zero, List.set_cons_succ]
    refine wpAnyH_take (i := 17) (oi := _) (v := ?_) (by simp only [List.getElem?_toArray, List.getElem?_cons_zero, List.getElem?_cons_succ]; exact rfl) (by kernel_rfl) (by kernel_rfl) (by kernel_rfl) (by exact fun _ _ _ h => h) (Or.inl ⟨by rfl, ?_⟩) (by assumption) ?_
    rotate_left 1
    · intro w hSw
      (try dsimp only at hSw)
      go_simp
      try with_reducible rfl
    try simp only [Act.put, List.setIfInBounds_toArray, List.set_cons_zero, List.set_cons_succ]
    refine wpAnyH_take (i := 18) (oi := _) (v := ?_) (by simp only [List.getElem?_toArray, List.getElem?_cons_zero, List.getElem?_cons_succ]; exact rfl) (by kernel_rfl) (by kernel_rfl) (by kernel_rfl) (by exact fun _ _ _ h => h) (Or.inl ⟨by rfl, ?_⟩) (by assumption) ?_
    rotate_left 1
    · intro w hSw
      (try dsimp only at hSw)
      go_simp
      try with_reducible rfl
    try simp only [Act.put, List.setIfInBounds_toArray, List.set_cons_zero, List.set_cons_succ]
    refine wpAnyH_take (i := 19) (oi := _) (v := ?_) (by simp only [List.getElem?_toArray, List.getElem?_cons_zero, List.getElem?_cons_succ]; exact rfl) (by kernel_rfl) (by kernel_rfl) (by kernel_rfl) (by exact fun _ _ _ h => h) (Or.inl ⟨by rfl, ?_⟩) (by assumption) ?_
    rotate_left 1
    · intro w hSw
      (try dsimp only at hSw)
      go_simp
      try with_reducible rfl
    try simp only [Act.put, List.setIfInBounds_toArray, List.set_cons_zero, List.set_cons_succ]
    refine wpAnyH_take (i := 20) (oi := _) (v := ?_) (by simp only [List.getElem?_toArray, List.getElem?_cons_zero, List.getElem?_cons_succ]; exact rfl) (by kernel_rfl) (by kernel_rfl) (by kernel_rfl) (by exact fun _ _ _ h => h) (Or.inl ⟨by rfl, ?_⟩) (by assumption) ?_
    rotate_left 1
    · intro w hSw
      (try dsimp only at hSw)
      go_simp
      try with_reducible rfl
    try simp only [Act.put, List.setIfInBounds_toArray, List.set_cons_zero, List.set_cons_succ]
    refine wpAnyH_ready (rs := [21]) (by kernel_rfl) (by simp) ?_
    refine (AllReadyH.cons (o := _) (by simp only [List.getElem?_toArray, List.getElem?_cons_zero, List.getElem?_cons_succ]; exact rfl) (fun K' hK => ?_) AllReadyH.nil)
    go_simp
    refine (sameInk_true Wn Hn Aa A n ca c p p _ ((K5.below c3).a 1 rfl) ((K5.below c3).a 2 rfl) hnm (fun _ _ _ => rfl)).mono ?_
    rintro ee x4 ⟨rfl, hx4⟩
    have c4 := below_call c3 c3.size hx4
    refine hK.out _ _ (KS.out _ c4) (fun hHeld => ?_)
    clear hK K'
    try simp only [Act.put, List.setIfInBounds_toArray, List.set_cons_zero, List.set_cons_succ]
    refine wpAnyH_take (i := 22) (oi := _) (v := ?_) (by simp only [List.getElem?_toArray, List.getElem?_cons_zero, List.getElem?_cons_succ]; exact rfl) (by kernel_rfl) (by kernel_rfl) (by kernel_rfl) (by exact fun _ _ _ h => h) (Or.inl ⟨by rfl, ?_⟩) (by assumption) ?_
    rotate_left 1
    · intro w hSw
      (try dsimp only at hSw)
      go_simp
      try with_reducible rfl
    try simp only [Act.put, List.setIfInBounds_toArray, List.set_cons_zero, List.set_cons_succ]
    refine wpAnyH_take (i := 23) (oi := _) (v := ?_) (by simp only [List.getElem?_toArray, List.getElem?_cons_zero, List.getElem?_cons_succ]; exact rfl) (by kernel_rfl) (by kernel_rfl) (by kernel_rfl) (by exact fun _ _ _ h => h) (Or.inl ⟨by rfl, ?_⟩) (by assumption) ?_
    rotate_left 1
    · intro w hSw
      (try dsimp only at hSw)
      go_simp
      try with_reducible rfl
    try simp only [Act.put, List.setIfInBounds_toArray, List.set_cons_zero, List.set_cons_succ]
    refine wpAnyH_ready (rs := [24]) (by kernel_rfl) (by simp) ?_
    refine (AllReadyH.cons (o := _) (by simp only [List.getElem?_toArray, List.getElem?_cons_zero, List.getElem?_cons_succ]; exact rfl) (fun K' hK => ?_) AllReadyH.nil)
    go_simp
    refine (awake1_any _).mono ?_
    rintro ee x5 ⟨rfl, hx5⟩
    have c5 := below_call c4 c4.size hx5
    refine hK.out _ _ (KS.out _ c5) (fun hHeld => ?_)
    clear hK K'
    try simp only [Act.put, List.setIfInBounds_toArray, List.set_cons_zero, List.set_cons_succ]
    refine wpAnyH_take (i := 25) (oi := _) (v := ?_) (by simp only [List.getElem?_toArray, List.getElem?_cons_zero, List.getElem?_cons_succ]; exact rfl) (by kernel_rfl) (by kernel_rfl) (by kernel_rfl) (by exact fun _ _ _ h => h) (Or.inl ⟨by rfl, ?_⟩) (by assumption) ?_
    rotate_left 1
    · intro w hSw
      (try dsimp only at hSw)
      go_simp
      try with_reducible rfl
    try simp only [Act.put, List.setIfInBounds_toArray, List.set_cons_zero, List.set_cons_succ]
    refine wpAnyH_take (i := 26) (oi := _) (v := ?_) (by simp only [List.getElem?_toArray, List.getElem?_cons_zero, List.getElem?_cons_succ]; exact rfl) (by kernel_rfl) (by kernel_rfl) (by kernel_rfl) (by exact fun _ _ _ h => h) (Or.inl ⟨by rfl, ?_⟩) (by assumption) ?_
    rotate_left 1
    · intro w hSw
      (try dsimp only at hSw)
      go_simp
      try with_reducible rfl
    try simp only [Act.put, List.setIfInBounds_toArray, List.set_cons_zero, List.set_cons_succ]
    refine wpAnyH_done (by kernel_rfl) ?_ _
    go_wp2_with fail
    go_ret
    exact ⟨rfl, below_call b5 b5.size c5⟩
  · have C1 := Lib.hid fun A' c' w' h' => comps_bad W H e A' n c' p w' h' hnm h0
    have C2 := Lib.hid fun A' c' w' h' => desp_bad W H least A' n c' p w' h' hnm h0
    obtain ⟨E, hE⟩ : ∃ E, chk W H n p = E := ⟨_, rfl⟩
    rw [hE] at C1 C2 C4 h0
    have hz : (E != 0) = true := by simp [h0]
    clear hn hc hB hA hE h0
    go_enter Tryd.func4, Tryd.ntmps4
    go_wp2_with fail
    generalize w.alloc (.cells #[.int .i64 W, .int .i64 H, .slice A n c] 24) = w1 at *
    refine (CG.out _ (K0.a 0 rfl)).mono ?_
    rintro e v1 ⟨_, rfl, ⟨_, rfl, Aa, ca, rfl, hca, hna, hga, aa⟩, hb1⟩
    have K1a := (K0.below hb1).addA aa
    have b1a := below_call b0 b0.size hb1
    have z1 := b1a.size
    have b1 : Below w.heap.size w (v1.alloc (.cells #[.int .i64 W, .int .i64 H, .slice Aa n ca] 24)) := by (repeat (first | exact Below.refl _ _ | assumption | refine Below.drew ?_ | refine below_drewN ?_ _ | refine Below.alloc ?_ (by first | omega | (simp; done) | (simp; omega)) _ | refine Below.setCell ?_ (by first | omega | (simp; done) | (simp; omega)) _ | refine below_setRow ?_ (by first | omega | (simp; done) | (simp; omega)) _ ))
    have K1 := K1a.new 24 #[.int .i64 W, .int .i64 H, .slice Aa n ca]
    clear K0 b0 K1a b1a hb1 aa hga  z1 CG hca hna
    obtain ⟨p1, p2, p3⟩ := (K1.b 0 rfl).cells3
    go_wp2_with fail
    generalize v1.alloc (.cells #[.int .i64 W, .int .i64 H, .slice Aa n ca] 24) = w1 at *
    refine (C1.out _ _ _ (K1.a 0 rfl)).mono ?_
    rintro e v2 ⟨rfl, hb2⟩
    have K2 := K1.below hb2
    have b2 := below_call b1 b1.size hb2
    clear K1 b1 hb2 p1 p2 p3 C1
    obtain ⟨p1, p2, p3⟩ := (K2.b 0 rfl).cells3
    go_wp2_with fail
    refine (C2.out _ _ _ (K2.a 0 rfl)).mono ?_
    rintro e v3 ⟨_, rfl, ⟨Ax, cx, rfl, hgx, ax⟩, hb3⟩
    have K3a := (K2.below hb3).addA ax
    have b3a := below_call b2 b2.size hb3
    have z3 := b3a.size
    have b3 : Below w.heap.size w (v3.alloc (.cells #[.int .i64 0, .int .i64 0, .slice Ax 0 cx] 24)) := by (repeat (first | exact Below.refl _ _ | assumption | refine Below.drew ?_ | refine below_drewN ?_ _ | refine Below.alloc ?_ (by first | omega | (simp; done) | (simp; omega)) _ | refine Below.setCell ?_ (by first | omega | (simp; done) | (simp; omega)) _ | refine below_setRow ?_ (by first | omega | (simp; done) | (simp; omega)) _ ))
    have K3 := K3a.new 24 #[.int .i64 0, .int .i64 0, .slice Ax 0 cx]
    clear K2 b2 K3a b3a hb3 ax hgx p1 p2 p3 z3 C2
    obtain ⟨p1, p2, p3⟩ := (K3.b 2 rfl).cells3
    obtain ⟨r1, r2, r3⟩ := (K3.b 0 rfl).cells3
    go_wp2_with fail
    generalize v3.alloc (.cells #[.int .i64 0, .int .i64 0, .slice Ax 0 cx] 24) = w3 at *
    refine (C4.out _ (K3.a 2 rfl)).mono ?_
    rintro e v4 ⟨rfl, hb4⟩
    have K4 := K3.below hb4
    have b4 := below_call b3 b3.size hb4
    clear K3 b3 hb4 p1 p2 p3 r1 r2 r3 C4
    obtain ⟨p1, p2, p3⟩ := (K4.b 1 rfl).cells3
    obtain ⟨r1, r2, r3⟩ := (K4.b 2 rfl).cells3
    obtain ⟨s1, s2, s3⟩ := (K4.b 0 rfl).cells3
    go_wp2_with fail
    refine (sameInk_true W H Aa A n ca c p p _ (K4.a 1 rfl) (K4.a 2 rfl) hnm (fun _ _ _ => rfl)).mono ?_
    rintro e v5 ⟨rfl, hb5⟩
    have K5 := K4.below hb5
    have b5 := below_call b4 b4.size hb5
    clear K4 b4 hb5 p1 p2 p3 r1 r2 r3 s1 s2 s3 
    go_wp2_with fail
    refine (awake1_any _).mono ?_
    rintro e v6 ⟨rfl, hb6⟩
    have b6 := below_call b5 b5.size hb6
    go_wp2
    go_ret
    exact ⟨rfl, b6⟩
end Go.Proofs.YtoonkpjddfiopaaDoor
