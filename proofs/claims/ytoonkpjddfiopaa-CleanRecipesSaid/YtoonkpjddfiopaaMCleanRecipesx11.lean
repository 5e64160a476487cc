/- Texts of mine in build order: I9, K5, K6, Open, Open4. Conditions: each theorem's own. -/
import Derived.Test.YtoonkpjddfiopaaMCleanRecipesx10
import Derived.Test.YtoonkpjddfiopaaRows
import Derived.ProofKit
import Derived.OpenShut
import Derived.ShutString
import Derived.ChangeOld
import Derived.Lib.SmallJoins
/- Walk: the reference's Despeckle. Written by gen/i9.py. -/
namespace Go.Proofs.Ytoonkpjddfiopaa
open Go.RowKit Go.Shelf
set_option linter.unusedVariables false
attribute [local go_sem] Oper.semAt_some
set_option maxRecDepth 100000 in
set_option maxHeartbeats 8000000 in
theorem rdesp_any (W H : Nat) (least : Int) (A : Option Addr) (n c : Nat) (p : Int → Int) (w : World) (hA : ArrB w w.heap.size A n p) (hB : IsB p) (hW : W ≤ 640) (hH : H ≤ 640) (hn : n = W * H) (hp : ∀ i : Int, 0 ≤ i → i < n → p i = 0 ∨ p i = 1) :
    Calls Try.prog 29 #[.agg #[.int .i64 W, .int .i64 H, .slice A n c], .int .i64 least] w (New w fun v w' => OutN w w' W H n (bgQ n W p least) v) := by
  have hnI : (n : Int) = (W : Int) * H := by rw [hn]; push_cast; rfl
  have hn9 : n ≤ 409600 := by rw [hn]; exact Nat.mul_le_mul hW hH
  have CO := Lib.hid fun w' hA' => rcomps_any W H true A n c p w' hA' hB hW hH hn hp
  have NW := Lib.hid fun w' => rnew_any W H n w' (by omega) (by omega) (by omega) (by omega) hnI
  have HN := Lib.hid hn
  have HNI := Lib.hid hnI
  have HA := Lib.hid hA
  clear hn hnI hp hB hA
  have b1 : Below w.heap.size w ((w.alloc (.cells #[.int .i64 W, .int .i64 H, .slice A n c] 29)).alloc (.cells #[.int .i64 0, .int .i64 0, .slice none 0 0] 29)) := by (repeat (first | exact Below.refl _ _ | assumption | refine Below.drew ?_ | refine below_drewN ?_ _ | refine Below.alloc ?_ (by first | omega | (simp; done) | (simp; omega)) _ | refine Below.setCell ?_ (by first | omega | (simp; done) | (simp; omega)) _ | refine below_setRow ?_ (by first | omega | (simp; done) | (simp; omega)) _ ))
  have k1 : Blk ((w.alloc (.cells #[.int .i64 W, .int .i64 H, .slice A n c] 29)).alloc (.cells #[.int .i64 0, .int .i64 0, .slice none 0 0] 29)) w.heap.size 29 #[.int .i64 W, .int .i64 H, .slice A n c] := (Blk.new _ _ _).alloc _
  have k2 : Blk ((w.alloc (.cells #[.int .i64 W, .int .i64 H, .slice A n c] 29)).alloc (.cells #[.int .i64 0, .int .i64 0, .slice none 0 0] 29)) (w.heap.size + 1) 29 #[.int .i64 0, .int .i64 0, .slice none 0 0] := Blk.new' (by simp) _ _
  go_enter Try.func29, Try.ntmps29
  go_wp2_with fail
  generalize (w.alloc (.cells #[.int .i64 W, .int .i64 H, .slice A n c] 29)).alloc (.cells #[.int .i64 0, .int .i64 0, .slice none 0 0] 29) = w1 at *
  refine (NW.out w1).mono ?_
  rintro e w2 ⟨_, rfl, ⟨g, rfl, hg, kg⟩, hb2⟩
  have b2 := below_call b1 b1.size hb2
  have zk2 := k2.lt
  replace k1 := (k1.below' hb2).alloc (.cells #[.int .i64 W, .int .i64 H, .slice (some ⟨g, 0, none⟩) n n] 29)
  replace k2 := (k2.below' hb2).alloc (.cells #[.int .i64 W, .int .i64 H, .slice (some ⟨g, 0, none⟩) n n] 29)
  have zg := kg.lt
  have kx := Blk.new w2 29 #[.int .i64 W, .int .i64 H, .slice (some ⟨g, 0, none⟩) n n]
  have kp := kg.alloc (.cells #[.int .i64 W, .int .i64 H, .slice (some ⟨g, 0, none⟩) n n] 29)
  have b3 := b2.alloc b2.size (.cells #[.int .i64 W, .int .i64 H, .slice (some ⟨g, 0, none⟩) n n] 29)
  obtain ⟨gx, hgx⟩ : ∃ gx, w2.heap.size = gx := ⟨_, rfl⟩
  have zs := hb2.size
  rw [hgx] at kx zg zs
  go_upto_region 2 with fail
  generalize w2.alloc (.cells #[.int .i64 W, .int .i64 H, .slice (some ⟨g, 0, none⟩) n n] 29) = w3 at *
  clear kg b2 b1 hb2 hgx NW
  obtain ⟨p1, p2, p3⟩ := k1.cells3
  go_wp2_with fail
  refine (CO.out w3 (HA.out.to b3)).mono ?_
  rintro e w4 ⟨vo, rfl, hC, hb4⟩
  have b4 := below_call b3 b3.size hb4
  replace k2 := k2.below' hb4
  replace kx := kx.below' hb4
  replace kp := kp.below' hb4
  obtain ⟨L, hc1, hc2, hc3⟩ := hC
  have HC1 := Lib.hid hc1
  have HC3 := Lib.hid hc3
  obtain ⟨AL, cL, rfl, hcL⟩ := hc2.val
  have HC2 := Lib.hid hc2
  clear b3 hb4 CO hc1 hc2 hc3 k1 p1 p2 p3 HA
  obtain ⟨K, hK⟩ : ∃ K, L.length = K := ⟨_, rfl⟩
  have HK := Lib.hid hK
  rw [hK] at hcL
  rw [hK]
  have hKn : K ≤ 409600 := by
    have := congrArg List.length HC1.out
    rw [List.length_map, hK] at this
    have := rootK_len n (InkN n p) (AdjN W true)
    omega
  clear hK
  obtain ⟨B4, hB4⟩ : ∃ g, w4.heap.size = g := ⟨_, rfl⟩
  have HB4 := Lib.hid hB4
  have zB1 : gx < B4 := by rw [← hB4]; exact kx.lt
  have F0 := Lib.hid (show FillI n (fun _ => 0) (DoneN n (InkN n p) (AdjN W true) least (rootN n (InkN n p) (AdjN W true)) 0) from fun i hi => ⟨⟨fun h => absurd (show (0 : Int) = 1 from h) (by decide), fun h => by
    obtain ⟨s, r, h, -⟩ := h
    omega⟩, .inl rfl⟩)
  have KP4 := Lib.hid kp
  have KX := Lib.hid kx
  have K2 := Lib.hid k2
  clear hB4 k2 kx
  go_wp2_with fail
  go_loopw [7] (fun s wr => ∃ (t : Nat) (q : Int → Int), t ≤ K ∧ s = .int .i64 t ∧ Hid (FillI n q (DoneN n (InkN n p) (AdjN W true) least (rootN n (InkN n p) (AdjN W true)) t)) ∧ But B4 g w4 wr ∧ Blk wr g 5 (u8s n q)) (fun s _ => K - (intOf s).toNat)
  case atStart => exact ⟨0, _, by omega, rfl, F0, But.refl _ (by rw [HB4.out]; exact Nat.le_refl _), kp⟩
  case round =>
    obtain ⟨t, q, ht, rfl, HF, bu, mp⟩ := hrel
    clear kp
    by_cases tl : (t : Int) < K
    · obtain ⟨⟨r, ⟨c1, c2, c3, c4⟩, v⟩, hLt⟩ : ∃ y, L[t]? = some y := ⟨L[t]'(by rw [HK.out]; omega), List.getElem?_eq_getElem _⟩
      have hne : L ≠ [] := fun e => by rw [e] at hLt; simp at hLt
      have hER : ERow w4 w3.heap.size 97 2 (encP W) v (partN n (InkN n p) (AdjN W true) r) := (HC3.out _ (List.mem_of_getElem? hLt)).2
      have hroot : (rootN n (InkN n p) (AdjN W true))[t]? = some r := by
        have h9 := HC1.out
        rw [rootK_n] at h9
        rw [← h9, List.getElem?_map, hLt]; rfl
      have HRT := Lib.hid hroot
      obtain ⟨part, hpart⟩ : ∃ l, partN n (InkN n p) (AdjN W true) r = l := ⟨_, rfl⟩
      have HPT := Lib.hid hpart
      rw [hpart] at hER
      have hplt : ∀ x ∈ part, x < n := fun x hx => by rw [← hpart] at hx; exact (mem_partN.1 hx).1
      obtain ⟨AP, cP, rfl, hcP⟩ := hER.val
      have HER := Lib.hid hER
      obtain ⟨P, hP⟩ : ∃ P, part.length = P := ⟨_, rfl⟩
      have HPL := Lib.hid hP
      rw [hP] at hLt hcP
      have HLT := Lib.hid hLt
      have hPn : P ≤ 409600 := by
        rw [← hP, ← hpart]
        exact Nat.le_trans partK_len hn9
      have hAL : ∃ gL, AL = some ⟨gL, 0, none⟩ := by
        obtain ⟨gL, cL', cs, ev, -⟩ := HC2.out.blk hne
        cases ev; exact ⟨gL, rfl⟩
      obtain ⟨gL, rfl⟩ := hAL
      have KLC := Lib.hid fun wr (bu : But B4 g w4 wr) => (show gL < wr.heap.size ∧ wr.cell? ⟨gL, t * 5 + 4, none⟩ = some (.slice AP P cP) from by
        obtain ⟨gL', cL', cs, ev, -, -, kL, -, -, htL⟩ := (HC2.out.but bu HB4.out KP4.out (by decide)).blk hne
        cases ev
        exact ⟨kL.lt, ERow.cell encC_len kL htL HLT.out (t := 4) (by omega)⟩)
      clear hroot hpart hER hP hLt
      have FS := Lib.hid (HF.out.conv (D' := fun i => DoneN n (InkN n p) (AdjN W true) least (rootN n (InkN n p) (AdjN W true)) t i ∨ i ∈ part.take 0) fun i => by simp)
      clear HF
      go_wp2_with fail
      go_loopw [8] (fun s wr => ∃ (u : Nat) (q : Int → Int), u ≤ P ∧ (¬ least ≤ (P : Int) → u = 0) ∧ s = .int .i64 u ∧ Hid (FillI n q (fun i => DoneN n (InkN n p) (AdjN W true) least (rootN n (InkN n p) (AdjN W true)) t i ∨ i ∈ part.take u)) ∧ But B4 g w4 wr ∧ Blk wr g 5 (u8s n q)) (fun s _ => P - (intOf s).toNat)
      case atStart => exact ⟨0, q, by omega, fun _ => rfl, rfl, FS, bu, mp⟩
      case round =>
        obtain ⟨u, q2, hu, hul, rfl, HF2, bu3, mp3⟩ := hrel
        clear bu mp FS
        obtain ⟨zL, cellL⟩ := KLC.out wr bu3
        by_cases ul : (u : Int) < P
        · by_cases hle : least ≤ (P : Int)
          · have mx := KX.out.but bu3 zB1 (by omega)
            obtain ⟨p1, p2, p3⟩ := mx.cells3
            obtain ⟨x, hx⟩ : ∃ x, part[u]? = some x := ⟨part[u]'(by rw [HPL.out]; omega), List.getElem?_eq_getElem _⟩
            have hpne : part ≠ [] := fun e => by rw [e] at hx; simp at hx
            have hE3 := HER.out.but bu3 HB4.out KP4.out (by decide)
            obtain ⟨gP, cP', cs, ev, -, -, kP, -, -, htP⟩ := hE3.blk hpne
            have eA : AP = some ⟨gP, 0, none⟩ := by cases ev; rfl
            subst eA
            have e0 := ERow.cell (encP_len W) kP htP hx (t := 0) (by omega)
            have e1 := ERow.cell (encP_len W) kP htP hx (t := 1) (by omega)
            change _ = some (Value.int .i64 ((x % W : Nat) : Int)) at e0
            change _ = some (Value.int .i64 ((x / W : Nat) : Int)) at e1
            rw [Nat.add_zero] at e0
            have hxn := hplt x (List.mem_of_getElem? hx)
            have hW0 : 0 < W := by
              rcases Nat.eq_zero_or_pos W with h | h
              · have := HN.out; rw [h, Nat.zero_mul] at this; omega
              · exact h
            obtain ⟨X, hX⟩ : ∃ X : Int, ((x % W : Nat) : Int) = X := ⟨_, rfl⟩
            obtain ⟨Y, hY⟩ : ∃ Y : Int, ((x / W : Nat) : Int) = Y := ⟨_, rfl⟩
            have X0 : 0 ≤ X := by rw [← hX]; exact Int.natCast_nonneg _
            have X1 : X < W := by rw [← hX]; exact Int.ofNat_lt.2 (Nat.mod_lt _ hW0)
            have Y0 : 0 ≤ Y := by rw [← hY]; exact Int.natCast_nonneg _
            have Y1 : Y < H := by rw [← hY]; exact Int.ofNat_lt.2 (Nat.div_lt_of_lt_mul (HN.out ▸ hxn))
            have hxy : Y * W + X = (x : Int) := by
              rw [← hX, ← hY]
              have := Nat.div_add_mod x W
              rw [Nat.mul_comm] at this
              have h9 : ((x / W * W + x % W : Nat) : Int) = (x : Int) := by rw [this]
              push_cast at h9 ⊢
              exact h9
            rw [hX] at e0
            rw [hY] at e1
            have HXY := Lib.hid hxy
            have HXT := Lib.hid (show part.take (u + 1) = part.take u ++ [x] by rw [List.take_add_one, hx]; rfl)
            have zP := kP.lt
            have KS := Lib.hid fun (w' : World) (hh : ∀ j, j < wr.heap.size → j ≠ g → w'.heap[j]? = wr.heap[j]?) => (show (w'.cell? ⟨gx, 0, none⟩ = some (.int .i64 W) ∧ w'.cell? ⟨gx, 1, none⟩ = some (.int .i64 H) ∧ w'.cell? ⟨gx, 2, none⟩ = some (.slice (some ⟨g, 0, none⟩) n n)) ∧ w'.cell? ⟨gL, t * 5 + 4, none⟩ = some (.slice (some ⟨gP, 0, none⟩) P cP) ∧ w'.cell? ⟨gP, u * 2, none⟩ = some (.int .i64 X) ∧ w'.cell? ⟨gP, u * 2 + 1, none⟩ = some (.int .i64 Y) from by
              have nL : gL ≠ g := fun e9 => by
                have h1 := cellL
                rw [e9, mp3.cell] at h1
                have h2 := (Array.getElem?_eq_some_iff.1 h1)
                obtain ⟨h3, h4⟩ := h2
                simp [u8s, cellsF] at h4
              have nP : gP ≠ g := fun e9 => by
                have h1 := e0
                rw [e9, mp3.cell] at h1
                obtain ⟨h3, h4⟩ := (Array.getElem?_eq_some_iff.1 h1)
                simp [u8s, cellsF] at h4
              exact ⟨⟨(World.cell?_of_block (hh gx mx.lt (by omega))).trans p1, (World.cell?_of_block (hh gx mx.lt (by omega))).trans p2, (World.cell?_of_block (hh gx mx.lt (by omega))).trans p3⟩, (World.cell?_of_block (hh gL zL nL)).trans cellL, (World.cell?_of_block (hh gP zP nP)).trans e0, (World.cell?_of_block (hh gP zP nP)).trans e1⟩)
            clear hX hY hE3 ev kP htP hpne hx hxn hxy
            go_upto_region 9 with fail
            refine wp_region_held_drew (S := fun w' => (w'.cell? ⟨gx, 0, none⟩ = some (.int .i64 W) ∧ w'.cell? ⟨gx, 1, none⟩ = some (.int .i64 H) ∧ w'.cell? ⟨gx, 2, none⟩ = some (.slice (some ⟨g, 0, none⟩) n n)) ∧ w'.cell? ⟨gL, t * 5 + 4, none⟩ = some (.slice (some ⟨gP, 0, none⟩) P cP) ∧ w'.cell? ⟨gP, u * 2, none⟩ = some (.int .i64 X) ∧ w'.cell? ⟨gP, u * 2 + 1, none⟩ = some (.int .i64 Y)) (by kernel_rfl) (KS.out _ fun _ _ _ => rfl) (fun hHeld => ?_)
            refine wpAnyH_take (i := 0) (oi := _) (v := ?_) (by simp only [List.getElem?_toArray, List.getElem?_cons_zero]; exact rfl) (by kernel_rfl) (by kernel_rfl) (by kernel_rfl) (by exact fun _ _ _ h => h) (Or.inl ⟨by rfl, ?_⟩) (by assumption) ?_
            rotate_left 1
            · intro w hSw
              (try dsimp only at hSw)
              go_simp
              try with_reducible rfl
            try simp only [Act.put, List.setIfInBounds_toArray, List.set_cons_zero, List.set_cons_succ]
            refine wpAnyH_take (i := 1) (oi := _) (v := ?_) (by simp only [List.getElem?_toArray, List.getElem?_cons_zero, List.getElem?_cons_succ]; exact rfl) (by kernel_rfl) (by kernel_rfl) (by kernel_rfl) (by exact fun _ _ _ h => h) (Or.inl ⟨by rfl, ?_⟩) (by assumption) ?_
            rotate_left 1
            · intro w hSw
              (try dsimp only at hSw)
              go_simp
              try with_reducible rfl
            try simp only [Act.put, List.setIfInBounds_toArray, List.set_cons_zero, List.set_cons_succ]
            refine wpAnyH_take (i := 2) (oi := _) (v := ?_) (by simp only [List.getElem?_toArray, List.getElem?_cons_zero, List.getElem?_cons_succ]; exact rfl) (by kernel_rfl) (by kernel_rfl) (by kernel_rfl) (by exact fun _ _ _ h => h) (Or.inl ⟨by rfl, ?_⟩) (by assumption) ?_
            rotate_left 1
            · intro w hSw
              (try dsimp only at hSw)
              go_simp
              try with_reducible rfl
            try simp only [Act.put, List.setIfInBounds_toArray, List.set_cons_zero, List.set_cons_succ]
            refine wpAnyH_take (i := 3) (oi := _) (v := ?_) (by simp only [List.getElem?_toArray, List.getElem?_cons_zero, List.getElem?_cons_succ]; exact rfl) (by kernel_rfl) (by kernel_rfl) (by kernel_rfl) (by exact fun _ _ _ h => h) (Or.inl ⟨by rfl, ?_⟩) (by assumption) ?_
            rotate_left 1
            · intro w hSw
              (try dsimp only at hSw)
              go_simp
              try with_reducible rfl
            try simp only [Act.put, List.setIfInBounds_toArray, List.set_cons_zero, List.set_cons_succ]
            refine wpAnyH_take (i := 4) (oi := _) (v := ?_) (by simp only [List.getElem?_toArray, List.getElem?_cons_zero, List.getElem?_cons_succ]; exact rfl) (by kernel_rfl) (by kernel_rfl) (by kernel_rfl) (by exact fun _ _ _ h => h) (Or.inl ⟨by rfl, ?_⟩) (by assumption) ?_
            rotate_left 1
            · intro w hSw
              (try dsimp only at hSw)
              go_simp
              try with_reducible rfl
            try simp only [Act.put, List.setIfInBounds_toArray, List.set_cons_zero, List.set_cons_succ]
            refine wpAnyH_take (i := 5) (oi := _) (v := ?_) (by simp only [List.getElem?_toArray, List.getElem?_cons_zero, List.getElem?_cons_succ]; exact rfl) (by kernel_rfl) (by kernel_rfl) (by kernel_rfl) (by exact fun _ _ _ h => h) (Or.inl ⟨by rfl, ?_⟩) (by assumption) ?_
            rotate_left 1
            · intro w hSw
              (try dsimp only at hSw)
              go_simp
              try with_reducible rfl
            try simp only [Act.put, List.setIfInBounds_toArray, List.set_cons_zero, List.set_cons_succ]
            refine wpAnyH_take (i := 6) (oi := _) (v := ?_) (by simp only [List.getElem?_toArray, List.getElem?_cons_zero, List.getElem?_cons_succ]; exact rfl) (by kernel_rfl) (by kernel_rfl) (by kernel_rfl) (by exact fun _ _ _ h => h) (Or.inl ⟨by rfl, ?_⟩) (by assumption) ?_
            rotate_left 1
            · intro w hSw
              (try dsimp only at hSw)
              go_simp
              try with_reducible rfl
            try simp only [Act.put, List.setIfInBounds_toArray, List.set_cons_zero, List.set_cons_succ]
            refine wpAnyH_take (i := 7) (oi := _) (v := ?_) (by simp only [List.getElem?_toArray, List.getElem?_cons_zero, List.getElem?_cons_succ]; exact rfl) (by kernel_rfl) (by kernel_rfl) (by kernel_rfl) (by exact fun _ _ _ h => h) (Or.inl ⟨by rfl, ?_⟩) (by assumption) ?_
            rotate_left 1
            · intro w hSw
              (try dsimp only at hSw)
              go_simp
              try with_reducible rfl
            try simp only [Act.put, List.setIfInBounds_toArray, List.set_cons_zero, List.set_cons_succ]
            refine wpAnyH_take (i := 8) (oi := _) (v := ?_) (by simp only [List.getElem?_toArray, List.getElem?_cons_zero, List.getElem?_cons_succ]; exact rfl) (by kernel_rfl) (by kernel_rfl) (by kernel_rfl) (by exact fun _ _ _ h => h) (Or.inl ⟨by rfl, ?_⟩) (by assumption) ?_
            rotate_left 1
            · intro w hSw
              (try dsimp only at hSw)
              go_simp
              try with_reducible rfl
            try simp only [Act.put, List.setIfInBounds_toArray, List.set_cons_zero, List.set_cons_succ]
            refine wpAnyH_take (i := 9) (oi := _) (v := ?_) (by simp only [List.getElem?_toArray, List.getElem?_cons_zero, List.getElem?_cons_succ]; exact rfl) (by kernel_rfl) (by kernel_rfl) (by kernel_rfl) (by exact fun _ _ _ h => h) (Or.inl ⟨by rfl, ?_⟩) (by assumption) ?_
            rotate_left 1
            · intro w hSw
              (try dsimp only at hSw)
              go_simp
              try with_reducible rfl
            try simp only [Act.put, List.setIfInBounds_toArray, List.set_cons_zero, List.set_cons_succ]
            refine wpAnyH_take (i := 10) (oi := _) (v := ?_) (by simp only [List.getElem?_toArray, List.getElem?_cons_zero, List.getElem?_cons_succ]; exact rfl) (by kernel_rfl) (by kernel_rfl) (by kernel_rfl) (by exact fun _ _ _ h => h) (Or.inl ⟨by rfl, ?_⟩) (by assumption) ?_
            rotate_left 1
            · intro w hSw
              (try dsimp only at hSw)
              go_simp
              try with_reducible rfl
            try simp only [Act.put, List.setIfInBounds_toArray, List.set_cons_zero, List.set_cons_succ]
            refine wpAnyH_take (i := 11) (oi := _) (v := ?_) (by simp only [List.getElem?_toArray, List.getElem?_cons_zero, List.getElem?_cons_succ]; exact rfl) (by kernel_rfl) (by kernel_rfl) (by kernel_rfl) (by exact fun _ _ _ h => h) (Or.inl ⟨by rfl, ?_⟩) (by assumption) ?_
            rotate_left 1
            · intro w hSw
              (try dsimp only at hSw)
              go_simp
              try with_reducible rfl
            try simp only [Act.put, List.setIfInBounds_toArray, List.set_cons_zero, List.set_cons_succ]
            refine wpAnyH_take (i := 12) (oi := _) (v := ?_) (by simp only [List.getElem?_toArray, List.getElem?_cons_zero, List.getElem?_cons_succ]; exact rfl) (by kernel_rfl) (by kernel_rfl) (by kernel_rfl) (by exact fun _ _ _ h => h) (Or.inl ⟨by rfl, ?_⟩) (by assumption) ?_
            rotate_left 1
            · intro w hSw
              (try dsimp only at hSw)
              go_simp
              try with_reducible rfl
            try simp only [Act.put, List.setIfInBounds_toArray, List.set_cons_zero, List.set_cons_succ]
            refine wpAnyH_take (i := 13) (oi := _) (v := ?_) (by simp only [List.getElem?_toArray, List.getElem?_cons_zero, List.getElem?_cons_succ]; exact rfl) (by kernel_rfl) (by kernel_rfl) (by kernel_rfl) (by exact fun _ _ _ h => h) (Or.inl ⟨by rfl, ?_⟩) (by assumption) ?_
            rotate_left 1
            · intro w hSw
              (try dsimp only at hSw)
              go_simp
              try with_reducible rfl
            try simp only [Act.put, List.setIfInBounds_toArray, List.set_cons_zero, List.set_cons_succ]
            refine wpAnyH_take (i := 14) (oi := _) (v := ?_) (by simp only [List.getElem?_toArray, List.getElem?_cons_zero, List.getElem?_cons_succ]; exact rfl) (by kernel_rfl) (by kernel_rfl) (by kernel_rfl) (by exact fun _ _ _ h => h) (Or.inl ⟨by rfl, ?_⟩) (by assumption) ?_
            rotate_left 1
            · intro w hSw
              (try dsimp only at hSw)
              go_simp
              try with_reducible rfl
            try simp only [Act.put, List.setIfInBounds_toArray, List.set_cons_zero, List.set_cons_succ]
            refine wpAnyH_take (i := 15) (oi := _) (v := ?_) (by simp only [List.getElem?_toArray, List.getElem?_cons_zero, List.getElem?_cons_succ]; exact rfl) (by kernel_rfl) (by kernel_rfl) (by kernel_rfl) (by exact fun _ _ _ h => h) (Or.inl ⟨by rfl, ?_⟩) (by assumption) ?_
            rotate_left 1
            · intro w hSw
              (try dsimp only at hSw)
              go_simp
              try with_reducible rfl
            try simp only [Act.put, List.setIfInBounds_toArray, List.set_cons_zero, List.set_cons_succ]
            refine wpAnyH_take (i := 16) (oi := _) (v := ?_) (by simp only [List.getElem?_toArray, List.getElem?_cons_zero, List.getElem?_cons_succ]; exact rfl) (by kernel_rfl) (by kernel_rfl) (by kernel_rfl) (by exact fun _ _ _ h => h) (Or.inl ⟨by rfl, ?_⟩) (by assumption) ?_
            rotate_left 1
            · intro w hSw
              (try dsimp only at hSw)
              go_simp
              try with_reducible rfl
            try simp only [Act.put, List.setIfInBounds_toArray, List.set_cons_zero, List.set_cons_succ]
            refine wpAnyH_take (i := 17) (oi := _) (v := ?_) (by simp only [List.getElem?_toArray, List.getElem?_cons_zero, List.getElem?_cons_succ]; exact rfl) (by kernel_rfl) (by kernel_rfl) (by kernel_rfl) (by exact fun _ _ _ h => h) (Or.inl ⟨by rfl, ?_⟩) (by assumption) ?_
            rotate_left 1
            · intro w hSw
              (try dsimp only at hSw)
              go_simp
              try with_reducible rfl
            try simp only [Act.put, List.setIfInBounds_toArray, List.set_cons_zero, List.set_cons_succ]
            refine wpAnyH_take (i := 18) (oi := _) (v := ?_) (by simp only [List.getElem?_toArray, List.getElem?_cons_zero, List.getElem?_cons_succ]; exact rfl) (by kernel_rfl) (by kernel_rfl) (by kernel_rfl) (by exact fun _ _ _ h => h) (Or.inl ⟨by rfl, ?_⟩) (by assumption) ?_
            rotate_left 1
            · intro w hSw
              (try dsimp only at hSw)
              go_simp
              try with_reducible rfl
            try simp only [Act.put, List.setIfInBounds_toArray, List.set_cons_zero, List.set_cons_succ]
            refine wpAnyH_ready (rs := [19]) (by kernel_rfl) (by simp) ?_
            refine AllReadyH.cons (o := _) (by simp only [List.getElem?_toArray, List.getElem?_cons_zero, List.getElem?_cons_succ]; exact rfl) (fun K' hK => ?_) AllReadyH.nil
            go_simp
            refine (rset_any W H g n n 5 q2 X Y wr.drew mp3.drew X0 X1 Y0 Y1 (by omega) (by omega) HNI.out).mono ?_
            rintro e w7 ⟨rfl, hk7, hg7⟩
            rw [HXY.out] at hk7
            have hg8 : wr.grownBy w7 (some g) := ⟨hg7.os, hg7.tape, hg7.output, hg7.size, hg7.block⟩
            refine hK.out _ _ (KS.out _ fun j hj hn => hg7.block j hj (fun e9 => hn (by cases e9; rfl))) (fun hHeld => ?_)
            clear hK K'
            try simp only [Act.put, List.setIfInBounds_toArray, List.set_cons_zero, List.set_cons_succ]
            refine wpAnyH_done (by kernel_rfl) ?_ _
            have mp6 := hk7
            have hg6 := hg8
            generalize w7 = w6 at *
            have bu6 : But B4 g w4 w6 := ⟨hg6.os.trans bu3.os, hg6.tape.trans bu3.tape, hg6.output.trans bu3.output, Nat.le_trans bu3.size hg6.size, fun j hj hk => (hg6.block j (Nat.lt_of_lt_of_le hj bu3.size) (fun e => hk (by cases e; rfl))).trans (bu3.block j hj hk)⟩
            have FS2 := Lib.hid (HF2.out.set (x := x) (D' := fun i => DoneN n (InkN n p) (AdjN W true) least (rootN n (InkN n p) (AdjN W true)) t i ∨ i ∈ part.take (u + 1)) fun i => by
              rw [HXT.out, List.mem_append, List.mem_singleton, or_assoc])
            clear hg6 hg7 hg8 hk7 KS cellL zL hHeld
            go_wp2_with fail
            go_roundw
            case rel => exact ⟨u + 1, _, by omega, fun h => absurd hle h, by go_num, FS2, bu6, mp6⟩
            case measure => simp [intOf]; omega
          · have hu0 := hul hle
            have FE := Lib.hid (HF2.out.conv (D' := DoneN n (InkN n p) (AdjN W true) least (rootN n (InkN n p) (AdjN W true)) (t + 1)) fun i => by
              rw [done_skip HRT.out (by rw [HPT.out, HPL.out]; exact hle), hu0]; simp)
            have hle' : (P : Int) < least := by omega
            clear hle hul hu0
            go_wp2_with fail
            go_roundw
            case rel => exact ⟨t + 1, q2, by omega, by go_num, FE, bu3, mp3⟩
            case measure => simp [intOf]; omega
        · have eu : u = P := by omega
          have FE := Lib.hid (HF2.out.conv (D' := DoneN n (InkN n p) (AdjN W true) least (rootN n (InkN n p) (AdjN W true)) (t + 1)) fun i => by
            by_cases hle : least ≤ (P : Int)
            · rw [done_take HRT.out (by rw [HPT.out, HPL.out]; exact hle), HPT.out, eu, ← HPL.out, List.take_length]
            · rw [done_skip HRT.out (by rw [HPT.out, HPL.out]; exact hle), hul hle]; simp)
          clear hu hul eu
          go_wp2_with fail
          go_roundw
          case rel => exact ⟨t + 1, q2, by omega, by go_num, FE, bu3, mp3⟩
          case measure => simp [intOf]; omega
    · have et : t = K := by omega
      have m2 := K2.out.but bu (by omega) (by omega)
      have mx := KX.out.but bu zB1 (by omega)
      obtain ⟨x1, x2, x3⟩ := mx.cells3
      obtain ⟨f1, f2, f3⟩ := m2.frozen3
      obtain ⟨y1, y2, y3⟩ := m2.cells3
      have k5 := ((m2.set_ 0 (.int .i64 W)).set_ 1 (.int .i64 H)).set_ 2 (.slice (some ⟨g, 0, none⟩) n n)
      obtain ⟨s1, s2, s3⟩ := Blk.cells3 (a := .int .i64 W) (b := .int .i64 H) (c := .slice (some ⟨g, 0, none⟩) n n) k5
      have bE : Below w.heap.size w wr := b4.trans (bu.to HB4.out (by omega) (by omega))
      have hlen : K = (rootN n (InkN n p) (AdjN W true)).length := by
        have := congrArg List.length HC1.out
        rw [List.length_map, HK.out, rootK_n] at this
        exact this
      have FE := HF.out.conv (D' := bigN n (InkN n p) (AdjN W true) least) fun i => by
        rw [et, hlen, done_all AdjN.symm fun x hx => hx.1]
      have mpE := mp.u8conv fun i i0 i1 => FE.end_ i i0 i1
      clear ht et HF hlen FE
      go_wp2_with fail
      refine bodyPost_ret (v := .agg #[.int .i64 W, .int .i64 H, .slice (some ⟨g, 0, none⟩) n n]) (by simp [results, Try.results29, go_sem, s1, s2, s3]) rfl ?_
      have g1 : g ≠ w.heap.size + 1 := by omega
      refine ⟨_, rfl, OutN.mk (by omega) ?_, by (repeat (first | exact Below.refl _ _ | assumption | refine Below.drew ?_ | refine below_drewN ?_ _ | refine Below.alloc ?_ (by first | omega | (simp; done) | (simp; omega)) _ | refine Below.setCell ?_ (by first | omega | (simp; done) | (simp; omega)) _ | refine below_setRow ?_ (by first | omega | (simp; done) | (simp; omega)) _ ))⟩
      exact Blk.far (Blk.far (Blk.far mpE (p := ⟨w.heap.size + 1, 0, none⟩) g1 (.int .i64 W)) (p := ⟨w.heap.size + 1, 1, none⟩) g1 (.int .i64 H)) (p := ⟨w.heap.size + 1, 2, none⟩) g1 (.slice (some ⟨g, 0, none⟩) n n)
end Go.Proofs.Ytoonkpjddfiopaa

/- Walks: the reference's Apply and Clean. -/
namespace Go.Proofs.Ytoonkpjddfiopaa
open Go.RowKit
set_option linter.unusedVariables false

theorem outT_bad' {w w' : World} {E W H : Int} {N : Nat} {q : Int → Int} (h : W = 0 ∧ H = 0 ∧ N = 0) : OutT w w' E W H N q (.tuple #[noImg, .int .i64 E]) := outM_bad h

set_option maxRecDepth 100000 in
set_option maxHeartbeats 4000000 in
theorem rapply_any (W H r0 r1 r2 : Int) (A : Option Addr) (n c : Nat) (p : Int → Int) (E Wm Hm : Int) (N : Nat) (w : World) (hA : ArrB w w.heap.size A n p) (hn : n ≤ maxLen) (hB : IsB p) (hE : appE W H n p r0 r1 r2 = E) (hs : MSize W H (-grt W r1) E Wm Hm N) :
    Calls Try.prog 8 #[.agg #[.int .i64 W, .int .i64 H, .slice A n c], .agg #[.int .i64 r0, .int .i64 r1, .int .i64 r2]] w (New w fun v w' => OutT w w' E Wm Hm N (appQ W H p r0 r1 r2 N) v) := by
  have CK := Lib.hid fun w' => rcheckGrey_any W H A n c w' hn
  have b1 : Below w.heap.size w (((w.alloc (.cells #[.int .i64 W, .int .i64 H, .slice A n c] 24)).alloc (.cells #[.int .i64 r0, .int .i64 r1, .int .i64 r2] 26)).alloc (.cells #[.int .i64 0, .int .i64 0, .slice none 0 0] 29)) := by (repeat (first | exact Below.refl _ _ | assumption | refine Below.drew ?_ | refine below_drewN ?_ _ | refine Below.alloc ?_ (by first | omega | (simp; done) | (simp; omega)) _ | refine Below.setCell ?_ (by first | omega | (simp; done) | (simp; omega)) _ | refine below_setRow ?_ (by first | omega | (simp; done) | (simp; omega)) _ ))
  have k1 : Blk (((w.alloc (.cells #[.int .i64 W, .int .i64 H, .slice A n c] 24)).alloc (.cells #[.int .i64 r0, .int .i64 r1, .int .i64 r2] 26)).alloc (.cells #[.int .i64 0, .int .i64 0, .slice none 0 0] 29)) w.heap.size 24 #[.int .i64 W, .int .i64 H, .slice A n c] := ((Blk.new _ _ _).alloc _).alloc _
  have k2 : Blk (((w.alloc (.cells #[.int .i64 W, .int .i64 H, .slice A n c] 24)).alloc (.cells #[.int .i64 r0, .int .i64 r1, .int .i64 r2] 26)).alloc (.cells #[.int .i64 0, .int .i64 0, .slice none 0 0] 29)) (w.heap.size + 1) 26 #[.int .i64 r0, .int .i64 r1, .int .i64 r2] := (Blk.new' (by simp) _ _).alloc _
  have k3 : Blk (((w.alloc (.cells #[.int .i64 W, .int .i64 H, .slice A n c] 24)).alloc (.cells #[.int .i64 r0, .int .i64 r1, .int .i64 r2] 26)).alloc (.cells #[.int .i64 0, .int .i64 0, .slice none 0 0] 29)) (w.heap.size + 1 + 1) 29 #[.int .i64 0, .int .i64 0, .slice none 0 0] := Blk.new' (by simp) _ _
  have HA := Lib.hid hA
  cases hsd : sidesB W H n with
  | false =>
    have hE2 : E = 2 := by rw [← hE]; unfold appE levE; rw [hsd]; rfl
    subst hE2
    have HS := Lib.hid (hs.bad (by decide))
    rw [hsd] at CK
    clear hs hE hsd hA
    go_enter Try.func8, Try.ntmps8
    go_wp2_with fail
    generalize ((w.alloc (.cells #[.int .i64 W, .int .i64 H, .slice A n c] 24)).alloc (.cells #[.int .i64 r0, .int .i64 r1, .int .i64 r2] 26)).alloc (.cells #[.int .i64 0, .int .i64 0, .slice none 0 0] 29) = w1 at *
    refine (CK.out _).mono ?_
    rintro e w2 ⟨rfl, hb2⟩
    have b2 := below_call b1 b1.size hb2
    have k4 := k3.below' hb2
    obtain ⟨r1', r2', r3⟩ := k4.cells3
    obtain ⟨f1, f2, f3⟩ := k4.frozen3
    have k9 := ((k4.set_ 0 (.int .i64 0)).set_ 1 (.int .i64 0)).set_ 2 (.slice none 0 0)
    obtain ⟨s1, s2, s3⟩ := Blk.cells3 (a := .int .i64 0) (b := .int .i64 0) (c := .slice none 0 0) k9
    go_wp2_with fail
    refine bodyPost_ret (v := .tuple #[noImg, .int .i64 2]) (by simp [results, Try.results8, go_sem, noImg, s1, s2, s3]) rfl ?_
    exact ⟨_, rfl, outT_bad' HS.out, by (repeat (first | with_reducible exact Below.refl _ _ | with_reducible assumption | with_reducible refine Below.drew ?_ | (with_reducible refine below_alloc' ?_ ?_; focus (first | omega | (simp; done) | (simp; omega))) | (with_reducible refine below_fill3' ?_ ?_; focus omega) | (with_reducible refine below_setCell' ?_ ?_; focus (first | omega | (simp; done) | (simp; omega))) | (with_reducible apply below_call'; (focus (with_reducible assumption)); (focus (first | omega | (simp; done) | (simp; omega))))))⟩
  | true =>
    rw [hsd] at CK
    have HSD := Lib.hid hsd
    have hE1 : Hid (E = if r0 < 0 ∨ 256 < r0 ∨ r1 < -3 ∨ 3 < r1 ∨ r2 < 0 then 1 else movE W H n (thrQ p r0) r1 (-1)) := by
      show _ = _
      rw [← hE]; unfold appE levE; rw [if_pos hsd, if_neg (by simp)]
    have HS := Lib.hid hs
    have HB := Lib.hid hB
    have HNN := Lib.hid hn
    clear hs hE hsd hB hn hA
    by_cases hbad : r0 < 0 ∨ 256 < r0 ∨ r1 < -3 ∨ 3 < r1 ∨ r2 < 0
    · have hE2 : E = 1 := by rw [hE1.out, if_pos hbad]
      have HS9 := Lib.hid (HS.out.bad (by omega))
      subst hE2
      clear hE1 HS HB HNN HA
      rcases (by omega : r0 < 0 ∨ (¬ r0 < 0 ∧ 256 < r0) ∨ (¬ r0 < 0 ∧ ¬ 256 < r0 ∧ r1 < -3) ∨ (¬ r0 < 0 ∧ ¬ 256 < r0 ∧ ¬ r1 < -3 ∧ 3 < r1) ∨ (¬ r0 < 0 ∧ ¬ 256 < r0 ∧ ¬ r1 < -3 ∧ ¬ 3 < r1 ∧ r2 < 0)) with g1 | ⟨g1, g2⟩ | ⟨g1, g2, g3⟩ | ⟨g1, g2, g3, g4⟩ | ⟨g1, g2, g3, g4, g5⟩
      all_goals
        clear hbad
        go_enter Try.func8, Try.ntmps8
        go_wp2_with fail
        generalize ((w.alloc (.cells #[.int .i64 W, .int .i64 H, .slice A n c] 24)).alloc (.cells #[.int .i64 r0, .int .i64 r1, .int .i64 r2] 26)).alloc (.cells #[.int .i64 0, .int .i64 0, .slice none 0 0] 29) = w1 at *
        refine (CK.out _).mono ?_
        rintro e w2 ⟨rfl, hb2⟩
        have b2 := below_call b1 b1.size hb2
        have m2 := k2.below' hb2
        have k4 := k3.below' hb2
        obtain ⟨x1, x2, x3⟩ := m2.cells3
        obtain ⟨r1', r2', r3⟩ := k4.cells3
        obtain ⟨f1, f2, f3⟩ := k4.frozen3
        have k9 := ((k4.set_ 0 (.int .i64 0)).set_ 1 (.int .i64 0)).set_ 2 (.slice none 0 0)
        obtain ⟨s1, s2, s3⟩ := Blk.cells3 (a := .int .i64 0) (b := .int .i64 0) (c := .slice none 0 0) k9
        go_wp2_with fail
        refine bodyPost_ret (v := .tuple #[noImg, .int .i64 1]) (by simp [results, Try.results8, go_sem, noImg, s1, s2, s3]) rfl ?_
        exact ⟨_, rfl, outT_bad' HS9.out, by (repeat (first | with_reducible exact Below.refl _ _ | with_reducible assumption | with_reducible refine Below.drew ?_ | (with_reducible refine below_alloc' ?_ ?_; focus (first | omega | (simp; done) | (simp; omega))) | (with_reducible refine below_fill3' ?_ ?_; focus omega) | (with_reducible refine below_setCell' ?_ ?_; focus (first | omega | (simp; done) | (simp; omega))) | (with_reducible apply below_call'; (focus (with_reducible assumption)); (focus (first | omega | (simp; done) | (simp; omega))))))⟩
    · have hE3 : Hid (movE W H n (thrQ p r0) r1 (-1) = E) := by show _ = _; rw [hE1.out, if_neg hbad]
      obtain ⟨sw0, sw1, sh0, sh1, snn⟩ := sidesB_iff.1 HSD.out
      have HSNN := Lib.hid snn
      have l0 : 0 ≤ r0 := by omega
      have l1 : r0 ≤ 256 := by omega
      have l2 : -3 ≤ r1 := by omega
      have l3 : r1 ≤ 3 := by omega
      have l4 : 0 ≤ r2 := by omega
      have nn : n ≤ 409600 := by have := (area_bd sw0 sw1 sh0 sh1).2; omega
      have TH := Lib.hid fun w' hA' => rthr_all W H r0 A n c p 0 W H n w' hA' HNN.out HB.out (thrE_ok HSD.out l0 l1) ⟨fun _ => ⟨rfl, rfl, HSNN.out⟩, fun h => absurd rfl h⟩
      have US := Lib.hid fun A1 c1 w' hA' => runskew_all W H Wm Hm E N A1 n c1 (thrQ p r0) r1 w' hA' HNN.out (isB_thr _ _) hE3.out HS.out
      have hEE := hE3.out
      have hMS := HS.out
      have HOK : Hid (E = 0 → ∃ Wn Hn : Nat, Wm = Wn ∧ Hm = Hn ∧ Wn ≤ 640 ∧ Hn ≤ 640 ∧ N = Wn * Hn ∧ W.toNat = Wn) := by
        intro e
        obtain ⟨rfl, rfl, hN⟩ := hMS.ok e
        obtain ⟨-, -, -, g1, g2⟩ := movE_ok (hEE.trans e)
        refine ⟨Wm.toNat, (H + -grt Wm r1).toNat, by omega, by omega, by omega, by omega, ?_, rfl⟩
        have : (N : Int) = ((Wm.toNat * (H + -grt Wm r1).toNat : Nat) : Int) := by rw [hN, Int.natCast_mul, Int.toNat_of_nonneg sw0, Int.toNat_of_nonneg (by omega)]
        exact_mod_cast this
      clear hE1 hbad snn hEE hMS
      go_enter Try.func8, Try.ntmps8
      go_wp2_with fail
      generalize ((w.alloc (.cells #[.int .i64 W, .int .i64 H, .slice A n c] 24)).alloc (.cells #[.int .i64 r0, .int .i64 r1, .int .i64 r2] 26)).alloc (.cells #[.int .i64 0, .int .i64 0, .slice none 0 0] 29) = w1 at *
      refine (CK.out _).mono ?_
      rintro e w2 ⟨rfl, hb2⟩
      have b2 := below_call b1 b1.size hb2
      have m1 := k1.below' hb2
      have m2 := k2.below' hb2
      have m3 := k3.below' hb2
      clear k1 k2 k3 hb2 b1 CK
      obtain ⟨x1, x2, x3⟩ := m1.cells3
      obtain ⟨y1, y2, y3⟩ := m2.cells3
      go_wp2_with fail
      refine (TH.out _ (HA.out.to b2)).mono ?_
      rintro e w3 ⟨_, rfl, ⟨A1, c1, rfl, hg1, ha1⟩, hb3⟩
      have b3 := (below_call b2 b2.size hb3)
      have n2 := m2.below' hb3
      have n3 := m3.below' hb3
      have HA1 := Lib.hid ha1
      have n2' := n2.alloc (.cells #[.int .i64 W, .int .i64 H, .slice A1 n c1] 29)
      have n3' := n3.alloc (.cells #[.int .i64 W, .int .i64 H, .slice A1 n c1] 29)
      have b3' := b3.alloc b3.size (.cells #[.int .i64 W, .int .i64 H, .slice A1 n c1] 29)
      have ha1' : ArrB (w3.alloc (.cells #[.int .i64 W, .int .i64 H, .slice A1 n c1] 29)) (w3.alloc (.cells #[.int .i64 W, .int .i64 H, .slice A1 n c1] 29)).heap.size A1 n (thrQ p r0) := ha1.to ((Below.refl w3.heap.size w3).alloc (Nat.le_refl _) _)
      obtain ⟨y1, y2, y3⟩ := n2'.cells3
      clear m1 m2 m3 b2 hb3 TH x1 x2 x3 n2 n3 b3 ha1 hg1
      go_wp2_with fail
      generalize w3.alloc (.cells #[.int .i64 W, .int .i64 H, .slice A1 n c1] 29) = w4 at *
      refine (US.out _ _ _ ha1').mono ?_
      rintro e w5 ⟨_, rfl, ⟨A2, c2, rfl, hg2, ha2⟩, hb5⟩
      have b5 := below_call b3' b3'.size hb5
      have o2 := n2'.below' hb5
      have o3 := n3'.below' hb5
      have o2' := o2.alloc (.cells #[.int .i64 Wm, .int .i64 Hm, .slice A2 N c2] 29)
      have o3' := o3.alloc (.cells #[.int .i64 Wm, .int .i64 Hm, .slice A2 N c2] 29)
      have b5' := b5.alloc b5.size (.cells #[.int .i64 Wm, .int .i64 Hm, .slice A2 N c2] 29)
      have ha2' : ArrB (w5.alloc (.cells #[.int .i64 Wm, .int .i64 Hm, .slice A2 N c2] 29)) (w5.alloc (.cells #[.int .i64 Wm, .int .i64 Hm, .slice A2 N c2] 29)).heap.size A2 N (movQ W H (thrQ p r0) r1 (-1)) := ha2.to ((Below.refl w5.heap.size w5).alloc (Nat.le_refl _) _)
      clear n2' n3' b3' hb5 US o2 o3 b5 ha2 hg2 HA1 ha1' y1 y2 y3
      obtain ⟨y1, y2, y3⟩ := o2'.cells3
      by_cases hE0 : E = 0
      · subst hE0
        obtain ⟨Wn, Hn, rfl, rfl, hw1, hh1, hNN, hwn⟩ := HOK.out rfl
        have DS := Lib.hid fun w' hA' => rdesp_any Wn Hn r2 A2 N c2 (movQ W H (thrQ p r0) r1 (-1)) w' hA' (isB_mov (isB_thr _ _)) hw1 hh1 hNN (fun i _ _ => movQ_01 (thrQ_01 p r0) i)
        have HWN := Lib.hid hwn
        have HA2 := Lib.hid ha2'
        clear HOK hNN hwn ha2'
        go_wp2_with fail
        generalize w5.alloc (.cells #[.int .i64 Wn, .int .i64 Hn, .slice A2 N c2] 29) = w6 at *
        refine (DS.out _ HA2.out).mono ?_
        rintro e w7 ⟨_, rfl, ⟨gq, rfl, hgq, kq⟩, hb7⟩
        have b7 := below_call b5' b5'.size hb7
        have q3 := o3'.below' hb7
        have lt3 := o3'.lt
        have hne : gq ≠ w.heap.size + 1 + 1 := by omega
        have hge : w.heap.size ≤ gq := by omega
        have KQ := Lib.hid (((kq.far (p := ⟨w.heap.size + 1 + 1, 0, none⟩) hne (.int .i64 Wn)).far (p := ⟨w.heap.size + 1 + 1, 1, none⟩) hne (.int .i64 Hn)).far (p := ⟨w.heap.size + 1 + 1, 2, none⟩) hne (.slice (some ⟨gq, 0, none⟩) N N))
        obtain ⟨t1, t2, t3⟩ := q3.cells3
        obtain ⟨f1, f2, f3⟩ := q3.frozen3
        have k9 := ((q3.set_ 0 (.int .i64 Wn)).set_ 1 (.int .i64 Hn)).set_ 2 (.slice (some ⟨gq, 0, none⟩) N N)
        obtain ⟨s1, s2, s3⟩ := Blk.cells3 (a := .int .i64 Wn) (b := .int .i64 Hn) (c := .slice (some ⟨gq, 0, none⟩) N N) k9
        have B7 := Lib.hid (((b7.setCell (p := ⟨w.heap.size + 1 + 1, 0, none⟩) (by simp; omega) (.int .i64 Wn)).setCell (p := ⟨w.heap.size + 1 + 1, 1, none⟩) (by simp; omega) (.int .i64 Hn)).setCell (p := ⟨w.heap.size + 1 + 1, 2, none⟩) (by simp; omega) (.slice (some ⟨gq, 0, none⟩) N N))
        clear DS o2' o3' b5' b7 hb7 kq k9 q3 y1 y2 y3
        go_wp2_with fail
        refine bodyPost_ret (v := .tuple #[.agg #[.int .i64 Wn, .int .i64 Hn, .slice (some ⟨gq, 0, none⟩) N N], .int .i64 0]) (by simp [results, Try.results8, go_sem, s1, s2, s3]) rfl ?_
        refine ⟨_, rfl, ⟨_, _, rfl, (fun a e => by cases e; show w.heap.size ≤ gq; exact hge), ?_⟩, B7.out⟩
        unfold appQ
        rw [HWN.out]
        exact KQ.out.arrB KQ.out.lt
      · have hz : (E != 0) = true := by simp [hE0]
        have HZ := Lib.hid (HS.out.bad hE0)
        obtain ⟨rfl, rfl, rfl⟩ := HZ.out
        obtain ⟨t1, t2, t3⟩ := o3'.cells3
        obtain ⟨f1, f2, f3⟩ := o3'.frozen3
        have k9 := ((o3'.set_ 0 (.int .i64 0)).set_ 1 (.int .i64 0)).set_ 2 (.slice none 0 0)
        obtain ⟨s1, s2, s3⟩ := Blk.cells3 (a := .int .i64 0) (b := .int .i64 0) (c := .slice none 0 0) k9
        have B7 := Lib.hid (((b5'.setCell (p := ⟨w.heap.size + 1 + 1, 0, none⟩) (by simp; omega) (.int .i64 0)).setCell (p := ⟨w.heap.size + 1 + 1, 1, none⟩) (by simp; omega) (.int .i64 0)).setCell (p := ⟨w.heap.size + 1 + 1, 2, none⟩) (by simp; omega) (.slice none 0 0))
        clear HOK HS ha2' hE3 o2' o3' b5' k9 y1 y2 y3 hE0
        go_wp2_with fail
        refine bodyPost_ret (v := .tuple #[noImg, .int .i64 E]) (by simp [results, Try.results8, go_sem, noImg, s1, s2, s3]) rfl ?_
        exact ⟨_, rfl, outT_bad' ⟨rfl, rfl, rfl⟩, B7.out⟩

/-- an image and a recipe, new -/
def OutR (w w' : World) (W H : Int) (N : Nat) (q : Int → Int) (r0 r1 r2 : Int) (v : Value) : Prop := ∃ A c, v = .tuple #[.agg #[.int .i64 W, .int .i64 H, .slice A N c], .agg #[.int .i64 r0, .int .i64 r1, .int .i64 r2]] ∧ (∀ a, A = some a → w.heap.size ≤ a.block) ∧ ArrB w' w'.heap.size A N q
theorem outR_mk {w w' : World} {W H r0 r1 r2 : Int} {N c : Nat} {q : Int → Int} {A : Option Addr} (h : ∀ a, A = some a → w.heap.size ≤ a.block) (ha : ArrB w' w'.heap.size A N q) :
    OutR w w' W H N q r0 r1 r2 (.tuple #[.agg #[.int .i64 W, .int .i64 H, .slice A N c], .agg #[.int .i64 r0, .int .i64 r1, .int .i64 r2]]) := ⟨A, c, rfl, h, ha⟩
set_option maxRecDepth 100000 in
set_option maxHeartbeats 4000000 in
theorem rclean_any (W H : Int) (A : Option Addr) (n c : Nat) (p : Int → Int) (Wm Hm : Int) (N : Nat) (r0 r1 r2 : Int) (w : World) (hA : ArrB w w.heap.size A n p) (hn : n ≤ maxLen) (hB : IsB p) (hE : levE W H n = 0) (hs : CSize W H n p 0 Wm Hm N r0 r1 r2) :
    Calls Try.prog 13 #[.agg #[.int .i64 W, .int .i64 H, .slice A n c]] w (New w fun v w' => OutR w w' Wm Hm N (appQ W H p r0 r1 r2 N) r0 r1 r2 v) := by
  obtain ⟨e0, e1, rfl, hm⟩ := hs.ok rfl
  have hsd := levE_ok hE
  have hc := chk_thr (p := p) (lv := r0) hsd
  obtain ⟨f1, f2, f3⟩ := findS_mov hc
  have lb := levelS_bd n p
  rw [← e1] at f1 f2 f3
  rw [← e0] at lb
  obtain ⟨lb0, lb1⟩ := lb
  have hap : appE W H n p r0 r1 2 = 0 := by unfold appE; rw [if_neg (by omega), if_neg (by omega)]; exact f1
  have LV : Hid (∀ w', ArrB w' w'.heap.size A n p → Calls Try.prog 32 #[.agg #[.int .i64 W, .int .i64 H, .slice A n c]] w' fun e w'' => e = .returned (.int .i64 r0) ∧ Below w'.heap.size w' w'') := by
    show ∀ w', _ → _
    intro w' h'; rw [e0]; exact rlevel_any W H A n c p w' h' hn hB
  have TH := Lib.hid fun w' hA' => rthr_all W H r0 A n c p 0 W H n w' hA' hn hB (thrE_ok hsd lb0 lb1) ⟨fun _ => ⟨rfl, rfl, (sidesB_iff.1 hsd).2.2.2.2⟩, fun h => absurd rfl h⟩
  have FS : Hid (∀ A1 c1 w', ArrB w' w'.heap.size A1 n (thrQ p r0) → Calls Try.prog 33 #[.agg #[.int .i64 W, .int .i64 H, .slice A1 n c1]] w' fun e w'' => e = .returned (.int .i64 r1) ∧ Below w'.heap.size w' w'') := by
    show ∀ A1 c1 w', _ → _
    intro A1 c1 w' h'; rw [e1]; exact rfindSkew_ok W H A1 n c1 (thrQ p r0) w' h' hn (isB_thr _ _) hc
  have AP := Lib.hid fun w' hA' => rapply_any W H r0 r1 2 A n c p 0 Wm Hm N w' hA' hn hB hap hm
  have HA := Lib.hid hA
  clear hE hs e0 e1 hm hsd hc f1 f2 f3 hap hA hn hB lb0 lb1
  have b1 : Below w.heap.size w (((w.alloc (.cells #[.int .i64 W, .int .i64 H, .slice A n c] 24)).alloc (.cells #[.int .i64 0, .int .i64 0, .slice none 0 0] 29)).alloc (.cells #[.int .i64 0, .int .i64 0, .int .i64 0] 26)) := by (repeat (first | exact Below.refl _ _ | assumption | refine Below.drew ?_ | refine below_drewN ?_ _ | refine Below.alloc ?_ (by first | omega | (simp; done) | (simp; omega)) _ | refine Below.setCell ?_ (by first | omega | (simp; done) | (simp; omega)) _ | refine below_setRow ?_ (by first | omega | (simp; done) | (simp; omega)) _ ))
  have k1 : Blk (((w.alloc (.cells #[.int .i64 W, .int .i64 H, .slice A n c] 24)).alloc (.cells #[.int .i64 0, .int .i64 0, .slice none 0 0] 29)).alloc (.cells #[.int .i64 0, .int .i64 0, .int .i64 0] 26)) w.heap.size 24 #[.int .i64 W, .int .i64 H, .slice A n c] := ((Blk.new _ _ _).alloc _).alloc _
  have k2 : Blk (((w.alloc (.cells #[.int .i64 W, .int .i64 H, .slice A n c] 24)).alloc (.cells #[.int .i64 0, .int .i64 0, .slice none 0 0] 29)).alloc (.cells #[.int .i64 0, .int .i64 0, .int .i64 0] 26)) (w.heap.size + 1) 29 #[.int .i64 0, .int .i64 0, .slice none 0 0] := (Blk.new' (by simp) _ _).alloc _
  have k3 : Blk (((w.alloc (.cells #[.int .i64 W, .int .i64 H, .slice A n c] 24)).alloc (.cells #[.int .i64 0, .int .i64 0, .slice none 0 0] 29)).alloc (.cells #[.int .i64 0, .int .i64 0, .int .i64 0] 26)) (w.heap.size + 1 + 1) 26 #[.int .i64 0, .int .i64 0, .int .i64 0] := Blk.new' (by simp) _ _
  go_enter Try.func13, Try.ntmps13
  go_wp2_with fail
  generalize ((w.alloc (.cells #[.int .i64 W, .int .i64 H, .slice A n c] 24)).alloc (.cells #[.int .i64 0, .int .i64 0, .slice none 0 0] 29)).alloc (.cells #[.int .i64 0, .int .i64 0, .int .i64 0] 26) = w1 at *
  refine (LV.out _ (HA.out.to b1)).mono ?_
  rintro e w2 ⟨rfl, hb2⟩
  have b2 := below_call b1 b1.size hb2
  have m1 := k1.below' hb2
  have m2 := k2.below' hb2
  have m3 := k3.below' hb2
  have zz := m3.lt
  clear k1 k2 k3 hb2 b1 LV
  obtain ⟨g4, hg4⟩ : ∃ g, w2.heap.size = g := ⟨_, rfl⟩
  have z4 : w.heap.size + 1 + 1 < g4 := by omega
  have n1 := m1.alloc (.cells #[.int .i64 r0, .int .i64 0, .int .i64 2] 26)
  have n2 := m2.alloc (.cells #[.int .i64 r0, .int .i64 0, .int .i64 2] 26)
  have n3 := m3.alloc (.cells #[.int .i64 r0, .int .i64 0, .int .i64 2] 26)
  have n4 : Blk (w2.alloc (.cells #[.int .i64 r0, .int .i64 0, .int .i64 2] 26)) g4 26 #[.int .i64 r0, .int .i64 0, .int .i64 2] := Blk.new' hg4 _ _
  have b3 := b2.alloc b2.size (.cells #[.int .i64 r0, .int .i64 0, .int .i64 2] 26)
  obtain ⟨x1, x2, x3⟩ := n1.cells3
  clear m1 m2 m3 b2 zz
  go_wp2_with fail
  generalize w2.alloc (.cells #[.int .i64 r0, .int .i64 0, .int .i64 2] 26) = w3 at *
  refine (TH.out _ (HA.out.to b3)).mono ?_
  rintro e w4 ⟨_, rfl, ⟨A1, c1, rfl, hg1, ha1⟩, hb4⟩
  have b4 := below_call b3 b3.size hb4
  have o1 := (n1.below' hb4).alloc (.cells #[.int .i64 W, .int .i64 H, .slice A1 n c1] 29)
  have o2 := (n2.below' hb4).alloc (.cells #[.int .i64 W, .int .i64 H, .slice A1 n c1] 29)
  have o3 := (n3.below' hb4).alloc (.cells #[.int .i64 W, .int .i64 H, .slice A1 n c1] 29)
  have o4 := (n4.below' hb4).alloc (.cells #[.int .i64 W, .int .i64 H, .slice A1 n c1] 29)
  have b5 := b4.alloc b4.size (.cells #[.int .i64 W, .int .i64 H, .slice A1 n c1] 29)
  have ha5 : ArrB (w4.alloc (.cells #[.int .i64 W, .int .i64 H, .slice A1 n c1] 29)) (w4.alloc (.cells #[.int .i64 W, .int .i64 H, .slice A1 n c1] 29)).heap.size A1 n (thrQ p r0) := ha1.to ((Below.refl w4.heap.size w4).alloc (Nat.le_refl _) _)
  clear n1 n2 n3 n4 b3 b4 x1 x2 x3 TH hg1 ha1 hb4 hg4
  go_wp2_with fail
  generalize w4.alloc (.cells #[.int .i64 W, .int .i64 H, .slice A1 n c1] 29) = w5 at *
  refine (FS.out _ _ _ ha5).mono ?_
  rintro e w6 ⟨rfl, hb6⟩
  have b6 := below_call b5 b5.size hb6
  have q1 := o1.below' hb6
  have q2 := o2.below' hb6
  have q3 := o3.below' hb6
  have q4 := o4.below' hb6
  have l4 := q4.lt
  obtain ⟨y1, y2, y3⟩ := q4.cells3
  obtain ⟨f1, f2, f3⟩ := q4.frozen3
  have q1' := q1.far (p := ⟨g4, 1, none⟩) (by simp; omega) (.int .i64 r1)
  have q2' := q2.far (p := ⟨g4, 1, none⟩) (by simp; omega) (.int .i64 r1)
  have q3' := q3.far (p := ⟨g4, 1, none⟩) (by simp; omega) (.int .i64 r1)
  have q4' := q4.set_ 1 (.int .i64 r1)
  have b7 := b6.setCell (p := ⟨g4, 1, none⟩) (by simp; omega) (.int .i64 r1)
  obtain ⟨x1, x2, x3⟩ := q1'.cells3
  obtain ⟨v1, v2, v3⟩ := Blk.cells3 (a := .int .i64 r0) (b := .int .i64 r1) (c := .int .i64 2) q4'
  clear o1 o2 o3 o4 b5 FS ha5 hb6 q1 q2 q3 b6
  go_wp2_with fail
  generalize w6.setCell ⟨g4, 1, none⟩ (.int .i64 r1) = w7 at *
  refine (AP.out _ (HA.out.to b7)).mono ?_
  rintro e w8 ⟨_, rfl, ⟨A2, c2, rfl, hg2, ha2⟩, hb8⟩
  have b8 := below_call b7 b7.size hb8
  obtain ⟨g7, hg7⟩ : ∃ g, w8.heap.size = g := ⟨_, rfl⟩
  have s2 := (q2'.below' hb8).alloc (.cells #[.int .i64 Wm, .int .i64 Hm, .slice A2 N c2] 29)
  have s3 := (q3'.below' hb8).alloc (.cells #[.int .i64 Wm, .int .i64 Hm, .slice A2 N c2] 29)
  have s4 : Blk (w8.alloc (.cells #[.int .i64 Wm, .int .i64 Hm, .slice A2 N c2] 29)) g4 26 #[.int .i64 r0, .int .i64 r1, .int .i64 2] := (q4'.below' hb8).alloc (.cells #[.int .i64 Wm, .int .i64 Hm, .slice A2 N c2] 29)
  have s7 : Blk (w8.alloc (.cells #[.int .i64 Wm, .int .i64 Hm, .slice A2 N c2] 29)) g7 29 #[.int .i64 Wm, .int .i64 Hm, .slice A2 N c2] := Blk.new' hg7 _ _
  have b9 := b8.alloc b8.size (.cells #[.int .i64 Wm, .int .i64 Hm, .slice A2 N c2] 29)
  have l9 := q3'.lt
  have hge : ∀ a, A2 = some a → w.heap.size + 1 + 1 < a.block := fun a e => by have := hg2 a e; omega
  have z7 : w.heap.size + 1 + 1 < g7 := by have := (q3'.below' hb8).lt; omega
  have ha9 : ArrB (w8.alloc (.cells #[.int .i64 Wm, .int .i64 Hm, .slice A2 N c2] 29)) (w8.alloc (.cells #[.int .i64 Wm, .int .i64 Hm, .slice A2 N c2] 29)).heap.size A2 N (appQ W H p r0 r1 2 N) := ha2.to ((Below.refl w8.heap.size w8).alloc (Nat.le_refl _) _)
  clear q1' q2' q3' q4' q4 y1 y2 y3 f1 f2 f3 x1 x2 x3 v1 v2 v3 b7 b8 AP hg2 ha2 hb8 l4 l9
  go_upto_region 5 with fail
  clear hg7
  generalize w8.alloc (.cells #[.int .i64 Wm, .int .i64 Hm, .slice A2 N c2] 29) = w9 at *
  have KC := Lib.hid fun (w' : World) (h : w'.heap[g7]? = w9.heap[g7]?) (h' : w'.heap[g4]? = w9.heap[g4]?) => (show w'.cell? ⟨g7, 0, none⟩ = some (.int .i64 Wm) ∧ w'.cell? ⟨g7, 1, none⟩ = some (.int .i64 Hm) ∧ w'.cell? ⟨g7, 2, none⟩ = some (.slice A2 N c2) ∧ w'.cell? ⟨g4, 0, none⟩ = some (.int .i64 r0) ∧ w'.cell? ⟨g4, 1, none⟩ = some (.int .i64 r1) ∧ w'.cell? ⟨g4, 2, none⟩ = some (.int .i64 2) from by
    obtain ⟨c1, c2, c3⟩ := (s7.move h).cells3
    obtain ⟨c4, c5, c6⟩ := (s4.move h').cells3
    exact ⟨c1, c2, c3, c4, c5, c6⟩)
  have ki9 := s2
  have kr9 := s3
  clear s2 s3
  have k9 := ((ki9.set_ 0 (.int .i64 Wm)).set_ 1 (.int .i64 Hm)).set_ 2 (.slice A2 N c2)
  have k8 := ((ki9.set_ 0 (.int .i64 Wm)).set_ 1 (.int .i64 Hm)).set_ 2 (.slice A2 N c2)
  have r9 := (((((kr9.far (p := ⟨w.heap.size + 1, 0, none⟩) (by simp) (.int .i64 Wm)).far (p := ⟨w.heap.size + 1, 1, none⟩) (by simp) (.int .i64 Hm)).far (p := ⟨w.heap.size + 1, 2, none⟩) (by simp) (.slice A2 N c2)).set_ 0 (.int .i64 r0)).set_ 1 (.int .i64 r1)).set_ 2 (.int .i64 2)
  have i9 := ((k9.far (p := ⟨w.heap.size + 1 + 1, 0, none⟩) (by simp) (.int .i64 r0)).far (p := ⟨w.heap.size + 1 + 1, 1, none⟩) (by simp) (.int .i64 r1)).far (p := ⟨w.heap.size + 1 + 1, 2, none⟩) (by simp) (.int .i64 2)
  have B9 := Lib.hid ((((((b9.setCell (p := ⟨w.heap.size + 1, 0, none⟩) (by simp) (.int .i64 Wm)).setCell (p := ⟨w.heap.size + 1, 1, none⟩) (by simp) (.int .i64 Hm)).setCell (p := ⟨w.heap.size + 1, 2, none⟩) (by simp) (.slice A2 N c2)).setCell (p := ⟨w.heap.size + 1 + 1, 0, none⟩) (by simp; omega) (.int .i64 r0)).setCell (p := ⟨w.heap.size + 1 + 1, 1, none⟩) (by simp; omega) (.int .i64 r1)).setCell (p := ⟨w.heap.size + 1 + 1, 2, none⟩) (by simp; omega) (.int .i64 2))
  obtain ⟨s1, s2, s3⟩ := Blk.cells3 (a := .int .i64 Wm) (b := .int .i64 Hm) (c := .slice A2 N c2) i9
  obtain ⟨u1, u2, u3⟩ := Blk.cells3 (a := .int .i64 r0) (b := .int .i64 r1) (c := .int .i64 2) r9
  have kk9 := ((kr9.far (p := ⟨w.heap.size + 1, 0, none⟩) (by simp) (.int .i64 Wm)).far (p := ⟨w.heap.size + 1, 1, none⟩) (by simp) (.int .i64 Hm)).far (p := ⟨w.heap.size + 1, 2, none⟩) (by simp) (.slice A2 N c2)
  obtain ⟨f1, f2, f3⟩ := ki9.frozen3
  obtain ⟨t1, t2, t3⟩ := ki9.cells3
  obtain ⟨h1, h2, h3⟩ := kk9.frozen3
  obtain ⟨v1, v2, v3⟩ := kk9.cells3
  have HAE := Lib.hid (((((((ha9.far1 (p := ⟨w.heap.size + 1, 0, none⟩) (fun a e => by have := hge a e; simp; omega) (.int .i64 Wm)).far1 (p := ⟨w.heap.size + 1, 1, none⟩) (fun a e => by have := hge a e; simp; omega) (.int .i64 Hm)).far1 (p := ⟨w.heap.size + 1, 2, none⟩) (fun a e => by have := hge a e; simp; omega) (.slice A2 N c2)).far1 (p := ⟨w.heap.size + 1 + 1, 0, none⟩) (fun a e => by have := hge a e; simp; omega) (.int .i64 r0)).far1 (p := ⟨w.heap.size + 1 + 1, 1, none⟩) (fun a e => by have := hge a e; simp; omega) (.int .i64 r1)).far1 (p := ⟨w.heap.size + 1 + 1, 2, none⟩) (fun a e => by have := hge a e; simp; omega) (.int .i64 2)))
  have nn1 : g7 ≠ w.heap.size + 1 := by omega
  have nn2 : g7 ≠ w.heap.size + 1 + 1 := by omega
  have nn3 : g4 ≠ w.heap.size + 1 := by omega
  have nn4 : g4 ≠ w.heap.size + 1 + 1 := by omega
  have S1 := Lib.hid (KC.out _ (heap_far3d (w := w9) nn1 (.int .i64 Wm) (.int .i64 Hm) (.slice A2 N c2)) (heap_far3d (w := w9) nn3 (.int .i64 Wm) (.int .i64 Hm) (.slice A2 N c2)))
  have S2 := Lib.hid (KC.out _ (heap_far6d (w := w9) nn1 nn2 (.int .i64 Wm) (.int .i64 Hm) (.slice A2 N c2) (.int .i64 r0) (.int .i64 r1) (.int .i64 2)) (heap_far6d (w := w9) nn3 nn4 (.int .i64 Wm) (.int .i64 Hm) (.slice A2 N c2) (.int .i64 r0) (.int .i64 r1) (.int .i64 2)))
  clear ha9 k9 k8 r9 i9 ki9 kr9 kk9 b9 s4 s7
  refine wp_region_held_drew (S := fun w' => w'.cell? ⟨g7, 0, none⟩ = some (.int .i64 Wm) ∧ w'.cell? ⟨g7, 1, none⟩ = some (.int .i64 Hm) ∧ w'.cell? ⟨g7, 2, none⟩ = some (.slice A2 N c2) ∧ w'.cell? ⟨g4, 0, none⟩ = some (.int .i64 r0) ∧ w'.cell? ⟨g4, 1, none⟩ = some (.int .i64 r1) ∧ w'.cell? ⟨g4, 2, none⟩ = some (.int .i64 2)) (by kernel_rfl) (KC.out _ rfl rfl) (fun hHeld => ?_)
  refine wpAnyH_take (i := 0) (oi := _) (v := ?_) (by simp only [List.getElem?_toArray, List.getElem?_cons_zero]; exact rfl) (by kernel_rfl) (by kernel_rfl) (by kernel_rfl) (by exact fun _ _ _ h => h) (Or.inl ⟨by rfl, ?_⟩) (by assumption) ?_
  rotate_left 1
  · intro w hSw
    (try dsimp only at hSw)
    go_simp
    try with_reducible rfl
  try simp only [Act.put, List.setIfInBounds_toArray, List.set_cons_zero, List.set_cons_succ]
  refine wpAnyH_take (i := 1) (oi := _) (v := ?_) (by simp only [List.getElem?_toArray, List.getElem?_cons_zero, List.getElem?_cons_succ]; exact rfl) (by kernel_rfl) (by kernel_rfl) (by kernel_rfl) (by exact fun _ _ _ h => h) (Or.inl ⟨by rfl, ?_⟩) (by assumption) ?_
  rotate_left 1
  · intro w hSw
    (try dsimp only at hSw)
    go_simp
    try with_reducible rfl
  try simp only [Act.put, List.setIfInBounds_toArray, List.set_cons_zero, List.set_cons_succ]
  refine wpAnyH_ready (rs := [2]) (by kernel_rfl) (by simp) ?_
  refine AllReadyH.cons (o := _) (by simp only [List.getElem?_toArray, List.getElem?_cons_zero, List.getElem?_cons_succ]; exact rfl) (fun K' hK => ?_) AllReadyH.nil
  go_simp
  refine hK.out _ _ S1.out (fun hHeld => ?_)
  clear hK K'
  try simp only [Act.put, List.setIfInBounds_toArray, List.set_cons_zero, List.set_cons_succ]
  refine wpAnyH_ready (rs := [3]) (by kernel_rfl) (by simp) ?_
  refine AllReadyH.cons (o := _) (by simp only [List.getElem?_toArray, List.getElem?_cons_zero, List.getElem?_cons_succ]; exact rfl) (fun K' hK => ?_) AllReadyH.nil
  go_simp
  refine hK.out _ _ S2.out (fun hHeld => ?_)
  clear hK K'
  try simp only [Act.put, List.setIfInBounds_toArray, List.set_cons_zero, List.set_cons_succ]
  refine wpAnyH_done (by kernel_rfl) ?_ _
  go_wp2_with fail
  refine bodyPost_ret (v := .tuple #[.agg #[.int .i64 Wm, .int .i64 Hm, .slice A2 N c2], .agg #[.int .i64 r0, .int .i64 r1, .int .i64 2]]) (by simp [results, Try.results13, go_sem, s1, s2, s3, u1, u2, u3]) rfl ?_
  exact ⟨_, rfl, outR_mk (fun a e => by have := hge a e; omega) (HAE.out.more (by simp)).drew1, B9.out.drew⟩
end Go.Proofs.Ytoonkpjddfiopaa

/- Walk of the law CleanRecipes. -/
namespace Go.Proofs.Ytoonkpjddfiopaa
open Go.RowKit
set_option linter.unusedVariables false

theorem appE_mov {W H : Int} {n : Nat} {p : Int → Int} {r0 r1 r2 : Int} (h : appE W H n p r0 r1 r2 = 0) : movE W H n (thrQ p r0) r1 (-1) = 0 := by
  unfold appE at h
  split at h
  · rename_i e; exact absurd h e
  · split at h
    · cases h
    · exact h
theorem app_sides {W H : Int} {n : Nat} {p : Int → Int} {r0 r1 r2 : Int} (h : appE W H n p r0 r1 r2 = 0) : 0 ≤ W ∧ 0 ≤ H + -grt W r1 := by
  have := movE_sides (appE_mov h); omega
theorem app_le {W H E Wm Hm : Int} {N n : Nat} {p : Int → Int} {r0 r1 r2 : Int} (hE : appE W H n p r0 r1 r2 = E) (hs : MSize W H (-grt W r1) E Wm Hm N) : N ≤ 409600 := by
  by_cases e : E = 0
  · have hm := appE_mov (hE.trans e)
    subst e
    exact msize_le (way := -1) hm (by simpa [Int.neg_mul] using hs)
  · have := (hs.bad e).2.2; omega
theorem csize_le {W H E Wm Hm r0 r1 r2 : Int} {N n : Nat} {p : Int → Int} (hE : levE W H n = E) (hs : CSize W H n p E Wm Hm N r0 r1 r2) : N ≤ 409600 := by
  by_cases e : E = 0
  · obtain ⟨e0, e1, rfl, hm⟩ := hs.ok e
    obtain ⟨f1, -, -⟩ := findS_mov (chk_thr (p := p) (lv := r0) (levE_ok (hE.trans e)))
    rw [← e1] at f1
    exact msize_le (way := -1) f1 (by simpa [Int.neg_mul] using hm)
  · have := (hs.bad e).2.2; omega
set_option maxRecDepth 100000 in
set_option maxHeartbeats 4000000 in
theorem cleanRecipes_any (W H q0 q1 q2 : Int) (A : Option Addr) (n c : Nat) (p : Int → Int) (w : World) (hA : ArrB w w.heap.size A n p) (hn : n ≤ maxLen) (hB : IsB p) (hc : A = none → c = 0) :
    Calls Try.prog 3 #[.agg #[.int .i64 W, .int .i64 H, .slice A n c], .agg #[.int .i64 q0, .int .i64 q1, .int .i64 q2]] w fun e w' => e = .returned (.bool true) ∧ Below w.heap.size w w' := by
  unfold maxLen at hn
  by_cases h6 : (n : Int) > 3000
  · go_enter Try.func3, Try.ntmps3
    go_wp2_with fail
    refine (awake_any _).mono ?_
    rintro e w1 ⟨rfl, hb1⟩
    go_wp2
    go_ret
    exact ⟨rfl, below_call (by (repeat (first | exact Below.refl _ _ | assumption | refine Below.drew ?_ | refine below_drewN ?_ _ | refine Below.alloc ?_ (by first | omega | (simp; done) | (simp; omega)) _ | refine Below.setCell ?_ (by first | omega | (simp; done) | (simp; omega)) _ | refine below_setRow ?_ (by first | omega | (simp; done) | (simp; omega)) _ ))) (by simp; try omega) hb1⟩
  have hnm : n ≤ maxLen := by unfold maxLen; omega
  have CG := Lib.hid fun w' hA' => copyGrey_any W H A n c p w' hA' hc (by omega)
  obtain ⟨Wx, Hx, Nx, ms⟩ := msize_ex W H (-grt W q1) (appE W H n p q0 q1 q2) (fun h => app_sides h)
  obtain ⟨Wc, Hc, Nc, m0, m1, m2, cs⟩ := csize_ex W H n p
  have lx := app_le rfl ms
  have lc := csize_le rfl cs
  have C1 := Lib.hid fun A' c' w' h' => apply_any W H q0 q1 q2 A' n c' p _ Wx Hx Nx w' h' hnm hB rfl ms
  have C2 := Lib.hid fun w' h' => rapply_any W H q0 q1 q2 A n c p _ Wx Hx Nx w' h' hnm hB rfl ms
  have C3 := Lib.hid fun A' c' w' h' => clean_any W H A' n c' p _ Wc Hc Nc m0 m1 m2 w' h' hnm hB rfl cs
  have C4 : Hid (∀ w', Calls Try.prog 10 #[.agg #[.int .i64 W, .int .i64 H, .slice A n c]] w' fun e w'' => e = .returned (.int .i64 (levE W H n)) ∧ Below w'.heap.size w' w'') := by
    show ∀ _, _; exact fun w' => rcheckGrey_any W H A n c w' hnm
  have C5 : Hid (levE W H n = 0 → ∀ w', ArrB w' w'.heap.size A n p → Calls Try.prog 13 #[.agg #[.int .i64 W, .int .i64 H, .slice A n c]] w' (New w' fun v w'' => OutR w' w'' Wc Hc Nc (appQ W H p m0 m1 m2 Nc) m0 m1 m2 v)) := by
    intro h w' h'; exact rclean_any W H A n c p Wc Hc Nc m0 m1 m2 w' h' hnm hB h (by rw [h] at cs; exact cs)
  have CS := Lib.hid cs
  generalize appQ W H p q0 q1 q2 Nx = qx at *
  generalize appQ W H p m0 m1 m2 Nc = qc at *
  generalize appE W H n p q0 q1 q2 = Ex at *
  generalize levE W H n = Ec at *
  clear ms cs hn hc hB
  have b0 : Below w.heap.size w ((w.alloc (.cells #[.int .i64 W, .int .i64 H, .slice A n c] 24)).alloc (.cells #[.int .i64 q0, .int .i64 q1, .int .i64 q2] 26)) := by (repeat (first | exact Below.refl _ _ | assumption | refine Below.drew ?_ | refine below_drewN ?_ _ | refine Below.alloc ?_ (by first | omega | (simp; done) | (simp; omega)) _ | refine Below.setCell ?_ (by first | omega | (simp; done) | (simp; omega)) _ | refine below_setRow ?_ (by first | omega | (simp; done) | (simp; omega)) _ ))
  have K0 := (((Kp.nil ((w.alloc (.cells #[.int .i64 W, .int .i64 H, .slice A n c] 24)).alloc (.cells #[.int .i64 q0, .int .i64 q1, .int .i64 q2] 26))).addB (Blk.new' (n := w.heap.size + 1) (by simp) 26 #[.int .i64 q0, .int .i64 q1, .int .i64 q2])).addB ((Blk.new w 24 #[.int .i64 W, .int .i64 H, .slice A n c]).alloc _)).addA (hA.to b0)
  clear hA
  go_enter Try.func3, Try.ntmps3
  go_wp2_with fail
  generalize (w.alloc (.cells #[.int .i64 W, .int .i64 H, .slice A n c] 24)).alloc (.cells #[.int .i64 q0, .int .i64 q1, .int .i64 q2] 26) = w1 at *
  refine (CG.out _ (K0.a 0 rfl)).mono ?_
  rintro e v1 ⟨_, rfl, ⟨_, rfl, Aa, ca, rfl, hca, hna, hga, aa⟩, hb1⟩
  have K1a := (K0.below hb1).addA aa
  have b1a := below_call b0 b0.size hb1
  have z1 := b1a.size
  have b1 : Below w.heap.size w (v1.alloc (.cells #[.int .i64 W, .int .i64 H, .slice Aa n ca] 24)) := by (repeat (first | exact Below.refl _ _ | assumption | refine Below.drew ?_ | refine below_drewN ?_ _ | refine Below.alloc ?_ (by first | omega | (simp; done) | (simp; omega)) _ | refine Below.setCell ?_ (by first | omega | (simp; done) | (simp; omega)) _ | refine below_setRow ?_ (by first | omega | (simp; done) | (simp; omega)) _ ))
  have K1 := K1a.new 24 #[.int .i64 W, .int .i64 H, .slice Aa n ca]
  clear K0 b0 K1a b1a hb1 aa hga  z1 CG hca hna
  obtain ⟨p1, p2, p3⟩ := (K1.b 0 rfl).cells3
  obtain ⟨r1, r2, r3⟩ := (K1.b 2 rfl).cells3
  go_wp2_with fail
  generalize v1.alloc (.cells #[.int .i64 W, .int .i64 H, .slice Aa n ca] 24) = w1 at *
  refine (C1.out _ _ _ (K1.a 0 rfl)).mono ?_
  rintro e v2 ⟨_, rfl, ⟨Ax, cx, rfl, hgx, ax⟩, hb2⟩
  have K2a := (K1.below hb2).addA ax
  have b2a := below_call b1 b1.size hb2
  have z2 := b2a.size
  have b2 : Below w.heap.size w (v2.alloc (.cells #[.int .i64 Wx, .int .i64 Hx, .slice Ax Nx cx] 29)) := by (repeat (first | exact Below.refl _ _ | assumption | refine Below.drew ?_ | refine below_drewN ?_ _ | refine Below.alloc ?_ (by first | omega | (simp; done) | (simp; omega)) _ | refine Below.setCell ?_ (by first | omega | (simp; done) | (simp; omega)) _ | refine below_setRow ?_ (by first | omega | (simp; done) | (simp; omega)) _ ))
  have K2 := K2a.new 29 #[.int .i64 Wx, .int .i64 Hx, .slice Ax Nx cx]
  clear K1 b1 K2a b2a hb2 ax hgx p1 p2 p3 r1 r2 r3 z2 C1
  obtain ⟨p1, p2, p3⟩ := (K2.b 2 rfl).cells3
  obtain ⟨r1, r2, r3⟩ := (K2.b 3 rfl).cells3
  go_wp2_with fail
  generalize v2.alloc (.cells #[.int .i64 Wx, .int .i64 Hx, .slice Ax Nx cx] 29) = w2 at *
  refine (C2.out _ (K2.a 2 rfl)).mono ?_
  rintro e v3 ⟨_, rfl, ⟨Ay, cy, rfl, hgy, ay⟩, hb3⟩
  have K3a := (K2.below hb3).addA ay
  have b3a := below_call b2 b2.size hb3
  have z3 := b3a.size
  have b3 : Below w.heap.size w (v3.alloc (.cells #[.int .i64 Wx, .int .i64 Hx, .slice Ay Nx cy] 29)) := by (repeat (first | exact Below.refl _ _ | assumption | refine Below.drew ?_ | refine below_drewN ?_ _ | refine Below.alloc ?_ (by first | omega | (simp; done) | (simp; omega)) _ | refine Below.setCell ?_ (by first | omega | (simp; done) | (simp; omega)) _ | refine below_setRow ?_ (by first | omega | (simp; done) | (simp; omega)) _ ))
  have K3 := K3a.new 29 #[.int .i64 Wx, .int .i64 Hx, .slice Ay Nx cy]
  clear K2 b2 K3a b3a hb3 ay hgy p1 p2 p3 r1 r2 r3 z3 C2
  obtain ⟨p1, p2, p3⟩ := (K3.b 2 rfl).cells3
  go_wp2_with fail
  generalize v3.alloc (.cells #[.int .i64 Wx, .int .i64 Hx, .slice Ay Nx cy] 29) = w3 at *
  refine (C3.out _ _ _ (K3.a 2 rfl)).mono ?_
  rintro e v4 ⟨_, rfl, ⟨Au, cu, rfl, hgu, au⟩, hb4⟩
  have K4a := (K3.below hb4).addA au
  have b4a := below_call b3 b3.size hb4
  have z4 := b4a.size
  have b4 : Below w.heap.size w ((v4.alloc (.cells #[.int .i64 Wc, .int .i64 Hc, .slice Au Nc cu] 29)).alloc (.cells #[.int .i64 m0, .int .i64 m1, .int .i64 m2] 26)) := by (repeat (first | exact Below.refl _ _ | assumption | refine Below.drew ?_ | refine below_drewN ?_ _ | refine Below.alloc ?_ (by first | omega | (simp; done) | (simp; omega)) _ | refine Below.setCell ?_ (by first | omega | (simp; done) | (simp; omega)) _ | refine below_setRow ?_ (by first | omega | (simp; done) | (simp; omega)) _ ))
  have K4 := ((K4a.new 29 #[.int .i64 Wc, .int .i64 Hc, .slice Au Nc cu]).alloc (.cells #[.int .i64 m0, .int .i64 m1, .int .i64 m2] 26)).addB (Blk.new' (n := v4.heap.size + 1) (by simp) 26 #[.int .i64 m0, .int .i64 m1, .int .i64 m2])
  clear K3 b3 K4a b4a hb4 au hgu p1 p2 p3 z4 C3
  obtain ⟨p1, p2, p3⟩ := (K4.b 5 rfl).cells3
  go_wp2_with fail
  generalize (v4.alloc (.cells #[.int .i64 Wc, .int .i64 Hc, .slice Au Nc cu] 29)).alloc (.cells #[.int .i64 m0, .int .i64 m1, .int .i64 m2] 26) = w4 at *
  refine (C4.out _).mono ?_
  rintro e v5 ⟨rfl, hb5⟩
  have K5 := K4.below hb5
  have b5 := below_call b4 b4.size hb5
  clear K4 b4 hb5 p1 p2 p3 C4
  by_cases hE : Ec = 0
  · subst hE
    have D5 := Lib.hid (C5.out rfl)
    clear C5 CS
    obtain ⟨p1, p2, p3⟩ := (K5.b 3 rfl).cells3
    obtain ⟨r1, r2, r3⟩ := (K5.b 2 rfl).cells3
    go_wp2_with fail
    refine (sameInk_true Wx Hx Ax Ay Nx cx cy qx qx _ (K5.a 2 rfl) (K5.a 1 rfl) (by unfold maxLen; omega) (fun _ _ _ => rfl)).mono ?_
    rintro e v6 ⟨rfl, hb6⟩
    have K6 := K5.below hb6
    have b6 := below_call b5 b5.size hb6
    clear K5 b5 hb6 p1 p2 p3 r1 r2 r3 
    obtain ⟨p1, p2, p3⟩ := (K6.b 4 rfl).cells3
    obtain ⟨r1, r2, r3⟩ := (K6.b 5 rfl).cells3
    go_wp2_with fail
    refine (sameGrey_true W H Aa A n ca c p p _ (K6.a 3 rfl) (K6.a 4 rfl) (by unfold maxLen; omega) (fun _ _ _ => rfl)).mono ?_
    rintro e v7 ⟨rfl, hb7⟩
    have K7 := K6.below hb7
    have b7 := below_call b6 b6.size hb7
    clear K6 b6 hb7 p1 p2 p3 r1 r2 r3 
    obtain ⟨p1, p2, p3⟩ := (K7.b 5 rfl).cells3
    go_wp2_with fail
    refine (D5.out _ (K7.a 4 rfl)).mono ?_
    rintro e v8 ⟨_, rfl, ⟨Av, cv, rfl, hgv, av⟩, hb8⟩
    have K8a := (K7.below hb8).addA av
    have b8a := below_call b7 b7.size hb8
    have z8 := b8a.size
    have b8 : Below w.heap.size w ((v8.alloc (.cells #[.int .i64 Wc, .int .i64 Hc, .slice Av Nc cv] 29)).alloc (.cells #[.int .i64 m0, .int .i64 m1, .int .i64 m2] 26)) := by (repeat (first | exact Below.refl _ _ | assumption | refine Below.drew ?_ | refine below_drewN ?_ _ | refine Below.alloc ?_ (by first | omega | (simp; done) | (simp; omega)) _ | refine Below.setCell ?_ (by first | omega | (simp; done) | (simp; omega)) _ | refine below_setRow ?_ (by first | omega | (simp; done) | (simp; omega)) _ ))
    have K8 := ((K8a.new 29 #[.int .i64 Wc, .int .i64 Hc, .slice Av Nc cv]).alloc (.cells #[.int .i64 m0, .int .i64 m1, .int .i64 m2] 26)).addB (Blk.new' (n := v8.heap.size + 1) (by simp) 26 #[.int .i64 m0, .int .i64 m1, .int .i64 m2])
    clear K7 b7 K8a b8a hb8 av hgv p1 p2 p3 z8 D5
    obtain ⟨p1, p2, p3⟩ := (K8.b 3 rfl).cells3
    obtain ⟨r1, r2, r3⟩ := (K8.b 1 rfl).cells3
    obtain ⟨s1, s2, s3⟩ := (K8.b 2 rfl).cells3
    obtain ⟨t1, t2, t3⟩ := (K8.b 0 rfl).cells3
    go_wp2_with fail
    generalize (v8.alloc (.cells #[.int .i64 Wc, .int .i64 Hc, .slice Av Nc cv] 29)).alloc (.cells #[.int .i64 m0, .int .i64 m1, .int .i64 m2] 26) = w8 at *
    refine (sameInk_true Wc Hc Au Av Nc cu cv qc qc _ (K8.a 1 rfl) (K8.a 0 rfl) (by unfold maxLen; omega) (fun _ _ _ => rfl)).mono ?_
    rintro e v9 ⟨rfl, hb9⟩
    have K9 := K8.below hb9
    have b9 := below_call b8 b8.size hb9
    clear K8 b8 hb9 p1 p2 p3 r1 r2 r3 s1 s2 s3 t1 t2 t3 
    obtain ⟨p1, p2, p3⟩ := (K9.b 2 rfl).cells3
    obtain ⟨r1, r2, r3⟩ := (K9.b 0 rfl).cells3
    go_wp2_with fail
    refine (awake_any _).mono ?_
    rintro e v10 ⟨rfl, hb10⟩
    have b10 := below_call b9 b9.size hb10
    go_wp2
    go_ret
    exact ⟨rfl, b10⟩
  · obtain ⟨rfl, rfl, rfl, rfl, rfl, rfl⟩ := CS.out.bad hE
    have hb1 : (Ec == 0) = false := by simp [hE]
    have hb2 : (Ec != 0) = true := by simp [hE]
    have HE := Lib.hid hE
    clear hE C5 CS
    obtain ⟨p1, p2, p3⟩ := (K5.b 3 rfl).cells3
    obtain ⟨r1, r2, r3⟩ := (K5.b 2 rfl).cells3
    go_wp2_with fail
    refine (sameInk_true Wx Hx Ax Ay Nx cx cy qx qx _ (K5.a 2 rfl) (K5.a 1 rfl) (by unfold maxLen; omega) (fun _ _ _ => rfl)).mono ?_
    rintro e v6 ⟨rfl, hb6⟩
    have K6 := K5.below hb6
    have b6 := below_call b5 b5.size hb6
    clear K5 b5 hb6 p1 p2 p3 r1 r2 r3 
    obtain ⟨p1, p2, p3⟩ := (K6.b 4 rfl).cells3
    obtain ⟨r1, r2, r3⟩ := (K6.b 5 rfl).cells3
    go_wp2_with fail
    refine (sameGrey_true W H Aa A n ca c p p _ (K6.a 3 rfl) (K6.a 4 rfl) (by unfold maxLen; omega) (fun _ _ _ => rfl)).mono ?_
    rintro e v7 ⟨rfl, hb7⟩
    have K7 := K6.below hb7
    have b7 := below_call b6 b6.size hb7
    clear K6 b6 hb7 p1 p2 p3 r1 r2 r3 
    obtain ⟨p1, p2, p3⟩ := (K7.b 1 rfl).cells3
    obtain ⟨r1, r2, r3⟩ := (K7.b 0 rfl).cells3
    go_wp2_with fail
    refine (awake_any _).mono ?_
    rintro e v8 ⟨rfl, hb8⟩
    have b8 := below_call b7 b7.size hb8
    go_wp2
    go_ret
    exact ⟨rfl, b8⟩
end Go.Proofs.Ytoonkpjddfiopaa

/- How an argument of a statement is opened: slices of integers and images, as functions of the index. -/
namespace Go.Proofs.Ytoonkpjddfiopaa
open Go.ChangeShapes Go.WideShapes Go.ChangeAt Go.RowKit Go.Deep
set_option linter.unusedVariables false

theorem Try.own : ownKnob Try.prog.godebug = none := by kernel_rfl
theorem Try.laidOut : laidOutB Try.prog = true := by kernel_rfl

theorem addr_plain {w : World} {a : Addr} {v : Value} (h : w.cell? a = some v) : ∃ b off, a = ⟨b, off, none⟩ := by
  obtain ⟨b, off, spot⟩ := a
  have hs : spot = none := by simpa using World.cell?_spot h
  subst hs
  exact ⟨b, off, rfl⟩

section
variable {H : Type} {enc : TypeId × Value → H} {P : Program} {w : World}
theorem ints_of {t e : TypeId} {k : IntKind} {fuel : Nat} {v : Value} {x : DataW H × List MemPlace} (ht : P.underlying t = some (.slice e)) (he : P.underlying e = some (.int k)) (hc : P.cellsOf e = 1) (h0 : (Lit.int k 0).wf = true)
    (h : DataW.trod enc P w 0 (fun _ => true) true fuel t [v] = some x) :
    ∃ A n c zs, v = .slice A n c ∧ (A = none → c = 0) ∧ n ≤ c ∧ c ≤ maxLen ∧ Arr w w.heap.size A n (fun i => .int k (lit zs i)) ∧ ∀ i, (Lit.int k (lit zs i)).wf = true := by
  rcases open_ints ht he hc h with ⟨hcs, _⟩ | ⟨a, l, c, zs, hcs, _, hl, hm, hz, _, hcell, hwz⟩
  · simp at hcs
    exact ⟨none, 0, 0, [], hcs, fun _ => rfl, Nat.le_refl _, Nat.zero_le _, Arr.nil, fun i => by simpa [lit] using h0⟩
  · simp at hcs
    refine ⟨some a, l, c, zs, hcs, (fun e => by cases e), hl, hm, fun hn => ?_, fun i => ?_⟩
    · have hz' : zs.length = c := by simpa using hz
      have c0 := hcell 0 (by omega)
      obtain ⟨b, off, e⟩ := addr_plain c0
      have ha : a = ⟨b, off, none⟩ := by simpa [Addr.add] using e
      subst ha
      refine ⟨b, off, rfl, block_lt_of_cell c0, fun i h0 hi => ?_⟩
      have := hcell i.toNat (by omega)
      have hadd : (⟨b, off, none⟩ : Addr).add i.toNat = ⟨b, off + i.toNat, none⟩ := by
        unfold Addr.add; split
        · rename_i e; rw [e]; rfl
        · rfl
      rw [hadd] at this
      exact this
    · unfold lit
      rw [List.getD_eq_getElem?_getD]
      by_cases hi : i.toNat < zs.length
      · rw [List.getElem?_eq_getElem hi]; exact hwz _ (List.getElem_mem hi)
      · rw [List.getElem?_eq_none (by omega)]; exact h0
theorem open_sl {t e : TypeId} {k : IntKind} {v : Value} {d : DataW H} {p : List MemPlace} {base : Nat} (ht : P.underlying t = some (.slice e)) (he : P.underlying e = some (.int k)) (hc : P.cellsOf e = 1) (h0 : (Lit.int k 0).wf = true)
    (hv : Value.okWide P w .any base t v) (h : DataW.Trod enc P w 0 (fun _ => true) true t v d p) :
    ∃ A n c zs, v = .slice A n c ∧ (A = none → c = 0) ∧ n ≤ c ∧ c ≤ maxLen ∧ Arr w w.heap.size A n (fun i => .int k (lit zs i)) ∧ ∀ i, (Lit.int k (lit zs i)).wf = true := by
  obtain ⟨a0, l0, c0, rfl⟩ := okWide_slice ht hv
  obtain ⟨fuel, hf⟩ := h
  exact ints_of ht he hc h0 (by simpa [Value.cells] using hf)
/-- a struct of two ints and a slice of bytes: Ink, Grey -/
theorem open_img {t tI tB eB : TypeId} {f0 f1 f2 : Field} {v : Value} {d : DataW H} {p : List MemPlace} {base : Nat} (hs : P.underlying t = some (.struct #[f0, f1, f2])) (e0 : f0.type = tI) (e1 : f1.type = tI) (e2 : f2.type = tB)
    (hone : oneCellFields P #[f0, f1, f2] = true) (hC : P.cellsOf t = 3) (hI : P.underlying tI = some (.int .i64)) (hB : P.underlying tB = some (.slice eB)) (hE : P.underlying eB = some (.int .u8)) (hcE : P.cellsOf eB = 1)
    (hv : Value.okWide P w .any base t v) (h : DataW.Trod enc P w 0 (fun _ => true) true t v d p) :
    ∃ W Hh A n c zs, v = .agg #[.int .i64 W, .int .i64 Hh, .slice A n c] ∧ (Lit.int .i64 W).wf = true ∧ (Lit.int .i64 Hh).wf = true ∧ (A = none → c = 0) ∧ n ≤ c ∧ c ≤ maxLen ∧ ArrB w w.heap.size A n (lit zs) ∧ IsB (lit zs) := by
  obtain ⟨v0, v1, v2, y0, y1, y2, n, rfl, -, -, h0, h1, h2⟩ := Go.Joins.open_agg3 hs hone hC hv h
  rw [e0] at h0; rw [e1] at h1; rw [e2] at h2
  obtain ⟨W, hw, -, wW⟩ := DataW.trod_int hI h0
  obtain ⟨Hh, hh, -, wH⟩ := DataW.trod_int hI h1
  simp at hw hh
  subst hw; subst hh
  obtain ⟨A, m, c, zs, rfl, z, a, b, d, e⟩ := ints_of hB hE hcE (by decide) h2
  exact ⟨W, Hh, A, m, c, zs, rfl, wW, wH, z, a, b, d, fun i => bounds_u8 (e i)⟩
end
end Go.Proofs.Ytoonkpjddfiopaa

/- How an argument of three numbers (api.Recipe) is opened. -/
namespace Go.Proofs.Ytoonkpjddfiopaa
open Go.ChangeShapes Go.WideShapes Go.ChangeAt Go.RowKit Go.Deep
set_option linter.unusedVariables false

section
variable {H : Type} {enc : TypeId × Value → H} {P : Program} {w : World}
/-- a struct of three ints -/
theorem open_rec {t tI : TypeId} {f0 f1 f2 : Field} {v : Value} {d : DataW H} {p : List MemPlace} {base : Nat} (hs : P.underlying t = some (.struct #[f0, f1, f2])) (e0 : f0.type = tI) (e1 : f1.type = tI) (e2 : f2.type = tI)
    (hone : oneCellFields P #[f0, f1, f2] = true) (hC : P.cellsOf t = 3) (hI : P.underlying tI = some (.int .i64))
    (hv : Value.okWide P w .any base t v) (h : DataW.Trod enc P w 0 (fun _ => true) true t v d p) :
    ∃ a b c, v = .agg #[.int .i64 a, .int .i64 b, .int .i64 c] ∧ (Lit.int .i64 a).wf = true ∧ (Lit.int .i64 b).wf = true ∧ (Lit.int .i64 c).wf = true := by
  obtain ⟨v0, v1, v2, y0, y1, y2, n, rfl, -, -, h0, h1, h2⟩ := Go.Joins.open_agg3 hs hone hC hv h
  rw [e0] at h0; rw [e1] at h1; rw [e2] at h2
  obtain ⟨a, ha, -, wa⟩ := DataW.trod_int hI h0
  obtain ⟨b, hb, -, wb⟩ := DataW.trod_int hI h1
  obtain ⟨c, hc, -, wc⟩ := DataW.trod_int hI h2
  simp at ha hb hc
  subst ha; subst hb; subst hc
  exact ⟨a, b, c, rfl, wa, wb, wc⟩
end
end Go.Proofs.Ytoonkpjddfiopaa
