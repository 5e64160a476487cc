/- Texts of mine in build order: I4, F6, W19, F7, K1, W16, W17. Conditions: each theorem's own. -/
import Derived.Test.YtoonkpjddfiopaaMCleanFoundx5
import Derived.Deep.RegionHeld3
import Derived.Deep.DeepCutAuto
import Derived.Deep.Cut
import Derived.RangeFuncBox
import Derived.OwnWalkIn
/- Walk: small components removed (image.Despeckle). -/
namespace Go.Proofs.Ytoonkpjddfiopaa
open Go.RowKit Go.Shelf
set_option linter.unusedVariables false
attribute [local go_sem] Oper.semAt_some

open Classical in
/-- the ink of the great components -/
noncomputable def bgQ (n W : Nat) (p : Int → Int) (m : Int) : Int → Int := fun i => if bigN n (InkN n p) (AdjN W true) m i.toNat then 1 else 0
/-- what the first t roots of a list and the first j places of the next one fill -/
def DoneN (n : Nat) (ink : Nat → Prop) (A : Nat → Nat → Prop) (m : Int) (l : List Nat) (t : Nat) (i : Nat) : Prop := ∃ s r, s < t ∧ l[s]? = some r ∧ m ≤ ((partN n ink A r).length : Int) ∧ i ∈ partN n ink A r
section
variable {n W : Nat} {ink : Nat → Prop} {A : Nat → Nat → Prop} {m : Int} {l : List Nat} {t i r : Nat}
theorem done_skip (hr : l[t]? = some r) (h : ¬ m ≤ ((partN n ink A r).length : Int)) : DoneN n ink A m l (t + 1) i ↔ DoneN n ink A m l t i := by
  constructor
  · rintro ⟨s, r', h1, h2, h3, h4⟩
    by_cases e : s = t
    · subst e
      rw [hr] at h2; cases h2
      exact absurd h3 h
    · exact ⟨s, r', by omega, h2, h3, h4⟩
  · rintro ⟨s, r', h1, h2, h3, h4⟩
    exact ⟨s, r', by omega, h2, h3, h4⟩
theorem done_take (hr : l[t]? = some r) (h : m ≤ ((partN n ink A r).length : Int)) : DoneN n ink A m l (t + 1) i ↔ DoneN n ink A m l t i ∨ i ∈ partN n ink A r := by
  constructor
  · rintro ⟨s, r', h1, h2, h3, h4⟩
    by_cases e : s = t
    · subst e
      rw [hr] at h2; cases h2
      exact .inr h4
    · exact .inl ⟨s, r', by omega, h2, h3, h4⟩
  · rintro (⟨s, r', h1, h2, h3, h4⟩ | h4)
    · exact ⟨s, r', by omega, h2, h3, h4⟩
    · exact ⟨t, r, by omega, hr, h, h4⟩
theorem done_all (hA : ∀ a b, A a b → A b a) (hin : ∀ x, ink x → x < n) : DoneN n ink A m (rootN n ink A) (rootN n ink A).length i ↔ bigN n ink A m i := by
  constructor
  · rintro ⟨s, r, h1, h2, h3, h4⟩
    have hc := (mem_partN.1 h4).2
    exact ⟨hc.right, by rw [← part_eq hA hc]; exact h3⟩
  · rintro ⟨h1, h2⟩
    obtain ⟨r, hr, hR, hc⟩ := root_ex hA h1
    have hm : r ∈ rootN n ink A := mem_rootN.2 ⟨hin _ hR.1, hR⟩
    obtain ⟨s, hs, e⟩ := List.getElem_of_mem hm
    exact ⟨s, r, hs, by rw [List.getElem?_eq_getElem hs, e], by rw [part_eq hA hc]; exact h2, mem_partN.2 ⟨hin _ h1, hc⟩⟩
end
/-- the image while it is filled: what is filled, and nothing else, is ink -/
def FillI (n : Nat) (q : Int → Int) (D : Nat → Prop) : Prop := ∀ i : Nat, i < n → (q i = 1 ↔ D i) ∧ (q i = 0 ∨ q i = 1)
theorem FillI.set {n : Nat} {q : Int → Int} {D D' : Nat → Prop} (h : FillI n q D) {x : Nat} (hD : ∀ i, D' i ↔ D i ∨ i = x) : FillI n (upd q x 1) D' := fun i hi => by
  unfold upd
  by_cases e : (i : Int) = x
  · have e' : i = x := by omega
    rw [if_pos e]
    exact ⟨⟨fun _ => (hD i).2 (.inr e'), fun _ => rfl⟩, .inr rfl⟩
  · rw [if_neg e]
    refine ⟨?_, (h i hi).2⟩
    rw [(h i hi).1, hD i]
    exact ⟨.inl, fun h => h.elim id fun e' => absurd (by omega) e⟩
theorem FillI.conv {n : Nat} {q : Int → Int} {D D' : Nat → Prop} (h : FillI n q D) (hD : ∀ i, D' i ↔ D i) : FillI n q D' := fun i hi => ⟨(h i hi).1.trans (hD i).symm, (h i hi).2⟩
theorem FillI.end_ {n W : Nat} {q p : Int → Int} {m : Int} (h : FillI n q (bigN n (InkN n p) (AdjN W true) m)) (i : Int) (h0 : 0 ≤ i) (h1 : i < n) : q i = bgQ n W p m i := by
  have h2 := h i.toNat (by omega)
  rw [Int.toNat_of_nonneg h0] at h2
  unfold bgQ
  by_cases c : bigN n (InkN n p) (AdjN W true) m i.toNat
  · rw [if_pos c]; exact h2.1.2 c
  · rw [if_neg c]
    rcases h2.2 with h3 | h3
    · exact h3
    · exact absurd (h2.1.1 h3) c
set_option maxRecDepth 100000 in
set_option maxHeartbeats 4000000 in
theorem desp_any (W H : Nat) (least : Int) (A : Option Addr) (n c : Nat) (p : Int → Int) (w : World) (hA : ArrB w w.heap.size A n p) (hW : W ≤ 640) (hH : H ≤ 640) (hn : n = W * H) (hp : ∀ i : Int, 0 ≤ i → i < n → p i = 0 ∨ p i = 1) :
    Calls Try.prog 54 #[.agg #[.int .i64 W, .int .i64 H, .slice A n c], .int .i64 least] w (New w fun v w' => OutT w w' 0 W H n (bgQ n W p least) v) := by
  have hnI : (n : Int) = (W : Int) * H := by rw [hn]; push_cast; rfl
  have hn9 : n ≤ 409600 := by rw [hn]; exact Nat.mul_le_mul hW hH
  have CO := Lib.hid fun w' hA' => comps_any W H true A n c p w' hA' hW hH hn hp
  have BL := Lib.hid fun w' => (blank_any W H w' (by omega) (by omega) (by omega) (by omega)).mono fun e w'' (⟨v, he, ho, hb⟩ : New w' (fun v w'' => OutImg w' w'' W H (fun _ => 0) v) e w'') => (show New w' (fun v w'' => OutN w' w'' W H n (fun _ => 0) v) e w'' from ⟨v, he, ho.outN hnI, hb⟩)
  have HN := Lib.hid hn
  have HNI := Lib.hid hnI
  clear hn hnI hp
  have b1 : Below w.heap.size w ((w.alloc (.cells #[.int .i64 W, .int .i64 H, .slice A n c] 29)).alloc (.cells #[.int .i64 0, .int .i64 0, .slice none 0 0] 29)) := by (repeat (first | exact Below.refl _ _ | assumption | refine Below.drew ?_ | refine below_drewN ?_ _ | refine Below.alloc ?_ (by first | omega | (simp; done) | (simp; omega)) _ | refine Below.setCell ?_ (by first | omega | (simp; done) | (simp; omega)) _ | refine below_setRow ?_ (by first | omega | (simp; done) | (simp; omega)) _ ))
  have k1 : Blk ((w.alloc (.cells #[.int .i64 W, .int .i64 H, .slice A n c] 29)).alloc (.cells #[.int .i64 0, .int .i64 0, .slice none 0 0] 29)) w.heap.size 29 #[.int .i64 W, .int .i64 H, .slice A n c] := (Blk.new _ _ _).alloc _
  have k2 : Blk ((w.alloc (.cells #[.int .i64 W, .int .i64 H, .slice A n c] 29)).alloc (.cells #[.int .i64 0, .int .i64 0, .slice none 0 0] 29)) (w.heap.size + 1) 29 #[.int .i64 0, .int .i64 0, .slice none 0 0] := Blk.new' (by simp) _ _
  go_enter Try.func54, Try.ntmps54
  go_wp2_with fail
  generalize (w.alloc (.cells #[.int .i64 W, .int .i64 H, .slice A n c] 29)).alloc (.cells #[.int .i64 0, .int .i64 0, .slice none 0 0] 29) = w1 at *
  refine (CO.out w1 (hA.to b1)).mono ?_
  rintro e w2 ⟨_, rfl, ⟨vo, rfl, hC⟩, hb2⟩
  have b2 := below_call b1 b1.size hb2
  replace k1 := k1.below' hb2
  replace k2 := k2.below' hb2
  obtain ⟨L, hc1, hc2, hc3⟩ := hC
  have HC1 := Lib.hid hc1
  obtain ⟨AL, cL, rfl, hcL, hEL⟩ := hc2.arr encC_len
  clear b1 hb2 CO hc1 hA
  obtain ⟨p1, p2, p3⟩ := k1.cells3
  go_wp2_with fail
  refine (BL.out w2).mono ?_
  rintro e w3 ⟨_, rfl, ⟨g, rfl, hg, kg⟩, hb3⟩
  have b3 := below_call b2 b2.size hb3
  have zk2 := k2.lt
  replace k1 := (k1.below' hb3).alloc (.cells #[.int .i64 W, .int .i64 H, .slice (some ⟨g, 0, none⟩) n n] 29)
  replace k2 := (k2.below' hb3).alloc (.cells #[.int .i64 W, .int .i64 H, .slice (some ⟨g, 0, none⟩) n n] 29)
  have zg := kg.lt
  have kx := Blk.new w3 29 #[.int .i64 W, .int .i64 H, .slice (some ⟨g, 0, none⟩) n n]
  have zs := hb3.size
  have bl : Below w2.heap.size w2 (w3.alloc (.cells #[.int .i64 W, .int .i64 H, .slice (some ⟨g, 0, none⟩) n n] 29)) := hb3.alloc hb3.size _
  have b4 := below_call b2 b2.size bl
  have HEL := Lib.hid (hEL.to bl)
  have HC3 := Lib.hid fun t ht => (show _ ∧ _ from ⟨(hc3 t ht).1, (hc3 t ht).2.below bl⟩)
  obtain ⟨gx, hgx⟩ : ∃ gx, w3.heap.size = gx := ⟨_, rfl⟩
  have zz : (w3.alloc (.cells #[.int .i64 W, .int .i64 H, .slice (some ⟨g, 0, none⟩) n n] 29)).heap.size = gx + 1 := by simp [hgx]
  have kp := kg.alloc (.cells #[.int .i64 W, .int .i64 H, .slice (some ⟨g, 0, none⟩) n n] 29)
  have zel : ∀ gL, AL = some ⟨gL, 0, none⟩ → L ≠ [] → gL < w2.heap.size := fun gL e hne => by
    obtain ⟨g', e', hlt, -⟩ := hEL hne
    rw [e] at e'; cases e'; exact hlt
  rw [hgx] at kx zg zs
  clear kg b3 p1 p2 p3 hb3 hEL hc3 hc2 BL bl
  go_upto_region 5 with fail
  generalize w3.alloc (.cells #[.int .i64 W, .int .i64 H, .slice (some ⟨g, 0, none⟩) n n] 29) = w4 at *
  clear hgx
  obtain ⟨K, hK⟩ : ∃ K, L.length = K := ⟨_, rfl⟩
  have HK := Lib.hid hK
  have HZE := Lib.hid zel
  rw [hK] at hcL
  rw [hK]
  have hKn : K ≤ 409600 := by
    have := congrArg List.length HC1.out
    rw [List.length_map, hK] at this
    have := rootK_len n (InkN n p) (AdjN W true)
    omega
  clear hK zel
  have F0 := Lib.hid (show FillI n (fun _ => 0) (DoneN n (InkN n p) (AdjN W true) least (rootN n (InkN n p) (AdjN W true)) 0) from fun i hi => ⟨⟨fun h => absurd (show (0 : Int) = 1 from h) (by decide), fun h => by
    obtain ⟨s, r, h, -⟩ := h
    omega⟩, .inl rfl⟩)
  have KP4 := Lib.hid kp
  have ZZ := Lib.hid zz
  go_wp2_with fail
  go_loopw [29] (fun s wr => ∃ (t : Nat) (q : Int → Int), t ≤ K ∧ s = .int .i64 t ∧ Hid (FillI n q (DoneN n (InkN n p) (AdjN W true) least (rootN n (InkN n p) (AdjN W true)) t)) ∧ But (gx + 1) g w4 wr ∧ Blk wr g 5 (u8s n q)) (fun s _ => K - (intOf s).toNat)
  case atStart => exact ⟨0, _, by omega, rfl, F0, But.refl _ (by omega), kp⟩
  case round =>
    obtain ⟨t, q, ht, rfl, HF, bu, mp⟩ := hrel
    clear kp
    have m1 := k1.but bu (by omega) (by omega)
    have mx := kx.but bu (by omega) (by omega)
    by_cases tl : (t : Int) < K
    · obtain ⟨⟨r, ⟨c1, c2, c3, c4⟩, v⟩, hLt⟩ : ∃ y, L[t]? = some y := ⟨L[t]'(by rw [HK.out]; omega), List.getElem?_eq_getElem _⟩
      have hne : L ≠ [] := fun e => by rw [e] at hLt; simp at hLt
      obtain ⟨gL, rfl, hgL, hcl⟩ := HEL.out hne
      have zgL := HZE.out gL rfl hne
      have cells : ∀ s, s < 5 → wr.cell? ⟨gL, t * 5 + s, none⟩ = (encC (r, (c1, c2, c3, c4), v))[s]? := fun s hs => by
        rw [← hcl t _ hLt s hs]
        exact World.cell?_of_block (bu.block gL (by omega) (by omega))
      have q0 := cells 0 (by omega); have q1 := cells 1 (by omega); have q2 := cells 2 (by omega); have q3 := cells 3 (by omega); have q4 := cells 4 (by omega)
      change _ = some (Value.int .i64 c1) at q0
      change _ = some (Value.int .i64 c2) at q1
      change _ = some (Value.int .i64 c3) at q2
      change _ = some (Value.int .i64 c4) at q3
      change _ = some v at q4
      rw [Nat.add_zero] at q0
      have hER : ERow w4 w1.heap.size 97 2 (encP W) v (partN n (InkN n p) (AdjN W true) r) := (HC3.out _ (List.mem_of_getElem? hLt)).2
      have hroot : (rootN n (InkN n p) (AdjN W true))[t]? = some r := by
        have h9 := HC1.out
        rw [rootK_n] at h9
        rw [← h9, List.getElem?_map, hLt]; rfl
      have HRT := Lib.hid hroot
      obtain ⟨part, hpart⟩ : ∃ l, partN n (InkN n p) (AdjN W true) r = l := ⟨_, rfl⟩
      have HPT := Lib.hid hpart
      rw [hpart] at hER
      have hplt : ∀ x ∈ part, x < n := fun x hx => by rw [← hpart] at hx; exact (mem_partN.1 hx).1
      obtain ⟨AP, cP, rfl, hcP⟩ := hER.val
      have HER := Lib.hid hER
      obtain ⟨P, hP⟩ : ∃ P, part.length = P := ⟨_, rfl⟩
      have HPL := Lib.hid hP
      rw [hP] at q4 hcP
      have hPn : P ≤ 409600 := by
        rw [← hP, ← hpart]
        exact Nat.le_trans partK_len hn9
      clear cells hroot hpart hER hP hLt hcl
      obtain ⟨gc, hgc⟩ : ∃ g, wr.heap.size = g := ⟨_, rfl⟩
      go_upto_region 8 with fail
      have kc := Blk.new wr 111 #[.int .i64 c1, .int .i64 c2, .int .i64 c3, .int .i64 c4, .slice AP P cP]
      have bc : Below wr.heap.size wr (wr.alloc (.cells #[.int .i64 c1, .int .i64 c2, .int .i64 c3, .int .i64 c4, .slice AP P cP] 111)) := (Below.refl _ _).alloc (Nat.le_refl _) _
      have bu2 := bu.then (bc.mono bu.size)
      have mp2 := mp.below' bc
      have q9 := kc.cell 4
      rw [hgc] at q9
      change _ = some (Value.slice AP P cP) at q9
      generalize wr.alloc (.cells #[.int .i64 c1, .int .i64 c2, .int .i64 c3, .int .i64 c4, .slice AP P cP] 111) = w5 at *
      clear bu mp m1 mx kc bc q0 q1 q2 q3 q4 hgc
      by_cases hle : (P : Int) < least
      · have FS := Lib.hid (HF.out.conv (D' := DoneN n (InkN n p) (AdjN W true) least (rootN n (InkN n p) (AdjN W true)) (t + 1)) fun i => done_skip HRT.out (by rw [HPT.out, HPL.out]; omega))
        go_wp2_with fail
        go_roundw
        case rel => exact ⟨t + 1, q, by omega, by go_num, FS, bu2, mp2⟩
        case measure => simp [intOf]; omega
      · have FS := Lib.hid (HF.out.conv (D' := fun i => DoneN n (InkN n p) (AdjN W true) least (rootN n (InkN n p) (AdjN W true)) t i ∨ i ∈ part.take 0) fun i => by simp)
        have HLE := Lib.hid hle
        go_wp2_with fail
        clear hle
        go_loopw [41] (fun s wr => ∃ (u : Nat) (q : Int → Int), u ≤ P ∧ s = .int .i64 u ∧ Hid (FillI n q (fun i => DoneN n (InkN n p) (AdjN W true) least (rootN n (InkN n p) (AdjN W true)) t i ∨ i ∈ part.take u)) ∧ But (gx + 1) g w4 wr ∧ Blk wr g 5 (u8s n q)) (fun s _ => P - (intOf s).toNat)
        case atStart => exact ⟨0, q, by omega, rfl, FS, bu2, mp2⟩
        case round =>
          obtain ⟨u, q2, hu, rfl, HF2, bu3, mp3⟩ := hrel
          clear bu2 mp2 q9
          by_cases ul : (u : Int) < P
          · have m1 := k1.but bu3 (by omega) (by omega)
            have mx := kx.but bu3 (by omega) (by omega)
            obtain ⟨x, hx⟩ : ∃ x, part[u]? = some x := ⟨part[u]'(by rw [HPL.out]; omega), List.getElem?_eq_getElem _⟩
            have hne : part ≠ [] := fun e => by rw [e] at hx; simp at hx
            have hE3 := HER.out.but bu3 ZZ.out KP4.out (by decide)
            obtain ⟨gP, cP', cs, ev, -, -, kP, -, -, htP⟩ := hE3.blk hne
            have eA : AP = some ⟨gP, 0, none⟩ := by cases ev; rfl
            subst eA
            have e0 := ERow.cell (encP_len W) kP htP hx (t := 0) (by omega)
            have e1 := ERow.cell (encP_len W) kP htP hx (t := 1) (by omega)
            change _ = some (Value.int .i64 ((x % W : Nat) : Int)) at e0
            change _ = some (Value.int .i64 ((x / W : Nat) : Int)) at e1
            rw [Nat.add_zero] at e0
            have hxn := hplt x (List.mem_of_getElem? hx)
            have hW0 : 0 < W := by
              rcases Nat.eq_zero_or_pos W with h | h
              · have := HN.out; rw [h, Nat.zero_mul] at this; omega
              · exact h
            obtain ⟨X, hX⟩ : ∃ X : Int, ((x % W : Nat) : Int) = X := ⟨_, rfl⟩
            obtain ⟨Y, hY⟩ : ∃ Y : Int, ((x / W : Nat) : Int) = Y := ⟨_, rfl⟩
            have X0 : 0 ≤ X := by rw [← hX]; exact Int.natCast_nonneg _
            have X1 : X < W := by rw [← hX]; exact Int.ofNat_lt.2 (Nat.mod_lt _ hW0)
            have Y0 : 0 ≤ Y := by rw [← hY]; exact Int.natCast_nonneg _
            have Y1 : Y < H := by rw [← hY]; exact Int.ofNat_lt.2 (Nat.div_lt_of_lt_mul (HN.out ▸ hxn))
            have hxy : Y * W + X = (x : Int) := by
              rw [← hX, ← hY]
              have := Nat.div_add_mod x W
              rw [Nat.mul_comm] at this
              have h9 : ((x / W * W + x % W : Nat) : Int) = (x : Int) := by rw [this]
              push_cast at h9 ⊢
              exact h9
            rw [hX] at e0
            rw [hY] at e1
            have wm := idx_lt X0 X1 Y0 Y1
            have v1 : IntKind.i64.wrap (Y * W) = Y * W := IntWalk.i64_in _ (by omega)
            have v2 : IntKind.i64.wrap (Y * W + X) = (x : Int) := (IntWalk.i64_in _ (by omega)).trans hxy
            have hxn' : (x : Int) < n := by omega
            have HXT := Lib.hid (show part.take (u + 1) = part.take u ++ [x] by rw [List.take_add_one, hx]; rfl)
            clear hX hY X0 X1 Y0 Y1 wm hE3 ev kP htP hne hx hxn hxy
            obtain ⟨gt, hgt⟩ : ∃ g, wr.heap.size = g := ⟨_, rfl⟩
            go_upto_region 12 with fail
            have kt := Blk.new wr 97 #[.int .i64 X, .int .i64 Y]
            have bt : Below wr.heap.size wr (wr.alloc (.cells #[.int .i64 X, .int .i64 Y] 97)) := (Below.refl _ _).alloc (Nat.le_refl _) _
            have bu4 := bu3.then (bt.mono bu3.size)
            have mp4 := mp3.below' bt
            have n1 := m1.below' bt
            have nx := mx.below' bt
            rw [hgt] at kt
            generalize wr.alloc (.cells #[.int .i64 X, .int .i64 Y] 97) = w6 at *
            obtain ⟨f1, f2⟩ := kt.cells2
            obtain ⟨s1, s2, s3⟩ := n1.cells3
            obtain ⟨r1, r2, r3⟩ := nx.cells3
            have hc := mp4.u8at (i := (x : Int)) (by omega) hxn'
            have hf := mp4.frozen x
            rw [Int.toNat_natCast] at hc
            have mp5 := mp4.u8set (x : Int) (by omega) 1
            rw [Int.toNat_natCast] at mp5
            have bu5 := bu4.set x (.int .u8 1)
            have FS2 := Lib.hid (HF2.out.set (x := x) (D' := fun i => DoneN n (InkN n p) (AdjN W true) least (rootN n (InkN n p) (AdjN W true)) t i ∨ i ∈ part.take (u + 1)) fun i => by
              rw [HXT.out, List.mem_append, List.mem_singleton, or_assoc])
            clear bu3 mp3 m1 mx e0 e1 bt hgt bu4
            go_wp2_with fail
            go_roundw
            case rel => exact ⟨u + 1, _, by omega, by go_num, FS2, bu5, mp5⟩
            case measure => simp [intOf]; omega
          · have eu : u = P := by omega
            have FE := Lib.hid (HF2.out.conv (D' := DoneN n (InkN n p) (AdjN W true) least (rootN n (InkN n p) (AdjN W true)) (t + 1)) fun i => by
              rw [done_take HRT.out (by rw [HPT.out, HPL.out]; have := HLE.out; omega), HPT.out, eu, ← HPL.out, List.take_length])
            clear hu eu
            go_wp2_with fail
            go_roundw
            case rel => exact ⟨t + 1, q2, by omega, by go_num, FE, bu3, mp3⟩
            case measure => simp [intOf]; omega
    · have et : t = K := by omega
      have m2 := k2.but bu (by omega) (by omega)
      obtain ⟨x1, x2, x3⟩ := mx.cells3
      obtain ⟨f1, f2, f3⟩ := m2.frozen3
      obtain ⟨y1, y2, y3⟩ := m2.cells3
      have k5 := ((m2.set_ 0 (.int .i64 W)).set_ 1 (.int .i64 H)).set_ 2 (.slice (some ⟨g, 0, none⟩) n n)
      obtain ⟨s1, s2, s3⟩ := Blk.cells3 (a := .int .i64 W) (b := .int .i64 H) (c := .slice (some ⟨g, 0, none⟩) n n) k5
      have bE : Below w.heap.size w wr := b4.trans (bu.to ZZ.out (by omega) (by omega))
      have hlen : K = (rootN n (InkN n p) (AdjN W true)).length := by
        have := congrArg List.length HC1.out
        rw [List.length_map, HK.out, rootK_n] at this
        exact this
      have FE := HF.out.conv (D' := bigN n (InkN n p) (AdjN W true) least) fun i => by
        rw [et, hlen, done_all AdjN.symm fun x hx => hx.1]
      have mpE := mp.u8conv fun i i0 i1 => FE.end_ i i0 i1
      clear ht et HF hlen FE
      go_wp2_with fail
      refine bodyPost_ret (v := .tuple #[.agg #[.int .i64 W, .int .i64 H, .slice (some ⟨g, 0, none⟩) n n], .int .i64 0]) (by simp [results, Try.results54, go_sem, s1, s2, s3]) rfl ?_
      have g1 : g ≠ w.heap.size + 1 := by omega
      refine ⟨_, rfl, ⟨_, _, rfl, (fun a e => by cases e; show w.heap.size ≤ g; omega), ?_⟩, by (repeat (first | exact Below.refl _ _ | assumption | refine Below.drew ?_ | refine below_drewN ?_ _ | refine Below.alloc ?_ (by first | omega | (simp; done) | (simp; omega)) _ | refine Below.setCell ?_ (by first | omega | (simp; done) | (simp; omega)) _ | refine below_setRow ?_ (by first | omega | (simp; done) | (simp; omega)) _ ))⟩
      have KE := Blk.far (Blk.far (Blk.far mpE (p := ⟨w.heap.size + 1, 0, none⟩) g1 (.int .i64 W)) (p := ⟨w.heap.size + 1, 1, none⟩) g1 (.int .i64 H)) (p := ⟨w.heap.size + 1, 2, none⟩) g1 (.slice (some ⟨g, 0, none⟩) n n)
      exact KE.arrB KE.lt
end Go.Proofs.Ytoonkpjddfiopaa

/- Plain laws for CleanFound: single specks are small parts, and fall. No program in sight. -/
namespace Go.Proofs.Ytoonkpjddfiopaa
open Go.RowKit
set_option linter.unusedVariables false

/-! ### small parts -/
theorem two_mem {l : List Nat} {a b : Nat} (h : a ≠ b) (ha : a ∈ l) (hb : b ∈ l) : 2 ≤ l.length := by
  match l with
  | [] => simp at ha
  | [x] => simp at ha hb; omega
  | _ :: _ :: _ => simp
theorem one_mem {l : List Nat} {a : Nat} (hl : l.Pairwise (· < ·)) (h : ∀ b ∈ l, b = a) : l.length ≤ 1 := by
  match l with
  | [] => simp
  | [x] => simp
  | x :: y :: t =>
    have h1 := h x (by simp); have h2 := h y (by simp)
    have := (List.pairwise_cons.1 hl).1 y (by simp)
    omega
theorem bg_spk {W H N : Nat} {M : List Int} {p : Int → Int} (hs : SpkQ W H M p) (hW : 2 ≤ W) (hN : N = W * H) {i : Int} (h0 : 0 ≤ i) (hi : i < N) : bgQ N W p 2 i = ruQ W M i := by
  have hNI : (N : Int) = H * W := by rw [hN, Int.mul_comm]; push_cast; rfl
  have hplace : ∀ j : Int, 0 ≤ j → j < N → ∃ x y, 0 ≤ x ∧ x < (W : Int) ∧ 0 ≤ y ∧ y < (H : Int) ∧ j = y * W + x ∧ y = j / W ∧ x = j % W := fun j a b => idx_of a (by omega) (by omega)
  obtain ⟨x, y, x0, x1, y0, y1, e, ey, ex⟩ := hplace i h0 hi
  unfold bgQ ruQ
  rw [← ey]
  by_cases hm : y ∈ M
  · rw [if_pos hm, if_pos]
    have hp : p i = 1 := by rw [e]; exact hs.row x y x0 x1 y0 y1 hm
    have hI : InkN N p i.toNat := ⟨by omega, by rw [Int.toNat_of_nonneg h0]; exact hp⟩
    refine ⟨hI, ?_⟩
    obtain ⟨u, u0, u1, hu1, hu2, hu3⟩ : ∃ u : Int, 0 ≤ u ∧ u < W ∧ u ≠ x ∧ u - x ≤ 1 ∧ x - u ≤ 1 := by
      by_cases h : x + 1 < W
      · exact ⟨x + 1, by omega, h, by omega, by omega, by omega⟩
      · exact ⟨x - 1, by omega, by omega, by omega, by omega, by omega⟩
    obtain ⟨g1, g2, _⟩ := idx_lt u0 u1 y0 y1
    have hJ : InkN N p (y * W + u).toNat := ⟨by omega, by rw [Int.toNat_of_nonneg g1]; exact hs.row u y u0 u1 y0 y1 hm⟩
    have hne : i.toNat ≠ (y * W + u).toNat := by omega
    have hA : AdjN W true i.toNat (y * W + u).toNat := by
      refine ⟨hne, ?_⟩
      rw [Int.toNat_of_nonneg h0, Int.toNat_of_nonneg g1, ← ex, ← ey, idx_mod u0 u1, idx_div u0 u1]
      exact ⟨by omega, by omega, by omega, by omega, .inl rfl⟩
    have := two_mem hne (mem_partN.2 ⟨hI.1, .refl hI⟩) (mem_partN.2 ⟨hJ.1, Cn.one hI hJ hA⟩)
    omega
  · rw [if_neg hm, if_neg]
    rintro ⟨hI, h2⟩
    have hp : p i = 1 := by have := hI.2; rwa [Int.toNat_of_nonneg h0] at this
    have := one_mem (a := i.toNat) (partN_sorted (n := N) (ink := InkN N p) (A := AdjN W true) (i := i.toNat)) fun b hb => by
      refine (mem_partN.1 hb).2.closed (S := (· = i.toNat)) rfl ?_
      rintro a c rfl hc hA
      exfalso
      obtain ⟨u, v, u0, u1, v0, v1, e2, ev, eu⟩ := hplace (c : Int) (by omega) (by have := hc.1; omega)
      obtain ⟨n0, n1, n2, n3, n4, _⟩ := hA
      rw [Int.toNat_of_nonneg h0, ← ex, ← eu] at n1 n2
      rw [Int.toNat_of_nonneg h0, ← ey, ← ev] at n3 n4
      have h9 := hs.iso x y u v x0 x1 y0 y1 u0 u1 v0 v1 hm (by rw [← e]; exact hp) n2 n1 n4 n3 (by
        rintro ⟨rfl, rfl⟩
        apply n0
        rw [← e2] at e; omega)
      rw [← e2, hc.2] at h9
      omega
    omega
end Go.Proofs.Ytoonkpjddfiopaa

/- Walks: copies of grey images; the reference's threshold; the image of two levels. -/
namespace Go.Proofs.Ytoonkpjddfiopaa
open Go.RowKit
set_option linter.unusedVariables false

set_option maxHeartbeats 1000000 in
theorem copyGrey_any (W H : Int) (A : Option Addr) (n c : Nat) (p : Int → Int) (w : World) (hA : ArrB w w.heap.size A n p) (hc : A = none → c = 0) (hn : n ≤ 140737488355328) :
    Calls Try.prog 6 #[.agg #[.int .i64 W, .int .i64 H, .slice A n c]] w (New w fun v w' => OutCopy w w' W H n p v) := by
  have CB := Lib.hid fun w' hA' => copyBytes_any A n c p w' hA' hc hn
  clear hc
  go_enter Try.func6, Try.ntmps6
  go_wp2_with fail
  have k1 := (Blk.new w 24 #[.int .i64 W, .int .i64 H, .slice A n c]).alloc (.cells #[.int .i64 0, .int .i64 0, .slice none 0 0] 24)
  have k2 := Blk.new' (w := w.alloc (.cells #[.int .i64 W, .int .i64 H, .slice A n c] 24)) (World.size_alloc _ _) 24 #[.int .i64 0, .int .i64 0, .slice none 0 0]
  have b1 : Below w.heap.size w ((w.alloc (.cells #[.int .i64 W, .int .i64 H, .slice A n c] 24)).alloc (.cells #[.int .i64 0, .int .i64 0, .slice none 0 0] 24)) := by (repeat (first | exact Below.refl _ _ | assumption | refine Below.drew ?_ | refine below_drewN ?_ _ | refine Below.alloc ?_ (by first | omega | (simp; done) | (simp; omega)) _ | refine Below.setCell ?_ (by first | omega | (simp; done) | (simp; omega)) _ | refine below_setRow ?_ (by first | omega | (simp; done) | (simp; omega)) _ ))
  have hA1 := hA.to b1
  generalize (w.alloc (.cells #[.int .i64 W, .int .i64 H, .slice A n c] 24)).alloc (.cells #[.int .i64 0, .int .i64 0, .slice none 0 0] 24) = w1 at *
  clear hA
  have K1 := Lib.hid k1; have K2 := Lib.hid k2; have B1 := Lib.hid b1; have A1 := Lib.hid hA1
  obtain ⟨p1, p2, p3⟩ := k1.cells3
  obtain ⟨r1, r2, r3⟩ := k2.cells3
  obtain ⟨f1, f2, f3⟩ := k2.frozen3
  clear k1 k2 b1 hA1
  go_region_held3 (fun w' => w'.cell? ⟨w.heap.size, 0, none⟩ = some (.int .i64 W) ∧ w'.cell? ⟨w.heap.size, 1, none⟩ = some (.int .i64 H) ∧ w'.cell? ⟨w.heap.size, 2, none⟩ = some (.slice A n c))
    (simp [go_sem, *])
    (first
      | (go_at_call 21; refine (CB.out _ A1.out.drew).mono ?_; rintro e w2 ⟨_, rfl, ⟨A', c', rfl, hc', hnil', hge', ha'⟩, hb2⟩
         have k3 := K1.out.drew.below' hb2; have k4 := K2.out.drew.below' hb2
         obtain ⟨x1, x2, x3⟩ := k3.cells3; obtain ⟨y1, y2, y3⟩ := k4.cells3; obtain ⟨z1, z2, z3⟩ := k4.frozen3
         have b2 : Below w.heap.size w w2 := B1.out.drew.trans (hb2.mono B1.out.size)
         have z2 := K2.out.lt))
  go_wp2
  refine bodyPost_ret (v := .agg #[.int .i64 W, .int .i64 H, .slice A' n c']) (by simp [results, Try.results6, go_sem, y1, y2, y3]) rfl ?_
  have hfar : ∀ i, ∀ a, A' = some a → a.block ≠ (⟨w.heap.size + 1, i, none⟩ : Addr).block := fun i a e h => by
    have := hge' a e
    simp at h this
    omega
  refine ⟨_, rfl, ⟨_, rfl, A', c', rfl, hc', hnil', fun a e => ?_, ?_⟩, by (repeat (first | exact Below.refl _ _ | assumption | refine Below.drew ?_ | refine below_drewN ?_ _ | refine Below.alloc ?_ (by first | omega | (simp; done) | (simp; omega)) _ | refine Below.setCell ?_ (by first | omega | (simp; done) | (simp; omega)) _ | refine below_setRow ?_ (by first | omega | (simp; done) | (simp; omega)) _ ))⟩
  · have := hge' a e; have := B1.out.size; simp at *; omega
  · simpa using ((ha'.far (hfar 0) _).far (hfar 1) _).far (hfar 2) _

set_option maxHeartbeats 1000000 in
theorem sameGrey_any (W H W' H' : Int) (A B : Option Addr) (n m c d : Nat) (p q : Int → Int) (w : World) (hA : ArrB w w.heap.size A n p) (hB : ArrB w w.heap.size B m q) (hn : n ≤ maxLen) (hm : m ≤ maxLen) :
    Calls Try.prog 12 #[.agg #[.int .i64 W, .int .i64 H, .slice A n c], .agg #[.int .i64 W', .int .i64 H', .slice B m d]] w
      fun e w' => e = .returned (.bool (decide (W = W') && decide (H = H') && sameB n m p q)) ∧ Below w.heap.size w w' := by
  have SA := Lib.hid fun w1 h1 h2 => sameBytes_any A B n m c d p q w1 h1 h2 hn hm
  by_cases hW : W = W'
  · subst hW
    by_cases hH : H = H'
    · subst hH
      have hr : Hid ((decide (W = W) && decide (H = H) && sameB n m p q) = sameB n m p q) := by show _ = _; simp
      rw [hr.out]
      go_enter Try.func12, Try.ntmps12
      go_wp2_with fail
      refine (SA.out _ (hA.to (by (repeat (first | exact Below.refl _ _ | assumption | refine Below.drew ?_ | refine below_drewN ?_ _ | refine Below.alloc ?_ (by first | omega | (simp; done) | (simp; omega)) _ | refine Below.setCell ?_ (by first | omega | (simp; done) | (simp; omega)) _ | refine below_setRow ?_ (by first | omega | (simp; done) | (simp; omega)) _ )))) (hB.to (by (repeat (first | exact Below.refl _ _ | assumption | refine Below.drew ?_ | refine below_drewN ?_ _ | refine Below.alloc ?_ (by first | omega | (simp; done) | (simp; omega)) _ | refine Below.setCell ?_ (by first | omega | (simp; done) | (simp; omega)) _ | refine below_setRow ?_ (by first | omega | (simp; done) | (simp; omega)) _ ))))).mono ?_
      rintro e w' ⟨rfl, k, rfl⟩
      generalize hb : sameB n m p q = b
      have HBB := Lib.hid hb; clear hb
      cases b <;> (go_wp2; go_ret; exact ⟨ret_bool HBB.out.symm, by (repeat (first | exact Below.refl _ _ | assumption | refine Below.drew ?_ | refine below_drewN ?_ _ | refine Below.alloc ?_ (by first | omega | (simp; done) | (simp; omega)) _ | refine Below.setCell ?_ (by first | omega | (simp; done) | (simp; omega)) _ | refine below_setRow ?_ (by first | omega | (simp; done) | (simp; omega)) _ ))⟩)
    · have hb : (H == H') = false := by simp [hH]
      have hr : Hid ((decide (W = W) && decide (H = H') && sameB n m p q) = false) := by show _ = _; simp [hH]
      rw [hr.out]
      have HH := Lib.hid hH; clear hH
      go_enter Try.func12, Try.ntmps12
      go_wp2
      go_ret
      exact ⟨rfl, by (repeat (first | exact Below.refl _ _ | assumption | refine Below.drew ?_ | refine below_drewN ?_ _ | refine Below.alloc ?_ (by first | omega | (simp; done) | (simp; omega)) _ | refine Below.setCell ?_ (by first | omega | (simp; done) | (simp; omega)) _ | refine below_setRow ?_ (by first | omega | (simp; done) | (simp; omega)) _ ))⟩
  · have hb : (W == W') = false := by simp [hW]
    have hr : Hid ((decide (W = W') && decide (H = H') && sameB n m p q) = false) := by show _ = _; simp [hW]
    rw [hr.out]
    have HW := Lib.hid hW; clear hW
    go_enter Try.func12, Try.ntmps12
    go_wp2
    go_ret
    exact ⟨rfl, by (repeat (first | exact Below.refl _ _ | assumption | refine Below.drew ?_ | refine below_drewN ?_ _ | refine Below.alloc ?_ (by first | omega | (simp; done) | (simp; omega)) _ | refine Below.setCell ?_ (by first | omega | (simp; done) | (simp; omega)) _ | refine below_setRow ?_ (by first | omega | (simp; done) | (simp; omega)) _ ))⟩

theorem sameGrey_true (W H : Int) (A B : Option Addr) (n c d : Nat) (p q : Int → Int) (w : World) (hA : ArrB w w.heap.size A n p) (hB : ArrB w w.heap.size B n q) (hn : n ≤ maxLen) (he : ∀ i : Int, 0 ≤ i → i < n → p i = q i) :
    Calls Try.prog 12 #[.agg #[.int .i64 W, .int .i64 H, .slice A n c], .agg #[.int .i64 W, .int .i64 H, .slice B n d]] w
      fun e w' => e = .returned (.bool true) ∧ Below w.heap.size w w' :=
  (sameGrey_any W H W H A B n n c d p q w hA hB hn hn).mono fun e w' ⟨h, hb⟩ => ⟨by rw [h, sameB_iff.2 ⟨rfl, he⟩]; simp, hb⟩

set_option maxHeartbeats 1000000 in
theorem rlevels_any (W H : Int) (A : Option Addr) (n c : Nat) (p : Int → Int) (w : World) (hA : ArrB w w.heap.size A n p) (hn : n ≤ maxLen) (hB : IsB p) :
    Calls Try.prog 62 #[.agg #[.int .i64 W, .int .i64 H, .slice A n c]] w
      (New w fun v w' => ∃ g, v = .slice (some ⟨g, 0, none⟩) 256 256 ∧ w.heap.size ≤ g ∧ Blk w' g 3 (i64s 256 (cntS n p))) := by
  have hmk := make256
  unfold maxLen at hn
  go_enter Try.func62, Try.ntmps62
  go_wp2_with fail
  go_loopw [4] (fun s wr => ∃ i : Nat, i ≤ n ∧ s = .int .i64 i ∧ Below w.heap.size w wr ∧ Blk wr w.heap.size 24 #[.int .i64 W, .int .i64 H, .slice A n c] ∧ Blk wr (w.heap.size + 1) 3 (i64s 256 (cntS i p))) (fun s _ => n - (intOf s).toNat)
  case atStart => exact ⟨0, by omega, rfl, by (repeat (first | exact Below.refl _ _ | assumption | refine Below.drew ?_ | refine below_drewN ?_ _ | refine Below.alloc ?_ (by first | omega | (simp; done) | (simp; omega)) _ | refine Below.setCell ?_ (by first | omega | (simp; done) | (simp; omega)) _ | refine below_setRow ?_ (by first | omega | (simp; done) | (simp; omega)) _ )), (Blk.new _ _ _).alloc _, Blk.new' (by simp) _ _⟩
  case round =>
    obtain ⟨i, hi, rfl, b2, k1, kr⟩ := hrel
    clear hmk
    obtain ⟨p1, p2, p3⟩ := k1.cells3
    by_cases hlt : i < n
    · have hi0 : (0 : Int) ≤ i := by omega
      have hiN : (i : Int) < n := by omega
      obtain ⟨pb1, pb2⟩ := hB i
      obtain ⟨b, off, rfl, hbB, hcell⟩ := ArrB.at_ (ArrB.below hA b2) hi0 hiN
      rw [Int.toNat_natCast] at hcell
      have hr := kr.i64at pb1 (by omega)
      have fr := kr.frozen (p i).toNat
      have SR := Lib.hid (fun v => cntS_step (n := i) (p := p) v)
      obtain ⟨c1, c2⟩ := cntS_bd i p (p i)
      have UR := Lib.hid (kr.i64set _ pb1 (cntS i p (p i) + 1))
      go_wp2
      go_roundw
      case rel => exact ⟨i + 1, by omega, by go_num, by (repeat (first | exact Below.refl _ _ | assumption | refine Below.drew ?_ | refine below_drewN ?_ _ | refine Below.alloc ?_ (by first | omega | (simp; done) | (simp; omega)) _ | refine Below.setCell ?_ (by first | omega | (simp; done) | (simp; omega)) _ | refine below_setRow ?_ (by first | omega | (simp; done) | (simp; omega)) _ )), k1.far (by simp) _, UR.out.i64conv fun v _ _ => SR.out v⟩
      case measure => simp [intOf]; omega
    · obtain rfl : i = n := by omega
      go_wp2
      go_ret
      exact ⟨_, rfl, ⟨_, rfl, by omega, kr⟩, b2⟩

set_option maxRecDepth 100000 in
set_option maxHeartbeats 2000000 in
theorem rlevel_any (W H : Int) (A : Option Addr) (n c : Nat) (p : Int → Int) (w : World) (hA : ArrB w w.heap.size A n p) (hn : n ≤ maxLen) (hB : IsB p) :
    Calls Try.prog 32 #[.agg #[.int .i64 W, .int .i64 H, .slice A n c]] w fun e w' => e = .returned (.int .i64 (levelS n p)) ∧ Below w.heap.size w w' := by
  have PA := fun w' hA' => rlevels_any W H A n c p w' hA' hn hB
  have PZ := fun v => cntS_bd n p v
  unfold levelS
  generalize cntS n p = cn at *
  have PA := Lib.hid PA
  have PZ := Lib.hid PZ
  go_enter Try.func32, Try.ntmps32
  go_wp2_with fail
  refine (PA.out _ (hA.to (by (repeat (first | exact Below.refl _ _ | assumption | refine Below.drew ?_ | refine below_drewN ?_ _ | refine Below.alloc ?_ (by first | omega | (simp; done) | (simp; omega)) _ | refine Below.setCell ?_ (by first | omega | (simp; done) | (simp; omega)) _ | refine below_setRow ?_ (by first | omega | (simp; done) | (simp; omega)) _ ))))).mono ?_
  rintro e w1 ⟨_, rfl, ⟨g, rfl, hg, kg⟩, hb1⟩
  have b1 : Below w.heap.size w w1 := below_call (by (repeat (first | exact Below.refl _ _ | assumption | refine Below.drew ?_ | refine below_drewN ?_ _ | refine Below.alloc ?_ (by first | omega | (simp; done) | (simp; omega)) _ | refine Below.setCell ?_ (by first | omega | (simp; done) | (simp; omega)) _ | refine below_setRow ?_ (by first | omega | (simp; done) | (simp; omega)) _ ))) (by simp; try omega) hb1
  clear hb1 PA
  obtain ⟨m0, R0⟩ := RL.start cn
  have R0 := Lib.hid R0
  go_wp2_with fail
  go_loop [4, 5, 6] (fun o b s => ∃ (i m : Nat) (O B : Int), i ≤ 256 ∧ s = .int .i64 i ∧ o = .int .i64 O ∧ b = .int .i64 B ∧ RL cn i m O B) (fun _ _ s => 256 - (intOf s).toNat)
  case atStart => exact ⟨0, m0, 128, 0, by omega, rfl, rfl, rfl, R0.out⟩
  case round =>
    obtain ⟨i, m, O, B, hi, rfl, rfl, rfl, hR⟩ := hrel
    obtain ⟨o1, o2, o3, o4⟩ := hR.bd
    have HR := Lib.hid hR; clear hR
    by_cases hlt : i < 256
    · have ci := kg.i64at (i := (i : Int)) (by omega) (by omega)
      rw [Int.toNat_natCast] at ci
      have hz := PZ.out i
      have hz0 := hz.1; clear hz
      by_cases hc : cn i = 0
      · have R1 := Lib.hid (HR.out.skip hlt hc)
        have hci : cn i ≤ 0 := by omega
        clear hc
        generalize cn i = C at *
        by_cases h1 : i + 1 < 256
        · have h2 : (i : Int) + 1 < 256 := by omega
          have h3 : (i : Int) < 256 := by omega
          clear h1
          go_wp2_with fail
          go_loop [4, 5, 7] (fun o b s => o = .int .i64 O ∧ b = .int .i64 B ∧ s = .int .i64 ((i : Int) + 1)) (fun _ _ _ => 0)
          case atStart => exact ⟨rfl, rfl, rfl⟩
          case round =>
            obtain ⟨rfl, rfl, rfl⟩ := hrel
            go_wp2
            go_round
            case rel => exact ⟨i + 1, m, O, B, by omega, by go_num, rfl, rfl, R1.out⟩
            case measure => simp [intOf]; omega
        · have h3 : (i : Int) < 256 := by omega
          have h7 : decide ((i : Int) + 1 < 256) = false := by simp; omega
          clear h1 hlt hi
          go_wp2_with fail
          go_loop [4, 5, 7] (fun o b s => o = .int .i64 O ∧ b = .int .i64 B ∧ s = .int .i64 ((i : Int) + 1)) (fun _ _ _ => 0)
          case atStart => exact ⟨rfl, rfl, rfl⟩
          case round =>
            obtain ⟨rfl, rfl, rfl⟩ := hrel
            go_wp2
            go_round
            case rel => exact ⟨i + 1, m, O, B, by omega, by go_num, rfl, rfl, R1.out⟩
            case measure => simp [intOf]; omega
      · have hci : 0 < cn i := by omega
        have HC := Lib.hid hc; clear hc
        have ci' : ∀ C, cn i = C → w1.cell? ⟨g, i, none⟩ = some (.int .i64 C) := fun C e => e ▸ ci
        clear ci
        generalize hCe : cn i = C at *
        have CE := Lib.hid hCe; clear hCe
        have ci := ci' C rfl; clear ci'
        go_wp2_with fail
        go_loop [4, 5, 7] (fun o b s => ∃ j : Nat, i < j ∧ j ≤ 256 ∧ s = .int .i64 j ∧ o = .int .i64 O ∧ b = .int .i64 B ∧ ∀ t : Nat, i < t → t < j → cn t = 0) (fun _ _ s => 256 - (intOf s).toNat)
        case atStart => exact ⟨i + 1, by omega, by omega, by go_num, rfl, rfl, fun t a b => by omega⟩
        case round =>
          obtain ⟨j, hj1, hj2, rfl, rfl, rfl, hz⟩ := hrel
          have HZ := Lib.hid hz; clear hz
          by_cases hj : j < 256
          · have cj := kg.i64at (i := (j : Int)) (by omega) (by omega)
            rw [Int.toNat_natCast] at cj
            by_cases hjc : cn j = 0
            · rw [hjc] at cj
              have HJ := Lib.hid hjc; clear hjc
              go_wp2
              go_round
              case rel => exact ⟨j + 1, by omega, by omega, by go_num, rfl, rfl, fun t a b => if e : t = j then e ▸ HJ.out else HZ.out t a (by omega)⟩
              case measure => simp [intOf]; omega
            · have hb : (cn j == 0) = false := by simp [hjc]
              have RN := Lib.hid (HR.out.next hlt (by rw [CE.out]; omega) hj1 hj HZ.out hjc)
              have HJ := Lib.hid hjc; clear hjc
              generalize cn j = D at *
              by_cases hB2 : B < (j : Int) - i
              · rw [if_pos hB2, if_pos hB2] at RN
                go_wp2
                go_round
                case rel => exact ⟨i + 1, j, _, _, by omega, by go_num, rfl, rfl, RN.out⟩
                case measure => simp [intOf]; omega
              · rw [if_neg hB2, if_neg hB2] at RN
                go_wp2
                go_round
                case rel => exact ⟨i + 1, j, _, _, by omega, by go_num, rfl, rfl, RN.out⟩
                case measure => simp [intOf]; omega
          · obtain rfl : j = 256 := by omega
            have RN := Lib.hid (HR.out.none hlt (by rw [CE.out]; omega) HZ.out)
            go_wp2
            go_round
            case rel => exact ⟨i + 1, 256, _, _, by omega, by go_num, rfl, rfl, RN.out⟩
            case measure => simp [intOf]; omega
    · obtain rfl : i = 256 := by omega
      have RE : Hid (O = (levP cn 256).1) := by show _ = _; exact HR.out.end_
      go_wp2
      go_ret
      exact ⟨ret_int RE.out, b1⟩

/-! ### clean.Grey -/
def greyQ (p : Int → Int) (d l : Int) : Int → Int := fun i => if p i = 1 then d else l
def greyP (p : Int → Int) (d l : Int) (k : Nat) : Int → Int := fun i => if i < k then greyQ p d l i else 0
theorem greyP_l {p : Int → Int} {d l : Int} {k : Nat} (h : p k ≠ 1) (i : Int) : upd (greyP p d l k) k l i = greyP p d l (k + 1) i := by
  unfold upd greyP
  by_cases e : i = k
  · subst e; rw [if_pos rfl, if_pos (by omega)]; unfold greyQ; rw [if_neg h]
  · rw [if_neg e]
    by_cases h2 : i < k
    · rw [if_pos h2, if_pos (by omega)]
    · rw [if_neg h2, if_neg (by omega)]
theorem greyP_d {p : Int → Int} {d l x : Int} {k : Nat} (h : p k = 1) (i : Int) : upd (upd (greyP p d l k) k x) k d i = greyP p d l (k + 1) i := by
  unfold upd greyP
  by_cases e : i = k
  · subst e; rw [if_pos rfl, if_pos (by omega)]; unfold greyQ; rw [if_pos h]
  · rw [if_neg e]
    show (if i = (k : Int) then x else _) = _
    rw [if_neg e]
    by_cases h2 : i < k
    · rw [if_pos h2, if_pos (by omega)]
    · rw [if_neg h2, if_neg (by omega)]
theorem greyP_end {p : Int → Int} {d l : Int} {n : Nat} {i : Int} (h : i < n) : greyP p d l n i = greyQ p d l i := by unfold greyP; rw [if_pos h]

end Go.Proofs.Ytoonkpjddfiopaa

/- Walk: custoslaw02.dirty. -/
namespace Go.Proofs.Ytoonkpjddfiopaa
open Go.RowKit
set_option linter.unusedVariables false

/-- the number that place i gets -/
def dirV (L : Int → Int) (m : Nat) (i : Int) : Int := if m = 0 then 0 else L (i % m) % 61
def dirQ (t L : Int → Int) (m : Nat) : Int → Int := fun i => if t i = 0 then 195 + dirV L m i else dirV L m i
theorem dirV_bd (L : Int → Int) (m : Nat) (i : Int) : 0 ≤ dirV L m i ∧ dirV L m i ≤ 60 := by unfold dirV; split <;> omega
def partP (q : Int → Int) (k : Nat) : Int → Int := fun i => if i < k then q i else 0
theorem partP_set {q : Int → Int} {k : Nat} {v : Int} (h : v = q k) (i : Int) : upd (partP q k) k v i = partP q (k + 1) i := by
  unfold upd partP
  by_cases e : i = k
  · subst e; rw [if_pos rfl, if_pos (by omega), h]
  · rw [if_neg e]
    by_cases e2 : i < k
    · rw [if_pos e2, if_pos (by omega)]
    · rw [if_neg e2, if_neg (by omega)]
theorem partP_set2 {q : Int → Int} {k : Nat} {u v : Int} (h : v = q k) (i : Int) : upd (upd (partP q k) k u) k v i = partP q (k + 1) i := by
  rw [← partP_set h]
  unfold upd; split <;> rfl
theorem grey_dir {n : Nat} {t L : Int → Int} {m : Nat} (h01 : ∀ i : Int, 0 ≤ i → i < n → t i = 0 ∨ t i = 1) (h1 : ∃ i : Int, 0 ≤ i ∧ i < n ∧ t i = 1) (h0 : ∃ i : Int, 0 ≤ i ∧ i < n ∧ t i = 0) : GreyQ n t (dirQ t L m) := by
  refine ⟨fun i _ _ e => ?_, fun i _ _ e => ?_, h01, h1, h0⟩ <;> (have := dirV_bd L m i; unfold dirQ)
  · rw [if_neg (by omega)]; omega
  · rw [if_pos e]; omega

set_option maxRecDepth 100000 in
set_option maxHeartbeats 2000000 in
theorem dirty_any (W H : Int) (A : Option Addr) (n c : Nat) (t : Int → Int) (C : Option Addr) (m d : Nat) (L : Int → Int) (w : World) (hA : ArrB w w.heap.size A n t) (hn : n ≤ 409600) (hB : IsB t) (hC : ArrB w w.heap.size C m L) (hm : m ≤ maxLen) (hL : IsB L) :
    Calls Try.prog 17 #[.agg #[.int .i64 W, .int .i64 H, .slice A n c], .slice C m d] w
      (New w fun v w' => ∃ g, v = .agg #[.int .i64 W, .int .i64 H, .slice (some ⟨g, 0, none⟩) n n] ∧ w.heap.size ≤ g ∧ Blk w' g 5 (u8s n (dirQ t L m))) := by
  unfold maxLen at hm
  have hmk := makeB (n : Int) (by omega) (by omega)
  simp only [Int.toNat_natCast] at hmk
  go_enter Try.func17, Try.ntmps17
  go_upto_region 1 with fail
  have k1 : Blk ((w.alloc (.cells #[.int .i64 W, .int .i64 H, .slice A n c] 29)).alloc (.cells #[.int .i64 0, .int .i64 0, .slice none 0 0] 24)) w.heap.size 29 #[.int .i64 W, .int .i64 H, .slice A n c] := (Blk.new _ _ _).alloc _
  have k2 : Blk ((w.alloc (.cells #[.int .i64 W, .int .i64 H, .slice A n c] 29)).alloc (.cells #[.int .i64 0, .int .i64 0, .slice none 0 0] 24)) (w.heap.size + 1) 24 #[.int .i64 0, .int .i64 0, .slice none 0 0] := Blk.new' (by simp) _ _
  have b1 : Below w.heap.size w ((w.alloc (.cells #[.int .i64 W, .int .i64 H, .slice A n c] 29)).alloc (.cells #[.int .i64 0, .int .i64 0, .slice none 0 0] 24)) := by (repeat (first | exact Below.refl _ _ | assumption | refine Below.drew ?_ | refine below_drewN ?_ _ | refine Below.alloc ?_ (by first | omega | (simp; done) | (simp; omega)) _ | refine Below.setCell ?_ (by first | omega | (simp; done) | (simp; omega)) _ | refine below_setRow ?_ (by first | omega | (simp; done) | (simp; omega)) _ ))
  generalize (w.alloc (.cells #[.int .i64 W, .int .i64 H, .slice A n c] 29)).alloc (.cells #[.int .i64 0, .int .i64 0, .slice none 0 0] 24) = w1 at *
  have Z1 := k1.lt; have Z2 := k2.lt
  obtain ⟨p1, p2, p3⟩ := k1.cells3
  go_cut [5] (fun f wx => ∃ B g, f = .pointer (some ⟨B, 0, none⟩) ∧ Below w1.heap.size w1 wx ∧ w1.heap.size ≤ g ∧ g ≠ B ∧ w1.heap.size ≤ B ∧ Blk wx B 24 #[.int .i64 W, .int .i64 H, .slice (some ⟨g, 0, none⟩) n n] ∧ Blk wx g 5 (u8s n (fun _ => 0)))
  case first =>
    go_region_held3 (fun w' => w'.cell? ⟨w.heap.size, 0, none⟩ = some (.int .i64 W) ∧ w'.cell? ⟨w.heap.size, 1, none⟩ = some (.int .i64 H) ∧ w'.cell? ⟨w.heap.size, 2, none⟩ = some (.slice A n c))
      (simp [go_sem, *]) (fail)
    all_goals
      go_wp2_with fail
      go_meet
    · exact ⟨w1.heap.size + 1, w1.heap.size, rfl, by (repeat (first | exact Below.refl _ _ | assumption | refine Below.drew ?_ | refine below_drewN ?_ _ | refine Below.alloc ?_ (by first | omega | (simp; done) | (simp; omega)) _ | refine Below.setCell ?_ (by first | omega | (simp; done) | (simp; omega)) _ | refine below_setRow ?_ (by first | omega | (simp; done) | (simp; omega)) _ )), by omega, by omega, by omega, (Blk.new' (by simp) _ _).drew, ((Blk.new _ _ _).alloc _).drew⟩
    · exact ⟨w1.heap.size, w1.heap.size + 1, rfl, by (repeat (first | exact Below.refl _ _ | assumption | refine Below.drew ?_ | refine below_drewN ?_ _ | refine Below.alloc ?_ (by first | omega | (simp; done) | (simp; omega)) _ | refine Below.setCell ?_ (by first | omega | (simp; done) | (simp; omega)) _ | refine below_setRow ?_ (by first | omega | (simp; done) | (simp; omega)) _ )), by omega, by omega, by omega, ((Blk.new _ _ _).alloc _).drew, (Blk.new' (by simp) _ _).drew⟩
  case rest =>
    obtain ⟨B, g, rfl, hb2, hg, hgB, hBB, kB, kg⟩ := hcut
    have k1 := k1.below' hb2
    have k2 := k2.below' hb2
    have b2 := below_call b1 b1.size hb2
    have hB1 : B ≠ w.heap.size := by omega
    have hB2 : B ≠ w.heap.size + 1 := by omega
    have hg1 : g ≠ w.heap.size := by omega
    have hg2 : g ≠ w.heap.size + 1 := by omega
    have hg3 : w.heap.size ≤ g := by omega
    clear p1 p2 p3 hb2 b1 hmk
    obtain ⟨p1, p2, p3⟩ := k1.cells3
    go_wp2_with fail
    go_loopw [21] (fun s wr => ∃ i : Nat, i ≤ n ∧ s = .int .i64 i ∧ Below w.heap.size w wr ∧ Blk wr w.heap.size 29 #[.int .i64 W, .int .i64 H, .slice A n c] ∧ Blk wr (w.heap.size + 1) 24 #[.int .i64 0, .int .i64 0, .slice none 0 0] ∧
      Blk wr B 24 #[.int .i64 W, .int .i64 H, .slice (some ⟨g, 0, none⟩) n n] ∧ Blk wr g 5 (u8s n (partP (dirQ t L m) i))) (fun s _ => n - (intOf s).toNat)
    case atStart => exact ⟨0, by omega, rfl, b2, k1, k2, kB, kg.u8conv fun j h0 hj => by unfold partP; rw [if_neg (by omega)]⟩
    case round =>
      obtain ⟨i, hi, rfl, b3, k3, k4, k5, k6⟩ := hrel
      clear p1 p2 p3 k1 k2 kB kg b2
      by_cases hlt : i < n
      · have hi0 : (0 : Int) ≤ (i : Int) := by omega
        have hin : (i : Int) < (n : Int) := by omega
        obtain ⟨bA, off, rfl, hbB, hcell⟩ := ArrB.at_ (ArrB.below hA b3) hi0 hin
        rw [Int.toNat_natCast] at hcell
        have hr := k6.u8at hi0 hin
        have fr := k6.frozen i
        rw [Int.toNat_natCast] at hr
        obtain ⟨r1, r2, r3⟩ := k5.cells3
        obtain ⟨vb0, vb1⟩ := dirV_bd L m i
        obtain ⟨z, hz⟩ : ∃ z, dirV L m i = z := ⟨_, rfl⟩
        rw [hz] at vb0 vb1
        have wz1 : IntKind.u8.wrap z = z := IntWalk.u8_in _ (by omega)
        have wz2 : IntKind.u8.wrap (195 + z) = 195 + z := IntWalk.u8_in _ (by omega)
        have U1 := k6.u8set i hi0 z
        have U2 := U1.u8set i hi0 (195 + z)
        rw [Int.toNat_natCast] at U1 U2
        have hr2 := U1.u8at hi0 hin
        have fr2 := U1.frozen i
        rw [Int.toNat_natCast] at hr2
        have k3b := k3.far (p := ⟨g, i, none⟩) (by simp; omega) (.int .u8 z)
        have k5b := k5.far (p := ⟨g, i, none⟩) (by simp; omega) (.int .u8 z)
        obtain ⟨t1, t2, t3⟩ := k5b.cells3
        obtain ⟨pix, hpix⟩ : ∃ x, t i = x := ⟨_, rfl⟩
        have G1 : Hid (pix ≠ 0 → ∀ j, upd (partP (dirQ t L m) i) i z j = partP (dirQ t L m) (i + 1) j) := by
          intro h j; exact partP_set (by unfold dirQ; rw [hpix, if_neg h, hz]) j
        have G2 : Hid (pix = 0 → ∀ j, upd (upd (partP (dirQ t L m) i) i z) i (195 + z) j = partP (dirQ t L m) (i + 1) j) := by
          intro h j; exact partP_set2 (by unfold dirQ; rw [hpix, if_pos h, hz]) j
        rw [hpix] at hcell
        have pb := hB i
        rw [hpix] at pb
        have U1 := Lib.hid U1
        have U2 := Lib.hid U2
        go_upto_if 28 with fail
        go_cut [8] (fun s wx => s = .int .u8 z ∧ wx = wr)
        case first =>
          clear hr fr hr2 fr2 k3b k5b U1 U2 G1 G2 wz2
          by_cases m0 : m = 0
          · have hm0 : ((m : Int) == 0) = true := by simp [m0]
            have z0 : z = 0 := by rw [← hz]; unfold dirV; rw [if_pos m0]
            subst z0
            subst m0
            go_wp2
            go_meet
            exact ⟨by first | rfl | simp, rfl⟩
          · obtain ⟨r, hr⟩ : ∃ r, (i : Int) % m = r := ⟨_, rfl⟩
            have r0 : 0 ≤ r := by rw [← hr]; exact Int.emod_nonneg _ (by omega)
            have r1 : r < m := by rw [← hr]; exact Int.emod_lt_of_pos _ (by omega)
            have ct : (i : Int).tmod m = r := by rw [← hr]; exact Int.tmod_eq_emod_of_nonneg hi0
            have wr1 : IntKind.i64.wrap r = r := IntWalk.i64_in _ (by omega)
            have zz : L r % 61 = z := by rw [← hz, ← hr]; unfold dirV; rw [if_neg m0]
            obtain ⟨bL, oL, hCe, hbL, hcL⟩ := ArrB.at_ (ArrB.below hC b3) r0 r1
            subst hCe
            obtain ⟨lb0, lb1⟩ := hL r
            obtain ⟨lv, hlv⟩ : ∃ x, L r = x := ⟨_, rfl⟩
            rw [hlv] at hcL lb0 lb1 zz
            have ct2 : lv.tmod 61 = z := by rw [← zz]; exact Int.tmod_eq_emod_of_nonneg lb0
            have m1 : ¬ (m : Int) = 0 := by omega
            have m2 : ((m : Int) == 0) = false := by simp [m0]
            have m3 : (0 : Int) < m := by omega
            clear hr hz hpix hlv zz
            go_wp2
            go_meet
            exact ⟨by first | rfl | simp, rfl⟩
        case rest =>
        obtain ⟨rfl, rfl⟩ := hcut
        clear hz hpix
        by_cases e1 : pix = 0
        · have G := Lib.hid (G2.out e1)
          have hb : (pix == 0) = true := by simp [e1]
          have E1 := Lib.hid e1
          clear e1 G1 G2
          go_wp2
          go_roundw
          case rel => exact ⟨i + 1, by omega, by go_num, by (repeat (first | exact Below.refl _ _ | assumption | refine Below.drew ?_ | refine below_drewN ?_ _ | refine Below.alloc ?_ (by first | omega | (simp; done) | (simp; omega)) _ | refine Below.setCell ?_ (by first | omega | (simp; done) | (simp; omega)) _ | refine below_setRow ?_ (by first | omega | (simp; done) | (simp; omega)) _ )), k3b.far (by simp; omega) _, (k4.far (by simp; omega) _).far (by simp; omega) _, k5b.far (by simp; omega) _, U2.out.u8conv fun j _ _ => G.out j⟩
          case measure => simp [intOf]; omega
        · have G := Lib.hid (G1.out e1)
          have hb : (pix == 0) = false := by simp [e1]
          have E1 := Lib.hid e1
          clear e1 G1 G2
          go_wp2
          go_roundw
          case rel => exact ⟨i + 1, by omega, by go_num, by (repeat (first | exact Below.refl _ _ | assumption | refine Below.drew ?_ | refine below_drewN ?_ _ | refine Below.alloc ?_ (by first | omega | (simp; done) | (simp; omega)) _ | refine Below.setCell ?_ (by first | omega | (simp; done) | (simp; omega)) _ | refine below_setRow ?_ (by first | omega | (simp; done) | (simp; omega)) _ )), k3.far (by simp; omega) _, k4.far (by simp; omega) _, k5.far (by simp; omega) _, U1.out.u8conv fun j _ _ => G.out j⟩
          case measure => simp [intOf]; omega
      · obtain rfl : i = n := by omega
        obtain ⟨s1, s2, s3⟩ := k4.cells3
        obtain ⟨f1, f2, f3⟩ := k4.frozen3
        obtain ⟨r1, r2, r3⟩ := k5.cells3
        go_wp2
        refine bodyPost_ret (v := .agg #[.int .i64 W, .int .i64 H, .slice (some ⟨g, 0, none⟩) i i]) (by simp [results, Try.results17, go_sem, s1, s2, s3]) rfl ?_
        refine ⟨_, rfl, ⟨_, rfl, hg3, ?_⟩, by (repeat (first | exact Below.refl _ _ | assumption | refine Below.drew ?_ | refine below_drewN ?_ _ | refine Below.alloc ?_ (by first | omega | (simp; done) | (simp; omega)) _ | refine Below.setCell ?_ (by first | omega | (simp; done) | (simp; omega)) _ | refine below_setRow ?_ (by first | omega | (simp; done) | (simp; omega)) _ ))⟩
        exact (((k6.u8conv fun j h0 hj => by unfold partP; rw [if_pos hj]).far (by simp; omega) _).far (by simp; omega) _).far (by simp; omega) _
end Go.Proofs.Ytoonkpjddfiopaa

/- Walks: slices.Index and slices.Contains of ints; slices.AppendSeq and slices.Collect of the skews. -/
namespace Go.Proofs.Ytoonkpjddfiopaa
open Go.RowKit Go.Shelf
set_option linter.unusedVariables false
attribute [local go_sem] Oper.semAt_some

set_option maxHeartbeats 400000 in
theorem index_any (A : Option Addr) (n c : Nat) (q : Int → Int) (k : Int) (w : World) (hA : ArrI w w.heap.size A n q) (hn : n ≤ maxLen) :
    Calls Try.prog 41 #[.slice A n c, .int .i64 k] w fun e w' => e = .returned (.int .i64 (idxF (fun i => decide (q i = k)) n)) ∧ w = w' := by
  unfold maxLen at hn
  go_enter Try.func41, Try.ntmps41
  go_wp2
  go_loop [5, 8] (fun _ i => ∃ m : Int, 0 ≤ m ∧ m ≤ n ∧ i = .int .i64 m ∧ ∀ j : Int, 0 ≤ j → j < m → decide (q j = k) = false) (fun _ i => n - (intOf i).toNat)
  case atStart => exact ⟨0, by omega, by omega, rfl, fun j a b => by omega⟩
  case round =>
    obtain ⟨m, h0, hk, rfl, hno⟩ := hrel
    have HN := Lib.hid hno; clear hno
    by_cases hlt : m < n
    · obtain ⟨b, off, rfl, hb, hc⟩ := hA.at_ h0 hlt
      obtain ⟨u, hu⟩ : ∃ u, q m = u := ⟨_, rfl⟩
      rw [hu] at hc
      by_cases he : k = u
      · have HK := Lib.hid hu; clear hu
        go_wp2
        go_ret
        refine ⟨ret_int ?_, rfl⟩
        obtain ⟨k', rfl⟩ := Int.eq_ofNat_of_zero_le h0
        subst he
        exact (idxF_some HN.out (by rw [HK.out]; simp) (by omega)).symm
      · have HK := Lib.hid hu; clear hu
        have HE := Lib.hid he
        go_wp2
        go_round
        case rel =>
          refine ⟨m + 1, by omega, by omega, by go_num, fun j a b => ?_⟩
          by_cases e : j = m
          · rw [e, HK.out]; exact decide_eq_false fun e' => HE.out e'.symm
          · exact HN.out j a (by omega)
        case measure => simp [intOf]; omega
    · go_wp2
      go_ret
      refine ⟨ret_int ?_, rfl⟩
      rw [idxF_none fun i a b => HN.out i a (by omega)]

theorem contains_any (A : Option Addr) (n c : Nat) (q : Int → Int) (k : Int) (w : World) (hA : ArrI w w.heap.size A n q) (hn : n ≤ maxLen) :
    Calls Try.prog 23 #[.slice A n c, .int .i64 k] w fun e w' => (∃ b, e = .returned (.bool b) ∧ (b = true ↔ ∃ i : Int, 0 ≤ i ∧ i < n ∧ q i = k)) ∧ w = w' := by
  have HC := Lib.hid (index_any A n c q k w hA hn)
  have hiff := idxF_iff (f := fun i => decide (q i = k)) (n := n)
  clear hA hn
  obtain ⟨r, hr⟩ : ∃ r, r = idxF (fun i => decide (q i = k)) n := ⟨_, rfl⟩
  rw [← hr] at HC hiff
  clear hr
  simp only [decide_eq_true_eq] at hiff
  have HI := Lib.hid hiff; clear hiff
  go_enter Try.func23, Try.ntmps23
  go_wp2_with fail
  refine HC.out.mono ?_
  rintro e w' ⟨rfl, rfl⟩
  go_wp2
  go_ret
  exact ⟨⟨decide (0 ≤ r), rfl, by simpa using HI.out⟩, rfl⟩

theorem infoIntK : (Try.prog.info? 3).map (fun i => (i.zero, i.size, i.bytes)) = some (some (.int .i64 0), 1, 8) := by kernel_rfl

set_option maxRecDepth 100000 in
set_option maxHeartbeats 2000000 in
/-- slices.AppendSeq of nothing and the skews -/
theorem appendSkews_any (w : World) :
    Calls Try.prog 42 #[.slice none 0 0, .func (.func 43) #[] #[]] w fun e W' => ∃ v, e = .returned v ∧ W'.ownsRow w.heap.size 3 1 v 7 ([0, 1, -1, 2, -2, 3, -3].map (Value.int .i64)) ∧ Below w.heap.size w W' := by
  obtain ⟨i0, hi, hz0, hz1, hz2⟩ := info_parts infoIntK
  refine (callsIn_wide (n := 5)).1 ?_
  refine callsIn_of_wp_marks Try.func42 rfl trivial ?_ rfl
  simp only [Try.ntmps42, List.size_toArray, List.length_cons, List.length_nil, Nat.reduceAdd, Nat.reduceSub, Array.replicate_succ, Array.replicate_zero, List.push_toArray, List.append_toArray, List.nil_append, List.cons_append]
  gi_wp2
  have bO := Boxed.new w 53 (.slice none 0 0)
  have hB0 : Below w.heap.size w (w.alloc (.cells #[.slice none 0 0] 53)) := ((Below.refl _ w).alloc (Nat.le_refl _) _)
  refine wpIn_rangeFunc_ownF (F := Fence.wide) (n := 5) rfl (by omega) (gf := 43) (lb := #[]) rfl trivial (enters_of Try.func43 (by kernel_rfl) rfl) (skews_stops Fence.wide 4 trivial rfl (by omega) _)
    (fun _ _ => trivial) (fun _ _ _ _ _ _ _ _ => trivial) (Below.refl _ _) (fun _ => rfl)
    (fun pre W => (∃ v, Boxed W w.heap.size 53 v ∧ W.ownsRow w.heap.size 3 1 v pre.length (pre.map (Value.int .i64)) ∧ True) ∧ Below w.heap.size w W)
    (fun _ _ _ => False)
    (OwnFrom.and (Own.from (holdsRow_own w.heap.size w.heap.size 53 3 1 List.length (fun pre : List Int => pre.map (Value.int .i64)) (fun _ _ => True)) _) (ownFrom_below (Nat.le_refl _) (by simp)))
    (fun _ _ _ _ _ hs _ _ => hs)
    ⟨⟨_, bO, World.ownsRow_nil _ _ _ _, trivial⟩, hB0⟩
    (fun x => { tmps := #[.slice none 0 0, .func (.func 43) #[] #[], .pointer (some ⟨w.heap.size, 0, none⟩), undef, .slice none 0 0, .int .i64 x, .func (.func 43) #[] #[], .int .i64 x, undef, undef, undef, undef, undef], defers := [] }) ?assign ?body ?done ?stop
  case assign =>
    intro l x W K hK
    gi_wp2
    exact hK
  case body =>
    rintro l pre x W ⟨⟨v, hv, hrow, -⟩, hB⟩ hlt
    have hc := hv.cell
    gi_wp2_with (gi_at_builtin; refine wpListIn_append_own _ rfl _ _ 53 rfl w.heap.size 3 i0 (.int .i64 0) 1 8 Try.underlying53 hi hz0 hz1 hz2 rfl (by decide) _ _ _ rfl (hrow.alloc _) ⟨W.heap.size, 0, none⟩ 1 1 [.int .i64 x] rfl rfl (cell_one_new _ _ _) (by simp [Value.oneCell']) (by unfold maxLen; omega) (by omega) (by have := hB.size; simp; omega) ?_; intro v' w1 hown' hgrow _; obtain ⟨g', cap', rfl⟩ := ownsRow_succ hown'; obtain ⟨hv1, hv2, hr2, hk2, hb2⟩ := hv.appended (by decide) hrow hB.size (Nat.le_refl _) hown' hgrow; have hc1 := hv1.cell; have hf1 := hv1.frozen)
    exact ⟨hk2, trivial, ⟨_, hv2, by simpa using hr2, trivial⟩, hB.trans hb2⟩
  case done =>
    rintro D ys W hD rfl ⟨⟨v, hv, hrow, -⟩, hB⟩ hK
    have hc := hv.cell
    gi_wp2
    refine ⟨by simp, .inl ⟨_, _, rfl, run_takeDeferred hK, ?_⟩⟩
    exact ⟨_, results_tmp rfl _ _ _, v, rfl, ownsRow_putObj hrow _ hK rfl, hB.trans (belowK_b (w := w) (Nat.le_refl _) W D _ _ (by simp at hD; omega) hK rfl rfl)⟩
  case stop =>
    rintro D c pre W _ _ h _
    exact h.elim

/-- slices.Collect of the skews -/
theorem collectSkews_any (w : World) :
    Calls Try.prog 24 #[.func (.func 43) #[] #[]] w fun e W' => ∃ v, e = .returned v ∧ W'.ownsRow w.heap.size 3 1 v 7 ([0, 1, -1, 2, -2, 3, -3].map (Value.int .i64)) ∧ Below w.heap.size w W' := by
  go_enter Try.func24, Try.ntmps24
  go_wp2_with fail
  refine (appendSkews_any w).mono ?_
  rintro e w1 ⟨v, rfl, hv, hb⟩
  go_wp2
  go_ret
  exact ⟨v, rfl, hv, hb⟩

def skf (i : Int) : Int := if i = 0 then 0 else if i = 1 then 1 else if i = 2 then -1 else if i = 3 then 2 else if i = 4 then -2 else if i = 5 then 3 else -3
theorem skf_iff (k : Int) : (∃ i : Int, 0 ≤ i ∧ i < (7 : Nat) ∧ skf i = k) ↔ -3 ≤ k ∧ k ≤ 3 := by
  constructor
  · rintro ⟨i, a, b, rfl⟩
    unfold skf
    repeat' split
    all_goals omega
  · rintro ⟨a, b⟩
    have h : k = -3 ∨ k = -2 ∨ k = -1 ∨ k = 0 ∨ k = 1 ∨ k = 2 ∨ k = 3 := by omega
    rcases h with rfl | rfl | rfl | rfl | rfl | rfl | rfl
    · exact ⟨6, by omega, by omega, rfl⟩
    · exact ⟨4, by omega, by omega, rfl⟩
    · exact ⟨2, by omega, by omega, rfl⟩
    · exact ⟨0, by omega, by omega, rfl⟩
    · exact ⟨1, by omega, by omega, rfl⟩
    · exact ⟨3, by omega, by omega, rfl⟩
    · exact ⟨5, by omega, by omega, rfl⟩
/-- what slices.Collect returns of the skews, as a slice with known cells -/
theorem skews_row {w : World} {B : Nat} {v : Value} (h : w.ownsRow B 3 1 v 7 ([0, 1, -1, 2, -2, 3, -3].map (Value.int .i64))) : ∃ g c, v = .slice (some ⟨g, 0, none⟩) 7 c ∧ ArrI w w.heap.size (some ⟨g, 0, none⟩) 7 skf := by
  rcases h.2 with ⟨_, h0⟩ | ⟨g, cap, cur, rfl, hb, hg, h1, h2, h3, h4⟩
  · omega
  · refine ⟨g, cap, rfl, fun _ => ⟨g, 0, rfl, (Array.getElem?_eq_some_iff.1 hg).1, fun i a b => ?_⟩⟩
    have hh : cur[i.toNat]? = ([0, 1, -1, 2, -2, 3, -3].map (Value.int .i64))[i.toNat]? := by
      rw [← h4, List.getElem?_take, if_pos (by omega)]; simp
    have hi : i = 0 ∨ i = 1 ∨ i = 2 ∨ i = 3 ∨ i = 4 ∨ i = 5 ∨ i = 6 := by omega
    simp only [Nat.zero_add]
    unfold World.cell?
    rw [hg]
    rcases hi with rfl | rfl | rfl | rfl | rfl | rfl | rfl <;> (simp [skf] at hh ⊢; simp [hh])
end Go.Proofs.Ytoonkpjddfiopaa

/- Walks: the reference's drops, and its two moves. -/
namespace Go.Proofs.Ytoonkpjddfiopaa
open Go.RowKit
set_option linter.unusedVariables false

set_option maxHeartbeats 400000 in
theorem rdrop_any (W k x : Int) (w : World) (h2 : W ≤ 640) (h3 : -3 ≤ k) (h4 : k ≤ 3) (h5 : 0 ≤ x) (h6 : x < W) :
    Calls Try.prog 60 #[.int .i64 W, .int .i64 k, .int .i64 x] w fun e w' => e = .returned (.int .i64 (dropI W k x)) ∧ w = w' := by
  by_cases hk : k < 0
  · obtain ⟨a1, a2⟩ := mul_bd (a := W - 1 - x) (b := -k) (m := 639) (n := 3) (by omega) (by omega) (by omega) (by omega)
    have hr : Hid (dropI W k x = (W - 1 - x) * (-k) / 64) := by show _ = _; unfold dropI; rw [if_pos hk]
    go_enter Try.func60, Try.ntmps60
    go_wp2
    go_ret
    exact ⟨ret_int hr.out.symm, rfl⟩
  · obtain ⟨a1, a2⟩ := mul_bd (a := x) (b := k) (m := 639) (n := 3) (by omega) (by omega) (by omega) (by omega)
    have hr : Hid (dropI W k x = x * k / 64) := by show _ = _; unfold dropI; rw [if_neg hk]
    go_enter Try.func60, Try.ntmps60
    go_wp2
    go_ret
    exact ⟨ret_int hr.out.symm, rfl⟩

set_option maxHeartbeats 400000 in
theorem rgreatest_any (W k : Int) (w : World) (h1 : 0 ≤ W) (h2 : W ≤ 640) (h3 : -3 ≤ k) (h4 : k ≤ 3) :
    Calls Try.prog 58 #[.int .i64 W, .int .i64 k] w fun e w' => e = .returned (.int .i64 (grt W k)) ∧ w = w' := by
  have hG := Lib.hid (mxS_grt (W := W) (k := k) h1 h3 h4)
  obtain ⟨N, hN⟩ : ∃ N : Nat, (N : Int) = W := ⟨W.toNat, by omega⟩
  have HN : Hid (W.toNat = N) := by show _ = _; omega
  go_enter Try.func58, Try.ntmps58
  go_wp2
  go_loop [5, 6] (fun m s => ∃ i : Nat, i ≤ N ∧ s = .int .i64 i ∧ m = .int .i64 (mxS W k i)) (fun _ s => N - (intOf s).toNat)
  case atStart => exact ⟨0, by omega, rfl, rfl⟩
  case round =>
    obtain ⟨i, hi, rfl, rfl⟩ := hrel
    obtain ⟨b1, b2⟩ := mxS_bd (W := W) h2 h3 h4 i (by omega)
    by_cases hlt : i < N
    · have MU := Lib.hid (@mxS_up W k i)
      have MN := Lib.hid (@mxS_no W k i)
      have DR := Lib.hid fun w' => rdrop_any W k i w' h2 h3 h4 (by omega) (by omega)
      obtain ⟨d1, d2⟩ := drop_bd (W := W) (k := k) (x := i) h2 h3 h4 (by omega) (by omega)
      generalize mxS W k i = M at *
      generalize dropI W k i = D at *
      by_cases hm : M ≤ D
      · go_wp2_with (go_at_call 60; refine (DR.out _).mono ?_; rintro e w' ⟨rfl, rfl⟩)
        go_round
        case rel => exact ⟨i + 1, by omega, by go_num, by rw [MU.out hm]; first | rfl | (congr 1; omega)⟩
        case measure => simp [intOf]; omega
      · go_wp2_with (go_at_call 60; refine (DR.out _).mono ?_; rintro e w' ⟨rfl, rfl⟩)
        go_round
        case rel => exact ⟨i + 1, by omega, by go_num, by rw [MN.out hm]; first | rfl | (congr 1; omega)⟩
        case measure => simp [intOf]; omega
    · obtain rfl : i = N := by omega
      go_wp2
      go_ret
      exact ⟨ret_int (by rw [← hG.out, HN.out]), rfl⟩

structure RmR (w wr : World) (W H h : Int) (N : Nat) (A : Option Addr) (n c g s8 : Nat) (p : Int → Int) (k way y x : Int) : Prop where
  bl : Below w.heap.size w wr
  k2 : Blk wr w.heap.size 29 #[.int .i64 W, .int .i64 H, .slice A n c]
  k4 : Blk wr (w.heap.size + 1) 29 #[.int .i64 0, .int .i64 0, .slice none 0 0]
  k8 : Blk wr s8 29 #[.int .i64 W, .int .i64 h, .slice (some ⟨g, 0, none⟩) N N]
  kg : Blk wr g 5 (u8s N (drawR W H p k way y x))
theorem RmR.keep {w wr wr' : World} {W H h : Int} {N : Nat} {A : Option Addr} {n c g s8 : Nat} {p : Int → Int} {k way y x : Int} (m : RmR w wr W H h N A n c g s8 p k way y x) (hb : Below wr.heap.size wr wr') : RmR w wr' W H h N A n c g s8 p k way y x :=
  ⟨m.bl.trans (hb.mono m.bl.size), m.k2.below' hb, m.k4.below' hb, m.k8.below' hb, m.kg.below' hb⟩
theorem RmR.drew {w wr : World} {W H h : Int} {N : Nat} {A : Option Addr} {n c g s8 : Nat} {p : Int → Int} {k way y x : Int} (m : RmR w wr W H h N A n c g s8 p k way y x) : RmR w wr.drew W H h N A n c g s8 p k way y x :=
  ⟨m.bl.drew, m.k2.drew, m.k4.drew, m.k8.drew, m.kg.drew⟩
theorem RmR.conv {w wr : World} {W H h : Int} {N : Nat} {A : Option Addr} {n c g s8 : Nat} {p : Int → Int} {k way y x y' x' : Int} (m : RmR w wr W H h N A n c g s8 p k way y x) (hc : ∀ i : Int, 0 ≤ i → i < N → drawR W H p k way y x i = drawR W H p k way y' x' i) : RmR w wr W H h N A n c g s8 p k way y' x' :=
  ⟨m.bl, m.k2, m.k4, m.k8, m.kg.u8conv hc⟩
theorem RmR.set {w wr wr' : World} {W H h : Int} {N : Nat} {A : Option Addr} {n c g s8 : Nat} {p : Int → Int} {k way y x : Int} (m : RmR w wr W H h N A n c g s8 p k way y x) (hg : w.heap.size + 2 ≤ g) (h8 : s8 ≠ g) (hb : wr.grownBy wr' (some g)) (hk : Blk wr' g 5 (u8s N (upd (drawR W H p k way y x) (y * W + x) 1)))
    (hc : ∀ i : Int, 0 ≤ i → i < N → upd (drawR W H p k way y x) (y * W + x) 1 i = drawR W H p k way y (x + 1) i) : RmR w wr' W H h N A n c g s8 p k way y (x + 1) :=
  ⟨⟨hb.os.trans m.bl.os, hb.tape.trans m.bl.tape, hb.output.trans m.bl.output, Nat.le_trans m.bl.size hb.size, fun j hj => (hb.block j (by have := m.bl.size; omega) (by simp; omega)).trans (m.bl.block j hj)⟩,
    m.k2.grown hb (by simp; omega), m.k4.grown hb (by simp; omega), m.k8.grown hb (by simp; omega), hk.u8conv hc⟩

set_option maxRecDepth 100000 in
set_option maxHeartbeats 1000000 in
theorem runskew_ok (W H h : Int) (N : Nat) (A : Option Addr) (n c : Nat) (p : Int → Int) (k : Int) (w : World) (hA : ArrB w w.heap.size A n p) (hn : n ≤ maxLen) (hB : IsB p)
    (hE : movE W H n p k (-1) = 0) (hh : h = H - grt W k) (hN : (N : Int) = W * h) :
    Calls Try.prog 28 #[.agg #[.int .i64 W, .int .i64 H, .slice A n c], .int .i64 k] w
      (New w fun v w' => ∃ g, v = .tuple #[g, .int .i64 0] ∧ OutN w w' W h N (movR W H p k (-1)) g) := by
  subst hh
  obtain ⟨hc, hk1, hk2, hh1, hh2⟩ := movE_ok hE
  obtain ⟨hW1, hW2, hH1, hH2, hnn, -⟩ := chk_ok hc
  have e1 : H + -1 * grt W k = H - grt W k := by omega
  rw [e1] at hh1 hh2
  have HC := Lib.hid hc
  have HNN := Lib.hid hnn
  have HN := Lib.hid hN
  have GR := Lib.hid fun w' => rgreatest_any W k w' hW1 hW2 hk1 hk2
  obtain ⟨hg1, hg2⟩ := grt_bd hW1 hW2 hk1 hk2
  generalize grt W k = G at *
  clear hE hc hnn hN e1
  go_enter Try.func28, Try.ntmps28
  go_wp2_with fail
  refine (rcheck_any W H A n c p _ (hA.to (by (repeat (first | exact Below.refl _ _ | assumption | refine Below.drew ?_ | refine below_drewN ?_ _ | refine Below.alloc ?_ (by first | omega | (simp; done) | (simp; omega)) _ | refine Below.setCell ?_ (by first | omega | (simp; done) | (simp; omega)) _ | refine below_setRow ?_ (by first | omega | (simp; done) | (simp; omega)) _ )))) hn hB).mono ?_
  rintro e w1 ⟨rfl, hb1⟩
  rw [HC.out]
  have k3 : Blk w1 w.heap.size 29 #[.int .i64 W, .int .i64 H, .slice A n c] := ((Blk.new _ _ _).alloc _).below' hb1
  have k6 : Blk w1 (w.heap.size + 1) 29 #[.int .i64 0, .int .i64 0, .slice none 0 0] := (Blk.new' (by simp) _ _).below' hb1
  have z1 : w.heap.size + 2 ≤ w1.heap.size := by simpa using hb1.size
  have b1 : Below w.heap.size w w1 := below_call (by (repeat (first | exact Below.refl _ _ | assumption | refine Below.drew ?_ | refine below_drewN ?_ _ | refine Below.alloc ?_ (by first | omega | (simp; done) | (simp; omega)) _ | refine Below.setCell ?_ (by first | omega | (simp; done) | (simp; omega)) _ | refine below_setRow ?_ (by first | omega | (simp; done) | (simp; omega)) _ ))) (by simp; try omega) hb1
  clear hb1
  obtain ⟨p1, p2, p3⟩ := k3.cells3
  have hs : IntKind.i64.wrap (H - G) = H - G := IntWalk.i64_in _ (by omega)
  go_wp2_with fail
  go_quiet ((go_at_call 58; exact qcallN (GR.out _)))
  replace k3 := k3.drewN nq
  replace k6 := k6.drewN nq
  replace b1 := below_drewN b1 nq
  replace z1 : w.heap.size + 2 ≤ (w1.drewN nq).heap.size := z1
  have p1 := p1; have p2 := p2; have p3 := p3
  clear p1 p2 p3 hs
  generalize w1.drewN nq = w2 at *
  obtain ⟨p1, p2, p3⟩ := k3.cells3
  go_wp2_with fail
  refine (rnew_any W (H - G) N _ hW1 hW2 hh1 hh2 HN.out).mono ?_
  rintro e w3 ⟨_, rfl, ⟨g, rfl, hg, kg⟩, hb3⟩
  replace k3 := k3.below' hb3
  replace k6 := k6.below' hb3
  replace b1 := below_call b1 (by omega) hb3
  have z3 : w2.heap.size ≤ w3.heap.size := hb3.size
  have z4 := kg.lt
  clear hb3 p1 p2 p3
  obtain ⟨p1, p2, p3⟩ := k3.cells3
  have hg0 : w.heap.size + 2 ≤ g := by omega
  clear hg
  go_wp2_with fail
  have m : ∀ w', w' = w3.alloc (.cells #[.int .i64 W, .int .i64 (H - G), .slice (some ⟨g, 0, none⟩) N N] 29) → RmR w w' W H (H - G) N A n c g w3.heap.size p k (-1) 0 0 := by
    rintro _ rfl
    exact ⟨by (repeat (first | exact Below.refl _ _ | assumption | refine Below.drew ?_ | refine below_drewN ?_ _ | refine Below.alloc ?_ (by first | omega | (simp; done) | (simp; omega)) _ | refine Below.setCell ?_ (by first | omega | (simp; done) | (simp; omega)) _ | refine below_setRow ?_ (by first | omega | (simp; done) | (simp; omega)) _ )), k3.alloc _, k6.alloc _, Blk.new _ _ _, (kg.alloc _).u8conv fun j h0 _ => (drawR_start h0 hW1).symm⟩
  replace m := m _ rfl
  clear k3 k6 kg b1 p1 p2 p3 z1 z3
  generalize w3.alloc (.cells #[.int .i64 W, .int .i64 (H - G), .slice (some ⟨g, 0, none⟩) N N] 29) = w5 at *
  go_loopw [9] (fun i wr => ∃ y : Int, 0 ≤ y ∧ y ≤ H - G ∧ i = .int .i64 y ∧ RmR w wr W H (H - G) N A n c g w3.heap.size p k (-1) y 0) (fun i _ => (H - G - intOf i).toNat)
  case atStart => exact ⟨0, by omega, by omega, rfl, m⟩
  case round =>
    obtain ⟨y, hy0, hy, rfl, m1⟩ := hrel
    clear m
    obtain ⟨p1, p2, p3⟩ := m1.k2.cells3
    by_cases hyH : y < H - G
    · go_wp2
      go_loopw [10] (fun i wr => ∃ x : Int, 0 ≤ x ∧ x ≤ W ∧ i = .int .i64 x ∧ RmR w wr W H (H - G) N A n c g w3.heap.size p k (-1) y x) (fun i _ => (W - intOf i).toNat)
      case atStart => exact ⟨0, by omega, by omega, rfl, m1⟩
      case round =>
        obtain ⟨x, hx0, hx, rfl, m2⟩ := hrel
        clear m1 p1 p2 p3
        obtain ⟨p1, p2, p3⟩ := m2.k2.cells3
        by_cases hxW : x < W
        · obtain ⟨hd1, hd2⟩ := drop_bd (W := W) (k := k) (x := x) hW2 hk1 hk2 hx0 hxW
          have DR := Lib.hid fun w' => rdrop_any W k x w' hW2 hk1 hk2 hx0 hxW
          have DY := Lib.hid fun i => @drawR_yes W H p k (-1) y x i hx0 hxW
          have DN := Lib.hid fun i => @drawR_no W H p k (-1) y x i hx0 hxW
          have et : y + dropI W k x = y - -1 * dropI W k x := by omega
          have v1 : IntKind.i64.wrap (y + dropI W k x) = y + dropI W k x := IntWalk.i64_in _ (by omega)
          generalize dropI W k x = D at *
          have IK := Lib.hid fun w' hA' => rink_any W H A n c p x (y + D) w' hA' hW2 hH2 HNN.out
          rw [← et] at DY DN
          clear et
          have M2 := Lib.hid m2.drew
          cases hi : inkB W H p x (y + D)
          · have HI := Lib.hid hi
            rw [hi] at IK
            clear hi
            go_wp2_with fail
            go_region_held3 (fun w' => w'.cell? ⟨w.heap.size, 0, none⟩ = some (.int .i64 W) ∧ w'.cell? ⟨w.heap.size, 1, none⟩ = some (.int .i64 H) ∧ w'.cell? ⟨w.heap.size, 2, none⟩ = some (.slice A n c))
              (simp [go_sem, *])
              (first
                | (go_at_call 60; refine (DR.out _).mono ?_; rintro e w' ⟨rfl, rfl⟩)
                | (go_at_call 59; refine (IK.out _ ((ArrB.below hA M2.out.bl).more M2.out.bl.size)).mono ?_; rintro e w6 ⟨rfl, hb6⟩
                   have m6 := M2.out.keep hb6
                   obtain ⟨x1, x2, x3⟩ := m6.k2.cells3))
            go_wp2
            go_roundw
            case rel => exact ⟨x + 1, by omega, by omega, by go_num, m6.conv fun i _ _ => DN.out i HI.out⟩
            case measure => simp [intOf]; omega
          · have HI := Lib.hid hi
            rw [hi] at IK
            clear hi
            go_wp2_with fail
            go_region_held3 (fun w' => w'.cell? ⟨w.heap.size, 0, none⟩ = some (.int .i64 W) ∧ w'.cell? ⟨w.heap.size, 1, none⟩ = some (.int .i64 H) ∧ w'.cell? ⟨w.heap.size, 2, none⟩ = some (.slice A n c))
              (simp [go_sem, *])
              (first
                | (go_at_call 60; refine (DR.out _).mono ?_; rintro e w' ⟨rfl, rfl⟩)
                | (go_at_call 59; refine (IK.out _ ((ArrB.below hA M2.out.bl).more M2.out.bl.size)).mono ?_; rintro e w6 ⟨rfl, hb6⟩
                   have m6 := M2.out.keep hb6
                   obtain ⟨x1, x2, x3⟩ := m6.k2.cells3))
            obtain ⟨q1, q2, q3⟩ := m6.k8.cells3
            go_wp2_with fail
            refine (rset_any W (H - G) g N N 5 _ x y _ m6.kg hx0 hxW hy0 hyH hW2 hh2 HN.out).mono ?_
            rintro e w7 ⟨rfl, hk7, hb7⟩
            have m7 := m6.set hg0 (by omega) hb7 hk7 (fun i _ _ => DY.out i HI.out)
            go_wp2
            go_roundw
            case rel => exact ⟨x + 1, by omega, by omega, by go_num, m7⟩
            case measure => simp [intOf]; omega
        · obtain rfl : x = W := by omega
          go_wp2
          go_roundw
          case rel => exact ⟨y + 1, by omega, by omega, by go_num, m2.conv fun i h0 hi => drawR_row (h := H - G) hW1 h0 (by have := HN.out; omega)⟩
          case measure => simp [intOf]; omega
    · obtain rfl : y = H - G := by omega
      obtain ⟨q1, q2, q3⟩ := m1.k8.cells3
      obtain ⟨r1, r2, r3⟩ := m1.k4.cells3
      obtain ⟨f1, f2, f3⟩ := m1.k4.frozen3
      go_wp2
      refine bodyPost_ret (v := .tuple #[.agg #[.int .i64 W, .int .i64 (H - G), .slice (some ⟨g, 0, none⟩) N N], .int .i64 0]) (by simp [results, Try.results28, go_sem, r1, r2, r3]) rfl ?_
      refine ⟨_, rfl, ⟨_, rfl, OutN.mk (by omega) ?_⟩, by have := m1.bl; (repeat (first | exact Below.refl _ _ | assumption | refine Below.drew ?_ | refine below_drewN ?_ _ | refine Below.alloc ?_ (by first | omega | (simp; done) | (simp; omega)) _ | refine Below.setCell ?_ (by first | omega | (simp; done) | (simp; omega)) _ | refine below_setRow ?_ (by first | omega | (simp; done) | (simp; omega)) _ ))⟩
      exact (((m1.kg.u8conv fun i h0 hi => drawR_end (h := H - G) hW1 h0 (by have := HN.out; omega)).far (by simp; omega) _).far (by simp; omega) _).far (by simp; omega) _

set_option maxHeartbeats 1000000 in
theorem runskew_bad (W H : Int) (A : Option Addr) (n c : Nat) (p : Int → Int) (k z : Int) (w : World) (hA : ArrB w w.heap.size A n p) (hn : n ≤ maxLen) (hB : IsB p)
    (hE : movE W H n p k (-1) = z) (hz : z ≠ 0) :
    Calls Try.prog 28 #[.agg #[.int .i64 W, .int .i64 H, .slice A n c], .int .i64 k] w
      fun e w' => e = .returned (.tuple #[noImg, .int .i64 z]) ∧ Below w.heap.size w w' := by
  have CK := Lib.hid fun w' hA' => rcheck_any W H A n c p w' hA' hn hB
  by_cases hc : chk W H n p = 0
  · obtain ⟨hW1, hW2, hH1, hH2, -, -⟩ := chk_ok hc
    rw [hc] at CK
    by_cases hk : k < -3 ∨ 3 < k
    · obtain rfl : (1 : Int) = z := by rw [← hE]; unfold movE; rw [hc]; simp [hk]
      clear hc hE
      go_enter Try.func28, Try.ntmps28
      go_wp2_with fail
      refine (CK.out _ (hA.to (by (repeat (first | exact Below.refl _ _ | assumption | refine Below.drew ?_ | refine below_drewN ?_ _ | refine Below.alloc ?_ (by first | omega | (simp; done) | (simp; omega)) _ | refine Below.setCell ?_ (by first | omega | (simp; done) | (simp; omega)) _ | refine below_setRow ?_ (by first | omega | (simp; done) | (simp; omega)) _ ))))).mono ?_
      rintro e w1 ⟨rfl, hb1⟩
      have k6 : Blk w1 (w.heap.size + 1) 29 #[.int .i64 0, .int .i64 0, .slice none 0 0] := (Blk.new' (by simp) _ _).below' hb1
      have b1 : Below w.heap.size w w1 := below_call (by (repeat (first | exact Below.refl _ _ | assumption | refine Below.drew ?_ | refine below_drewN ?_ _ | refine Below.alloc ?_ (by first | omega | (simp; done) | (simp; omega)) _ | refine Below.setCell ?_ (by first | omega | (simp; done) | (simp; omega)) _ | refine below_setRow ?_ (by first | omega | (simp; done) | (simp; omega)) _ ))) (by simp; try omega) hb1
      obtain ⟨r1, r2, r3⟩ := k6.cells3
      obtain ⟨f1, f2, f3⟩ := k6.frozen3
      clear hb1
      rcases hk with hk | hk
      all_goals
        go_wp2
        refine bodyPost_ret (v := .tuple #[noImg, .int .i64 1]) (by simp [results, Try.results28, go_sem, noImg, r1, r2, r3]) rfl ?_
        exact ⟨rfl, by (repeat (first | exact Below.refl _ _ | assumption | refine Below.drew ?_ | refine below_drewN ?_ _ | refine Below.alloc ?_ (by first | omega | (simp; done) | (simp; omega)) _ | refine Below.setCell ?_ (by first | omega | (simp; done) | (simp; omega)) _ | refine below_setRow ?_ (by first | omega | (simp; done) | (simp; omega)) _ ))⟩
    · have hk1 : -3 ≤ k := by omega
      have hk2 : k ≤ 3 := by omega
      obtain ⟨hg1, hg2⟩ := grt_bd hW1 hW2 hk1 hk2
      obtain ⟨rfl, hh⟩ : (2 : Int) = z ∧ H - grt W k < 0 := by
        rw [← hE]
        rw [← hE] at hz
        unfold movE at hz ⊢
        rw [hc] at hz ⊢
        simp only [ne_eq, not_true_eq_false, reduceIte, if_neg hk] at hz ⊢
        split at hz
        · rename_i h; rw [if_pos h]; omega
        · exact absurd rfl hz
      have GR := Lib.hid fun w' => rgreatest_any W k w' hW1 hW2 hk1 hk2
      generalize grt W k = G at *
      clear hc hE hk
      go_enter Try.func28, Try.ntmps28
      go_wp2_with fail
      refine (CK.out _ (hA.to (by (repeat (first | exact Below.refl _ _ | assumption | refine Below.drew ?_ | refine below_drewN ?_ _ | refine Below.alloc ?_ (by first | omega | (simp; done) | (simp; omega)) _ | refine Below.setCell ?_ (by first | omega | (simp; done) | (simp; omega)) _ | refine below_setRow ?_ (by first | omega | (simp; done) | (simp; omega)) _ ))))).mono ?_
      rintro e w1 ⟨rfl, hb1⟩
      have k3 : Blk w1 w.heap.size 29 #[.int .i64 W, .int .i64 H, .slice A n c] := ((Blk.new _ _ _).alloc _).below' hb1
      have k6 : Blk w1 (w.heap.size + 1) 29 #[.int .i64 0, .int .i64 0, .slice none 0 0] := (Blk.new' (by simp) _ _).below' hb1
      have b1 : Below w.heap.size w w1 := below_call (by (repeat (first | exact Below.refl _ _ | assumption | refine Below.drew ?_ | refine below_drewN ?_ _ | refine Below.alloc ?_ (by first | omega | (simp; done) | (simp; omega)) _ | refine Below.setCell ?_ (by first | omega | (simp; done) | (simp; omega)) _ | refine below_setRow ?_ (by first | omega | (simp; done) | (simp; omega)) _ ))) (by simp; try omega) hb1
      clear hb1
      obtain ⟨p1, p2, p3⟩ := k3.cells3
      have hs : IntKind.i64.wrap (H - G) = H - G := IntWalk.i64_in _ (by omega)
      go_wp2_with fail
      go_quiet ((go_at_call 58; exact qcallN (GR.out _)))
      replace k6 := k6.drewN nq
      replace b1 := below_drewN b1 nq
      have p1 := p1; have p2 := p2; have p3 := p3
      clear p1 p2 p3 hs k3
      generalize w1.drewN nq = w2 at *
      obtain ⟨r1, r2, r3⟩ := k6.cells3
      obtain ⟨f1, f2, f3⟩ := k6.frozen3
      go_wp2
      refine bodyPost_ret (v := .tuple #[noImg, .int .i64 2]) (by simp [results, Try.results28, go_sem, noImg, r1, r2, r3]) rfl ?_
      exact ⟨rfl, by (repeat (first | exact Below.refl _ _ | assumption | refine Below.drew ?_ | refine below_drewN ?_ _ | refine Below.alloc ?_ (by first | omega | (simp; done) | (simp; omega)) _ | refine Below.setCell ?_ (by first | omega | (simp; done) | (simp; omega)) _ | refine below_setRow ?_ (by first | omega | (simp; done) | (simp; omega)) _ ))⟩
  · obtain rfl : chk W H n p = z := by rw [← hE]; unfold movE; rw [if_pos hc]
    generalize chk W H n p = z at *
    clear hE hc
    go_enter Try.func28, Try.ntmps28
    go_wp2_with fail
    refine (CK.out _ (hA.to (by (repeat (first | exact Below.refl _ _ | assumption | refine Below.drew ?_ | refine below_drewN ?_ _ | refine Below.alloc ?_ (by first | omega | (simp; done) | (simp; omega)) _ | refine Below.setCell ?_ (by first | omega | (simp; done) | (simp; omega)) _ | refine below_setRow ?_ (by first | omega | (simp; done) | (simp; omega)) _ ))))).mono ?_
    rintro e w1 ⟨rfl, hb1⟩
    have k6 : Blk w1 (w.heap.size + 1) 29 #[.int .i64 0, .int .i64 0, .slice none 0 0] := (Blk.new' (by simp) _ _).below' hb1
    have b1 : Below w.heap.size w w1 := below_call (by (repeat (first | exact Below.refl _ _ | assumption | refine Below.drew ?_ | refine below_drewN ?_ _ | refine Below.alloc ?_ (by first | omega | (simp; done) | (simp; omega)) _ | refine Below.setCell ?_ (by first | omega | (simp; done) | (simp; omega)) _ | refine below_setRow ?_ (by first | omega | (simp; done) | (simp; omega)) _ ))) (by simp; try omega) hb1
    obtain ⟨r1, r2, r3⟩ := k6.cells3
    obtain ⟨f1, f2, f3⟩ := k6.frozen3
    clear hb1
    go_wp2
    refine bodyPost_ret (v := .tuple #[noImg, .int .i64 z]) (by simp [results, Try.results28, go_sem, noImg, r1, r2, r3]) rfl ?_
    exact ⟨rfl, by (repeat (first | exact Below.refl _ _ | assumption | refine Below.drew ?_ | refine below_drewN ?_ _ | refine Below.alloc ?_ (by first | omega | (simp; done) | (simp; omega)) _ | refine Below.setCell ?_ (by first | omega | (simp; done) | (simp; omega)) _ | refine below_setRow ?_ (by first | omega | (simp; done) | (simp; omega)) _ ))⟩
end Go.Proofs.Ytoonkpjddfiopaa

/- Walks: the reference's full rows and its skew; the moves' contracts in one piece; clean.Drop. -/
namespace Go.Proofs.Ytoonkpjddfiopaa
open Go.RowKit
set_option linter.unusedVariables false

theorem ink_in {W H : Int} {p : Int → Int} {x y : Int} (h1 : 0 ≤ x) (h2 : x < W) (h3 : 0 ≤ y) (h4 : y < H) : inkB W H p x y = decide (p (y * W + x) = 1) := by
  unfold inkB; simp [h1, h2, h3, h4]
theorem fullS_eq {W H : Int} {n : Nat} {p : Int → Int} (h : chk W H n p = 0) (hB : IsB p) : fullR W p H.toNat = fullS W H n p := fullR_eq h hB _ (Nat.le_refl _)

set_option maxHeartbeats 1000000 in
theorem rfull_ok (W H : Int) (A : Option Addr) (n c : Nat) (p : Int → Int) (w : World) (hA : ArrB w w.heap.size A n p) (hB : IsB p) (hE : chk W H n p = 0) :
    Calls Try.prog 63 #[.agg #[.int .i64 W, .int .i64 H, .slice A n c]] w fun e w' => e = .returned (.int .i64 (fullS W H n p)) ∧ Below w.heap.size w w' := by
  have HF := Lib.hid (fullS_eq hE hB)
  obtain ⟨hW1, hW2, hH1, hH2, hnn, -⟩ := chk_ok hE
  have HNN := Lib.hid hnn
  clear hE hnn
  obtain ⟨Wn, rfl⟩ : ∃ Wn : Nat, W = Wn := ⟨W.toNat, by omega⟩
  obtain ⟨Hn, rfl⟩ : ∃ Hn : Nat, H = Hn := ⟨H.toNat, by omega⟩
  have HFN : Hid (fullR Wn p Hn = fullS Wn Hn n p) := by show _ = _; have := HF.out; rwa [Int.toNat_natCast] at this
  clear HF
  go_enter Try.func63, Try.ntmps63
  go_wp2_with fail
  go_loopw [3, 4] (fun m s wr => ∃ i : Nat, i ≤ Hn ∧ s = .int .i64 i ∧ m = .int .i64 (fullR Wn p i) ∧ Below w.heap.size w wr ∧ Blk wr w.heap.size 29 #[.int .i64 Wn, .int .i64 Hn, .slice A n c]) (fun _ s _ => Hn - (intOf s).toNat)
  case atStart => exact ⟨0, by omega, rfl, by unfold fullR; simp [sumN], by (repeat (first | exact Below.refl _ _ | assumption | refine Below.drew ?_ | refine below_drewN ?_ _ | refine Below.alloc ?_ (by first | omega | (simp; done) | (simp; omega)) _ | refine Below.setCell ?_ (by first | omega | (simp; done) | (simp; omega)) _ | refine below_setRow ?_ (by first | omega | (simp; done) | (simp; omega)) _ )), Blk.new _ _ _⟩
  case round =>
    obtain ⟨i, hi, rfl, rfl, b1, k1⟩ := hrel
    obtain ⟨p1, p2, p3⟩ := k1.cells3
    obtain ⟨fb1, fb2⟩ := fullR_bd Wn p i
    by_cases hlt : i < Hn
    · by_cases hW : 0 < Wn
      · have FY := Lib.hid (@fullR_yes Wn p i (by omega))
        have FN := Lib.hid (@fullR_no Wn p i (by omega))
        generalize fullR Wn p i = S at *
        go_wp2_with fail
        go_loopw [5, 6] (fun f s wr => ∃ x : Nat, x ≤ Wn ∧ s = .int .i64 x ∧ f = .bool (rowB x p (i * Wn)) ∧ Below w.heap.size w wr ∧ Blk wr w.heap.size 29 #[.int .i64 Wn, .int .i64 Hn, .slice A n c]) (fun _ s _ => Wn - (intOf s).toNat)
        case atStart => exact ⟨0, by omega, rfl, rfl, b1, k1⟩
        case round =>
          obtain ⟨x, hx, rfl, rfl, b2, k2⟩ := hrel
          clear p1 p2 p3 k1 b1
          obtain ⟨p1, p2, p3⟩ := k2.cells3
          by_cases hxl : x < Wn
          · have RS := Lib.hid (rowB_step p (i * Wn) x)
            cases hr : rowB x p (i * Wn)
            · have HR := Lib.hid hr; clear hr
              go_wp2
              go_roundw
              case rel => exact ⟨x + 1, by omega, by go_num, by rw [RS.out, HR.out]; rfl, b2, k2⟩
              case measure => simp [intOf]; omega
            · have HR := Lib.hid hr; clear hr
              have IK := Lib.hid (rink_any Wn Hn A n c p x i wr ((ArrB.below hA b2).more b2.size) hW2 hH2 HNN.out)
              rw [ink_in (by omega) (by omega) (by omega) (by omega)] at IK
              generalize hd : decide (p ((i : Int) * Wn + x) = 1) = d at IK
              have RS2 : Hid (rowB (x + 1) p (i * Wn) = d) := by show _ = _; rw [RS.out, HR.out, hd]; rfl
              clear RS hd
              go_wp2_with fail
              refine IK.out.mono ?_
              rintro e w2 ⟨rfl, hb2⟩
              have b3 := below_call b2 b2.size hb2
              have k3 := k2.below' hb2
              cases d <;> go_wp2
              all_goals
                go_roundw
                case rel => exact ⟨x + 1, by omega, by go_num, by rw [RS2.out], b3, k3⟩
                case measure => simp [intOf]; omega
          · obtain rfl : x = Wn := by omega
            rw [Int.toNat_natCast] at FY FN
            cases hr : rowB x p (i * x)
            · have HR := Lib.hid hr; clear hr
              go_wp2
              go_roundw
              case rel => exact ⟨i + 1, by omega, by go_num, by rw [FN.out HR.out], b2, k2⟩
              case measure => simp [intOf]; omega
            · have HR := Lib.hid hr; clear hr
              go_wp2
              go_roundw
              case rel => exact ⟨i + 1, by omega, by go_num, by rw [FY.out HR.out], b2, k2⟩
              case measure => simp [intOf]; omega
      · obtain rfl : Wn = 0 := by omega
        have hr : Hid (fullR (0 : Nat) p i = fullS (0 : Nat) Hn n p) := by show _ = _; rw [← HFN.out]; unfold fullR; simp
        go_wp2
        go_ret
        exact ⟨ret_int hr.out, by (repeat (first | exact Below.refl _ _ | assumption | refine Below.drew ?_ | refine below_drewN ?_ _ | refine Below.alloc ?_ (by first | omega | (simp; done) | (simp; omega)) _ | refine Below.setCell ?_ (by first | omega | (simp; done) | (simp; omega)) _ | refine below_setRow ?_ (by first | omega | (simp; done) | (simp; omega)) _ ))⟩
    · obtain rfl : i = Hn := by omega
      go_wp2
      go_ret
      exact ⟨ret_int HFN.out, by (repeat (first | exact Below.refl _ _ | assumption | refine Below.drew ?_ | refine below_drewN ?_ _ | refine Below.alloc ?_ (by first | omega | (simp; done) | (simp; omega)) _ | refine Below.setCell ?_ (by first | omega | (simp; done) | (simp; omega)) _ | refine below_setRow ?_ (by first | omega | (simp; done) | (simp; omega)) _ ))⟩

/-! ### the moves' contracts in one piece -/
def OutM (w w' : World) (E W H : Int) (N : Nat) (q : Int → Int) (v : Value) : Prop := ∃ A c, v = .tuple #[.agg #[.int .i64 W, .int .i64 H, .slice A N c], .int .i64 E] ∧ (∀ a, A = some a → w.heap.size ≤ a.block) ∧ ArrB w' w'.heap.size A N q
/-- the size that goes with an error E of a move -/
structure MSize (W H G E Wm Hm : Int) (N : Nat) : Prop where
  ok : E = 0 → Wm = W ∧ Hm = H + G ∧ (N : Int) = W * (H + G)
  bad : E ≠ 0 → Wm = 0 ∧ Hm = 0 ∧ N = 0
theorem msize_ex (W H G E : Int) (h : E = 0 → 0 ≤ W ∧ 0 ≤ H + G) : ∃ Wm Hm N, MSize W H G E Wm Hm N := by
  by_cases e : E = 0
  · obtain ⟨a, b⟩ := h e
    exact ⟨W, H + G, (W * (H + G)).toNat, fun _ => ⟨rfl, rfl, Int.toNat_of_nonneg (Int.mul_nonneg a b)⟩, fun h => absurd e h⟩
  · exact ⟨0, 0, 0, fun h => absurd h e, fun _ => ⟨rfl, rfl, rfl⟩⟩
theorem outM_bad {w w' : World} {E W H : Int} {N : Nat} {q : Int → Int} (hs : W = 0 ∧ H = 0 ∧ N = 0) : OutM w w' E W H N q (.tuple #[noImg, .int .i64 E]) := by
  obtain ⟨rfl, rfl, rfl⟩ := hs
  exact ⟨none, 0, rfl, fun _ h => by (cases h), ArrB.nil⟩

theorem skew_all (W H Wm Hm E : Int) (N : Nat) (A : Option Addr) (n c : Nat) (p : Int → Int) (k : Int) (w : World) (hA : ArrB w w.heap.size A n p) (hn : n ≤ maxLen) (hB : IsB p) (hE : movE W H n p k 1 = E) (hs : MSize W H (grt W k) E Wm Hm N) :
    Calls Try.prog 15 #[.agg #[.int .i64 W, .int .i64 H, .slice A n c], .int .i64 k] w (New w fun v w' => OutM w w' E Wm Hm N (movQ W H p k 1) v) := by
  by_cases e : E = 0
  · subst e
    obtain ⟨rfl, rfl, hN⟩ := hs.ok rfl
    obtain rfl : N = (Wm * (H + grt Wm k)).toNat := by omega
    refine (skew_ok Wm H _ A n c p k w hA hn hB hE rfl).mono ?_
    rintro _ w' ⟨_, rfl, ⟨_, rfl, ⟨g, rfl, hg, kg⟩⟩, hb⟩
    exact ⟨_, rfl, ⟨_, _, rfl, fun _ h => by (cases h; exact hg), kg.arrB kg.lt⟩, hb⟩
  · refine (skew_bad W H A n c p k E w hA hn hE e).mono ?_
    rintro _ w' ⟨rfl, hb⟩
    exact ⟨_, rfl, outM_bad (hs.bad e), hb⟩
theorem unskew_all (W H Wm Hm E : Int) (N : Nat) (A : Option Addr) (n c : Nat) (p : Int → Int) (k : Int) (w : World) (hA : ArrB w w.heap.size A n p) (hn : n ≤ maxLen) (hB : IsB p) (hE : movE W H n p k (-1) = E) (hs : MSize W H (-grt W k) E Wm Hm N) :
    Calls Try.prog 38 #[.agg #[.int .i64 W, .int .i64 H, .slice A n c], .int .i64 k] w (New w fun v w' => OutM w w' E Wm Hm N (movQ W H p k (-1)) v) := by
  by_cases e : E = 0
  · subst e
    obtain ⟨rfl, rfl, hN⟩ := hs.ok rfl
    obtain rfl : N = (Wm * (H + -grt Wm k)).toNat := by omega
    refine (unskew_ok Wm H (H + -grt Wm k) A n c p k w hA hn hB hE (by omega)).mono ?_
    rintro _ w' ⟨_, rfl, ⟨_, rfl, ⟨g, rfl, hg, kg⟩⟩, hb⟩
    exact ⟨_, rfl, ⟨_, _, rfl, fun _ h => by (cases h; exact hg), kg.arrB kg.lt⟩, hb⟩
  · refine (unskew_bad W H A n c p k E w hA hn hE e).mono ?_
    rintro _ w' ⟨rfl, hb⟩
    exact ⟨_, rfl, outM_bad (hs.bad e), hb⟩
theorem runskew_all (W H Wm Hm E : Int) (N : Nat) (A : Option Addr) (n c : Nat) (p : Int → Int) (k : Int) (w : World) (hA : ArrB w w.heap.size A n p) (hn : n ≤ maxLen) (hB : IsB p) (hE : movE W H n p k (-1) = E) (hs : MSize W H (-grt W k) E Wm Hm N) :
    Calls Try.prog 28 #[.agg #[.int .i64 W, .int .i64 H, .slice A n c], .int .i64 k] w (New w fun v w' => OutM w w' E Wm Hm N (movQ W H p k (-1)) v) := by
  by_cases e : E = 0
  · subst e
    obtain ⟨rfl, rfl, hN⟩ := hs.ok rfl
    refine (runskew_ok Wm H (H + -grt Wm k) N A n c p k w hA hn hB hE (by omega) hN).mono ?_
    rintro _ w' ⟨_, rfl, ⟨_, rfl, ⟨g, rfl, hg, kg⟩⟩, hb⟩
    exact ⟨_, rfl, ⟨_, _, rfl, fun _ h => by (cases h; exact hg), (kg.arrB kg.lt).congr fun i h0 hi => movR_eq (movE_ok hE).1 hB h0 (by rw [← hN]; exact hi)⟩, hb⟩
  · refine (runskew_bad W H A n c p k E w hA hn hB hE e).mono ?_
    rintro _ w' ⟨rfl, hb⟩
    exact ⟨_, rfl, outM_bad (hs.bad e), hb⟩
theorem movE_sides {W H : Int} {n : Nat} {p : Int → Int} {k way : Int} (h : movE W H n p k way = 0) : 0 ≤ W ∧ 0 ≤ H + way * grt W k :=
  ⟨(chk_ok (movE_ok h).1).1, (movE_ok h).2.2.2.1⟩

theorem L7_take (i : Nat) (h : i < 7) : L7.take (i + 1) = L7.take i ++ [lit L7 i] := by
  rcases (by omega : i = 0 ∨ i = 1 ∨ i = 2 ∨ i = 3 ∨ i = 4 ∨ i = 5 ∨ i = 6) with rfl | rfl | rfl | rfl | rfl | rfl | rfl <;> rfl
theorem chk_out {W H Wm Hm : Int} {N n : Nat} {p : Int → Int} {k : Int} (h : movE W H n p k (-1) = 0) (hs : MSize W H (-grt W k) 0 Wm Hm N) : chk Wm Hm N (movQ W H p k (-1)) = 0 := by
  obtain ⟨rfl, rfl, hN⟩ := hs.ok rfl
  have := chk_mov (h := H + -grt Wm k) h (by omega)
  rwa [show (Wm * (H + -grt Wm k)).toNat = N by omega] at this
theorem fsN_mv {W H Wm Hm : Int} {N n : Nat} {p : Int → Int} {k : Int} (h : movE W H n p k (-1) = 0) (hs : MSize W H (-grt W k) 0 Wm Hm N) : fsN W H n p k = fullS Wm Hm N (movQ W H p k (-1)) := by
  obtain ⟨rfl, rfl, hN⟩ := hs.ok rfl
  unfold fsN
  rw [if_pos h, show H - grt Wm k = H + -grt Wm k by omega, show (Wm * (H + -grt Wm k)).toNat = N by omega]

set_option maxRecDepth 100000 in
set_option maxHeartbeats 2000000 in
theorem rfindSkew_ok (W H : Int) (A : Option Addr) (n c : Nat) (p : Int → Int) (w : World) (hA : ArrB w w.heap.size A n p) (hn : n ≤ maxLen) (hB : IsB p) (hE : chk W H n p = 0) :
    Calls Try.prog 33 #[.agg #[.int .i64 W, .int .i64 H, .slice A n c]] w fun e w' => e = .returned (.int .i64 (findS W H n p)) ∧ Below w.heap.size w w' := by
  have FD : Hid (findS W H n p = (fsL (fsN W H n p) (L7.take 7)).1) := by show _ = _; rfl
  have cells : #[Value.int .i64 0, .int .i64 1, .int .i64 (-1), .int .i64 2, .int .i64 (-2), .int .i64 3, .int .i64 (-3)] = i64s 7 (lit L7) := i64s_lit (l := L7)
  have CS := Lib.hid cells; clear cells
  have HE := Lib.hid hE
  clear hE
  go_enter Try.func33, Try.ntmps33
  go_wp2_with fail
  have k0 : ∀ w', w' = (w.alloc (.cells #[.int .i64 W, .int .i64 H, .slice A n c] 29)).alloc (.cells #[Value.int .i64 0, .int .i64 1, .int .i64 (-1), .int .i64 2, .int .i64 (-2), .int .i64 3, .int .i64 (-3)] 3) →
      Below w.heap.size w w' ∧ Blk w' w.heap.size 29 #[.int .i64 W, .int .i64 H, .slice A n c] ∧ Blk w' (w.heap.size + 1) 3 (i64s 7 (lit L7)) := by
    rintro _ rfl
    exact ⟨by (repeat (first | exact Below.refl _ _ | assumption | refine Below.drew ?_ | refine below_drewN ?_ _ | refine Below.alloc ?_ (by first | omega | (simp; done) | (simp; omega)) _ | refine Below.setCell ?_ (by first | omega | (simp; done) | (simp; omega)) _ | refine below_setRow ?_ (by first | omega | (simp; done) | (simp; omega)) _ )), (Blk.new _ _ _).alloc _, (Blk.new' (by simp) _ _).to CS.out⟩
  replace k0 := k0 _ rfl
  generalize (w.alloc (.cells #[.int .i64 W, .int .i64 H, .slice A n c] 29)).alloc (.cells #[Value.int .i64 0, .int .i64 1, .int .i64 (-1), .int .i64 2, .int .i64 (-2), .int .i64 3, .int .i64 (-3)] 3) = w1 at *
  obtain ⟨b1, k1, k2⟩ := k0
  go_loopw [4, 5, 6] (fun o m s wr => ∃ i : Nat, i ≤ 7 ∧ s = .int .i64 i ∧ o = .int .i64 (fsL (fsN W H n p) (L7.take i)).1 ∧ m = .int .i64 (fsL (fsN W H n p) (L7.take i)).2 ∧ Below w.heap.size w wr ∧ Blk wr w.heap.size 29 #[.int .i64 W, .int .i64 H, .slice A n c] ∧ Blk wr (w.heap.size + 1) 3 (i64s 7 (lit L7))) (fun _ _ s _ => 7 - (intOf s).toNat)
  case atStart => exact ⟨0, by omega, rfl, rfl, rfl, b1, k1, k2⟩
  case round =>
    obtain ⟨i, hi, rfl, rfl, rfl, b2, k3, k4⟩ := hrel
    clear b1 k1 k2
    by_cases hlt : i < 7
    · have FS : Hid (fsL (fsN W H n p) (L7.take (i + 1)) = fsStep (fsN W H n p) (fsL (fsN W H n p) (L7.take i)) (lit L7 i)) := by show _ = _; rw [L7_take i hlt, fsL_snoc]
      have fb := fsL_bd (fsN_bd W H n p) (L7.take i)
      obtain ⟨fb1, fb2⟩ := fb
      generalize fsL (fsN W H n p) (L7.take i) = S at *
      obtain ⟨so, sm⟩ := S
      simp only at fb1 fb2
      have hk : -3 ≤ lit L7 i ∧ lit L7 i ≤ 3 := by
        rcases (by omega : i = 0 ∨ i = 1 ∨ i = 2 ∨ i = 3 ∨ i = 4 ∨ i = 5 ∨ i = 6) with rfl | rfl | rfl | rfl | rfl | rfl | rfl <;> decide
      obtain ⟨hk1, hk2⟩ := hk
      have q4 := k4.i64at (i := (i : Int)) (by omega) (by omega)
      rw [Int.toNat_natCast] at q4
      generalize hkk : lit L7 i = k at *
      have HKK := Lib.hid hkk; clear hkk
      obtain ⟨p1, p2, p3⟩ := k3.cells3
      have hi0 : (0 : Int) ≤ (i : Int) := by omega
      have hi7 : (i : Int) < 7 := by omega
      by_cases hM : movE W H n p k (-1) = 0
      · obtain ⟨Wm, Hm, N, ms⟩ := msize_ex W H (-grt W k) 0 (fun _ => by have := movE_sides hM; omega)
        have HC := Lib.hid (chk_out hM ms)
        have FM := Lib.hid (fsN_mv hM ms)
        have UN := Lib.hid fun w' hA' => runskew_all W H Wm Hm 0 N A n c p k w' hA' hn hB hM ms
        have K3 := Lib.hid k3; have K4 := Lib.hid k4; have B2 := Lib.hid b2
        have BQ := Lib.hid (isB_mov (W := W) (H := H) (k := k) (way := -1) hB)
        generalize movQ W H p k (-1) = q at *
        clear ms hM k3 k4 b2
        have Z3 := K3.out.lt; have Z4 := K4.out.lt
        go_upto_region 6 with fail
        go_cut [7, 8, 24] (fun f z e wx => ∃ B Aq cq, f = .pointer (some ⟨B, 0, none⟩) ∧ z = .int .i64 0 ∧ e = .int .i64 0 ∧ Below w.heap.size w wx ∧ Blk wx w.heap.size 29 #[.int .i64 W, .int .i64 H, .slice A n c] ∧ Blk wx (w.heap.size + 1) 3 (i64s 7 (lit L7)) ∧
          Blk wx B 29 #[.int .i64 Wm, .int .i64 Hm, .slice Aq N cq] ∧ ArrB wx wx.heap.size Aq N q)
        case first =>
          go_region_held3 (fun w' => w'.cell? ⟨w.heap.size, 0, none⟩ = some (.int .i64 W) ∧ w'.cell? ⟨w.heap.size, 1, none⟩ = some (.int .i64 H) ∧ w'.cell? ⟨w.heap.size, 2, none⟩ = some (.slice A n c) ∧ w'.cell? ⟨w.heap.size + 1, i, none⟩ = some (.int .i64 k))
            (simp [go_sem, *])
            (first
              | (go_at_call 28; refine (UN.out _ ((ArrB.below hA B2.out.drew).more B2.out.drew.size)).mono ?_; rintro e w6 ⟨_, rfl, ⟨Aq, cq, rfl, hge, aq⟩, hb6⟩
                 have k6 := K3.out.drew.below' hb6
                 have k7 := K4.out.drew.below' hb6
                 have q6 := k7.i64at (i := (i : Int)) hi0 hi7
                 rw [Int.toNat_natCast, HKK.out] at q6
                 have z6 := k6.lt
                 have z7 := k7.lt
                 have b6 := below_call B2.out.drew B2.out.drew.size hb6
                 obtain ⟨x1, x2, x3⟩ := k6.cells3)
              | (go_at_call 28; refine (UN.out _ ((ArrB.below hA (B2.out.alloc B2.out.size _).drew).more (B2.out.alloc B2.out.size _).drew.size)).mono ?_; rintro e w6 ⟨_, rfl, ⟨Aq, cq, rfl, hge, aq⟩, hb6⟩
                 have k6 := (K3.out.alloc _).drew.below' hb6
                 have k7 := (K4.out.alloc _).drew.below' hb6
                 have kb := (Blk.new _ _ _).drew.below' hb6
                 have q6 := k7.i64at (i := (i : Int)) hi0 hi7
                 rw [Int.toNat_natCast, HKK.out] at q6
                 have z6 := k6.lt
                 have z7 := k7.lt
                 have b6 := below_call (B2.out.alloc B2.out.size _).drew (B2.out.alloc B2.out.size _).drew.size hb6
                 obtain ⟨x1, x2, x3⟩ := k6.cells3
                 obtain ⟨y1, y2, y3⟩ := kb.cells3
                 obtain ⟨f1, f2, f3⟩ := kb.frozen3))

          · go_wp2_with fail
            go_meet
            exact ⟨_, _, _, rfl, rfl, rfl, by have := b6.size; (repeat (first | exact Below.refl _ _ | assumption | refine Below.drew ?_ | refine below_drewN ?_ _ | refine Below.alloc ?_ (by first | omega | (simp; done) | (simp; omega)) _ | refine Below.setCell ?_ (by first | omega | (simp; done) | (simp; omega)) _ | refine below_setRow ?_ (by first | omega | (simp; done) | (simp; omega)) _ )), k6.alloc _, k7.alloc _, Blk.new _ _ _, aq.to (by (repeat (first | exact Below.refl _ _ | assumption | refine Below.drew ?_ | refine below_drewN ?_ _ | refine Below.alloc ?_ (by first | omega | (simp; done) | (simp; omega)) _ | refine Below.setCell ?_ (by first | omega | (simp; done) | (simp; omega)) _ | refine below_setRow ?_ (by first | omega | (simp; done) | (simp; omega)) _ )))⟩
          · go_wp2_with fail
            go_meet
            have e6 : w.heap.size ≤ wr.heap.size := by omega
            exact ⟨_, _, _, rfl, rfl, rfl, below_fill3 b6 e6, k6.far3 (by omega), k7.far3 (by omega), kb.fill3, by
              rw [fill3_size]
              exact aq.far3 fun a e => by have := hge a e; simp at this; omega⟩
        case rest =>
          obtain ⟨B, Aq, cq, rfl, rfl, rfl, b3, k5, k6, kb, aq⟩ := hcut
          obtain ⟨y1, y2, y3⟩ := kb.cells3
          go_wp2_with fail
          have RF := Lib.hid fun w' hA' => rfull_ok Wm Hm Aq N cq q w' hA' BQ.out HC.out
          refine (RF.out _ aq).mono ?_
          rintro e w8 ⟨rfl, hb8⟩
          rw [← FM.out]
          have FM1 : Hid (fsStep (fsN W H n p) (so, sm) k = if sm < fsN W H n p k then (k, fsN W H n p k) else (so, sm)) := by show _ = _; rfl
          have FB := fsN_bd W H n p k
          obtain ⟨fc1, fc2⟩ := FB
          have b4 := below_call b3 b3.size hb8
          have k7 := k5.below' hb8
          have k8 := k6.below' hb8
          have kb := kb.below' hb8
          have aq := aq.to hb8
          have q8 := k8.i64at (i := (i : Int)) hi0 hi7
          rw [Int.toNat_natCast, HKK.out] at q8
          clear b3 k5 k6 hb8 y1 y2 y3
          obtain ⟨y1, y2, y3⟩ := kb.cells3
          have FM := Lib.hid FM.out.symm
          generalize hF : fsN W H n p k = F at *
          clear hF
          by_cases hs : sm < F
          · rw [if_pos hs] at FM1
            have FS2 : Hid (fsL (fsN W H n p) (L7.take (i + 1)) = (k, F)) := by show _ = _; rw [FS.out, FM1.out]
            go_wp2_with fail
            refine (RF.out _ aq).mono ?_
            rintro e w9 ⟨rfl, hb9⟩
            rw [FM.out]
            have b5 := below_call b4 b4.size hb9
            have k7 := k7.below' hb9
            have k8 := k8.below' hb9
            go_wp2
            go_roundw
            case rel => exact ⟨i + 1, by omega, by go_num, by rw [FS2.out], by rw [FS2.out], b5, k7, k8⟩
            case measure => simp [intOf]; omega
          · rw [if_neg hs] at FM1
            have FS2 : Hid (fsL (fsN W H n p) (L7.take (i + 1)) = (so, sm)) := by show _ = _; rw [FS.out, FM1.out]
            go_wp2
            go_roundw
            case rel => exact ⟨i + 1, by omega, by go_num, by rw [FS2.out], by rw [FS2.out], b4, k7, k8⟩
            case measure => simp [intOf]; omega
      · obtain ⟨Wm, Hm, N, ms⟩ := msize_ex W H (-grt W k) (movE W H n p k (-1)) (fun h => absurd h hM)
        obtain ⟨rfl, rfl, rfl⟩ := ms.bad hM
        have FM1 : Hid (fsN W H n p k = -1) := by show _ = _; unfold fsN; rw [if_neg hM]
        have FM2 : Hid (fsStep (fsN W H n p) (so, sm) k = if sm < fsN W H n p k then (k, fsN W H n p k) else (so, sm)) := by show _ = _; rfl
        have FS2 : Hid (fsL (fsN W H n p) (L7.take (i + 1)) = (so, sm)) := by show _ = _; rw [FS.out, FM2.out, FM1.out, if_neg (by omega)]
        have UN := Lib.hid fun z hz w' hA' => runskew_all W H 0 0 z 0 A n c p k w' hA' hn hB hz (hz ▸ ms)
        have hb : (movE W H n p k (-1) == 0) = false := by simp [hM]
        replace UN := Lib.hid (UN.out _ rfl)
        clear ms
        generalize movE W H n p k (-1) = E at *
        have HM := Lib.hid hM; clear hM
        have K3 := Lib.hid k3; have K4 := Lib.hid k4; have B2 := Lib.hid b2
        generalize movQ W H p k (-1) = q at *
        clear k3 k4 b2
        have Z3 := K3.out.lt; have Z4 := K4.out.lt
        go_upto_region 6 with fail
        go_cut [7, 8, 24] (fun f z e wx => ∃ B Aq cq, f = .pointer (some ⟨B, 0, none⟩) ∧ z = .int .i64 E ∧ e = .int .i64 E ∧ Below w.heap.size w wx ∧ Blk wx w.heap.size 29 #[.int .i64 W, .int .i64 H, .slice A n c] ∧ Blk wx (w.heap.size + 1) 3 (i64s 7 (lit L7)) ∧
          Blk wx B 29 #[.int .i64 0, .int .i64 0, .slice Aq 0 cq] ∧ ArrB wx wx.heap.size Aq 0 q)
        case first =>
          go_region_held3 (fun w' => w'.cell? ⟨w.heap.size, 0, none⟩ = some (.int .i64 W) ∧ w'.cell? ⟨w.heap.size, 1, none⟩ = some (.int .i64 H) ∧ w'.cell? ⟨w.heap.size, 2, none⟩ = some (.slice A n c) ∧ w'.cell? ⟨w.heap.size + 1, i, none⟩ = some (.int .i64 k))
            (simp [go_sem, *])
            (first
              | (go_at_call 28; refine (UN.out _ ((ArrB.below hA B2.out.drew).more B2.out.drew.size)).mono ?_; rintro e w6 ⟨_, rfl, ⟨Aq, cq, rfl, hge, aq⟩, hb6⟩
                 have k6 := K3.out.drew.below' hb6
                 have k7 := K4.out.drew.below' hb6
                 have q6 := k7.i64at (i := (i : Int)) hi0 hi7
                 rw [Int.toNat_natCast, HKK.out] at q6
                 have z6 := k6.lt
                 have z7 := k7.lt
                 have b6 := below_call B2.out.drew B2.out.drew.size hb6
                 obtain ⟨x1, x2, x3⟩ := k6.cells3)
              | (go_at_call 28; refine (UN.out _ ((ArrB.below hA (B2.out.alloc B2.out.size _).drew).more (B2.out.alloc B2.out.size _).drew.size)).mono ?_; rintro e w6 ⟨_, rfl, ⟨Aq, cq, rfl, hge, aq⟩, hb6⟩
                 have k6 := (K3.out.alloc _).drew.below' hb6
                 have k7 := (K4.out.alloc _).drew.below' hb6
                 have kb := (Blk.new _ _ _).drew.below' hb6
                 have q6 := k7.i64at (i := (i : Int)) hi0 hi7
                 rw [Int.toNat_natCast, HKK.out] at q6
                 have z6 := k6.lt
                 have z7 := k7.lt
                 have b6 := below_call (B2.out.alloc B2.out.size _).drew (B2.out.alloc B2.out.size _).drew.size hb6
                 obtain ⟨x1, x2, x3⟩ := k6.cells3
                 obtain ⟨y1, y2, y3⟩ := kb.cells3
                 obtain ⟨f1, f2, f3⟩ := kb.frozen3))

          · go_wp2_with fail
            go_meet
            exact ⟨_, _, _, rfl, rfl, rfl, by have := b6.size; (repeat (first | exact Below.refl _ _ | assumption | refine Below.drew ?_ | refine below_drewN ?_ _ | refine Below.alloc ?_ (by first | omega | (simp; done) | (simp; omega)) _ | refine Below.setCell ?_ (by first | omega | (simp; done) | (simp; omega)) _ | refine below_setRow ?_ (by first | omega | (simp; done) | (simp; omega)) _ )), k6.alloc _, k7.alloc _, Blk.new _ _ _, aq.to (by (repeat (first | exact Below.refl _ _ | assumption | refine Below.drew ?_ | refine below_drewN ?_ _ | refine Below.alloc ?_ (by first | omega | (simp; done) | (simp; omega)) _ | refine Below.setCell ?_ (by first | omega | (simp; done) | (simp; omega)) _ | refine below_setRow ?_ (by first | omega | (simp; done) | (simp; omega)) _ )))⟩
          · go_wp2_with fail
            go_meet
            have e6 : w.heap.size ≤ wr.heap.size := by omega
            exact ⟨_, _, _, rfl, rfl, rfl, below_fill3 b6 e6, k6.far3 (by omega), k7.far3 (by omega), kb.fill3, by
              rw [fill3_size]
              exact aq.far3 fun a e => by have := hge a e; simp at this; omega⟩
        case rest =>
          obtain ⟨B, Aq, cq, rfl, rfl, rfl, b3, k5, k6, kb, aq⟩ := hcut
          go_wp2
          go_roundw
          case rel => exact ⟨i + 1, by omega, by go_num, by rw [FS2.out], by rw [FS2.out], b3, k5, k6⟩
          case measure => simp [intOf]; omega
    · obtain rfl : i = 7 := by omega
      go_wp2
      go_ret
      exact ⟨ret_int FD.out.symm, b2⟩

/-! ### clean.Drop -/
theorem index640 (D : Array Value) (x : Int) (v : Value) (h0 : 0 ≤ x) (h : x < 640) (hat : D[x.toNat]? = some v) (w : World) : (Instr.index 100 (.agg D) (.int .i64 x)).run Try.prog w = .ok v w := by
  simp [Instr.index, run_underlying Try.underlying100, asIntOf, h0, h, go_sem, part, hat]
def dropBad (W k x : Int) : Bool := decide (W < 1 ∨ 640 < W ∨ k < -3 ∨ 3 < k ∨ x < 0 ∨ W ≤ x)
end Go.Proofs.Ytoonkpjddfiopaa
