/- Texts of mine in build order: C10, I4, I5, I6, I7, C14. Conditions: each theorem's own. -/
import Derived.Test.YtoonkpjddfiopaaDoorMImageSetsx4
import Derived.RegionTactic
import Derived.Deep.DeepCutAuto
import Derived.Deep.Cut
import Derived.BigQuiet
import Derived.Deep.QuietTactic
import Derived.Deep.CutBlock
/- Plain: great parts alone. No program in sight. -/
namespace Go.Proofs.YtoonkpjddfiopaaDoor
set_option linter.unusedVariables false
/-- in a part of at least m places -/
def bigN (n : Nat) (ink : Nat → Prop) (A : Nat → Nat → Prop) (m : Int) (i : Nat) : Prop := ink i ∧ m ≤ ((partN n ink A i).length : Int)
section
variable {n : Nat} {ink : Nat → Prop} {A : Nat → Nat → Prop} {m m' : Int} {i j : Nat}
theorem part_eq (hA : ∀ a b, A a b → A b a) (h : Cn ink A i j) : partN n ink A i = partN n ink A j := by
  refine sorted_ext partN_sorted partN_sorted fun x => ?_
  rw [mem_partN, mem_partN]
  exact ⟨fun ⟨a, b⟩ => ⟨a, (h.symm hA).trans b⟩, fun ⟨a, b⟩ => ⟨a, h.trans b⟩⟩
theorem big_cn (hA : ∀ a b, A a b → A b a) (hb : bigN n ink A m i) (h : Cn ink A i j) : Cn (bigN n ink A m) A i j := by
  induction h with
  | refl _ => exact .refl hb
  | step h1 h2 h3 ih =>
    refine ih.step ⟨h2, ?_⟩ h3
    rw [← part_eq hA (h1.step h2 h3)]
    exact hb.2
theorem cn_big (h : Cn (bigN n ink A m) A i j) : Cn ink A i j := h.mono (fun _ h => h.1) fun _ _ h => h
theorem big_part (hA : ∀ a b, A a b → A b a) (hb : bigN n ink A m i) : partN n (bigN n ink A m) A i = partN n ink A i := by
  refine sorted_ext partN_sorted partN_sorted fun x => ?_
  rw [mem_partN, mem_partN]
  exact ⟨fun ⟨a, b⟩ => ⟨a, cn_big b⟩, fun ⟨a, b⟩ => ⟨a, big_cn hA hb b⟩⟩
theorem big_root (hA : ∀ a b, A a b → A b a) : Root (bigN n ink A m) A i ↔ bigN n ink A m i ∧ Root ink A i :=
  ⟨fun h => ⟨h.1, h.1.1, fun j hj => h.2 j (big_cn hA h.1 hj)⟩, fun h => ⟨h.1, fun j hj => h.2.2 j (cn_big hj)⟩⟩
theorem big_big (hA : ∀ a b, A a b → A b a) : bigN n (bigN n ink A m) A m i ↔ bigN n ink A m i := by
  constructor
  · exact fun h => h.1
  · exact fun h => ⟨h, by rw [big_part hA h]; exact h.2⟩
theorem big_less (hm : m ≤ m') (h : bigN n ink A m' i) : bigN n ink A m i := ⟨h.1, Int.le_trans hm h.2⟩
theorem big_roots (hA : ∀ a b, A a b → A b a) : rootN n (bigN n ink A m) A = (rootN n ink A).filter fun i => decide (m ≤ ((partN n ink A i).length : Int)) := by
  refine sorted_ext rootN_sorted (rootN_sorted.filter _) fun x => ?_
  rw [mem_rootN, List.mem_filter, mem_rootN, big_root hA, decide_eq_true_iff]
  constructor
  · rintro ⟨a, b, c⟩; exact ⟨⟨a, c⟩, b.2⟩
  · rintro ⟨⟨a, c⟩, b⟩; exact ⟨a, ⟨c.1, b⟩, c⟩
theorem cn_congr {ink' : Nat → Prop} (h : ∀ x, ink x ↔ ink' x) : Cn ink A i j ↔ Cn ink' A i j := ⟨fun c => c.mono (fun x hx => (h x).1 hx) fun _ _ h => h, fun c => c.mono (fun x hx => (h x).2 hx) fun _ _ h => h⟩
end
end Go.Proofs.YtoonkpjddfiopaaDoor

/- Walk: small components removed (image.Despeckle). -/
namespace Go.Proofs.YtoonkpjddfiopaaDoor
open Go.RowKit Go.Shelf
set_option linter.unusedVariables false
attribute [local go_sem] Oper.semAt_some

open Classical in
/-- the ink of the great components -/
noncomputable def bgQ (n W : Nat) (p : Int → Int) (m : Int) : Int → Int := fun i => if bigN n (InkN n p) (AdjN W true) m i.toNat then 1 else 0
/-- what the first t roots of a list and the first j places of the next one fill -/
def DoneN (n : Nat) (ink : Nat → Prop) (A : Nat → Nat → Prop) (m : Int) (l : List Nat) (t : Nat) (i : Nat) : Prop := ∃ s r, s < t ∧ l[s]? = some r ∧ m ≤ ((partN n ink A r).length : Int) ∧ i ∈ partN n ink A r
section
variable {n W : Nat} {ink : Nat → Prop} {A : Nat → Nat → Prop} {m : Int} {l : List Nat} {t i r : Nat}
theorem done_skip (hr : l[t]? = some r) (h : ¬ m ≤ ((partN n ink A r).length : Int)) : DoneN n ink A m l (t + 1) i ↔ DoneN n ink A m l t i := by
  constructor
  · rintro ⟨s, r', h1, h2, h3, h4⟩
    by_cases e : s = t
    · subst e
      rw [hr] at h2; cases h2
      exact absurd h3 h
    · exact ⟨s, r', by omega, h2, h3, h4⟩
  · rintro ⟨s, r', h1, h2, h3, h4⟩
    exact ⟨s, r', by omega, h2, h3, h4⟩
theorem done_take (hr : l[t]? = some r) (h : m ≤ ((partN n ink A r).length : Int)) : DoneN n ink A m l (t + 1) i ↔ DoneN n ink A m l t i ∨ i ∈ partN n ink A r := by
  constructor
  · rintro ⟨s, r', h1, h2, h3, h4⟩
    by_cases e : s = t
    · subst e
      rw [hr] at h2; cases h2
      exact .inr h4
    · exact .inl ⟨s, r', by omega, h2, h3, h4⟩
  · rintro (⟨s, r', h1, h2, h3, h4⟩ | h4)
    · exact ⟨s, r', by omega, h2, h3, h4⟩
    · exact ⟨t, r, by omega, hr, h, h4⟩
theorem done_all (hA : ∀ a b, A a b → A b a) (hin : ∀ x, ink x → x < n) : DoneN n ink A m (rootN n ink A) (rootN n ink A).length i ↔ bigN n ink A m i := by
  constructor
  · rintro ⟨s, r, h1, h2, h3, h4⟩
    have hc := (mem_partN.1 h4).2
    exact ⟨hc.right, by rw [← part_eq hA hc]; exact h3⟩
  · rintro ⟨h1, h2⟩
    obtain ⟨r, hr, hR, hc⟩ := root_ex hA h1
    have hm : r ∈ rootN n ink A := mem_rootN.2 ⟨hin _ hR.1, hR⟩
    obtain ⟨s, hs, e⟩ := List.getElem_of_mem hm
    exact ⟨s, r, hs, by rw [List.getElem?_eq_getElem hs, e], by rw [part_eq hA hc]; exact h2, mem_partN.2 ⟨hin _ h1, hc⟩⟩
end
/-- the image while it is filled: what is filled, and nothing else, is ink -/
def FillI (n : Nat) (q : Int → Int) (D : Nat → Prop) : Prop := ∀ i : Nat, i < n → (q i = 1 ↔ D i) ∧ (q i = 0 ∨ q i = 1)
theorem FillI.set {n : Nat} {q : Int → Int} {D D' : Nat → Prop} (h : FillI n q D) {x : Nat} (hD : ∀ i, D' i ↔ D i ∨ i = x) : FillI n (upd q x 1) D' := fun i hi => by
  unfold upd
  by_cases e : (i : Int) = x
  · have e' : i = x := by omega
    rw [if_pos e]
    exact ⟨⟨fun _ => (hD i).2 (.inr e'), fun _ => rfl⟩, .inr rfl⟩
  · rw [if_neg e]
    refine ⟨?_, (h i hi).2⟩
    rw [(h i hi).1, hD i]
    exact ⟨.inl, fun h => h.elim id fun e' => absurd (by omega) e⟩
theorem FillI.conv {n : Nat} {q : Int → Int} {D D' : Nat → Prop} (h : FillI n q D) (hD : ∀ i, D' i ↔ D i) : FillI n q D' := fun i hi => ⟨(h i hi).1.trans (hD i).symm, (h i hi).2⟩
theorem FillI.end_ {n W : Nat} {q p : Int → Int} {m : Int} (h : FillI n q (bigN n (InkN n p) (AdjN W true) m)) (i : Int) (h0 : 0 ≤ i) (h1 : i < n) : q i = bgQ n W p m i := by
  have h2 := h i.toNat (by omega)
  rw [Int.toNat_of_nonneg h0] at h2
  unfold bgQ
  by_cases c : bigN n (InkN n p) (AdjN W true) m i.toNat
  · rw [if_pos c]; exact h2.1.2 c
  · rw [if_neg c]
    rcases h2.2 with h3 | h3
    · exact h3
    · exact absurd (h2.1.1 h3) c
set_option maxRecDepth 100000 in
set_option maxHeartbeats 4000000 in
theorem desp_any (W H : Nat) (least : Int) (A : Option Addr) (n c : Nat) (p : Int → Int) (w : World) (hA : ArrB w w.heap.size A n p) (hW : W ≤ 640) (hH : H ≤ 640) (hn : n = W * H) (hp : ∀ i : Int, 0 ≤ i → i < n → p i = 0 ∨ p i = 1) :
    Calls Tryd.prog 26 #[.agg #[.int .i64 W, .int .i64 H, .slice A n c], .int .i64 least] w (New w fun v w' => OutT w w' 0 W H n (bgQ n W p least) v) := by
  have hnI : (n : Int) = (W : Int) * H := by rw [hn]; push_cast; rfl
  have hn9 : n ≤ 409600 := by rw [hn]; exact Nat.mul_le_mul hW hH
  have CO := Lib.hid fun w' hA' => comps_any W H true A n c p w' hA' hW hH hn hp
  have BL := Lib.hid fun w' => (blank_any W H w' (by omega) (by omega) (by omega) (by omega)).mono fun e w'' (⟨v, he, ho, hb⟩ : New w' (fun v w'' => OutImg w' w'' W H (fun _ => 0) v) e w'') => (show New w' (fun v w'' => OutN w' w'' W H n (fun _ => 0) v) e w'' from ⟨v, he, ho.outN hnI, hb⟩)
  have HN := Lib.hid hn
  have HNI := Lib.hid hnI
  clear hn hnI hp
  have b1 : Below w.heap.size w ((w.alloc (.cells #[.int .i64 W, .int .i64 H, .slice A n c] 24)).alloc (.cells #[.int .i64 0, .int .i64 0, .slice none 0 0] 24)) := by (repeat (first | exact Below.refl _ _ | assumption | refine Below.drew ?_ | refine below_drewN ?_ _ | refine Below.alloc ?_ (by first | omega | (simp; done) | (simp; omega)) _ | refine Below.setCell ?_ (by first | omega | (simp; done) | (simp; omega)) _ | refine below_setRow ?_ (by first | omega | (simp; done) | (simp; omega)) _ ))
  have k1 : Blk ((w.alloc (.cells #[.int .i64 W, .int .i64 H, .slice A n c] 24)).alloc (.cells #[.int .i64 0, .int .i64 0, .slice none 0 0] 24)) w.heap.size 24 #[.int .i64 W, .int .i64 H, .slice A n c] := (Blk.new _ _ _).alloc _
  have k2 : Blk ((w.alloc (.cells #[.int .i64 W, .int .i64 H, .slice A n c] 24)).alloc (.cells #[.int .i64 0, .int .i64 0, .slice none 0 0] 24)) (w.heap.size + 1) 24 #[.int .i64 0, .int .i64 0, .slice none 0 0] := Blk.new' (by simp) _ _
  go_enter Tryd.func26, Tryd.ntmps26
  go_wp2_with fail
  generalize (w.alloc (.cells #[.int .i64 W, .int .i64 H, .slice A n c] 24)).alloc (.cells #[.int .i64 0, .int .i64 0, .slice none 0 0] 24) = w1 at *
  refine (CO.out w1 (hA.to b1)).mono ?_
  rintro e w2 ⟨_, rfl, ⟨vo, rfl, hC⟩, hb2⟩
  have b2 := below_call b1 b1.size hb2
  replace k1 := k1.below' hb2
  replace k2 := k2.below' hb2
  obtain ⟨L, hc1, hc2, hc3⟩ := hC
  have HC1 := Lib.hid hc1
  obtain ⟨AL, cL, rfl, hcL, hEL⟩ := hc2.arr encC_len
  clear b1 hb2 CO hc1 hA
  obtain ⟨p1, p2, p3⟩ := k1.cells3
  go_wp2_with fail
  refine (BL.out w2).mono ?_
  rintro e w3 ⟨_, rfl, ⟨g, rfl, hg, kg⟩, hb3⟩
  have b3 := below_call b2 b2.size hb3
  have zk2 := k2.lt
  replace k1 := (k1.below' hb3).alloc (.cells #[.int .i64 W, .int .i64 H, .slice (some ⟨g, 0, none⟩) n n] 24)
  replace k2 := (k2.below' hb3).alloc (.cells #[.int .i64 W, .int .i64 H, .slice (some ⟨g, 0, none⟩) n n] 24)
  have zg := kg.lt
  have kx := Blk.new w3 24 #[.int .i64 W, .int .i64 H, .slice (some ⟨g, 0, none⟩) n n]
  have zs := hb3.size
  have bl : Below w2.heap.size w2 (w3.alloc (.cells #[.int .i64 W, .int .i64 H, .slice (some ⟨g, 0, none⟩) n n] 24)) := hb3.alloc hb3.size _
  have b4 := below_call b2 b2.size bl
  have HEL := Lib.hid (hEL.to bl)
  have HC3 := Lib.hid fun t ht => (show _ ∧ _ from ⟨(hc3 t ht).1, (hc3 t ht).2.below bl⟩)
  obtain ⟨gx, hgx⟩ : ∃ gx, w3.heap.size = gx := ⟨_, rfl⟩
  have zz : (w3.alloc (.cells #[.int .i64 W, .int .i64 H, .slice (some ⟨g, 0, none⟩) n n] 24)).heap.size = gx + 1 := by simp [hgx]
  have kp := kg.alloc (.cells #[.int .i64 W, .int .i64 H, .slice (some ⟨g, 0, none⟩) n n] 24)
  have zel : ∀ gL, AL = some ⟨gL, 0, none⟩ → L ≠ [] → gL < w2.heap.size := fun gL e hne => by
    obtain ⟨g', e', hlt, -⟩ := hEL hne
    rw [e] at e'; cases e'; exact hlt
  rw [hgx] at kx zg zs
  clear kg b3 p1 p2 p3 hb3 hEL hc3 hc2 BL bl
  go_upto_region 5 with fail
  generalize w3.alloc (.cells #[.int .i64 W, .int .i64 H, .slice (some ⟨g, 0, none⟩) n n] 24) = w4 at *
  clear hgx
  obtain ⟨K, hK⟩ : ∃ K, L.length = K := ⟨_, rfl⟩
  have HK := Lib.hid hK
  have HZE := Lib.hid zel
  rw [hK] at hcL
  rw [hK]
  have hKn : K ≤ 409600 := by
    have := congrArg List.length HC1.out
    rw [List.length_map, hK] at this
    have := rootK_len n (InkN n p) (AdjN W true)
    omega
  clear hK zel
  have F0 := Lib.hid (show FillI n (fun _ => 0) (DoneN n (InkN n p) (AdjN W true) least (rootN n (InkN n p) (AdjN W true)) 0) from fun i hi => ⟨⟨fun h => absurd (show (0 : Int) = 1 from h) (by decide), fun h => by
    obtain ⟨s, r, h, -⟩ := h
    omega⟩, .inl rfl⟩)
  have KP4 := Lib.hid kp
  have ZZ := Lib.hid zz
  go_wp2_with fail
  go_loopw [29] (fun s wr => ∃ (t : Nat) (q : Int → Int), t ≤ K ∧ s = .int .i64 t ∧ Hid (FillI n q (DoneN n (InkN n p) (AdjN W true) least (rootN n (InkN n p) (AdjN W true)) t)) ∧ But (gx + 1) g w4 wr ∧ Blk wr g 5 (u8s n q)) (fun s _ => K - (intOf s).toNat)
  case atStart => exact ⟨0, _, by omega, rfl, F0, But.refl _ (by omega), kp⟩
  case round =>
    obtain ⟨t, q, ht, rfl, HF, bu, mp⟩ := hrel
    clear kp
    have m1 := k1.but bu (by omega) (by omega)
    have mx := kx.but bu (by omega) (by omega)
    by_cases tl : (t : Int) < K
    · obtain ⟨⟨r, ⟨c1, c2, c3, c4⟩, v⟩, hLt⟩ : ∃ y, L[t]? = some y := ⟨L[t]'(by rw [HK.out]; omega), List.getElem?_eq_getElem _⟩
      have hne : L ≠ [] := fun e => by rw [e] at hLt; simp at hLt
      obtain ⟨gL, rfl, hgL, hcl⟩ := HEL.out hne
      have zgL := HZE.out gL rfl hne
      have cells : ∀ s, s < 5 → wr.cell? ⟨gL, t * 5 + s, none⟩ = (encC (r, (c1, c2, c3, c4), v))[s]? := fun s hs => by
        rw [← hcl t _ hLt s hs]
        exact World.cell?_of_block (bu.block gL (by omega) (by omega))
      have q0 := cells 0 (by omega); have q1 := cells 1 (by omega); have q2 := cells 2 (by omega); have q3 := cells 3 (by omega); have q4 := cells 4 (by omega)
      change _ = some (Value.int .i64 c1) at q0
      change _ = some (Value.int .i64 c2) at q1
      change _ = some (Value.int .i64 c3) at q2
      change _ = some (Value.int .i64 c4) at q3
      change _ = some v at q4
      rw [Nat.add_zero] at q0
      have hER : ERow w4 w1.heap.size 51 2 (encP W) v (partN n (InkN n p) (AdjN W true) r) := (HC3.out _ (List.mem_of_getElem? hLt)).2
      have hroot : (rootN n (InkN n p) (AdjN W true))[t]? = some r := by
        have h9 := HC1.out
        rw [rootK_n] at h9
        rw [← h9, List.getElem?_map, hLt]; rfl
      have HRT := Lib.hid hroot
      obtain ⟨part, hpart⟩ : ∃ l, partN n (InkN n p) (AdjN W true) r = l := ⟨_, rfl⟩
      have HPT := Lib.hid hpart
      rw [hpart] at hER
      have hplt : ∀ x ∈ part, x < n := fun x hx => by rw [← hpart] at hx; exact (mem_partN.1 hx).1
      obtain ⟨AP, cP, rfl, hcP⟩ := hER.val
      have HER := Lib.hid hER
      obtain ⟨P, hP⟩ : ∃ P, part.length = P := ⟨_, rfl⟩
      have HPL := Lib.hid hP
      rw [hP] at q4 hcP
      have hPn : P ≤ 409600 := by
        rw [← hP, ← hpart]
        exact Nat.le_trans partK_len hn9
      clear cells hroot hpart hER hP hLt hcl
      obtain ⟨gc, hgc⟩ : ∃ g, wr.heap.size = g := ⟨_, rfl⟩
      go_upto_region 8 with fail
      have kc := Blk.new wr 47 #[.int .i64 c1, .int .i64 c2, .int .i64 c3, .int .i64 c4, .slice AP P cP]
      have bc : Below wr.heap.size wr (wr.alloc (.cells #[.int .i64 c1, .int .i64 c2, .int .i64 c3, .int .i64 c4, .slice AP P cP] 47)) := (Below.refl _ _).alloc (Nat.le_refl _) _
      have bu2 := bu.then (bc.mono bu.size)
      have mp2 := mp.below' bc
      have q9 := kc.cell 4
      rw [hgc] at q9
      change _ = some (Value.slice AP P cP) at q9
      generalize wr.alloc (.cells #[.int .i64 c1, .int .i64 c2, .int .i64 c3, .int .i64 c4, .slice AP P cP] 47) = w5 at *
      clear bu mp m1 mx kc bc q0 q1 q2 q3 q4 hgc
      by_cases hle : (P : Int) < least
      · have FS := Lib.hid (HF.out.conv (D' := DoneN n (InkN n p) (AdjN W true) least (rootN n (InkN n p) (AdjN W true)) (t + 1)) fun i => done_skip HRT.out (by rw [HPT.out, HPL.out]; omega))
        go_wp2_with fail
        go_roundw
        case rel => exact ⟨t + 1, q, by omega, by go_num, FS, bu2, mp2⟩
        case measure => simp [intOf]; omega
      · have FS := Lib.hid (HF.out.conv (D' := fun i => DoneN n (InkN n p) (AdjN W true) least (rootN n (InkN n p) (AdjN W true)) t i ∨ i ∈ part.take 0) fun i => by simp)
        have HLE := Lib.hid hle
        go_wp2_with fail
        clear hle
        go_loopw [41] (fun s wr => ∃ (u : Nat) (q : Int → Int), u ≤ P ∧ s = .int .i64 u ∧ Hid (FillI n q (fun i => DoneN n (InkN n p) (AdjN W true) least (rootN n (InkN n p) (AdjN W true)) t i ∨ i ∈ part.take u)) ∧ But (gx + 1) g w4 wr ∧ Blk wr g 5 (u8s n q)) (fun s _ => P - (intOf s).toNat)
        case atStart => exact ⟨0, q, by omega, rfl, FS, bu2, mp2⟩
        case round =>
          obtain ⟨u, q2, hu, rfl, HF2, bu3, mp3⟩ := hrel
          clear bu2 mp2 q9
          by_cases ul : (u : Int) < P
          · have m1 := k1.but bu3 (by omega) (by omega)
            have mx := kx.but bu3 (by omega) (by omega)
            obtain ⟨x, hx⟩ : ∃ x, part[u]? = some x := ⟨part[u]'(by rw [HPL.out]; omega), List.getElem?_eq_getElem _⟩
            have hne : part ≠ [] := fun e => by rw [e] at hx; simp at hx
            have hE3 := HER.out.but bu3 ZZ.out KP4.out (by decide)
            obtain ⟨gP, cP', cs, ev, -, -, kP, -, -, htP⟩ := hE3.blk hne
            have eA : AP = some ⟨gP, 0, none⟩ := by cases ev; rfl
            subst eA
            have e0 := ERow.cell (encP_len W) kP htP hx (t := 0) (by omega)
            have e1 := ERow.cell (encP_len W) kP htP hx (t := 1) (by omega)
            change _ = some (Value.int .i64 ((x % W : Nat) : Int)) at e0
            change _ = some (Value.int .i64 ((x / W : Nat) : Int)) at e1
            rw [Nat.add_zero] at e0
            have hxn := hplt x (List.mem_of_getElem? hx)
            have hW0 : 0 < W := by
              rcases Nat.eq_zero_or_pos W with h | h
              · have := HN.out; rw [h, Nat.zero_mul] at this; omega
              · exact h
            obtain ⟨X, hX⟩ : ∃ X : Int, ((x % W : Nat) : Int) = X := ⟨_, rfl⟩
            obtain ⟨Y, hY⟩ : ∃ Y : Int, ((x / W : Nat) : Int) = Y := ⟨_, rfl⟩
            have X0 : 0 ≤ X := by rw [← hX]; exact Int.natCast_nonneg _
            have X1 : X < W := by rw [← hX]; exact Int.ofNat_lt.2 (Nat.mod_lt _ hW0)
            have Y0 : 0 ≤ Y := by rw [← hY]; exact Int.natCast_nonneg _
            have Y1 : Y < H := by rw [← hY]; exact Int.ofNat_lt.2 (Nat.div_lt_of_lt_mul (HN.out ▸ hxn))
            have hxy : Y * W + X = (x : Int) := by
              rw [← hX, ← hY]
              have := Nat.div_add_mod x W
              rw [Nat.mul_comm] at this
              have h9 : ((x / W * W + x % W : Nat) : Int) = (x : Int) := by rw [this]
              push_cast at h9 ⊢
              exact h9
            rw [hX] at e0
            rw [hY] at e1
            have wm := idx_lt X0 X1 Y0 Y1
            have v1 : IntKind.i64.wrap (Y * W) = Y * W := IntWalk.i64_in _ (by omega)
            have v2 : IntKind.i64.wrap (Y * W + X) = (x : Int) := (IntWalk.i64_in _ (by omega)).trans hxy
            have hxn' : (x : Int) < n := by omega
            have HXT := Lib.hid (show part.take (u + 1) = part.take u ++ [x] by rw [List.take_add_one, hx]; rfl)
            clear hX hY X0 X1 Y0 Y1 wm hE3 ev kP htP hne hx hxn hxy
            obtain ⟨gt, hgt⟩ : ∃ g, wr.heap.size = g := ⟨_, rfl⟩
            go_upto_region 12 with fail
            have kt := Blk.new wr 51 #[.int .i64 X, .int .i64 Y]
            have bt : Below wr.heap.size wr (wr.alloc (.cells #[.int .i64 X, .int .i64 Y] 51)) := (Below.refl _ _).alloc (Nat.le_refl _) _
            have bu4 := bu3.then (bt.mono bu3.size)
            have mp4 := mp3.below' bt
            have n1 := m1.below' bt
            have nx := mx.below' bt
            rw [hgt] at kt
            generalize wr.alloc (.cells #[.int .i64 X, .int .i64 Y] 51) = w6 at *
            obtain ⟨f1, f2⟩ := kt.cells2
            obtain ⟨s1, s2, s3⟩ := n1.cells3
            obtain ⟨r1, r2, r3⟩ := nx.cells3
            have hc := mp4.u8at (i := (x : Int)) (by omega) hxn'
            have hf := mp4.frozen x
            rw [Int.toNat_natCast] at hc
            have mp5 := mp4.u8set (x : Int) (by omega) 1
            rw [Int.toNat_natCast] at mp5
            have bu5 := bu4.set x (.int .u8 1)
            have FS2 := Lib.hid (HF2.out.set (x := x) (D' := fun i => DoneN n (InkN n p) (AdjN W true) least (rootN n (InkN n p) (AdjN W true)) t i ∨ i ∈ part.take (u + 1)) fun i => by
              rw [HXT.out, List.mem_append, List.mem_singleton, or_assoc])
            clear bu3 mp3 m1 mx e0 e1 bt hgt bu4
            go_wp2_with fail
            go_roundw
            case rel => exact ⟨u + 1, _, by omega, by go_num, FS2, bu5, mp5⟩
            case measure => simp [intOf]; omega
          · have eu : u = P := by omega
            have FE := Lib.hid (HF2.out.conv (D' := DoneN n (InkN n p) (AdjN W true) least (rootN n (InkN n p) (AdjN W true)) (t + 1)) fun i => by
              rw [done_take HRT.out (by rw [HPT.out, HPL.out]; have := HLE.out; omega), HPT.out, eu, ← HPL.out, List.take_length])
            clear hu eu
            go_wp2_with fail
            go_roundw
            case rel => exact ⟨t + 1, q2, by omega, by go_num, FE, bu3, mp3⟩
            case measure => simp [intOf]; omega
    · have et : t = K := by omega
      have m2 := k2.but bu (by omega) (by omega)
      obtain ⟨x1, x2, x3⟩ := mx.cells3
      obtain ⟨f1, f2, f3⟩ := m2.frozen3
      obtain ⟨y1, y2, y3⟩ := m2.cells3
      have k5 := ((m2.set_ 0 (.int .i64 W)).set_ 1 (.int .i64 H)).set_ 2 (.slice (some ⟨g, 0, none⟩) n n)
      obtain ⟨s1, s2, s3⟩ := Blk.cells3 (a := .int .i64 W) (b := .int .i64 H) (c := .slice (some ⟨g, 0, none⟩) n n) k5
      have bE : Below w.heap.size w wr := b4.trans (bu.to ZZ.out (by omega) (by omega))
      have hlen : K = (rootN n (InkN n p) (AdjN W true)).length := by
        have := congrArg List.length HC1.out
        rw [List.length_map, HK.out, rootK_n] at this
        exact this
      have FE := HF.out.conv (D' := bigN n (InkN n p) (AdjN W true) least) fun i => by
        rw [et, hlen, done_all AdjN.symm fun x hx => hx.1]
      have mpE := mp.u8conv fun i i0 i1 => FE.end_ i i0 i1
      clear ht et HF hlen FE
      go_wp2_with fail
      refine bodyPost_ret (v := .tuple #[.agg #[.int .i64 W, .int .i64 H, .slice (some ⟨g, 0, none⟩) n n], .int .i64 0]) (by simp [results, Tryd.results26, go_sem, s1, s2, s3]) rfl ?_
      have g1 : g ≠ w.heap.size + 1 := by omega
      refine ⟨_, rfl, ⟨_, _, rfl, (fun a e => by cases e; show w.heap.size ≤ g; omega), ?_⟩, by (repeat (first | exact Below.refl _ _ | assumption | refine Below.drew ?_ | refine below_drewN ?_ _ | refine Below.alloc ?_ (by first | omega | (simp; done) | (simp; omega)) _ | refine Below.setCell ?_ (by first | omega | (simp; done) | (simp; omega)) _ | refine below_setRow ?_ (by first | omega | (simp; done) | (simp; omega)) _ ))⟩
      have KE := Blk.far (Blk.far (Blk.far mpE (p := ⟨w.heap.size + 1, 0, none⟩) g1 (.int .i64 W)) (p := ⟨w.heap.size + 1, 1, none⟩) g1 (.int .i64 H)) (p := ⟨w.heap.size + 1, 2, none⟩) g1 (.slice (some ⟨g, 0, none⟩) n n)
      exact KE.arrB KE.lt
end Go.Proofs.YtoonkpjddfiopaaDoor

/- Walk: the reference's Profile. -/
namespace Go.Proofs.YtoonkpjddfiopaaDoor
open Go.RowKit
set_option linter.unusedVariables false
attribute [local go_sem] Oper.semAt_some
theorem rowS_zero {W : Int} {k : Nat} {p : Int → Int} (h : p k = 0) (y : Int) : rowS W (k + 1) p y = rowS W k p y := by
  rw [← rowS_step y, h]; unfold upd; split
  · next e => rw [e]; omega
  · rfl
theorem colS_zero {W : Int} {k : Nat} {p : Int → Int} (h : p k = 0) (y : Int) : colS W (k + 1) p y = colS W k p y := by
  rw [← colS_step y, h]; unfold upd; split
  · next e => rw [e]; omega
  · rfl
set_option maxRecDepth 100000 in
set_option maxHeartbeats 4000000 in
theorem rprof_any (W H : Nat) (A : Option Addr) (n c : Nat) (p : Int → Int) (w : World) (hA : ArrB w w.heap.size A n p) (hB : IsB p) (hW : W ≤ 640) (hH : H ≤ 640) (hn : (n : Int) = (W : Int) * H) (hp : ∀ i : Int, 0 ≤ i → i < n → p i = 0 ∨ p i = 1) :
    Calls Tryd.prog 47 #[.agg #[.int .i64 W, .int .i64 H, .slice A n c]] w
      (New w fun v w' => ∃ g1 g2, v = .tuple #[.slice (some ⟨g1, 0, none⟩) H H, .slice (some ⟨g2, 0, none⟩) W W] ∧ w.heap.size ≤ g1 ∧ w.heap.size ≤ g2 ∧ g1 ≠ g2 ∧ Blk w' g1 3 (i64s H (rowS W n p)) ∧ Blk w' g2 3 (i64s W (colS W n p))) := by
  have IK := Lib.hid fun (x y : Int) w' hA' => rink_any W H A n c p x y w' hA' (by omega) (by omega) hn
  have hn4 : n ≤ 409600 := by have := (area_bd (W := W) (H := H) (by omega) (by omega) (by omega) (by omega)).2; omega
  have hmk1 := makeI (H : Int) (by omega) (by omega)
  have hmk2 := makeI (W : Int) (by omega) (by omega)
  rw [Int.toNat_natCast] at hmk1 hmk2
  have HN := Lib.hid hn
  have HP := Lib.hid hp
  have HA := Lib.hid hA
  have HB := Lib.hid hB
  clear hn hp hA hB
  go_enter Tryd.func47, Tryd.ntmps47
  go_wp2_with fail
  have k1 := Blk.new w 24 #[.int .i64 W, .int .i64 H, .slice A n c]
  have b1 : Below w.heap.size w (w.alloc (.cells #[.int .i64 W, .int .i64 H, .slice A n c] 24)) := (Below.refl _ _).alloc (Nat.le_refl _) _
  generalize w.alloc (.cells #[.int .i64 W, .int .i64 H, .slice A n c] 24) = w1 at *
  have z1 := k1.lt
  obtain ⟨p1, p2, p3⟩ := k1.cells3
  go_upto_region 1 with fail
  go_cut [4, 5] (fun a b wx => ∃ g1 g2, a = .slice (some ⟨g1, 0, none⟩) H H ∧ b = .slice (some ⟨g2, 0, none⟩) W W ∧ g1 ≠ g2 ∧ w1.heap.size ≤ g1 ∧ w1.heap.size ≤ g2 ∧
    Blk wx g1 3 (i64s H (fun _ => 0)) ∧ Blk wx g2 3 (i64s W (fun _ => 0)) ∧ Below w1.heap.size w1 wx)
  case first =>
    go_region_held3 (fun w' => w'.cell? ⟨w.heap.size, 0, none⟩ = some (.int .i64 W) ∧ w'.cell? ⟨w.heap.size, 1, none⟩ = some (.int .i64 H)) ((first | (simp [go_sem, *]; done) | (go_keep; done))) (fail)
    all_goals
      go_wp2_with fail
      go_meet
    · exact ⟨w1.heap.size, w1.heap.size + 1, rfl, rfl, by omega, by omega, by omega, ((Blk.new _ _ _).alloc _).drew, (Blk.new' (by simp) _ _).drew, by (repeat (first | exact Below.refl _ _ | assumption | refine Below.drew ?_ | refine below_drewN ?_ _ | refine Below.alloc ?_ (by first | omega | (simp; done) | (simp; omega)) _ | refine Below.setCell ?_ (by first | omega | (simp; done) | (simp; omega)) _ | refine below_setRow ?_ (by first | omega | (simp; done) | (simp; omega)) _ ))⟩
    · exact ⟨w1.heap.size + 1, w1.heap.size, rfl, rfl, by omega, by omega, by omega, (Blk.new' (by simp) _ _).drew, ((Blk.new _ _ _).alloc _).drew, by (repeat (first | exact Below.refl _ _ | assumption | refine Below.drew ?_ | refine below_drewN ?_ _ | refine Below.alloc ?_ (by first | omega | (simp; done) | (simp; omega)) _ | refine Below.setCell ?_ (by first | omega | (simp; done) | (simp; omega)) _ | refine below_setRow ?_ (by first | omega | (simp; done) | (simp; omega)) _ ))⟩
  case rest =>
  obtain ⟨g1, g2, rfl, rfl, hne, hg1, hg2, kg1, kg2, hb2⟩ := hcut
  generalize wc = w2 at *
  have m1 := k1.below' hb2
  have b2 := below_call b1 b1.size hb2
  clear hb2 p1 p2 p3 hmk1 hmk2 k1 b1
  go_wp2_with fail
  go_loopw [6] (fun s wr => ∃ y : Nat, y ≤ H ∧ s = .int .i64 y ∧ Below w.heap.size w wr ∧ Blk wr w.heap.size 24 #[.int .i64 W, .int .i64 H, .slice A n c] ∧
      Blk wr g1 3 (i64s H (rowS W (y * W) p)) ∧ Blk wr g2 3 (i64s W (colS W (y * W) p))) (fun s _ => H - (intOf s).toNat)
  case atStart => exact ⟨0, by omega, rfl, b2, m1, kg1.i64conv fun i _ _ => by rw [Nat.zero_mul]; rfl, kg2.i64conv fun i _ _ => by rw [Nat.zero_mul]; rfl⟩
  case round =>
    obtain ⟨y, hy, rfl, b3, k3, kr, kc⟩ := hrel
    clear kg1 kg2 m1 b2
    obtain ⟨p1, p2, p3⟩ := k3.cells3
    by_cases yl : (y : Int) < H
    · go_wp2_with fail
      clear p1 p2 p3
      go_loopw [7] (fun s wr => ∃ x : Nat, x ≤ W ∧ s = .int .i64 x ∧ Below w.heap.size w wr ∧ Blk wr w.heap.size 24 #[.int .i64 W, .int .i64 H, .slice A n c] ∧
        Blk wr g1 3 (i64s H (rowS W (y * W + x) p)) ∧ Blk wr g2 3 (i64s W (colS W (y * W + x) p))) (fun s _ => W - (intOf s).toNat)
      case atStart => exact ⟨0, by omega, rfl, b3, k3, kr, kc⟩
      case round =>
        obtain ⟨x, hx, rfl, b4, k4, kr4, kc4⟩ := hrel
        clear kr kc k3 b3
        obtain ⟨p1, p2, p3⟩ := k4.cells3
        by_cases xl : (x : Int) < W
        · obtain ⟨i, hi⟩ : ∃ i : Nat, y * W + x = i := ⟨_, rfl⟩
          have hiI : (y : Int) * W + x = (i : Int) := by rw [← hi]; push_cast; rfl
          have hin : (i : Int) < n := by
            have h8 := (idx_lt (x := (x : Int)) (y := (y : Int)) (W := W) (H := H) (by omega) xl (by omega) yl).2.1
            rw [hiI, Int.mul_comm, ← HN.out] at h8
            exact h8
          have hmod : (i : Int) % W = x := by rw [← hiI]; exact idx_mod (by omega) xl
          have hdiv : (i : Int) / W = y := by rw [← hiI]; exact idx_div (by omega) xl
          rw [hi] at kr4 kc4
          have HI := Lib.hid hi
          have IK1 := Lib.hid (IK.out x y wr (HA.out.to b4))
          have hpi := HP.out i (by omega) hin
          have hink : inkB W H p x y = decide (p i = 1) := by rw [inkB_in (by omega) xl (by omega) yl, hiI]
          rw [hink] at IK1
          obtain ⟨br1, br2⟩ := rowS_bd (W := W) (n := i) HB.out (fun j a b => by have := HP.out j a (by omega); omega) y
          obtain ⟨bc1, bc2⟩ := colS_bd (W := W) (n := i) HB.out (fun j a b => by have := HP.out j a (by omega); omega) x
          have SR := Lib.hid (fun z => rowS_step (W := W) (k := i) (p := p) z)
          have SC := Lib.hid (fun z => colS_step (W := W) (k := i) (p := p) z)
          rw [hmod] at SC
          rw [hdiv] at SR
          have HI2 : Hid (y * W + (x + 1) = i + 1) := Lib.hid (by omega)
          clear hink hmod hdiv hiI hi
          rcases hpi with h0 | h1
          · rw [h0, show decide ((0 : Int) = 1) = false from rfl] at IK1
            have Z0 := Lib.hid (fun z => rowS_zero (W := W) h0 z)
            have Z1 := Lib.hid (fun z => colS_zero (W := W) h0 z)
            clear h0 SR SC
            go_wp2_with fail
            refine IK1.out.mono ?_
            rintro e w5 ⟨rfl, hb5⟩
            have k5 := k4.below' hb5
            have kr5 := kr4.below' hb5
            have kc5 := kc4.below' hb5
            have b5 := below_call b4 b4.size hb5
            clear p1 p2 p3 k4 kr4 kc4 b4 hb5
            go_wp2_with fail
            go_roundw
            case rel => exact ⟨x + 1, by omega, by go_num, b5, k5, kr5.i64conv fun z _ _ => by rw [HI2.out]; exact (Z0.out z).symm, kc5.i64conv fun z _ _ => by rw [HI2.out]; exact (Z1.out z).symm⟩
            case measure => simp [intOf]; omega
          · rw [h1, show decide ((1 : Int) = 1) = true from rfl] at IK1
            rw [h1] at SR SC
            clear h1
            go_wp2_with fail
            refine IK1.out.mono ?_
            rintro e w5 ⟨rfl, hb5⟩
            have k5 := k4.below' hb5
            have kr5 := kr4.below' hb5
            have kc5 := kc4.below' hb5
            have b5 := below_call b4 b4.size hb5
            clear p1 p2 p3 k4 kr4 kc4 b4 hb5
            have hr := kr5.i64at (i := (y : Int)) (by omega) yl
            have hc := kc5.i64at (i := (x : Int)) (by omega) xl
            have fr := kr5.frozen y
            have fc := kc5.frozen x
            rw [Int.toNat_natCast] at hr hc
            obtain ⟨a, ha⟩ : ∃ a, rowS W i p y = a := ⟨_, rfl⟩
            obtain ⟨b, hb⟩ : ∃ b, colS W i p x = b := ⟨_, rfl⟩
            rw [ha] at hr br1 br2 SR
            rw [hb] at hc bc1 bc2 SC
            have v1 : IntKind.i64.wrap (a + 1) = a + 1 := IntWalk.i64_in _ (by omega)
            have v2 : IntKind.i64.wrap (b + 1) = b + 1 := IntWalk.i64_in _ (by omega)
            have UR := (kr5.i64set (y : Int) (by omega) (a + 1)).i64conv fun z _ _ => SR.out z
            have kc6 := kc5.far (p := ⟨g1, (y : Int).toNat, none⟩) (Ne.symm hne) (.int .i64 (a + 1))
            have k6 := k5.far (p := ⟨g1, (y : Int).toNat, none⟩) (by show w.heap.size ≠ g1; omega) (.int .i64 (a + 1))
            have b6 := b5.setCell (p := ⟨g1, (y : Int).toNat, none⟩) (by show w.heap.size ≤ g1; omega) (.int .i64 (a + 1))
            rw [Int.toNat_natCast] at UR kc6 k6 b6
            have hc6 := kc6.i64at (i := (x : Int)) (by omega) xl
            have fc6 := kc6.frozen x
            rw [Int.toNat_natCast, hb] at hc6
            clear ha hb hc fc kc5 k5 b5
            go_upto_region 10 with fail
            generalize w5.setCell ⟨g1, y, none⟩ (.int .i64 (a + 1)) = w6 at *
            clear hr fr
            have UC := Lib.hid ((kc6.i64set (x : Int) (by omega) (b + 1)).i64conv fun z _ _ => SC.out z)
            rw [Int.toNat_natCast] at UC
            have kr7 := UR.far (p := ⟨g2, x, none⟩) hne (.int .i64 (b + 1))
            have k7 := k6.far (p := ⟨g2, x, none⟩) (by show w.heap.size ≠ g2; omega) (.int .i64 (b + 1))
            have b7 := b6.setCell (p := ⟨g2, x, none⟩) (by show w.heap.size ≤ g2; omega) (.int .i64 (b + 1))
            clear SR SC UR kc6 k6 b6
            go_wp2_with fail
            go_roundw
            case rel => exact ⟨x + 1, by omega, by go_num, b7, k7, by rw [HI2.out]; exact kr7, by rw [HI2.out]; exact UC.out⟩
            case measure => simp [intOf]; omega
        · have ex : y * W + x = (y + 1) * W := by rw [Nat.succ_mul]; omega
          rw [ex] at kr4 kc4
          clear hx ex
          go_wp2_with fail
          go_roundw
          case rel => exact ⟨y + 1, by omega, by go_num, b4, k4, kr4, kc4⟩
          case measure => simp [intOf]; omega
    · have ey : y * W = n := by
        have : y = H := by omega
        have h9 : ((W * H : Nat) : Int) = (n : Int) := by rw [HN.out]; push_cast; rfl
        rw [this, Nat.mul_comm]; exact Int.ofNat_inj.1 h9
      rw [ey] at kr kc
      clear hy ey
      go_wp2_with fail
      refine bodyPost_ret (results_tmp2 rfl _ _ _) rfl ?_
      exact ⟨_, rfl, ⟨g1, g2, rfl, by omega, by omega, hne, kr, kc⟩, b3⟩
end Go.Proofs.YtoonkpjddfiopaaDoor

/- Walk: the reference's Box. -/
namespace Go.Proofs.YtoonkpjddfiopaaDoor
open Go.RowKit
set_option linter.unusedVariables false
attribute [local go_sem] Oper.semAt_some

theorem sumN_zero {f : Int → Int} : ∀ {n : Nat}, (∀ i : Nat, i < n → 0 ≤ f i) → (sumN n f = 0 ↔ ∀ i : Nat, i < n → f i = 0)
  | 0, _ => ⟨fun _ i hi => by omega, fun _ => rfl⟩
  | n + 1, h => by
    have ih := sumN_zero (n := n) fun i hi => h i (by omega)
    have h1 := h n (by omega)
    have h2 : 0 ≤ sumN n f := sumN_nonneg fun i hi => h i (by omega)
    rw [sumN]
    constructor
    · intro e i hi
      by_cases c : i = n
      · subst c; omega
      · exact ih.1 (by omega) i (by omega)
    · intro e
      rw [ih.2 fun i hi => e i (by omega), e n (by omega)]; rfl
section
variable {W : Int} {n : Nat} {p : Int → Int}
theorem rowS_empty (hp : ∀ i : Int, 0 ≤ i → i < n → p i = 0 ∨ p i = 1) (y : Int) : rowS W n p y = 0 ↔ ∀ i : Nat, i < n → (i : Int) / W = y → p i ≠ 1 := by
  unfold rowS
  rw [sumN_zero fun i hi => by
    show 0 ≤ (if (i : Int) / W = y then p i else 0)
    split
    · have := hp i (by omega) (by omega); omega
    · omega]
  constructor
  · intro h i hi e h1
    have := h i hi
    change (if (i : Int) / W = y then p i else 0) = 0 at this
    rw [if_pos e] at this; omega
  · intro h i hi
    show (if (i : Int) / W = y then p i else 0) = 0
    split
    · have := hp i (by omega) (by omega)
      have := h i hi (by assumption)
      omega
    · rfl
theorem colS_empty (hp : ∀ i : Int, 0 ≤ i → i < n → p i = 0 ∨ p i = 1) (y : Int) : colS W n p y = 0 ↔ ∀ i : Nat, i < n → (i : Int) % W = y → p i ≠ 1 := by
  unfold colS
  rw [sumN_zero fun i hi => by
    show 0 ≤ (if (i : Int) % W = y then p i else 0)
    split
    · have := hp i (by omega) (by omega); omega
    · omega]
  constructor
  · intro h i hi e h1
    have := h i hi
    change (if (i : Int) % W = y then p i else 0) = 0 at this
    rw [if_pos e] at this; omega
  · intro h i hi
    show (if (i : Int) % W = y then p i else 0) = 0
    split
    · have := hp i (by omega) (by omega)
      have := h i hi (by assumption)
      omega
    · rfl
end
/-- the places of an image's ink -/
def inkL (n : Nat) (p : Int → Int) : List Nat := (List.range n).filter fun (i : Nat) => decide (p i = 1)
theorem mem_inkL {n : Nat} {p : Int → Int} {i : Nat} : i ∈ inkL n p ↔ i < n ∧ p i = 1 := by simp [inkL]
def celN (w : World) (a : Addr) : Nat := match w.cell? a with | some v => (intOf v).toNat | none => 0
theorem celN_of {w : World} {a : Addr} {n : Nat} (h : w.cell? a = some (.int .i64 n)) : celN w a = n := by unfold celN; rw [h]; rfl
theorem Blk.cells4 {w : World} {g t : Nat} {a b c d : Value} (h : Blk w g t #[a, b, c, d]) : w.cell? ⟨g, 0, none⟩ = some a ∧ w.cell? ⟨g, 1, none⟩ = some b ∧ w.cell? ⟨g, 2, none⟩ = some c ∧ w.cell? ⟨g, 3, none⟩ = some d :=
  ⟨by rw [h.cell]; rfl, by rw [h.cell]; rfl, by rw [h.cell]; rfl, by rw [h.cell]; rfl⟩
theorem Blk.frozen4 {w : World} {g t : Nat} {a b c d : Value} (h : Blk w g t #[a, b, c, d]) : w.frozen? ⟨g, 0, none⟩ = false ∧ w.frozen? ⟨g, 1, none⟩ = false ∧ w.frozen? ⟨g, 2, none⟩ = false ∧ w.frozen? ⟨g, 3, none⟩ = false :=
  ⟨h.frozen _, h.frozen _, h.frozen _, h.frozen _⟩
/-- what the four loops have found out -/
theorem box_of {W H n Y b X d : Nat} {p : Int → Int} (hW : 0 < W) (hn : n = W * H) (hp : ∀ i : Int, 0 ≤ i → i < n → p i = 0 ∨ p i = 1) (h1 : ∀ y : Nat, y < H → b ≤ y → rowS W n p y = 0) (h2 : ∀ y : Nat, y < Y → rowS W n p y = 0) (h3 : rowS W n p Y ≠ 0) (h4 : rowS W n p ((b - 1 : Nat) : Int) ≠ 0) (hY : Y < b) (hb : b ≤ H)
    (h5 : ∀ x : Nat, x < W → d ≤ x → colS W n p x = 0) (h6 : ∀ x : Nat, x < X → colS W n p x = 0) (h7 : colS W n p X ≠ 0) (h8 : colS W n p ((d - 1 : Nat) : Int) ≠ 0) (hX : X < d) (hd : d ≤ W) : IsBox W (inkL n p) ((X : Int), (Y : Int), ((d - X : Nat) : Int), ((b - Y : Nat) : Int)) := by
  have rex : ∀ y : Nat, rowS W n p y ≠ 0 → ∃ i ∈ inkL n p, ((i / W : Nat) : Int) = y := fun y hy => by
    rw [Ne, rowS_empty hp] at hy
    obtain ⟨i, hi⟩ := Classical.not_forall.1 hy
    have h9 : i < n ∧ (i : Int) / W = y ∧ p i = 1 := Classical.byContradiction fun h => hi fun a b c => h ⟨a, b, c⟩
    exact ⟨i, mem_inkL.2 ⟨h9.1, h9.2.2⟩, by rw [Int.natCast_ediv]; exact h9.2.1⟩
  have cex : ∀ x : Nat, colS W n p x ≠ 0 → ∃ i ∈ inkL n p, ((i % W : Nat) : Int) = x := fun y hy => by
    rw [Ne, colS_empty hp] at hy
    obtain ⟨i, hi⟩ := Classical.not_forall.1 hy
    have h9 : i < n ∧ (i : Int) % W = y ∧ p i = 1 := Classical.byContradiction fun h => hi fun a b c => h ⟨a, b, c⟩
    exact ⟨i, mem_inkL.2 ⟨h9.1, h9.2.2⟩, by rw [Int.natCast_emod]; exact h9.2.1⟩
  obtain ⟨i1, m1, e1⟩ := rex Y h3
  obtain ⟨i2, m2, e2⟩ := rex (b - 1) h4
  obtain ⟨i3, m3, e3⟩ := cex X h7
  obtain ⟨i4, m4, e4⟩ := cex (d - 1) h8
  refine .inr ⟨fun e => by rw [e] at m1; simp at m1, fun i hi => ?_, ⟨i3, m3, e3⟩, ⟨i4, m4, ?_⟩, ⟨i1, m1, e1⟩, ⟨i2, m2, ?_⟩⟩
  · obtain ⟨hi1, hi2⟩ := mem_inkL.1 hi
    have ym : i / W < H := Nat.div_lt_of_lt_mul (hn ▸ hi1)
    have xm : i % W < W := Nat.mod_lt _ hW
    have r0 : rowS W n p ((i / W : Nat) : Int) ≠ 0 := fun e => (rowS_empty hp _).1 e i hi1 (Int.natCast_ediv i W).symm hi2
    have c0 : colS W n p ((i % W : Nat) : Int) ≠ 0 := fun e => (colS_empty hp _).1 e i hi1 (Int.natCast_emod i W).symm hi2
    have y1 : Y ≤ i / W := Nat.le_of_not_lt fun h => r0 (h2 _ h)
    have y2 : i / W < b := Nat.lt_of_not_le fun h => r0 (h1 _ ym h)
    have x1 : X ≤ i % W := Nat.le_of_not_lt fun h => c0 (h6 _ h)
    have x2 : i % W < d := Nat.lt_of_not_le fun h => c0 (h5 _ xm h)
    generalize i / W = yy at *
    generalize i % W = xx at *
    simp only
    omega
  · simp only; omega
  · simp only; omega
set_option maxRecDepth 100000 in
set_option maxHeartbeats 8000000 in
theorem rbox_any (W H : Nat) (A : Option Addr) (n c : Nat) (p : Int → Int) (w : World) (hA : ArrB w w.heap.size A n p) (hB : IsB p) (hW : W ≤ 640) (hH : H ≤ 640) (hn : n = W * H) (hp : ∀ i : Int, 0 ≤ i → i < n → p i = 0 ∨ p i = 1) :
    Calls Tryd.prog 48 #[.agg #[.int .i64 W, .int .i64 H, .slice A n c]] w fun e w' => ∃ b, e = .returned (boxV b) ∧ IsBox W (inkL n p) b ∧ Below w.heap.size w w' := by
  have hnI : (n : Int) = (W : Int) * H := by rw [hn]; push_cast; rfl
  have PR := Lib.hid fun w' hA' => rprof_any W H A n c p w' hA' hB hW hH hnI hp
  have HP := Lib.hid hp
  have HN := Lib.hid hn
  have HA := Lib.hid hA
  clear hp hn hnI hA hB
  go_enter Tryd.func48, Tryd.ntmps48
  go_wp2_with fail
  have b1 : Below w.heap.size w ((w.alloc (.cells #[.int .i64 W, .int .i64 H, .slice A n c] 24)).alloc (.cells #[.int .i64 0, .int .i64 0, .int .i64 0, .int .i64 0] 44)) := by (repeat (first | exact Below.refl _ _ | assumption | refine Below.drew ?_ | refine below_drewN ?_ _ | refine Below.alloc ?_ (by first | omega | (simp; done) | (simp; omega)) _ | refine Below.setCell ?_ (by first | omega | (simp; done) | (simp; omega)) _ | refine below_setRow ?_ (by first | omega | (simp; done) | (simp; omega)) _ ))
  have k1 : Blk ((w.alloc (.cells #[.int .i64 W, .int .i64 H, .slice A n c] 24)).alloc (.cells #[.int .i64 0, .int .i64 0, .int .i64 0, .int .i64 0] 44)) w.heap.size 24 #[.int .i64 W, .int .i64 H, .slice A n c] := (Blk.new _ _ _).alloc _
  have k2 : Blk ((w.alloc (.cells #[.int .i64 W, .int .i64 H, .slice A n c] 24)).alloc (.cells #[.int .i64 0, .int .i64 0, .int .i64 0, .int .i64 0] 44)) (w.heap.size + 1) 44 #[.int .i64 0, .int .i64 0, .int .i64 0, .int .i64 0] := Blk.new' (by simp) _ _
  generalize (w.alloc (.cells #[.int .i64 W, .int .i64 H, .slice A n c] 24)).alloc (.cells #[.int .i64 0, .int .i64 0, .int .i64 0, .int .i64 0] 44) = w1 at *
  refine (PR.out w1 (HA.out.to b1)).mono ?_
  rintro e w2 ⟨_, rfl, ⟨g1, g2, rfl, hg1, hg2, hne, kr, kc⟩, hb2⟩
  have b2 := below_call b1 b1.size hb2
  replace k1 := k1.below' hb2
  replace k2 := k2.below' hb2
  clear b1 hb2 PR
  obtain ⟨p1, p2, p3⟩ := k1.cells3
  obtain ⟨g5, hg5⟩ : ∃ g, w2.heap.size = g := ⟨_, rfl⟩
  go_upto_region 3 with fail
  have k5 := Blk.new w2 44 #[.int .i64 0, .int .i64 0, .int .i64 W, .int .i64 H]
  have b5 : Below w2.heap.size w2 (w2.alloc (.cells #[.int .i64 0, .int .i64 0, .int .i64 W, .int .i64 H] 44)) := (Below.refl _ _).alloc (Nat.le_refl _) _
  have b4 := below_call b2 b2.size b5
  have KR := Lib.hid (kr.below' b5)
  have KC := Lib.hid (kc.below' b5)
  have K2 := Lib.hid (k2.below' b5)
  have z1 := kr.lt; have z2 := kc.lt; have z3 := k2.lt
  rw [hg5] at k5 z1 z2 z3
  have zz : (w2.alloc (.cells #[.int .i64 0, .int .i64 0, .int .i64 W, .int .i64 H] 44)).heap.size = g5 + 1 := by simp [hg5]
  generalize w2.alloc (.cells #[.int .i64 0, .int .i64 0, .int .i64 W, .int .i64 H] 44) = w4 at *
  have HB4 := Lib.hid b4
  have ZZ := Lib.hid zz
  obtain ⟨R, hR⟩ : ∃ R, rowS W n p = R := ⟨_, rfl⟩
  obtain ⟨C, hC⟩ : ∃ C, colS W n p = C := ⟨_, rfl⟩
  rw [hR] at KR
  rw [hC] at KC
  have HR := Lib.hid hR
  have HCC := Lib.hid hC
  clear kr kc k1 k2 b5 b4 b2 hg5 p1 p2 p3 hR hC zz
  go_wp2_with fail
  go_loopw [17] (fun _ wr => ∃ h : Nat, h ≤ H ∧ Blk wr g5 44 #[.int .i64 0, .int .i64 0, .int .i64 W, .int .i64 h] ∧ But (g5 + 1) g5 w4 wr ∧ Hid (∀ y : Nat, y < H → h ≤ y → R y = 0)) (fun _ wr => celN wr ⟨g5, 3, none⟩)
  case atStart => exact ⟨H, Nat.le_refl _, k5, But.refl _ (by rw [ZZ.out]; exact Nat.le_refl _), Lib.hid fun y h1 h2 => by omega⟩
  case round =>
    obtain ⟨h, hh, m5, bu, HE⟩ := hrel
    clear k5
    obtain ⟨p1, p2, p3, p4⟩ := m5.cells4
    obtain ⟨f1, f2, f3, f4⟩ := m5.frozen4
    have mr := KR.out.but bu (by omega) (by omega)
    have m2 := K2.out.but bu (by omega) (by omega)
    by_cases h0 : h = 0
    · have BN : IsBox W (inkL n p) (0, 0, 0, 0) := .inl ⟨List.eq_nil_iff_forall_not_mem.2 fun i hi => by
        obtain ⟨i1, i2⟩ := mem_inkL.1 hi
        have hW0 : 0 < W := by
          rcases Nat.eq_zero_or_pos W with e | e
          · have := HN.out; rw [e, Nat.zero_mul] at this; omega
          · exact e
        have := HE.out (i / W) (Nat.div_lt_of_lt_mul (HN.out ▸ i1)) (by rw [h0]; exact Nat.zero_le _)
        rw [← HR.out] at this
        exact (rowS_empty HP.out _).1 this i i1 (Int.natCast_ediv i W).symm i2, rfl⟩
      have bE : Below w.heap.size w wr := HB4.out.trans (bu.to ZZ.out (by omega) (by omega))
      subst h0
      obtain ⟨e1, e2, e3, e4⟩ := m2.frozen4
      obtain ⟨d1, d2, d3, d4⟩ := m2.cells4
      have k9 := (((m2.set_ 0 (.int .i64 0)).set_ 1 (.int .i64 0)).set_ 2 (.int .i64 0)).set_ 3 (.int .i64 0)
      obtain ⟨s1, s2, s3, s4⟩ := Blk.cells4 (a := .int .i64 0) (b := .int .i64 0) (c := .int .i64 0) (d := .int .i64 0) k9
      have bE9 := (((bE.setCell (p := ⟨w.heap.size + 1, 0, none⟩) (by show w.heap.size ≤ w.heap.size + 1; omega) (.int .i64 0)).setCell (p := ⟨w.heap.size + 1, 1, none⟩) (by show w.heap.size ≤ w.heap.size + 1; omega) (.int .i64 0)).setCell (p := ⟨w.heap.size + 1, 2, none⟩) (by show w.heap.size ≤ w.heap.size + 1; omega) (.int .i64 0)).setCell (p := ⟨w.heap.size + 1, 3, none⟩) (by show w.heap.size ≤ w.heap.size + 1; omega) (.int .i64 0)
      go_wp2_with fail
      refine bodyPost_ret (v := boxV (0, 0, 0, 0)) (by simp [results, Tryd.results48, go_sem, boxV, s1, s2, s3, s4]) rfl ?_
      exact ⟨_, rfl, BN, bE9⟩
    · obtain ⟨h', rfl⟩ : ∃ h', h = h' + 1 := ⟨h - 1, by omega⟩
      have hpos : (0 : Int) < ((h' + 1 : Nat) : Int) := by omega
      have v1 : IntKind.i64.wrap (((h' + 1 : Nat) : Int) - 1) = (h' : Int) := (IntWalk.i64_in _ (by omega)).trans (by omega)
      have v0 : IntKind.i64.wrap ((h' + 1 : Nat) : Int) = ((h' + 1 : Nat) : Int) := IntWalk.i64_in _ (by omega)
      have hc := mr.i64at (i := (h' : Int)) (by omega) (by omega)
      rw [Int.toNat_natCast] at hc
      have h'H : (h' : Int) < H := by omega
      obtain ⟨hI, hhI⟩ : ∃ q : Int, ((h' + 1 : Nat) : Int) = q := ⟨_, rfl⟩
      rw [hhI] at hpos v1 v0 p4
      have HHI := Lib.hid hhI
      have HM0 := Lib.hid (celN_of (show wr.cell? ⟨g5, 3, none⟩ = some (.int .i64 ((h' + 1 : Nat) : Int)) by rw [hhI]; exact p4))
      have M5 := Lib.hid m5
      clear hhI m5
      by_cases hz : R h' = 0
      · rw [hz] at hc
        have HZ := Lib.hid hz
        clear hz
        go_wp2_with fail
        refine ⟨⟨h', by omega, ?_, bu.set 3 (.int .i64 h'), Lib.hid fun y y1 y2 => ?_⟩, ?_⟩
        · exact M5.out.set_ 3 (.int .i64 h')
        · by_cases e : y = h'
          · subst e; exact HZ.out
          · exact HE.out y y1 (by omega)
        · have c9 := (M5.out.set_ 3 (.int .i64 h')).cell 3
          have h9 : celN (wr.setCell ⟨g5, 3, none⟩ (.int .i64 h')) ⟨g5, 3, none⟩ = h' := celN_of c9
          rw [h9, HM0.out]; omega
      · have hzb : (R h' == 0) = false := by simp [hz]
        have HZ := Lib.hid hz
        clear hz
        go_wp2_with fail
        clear hc p1 p2 p3 p4 f1 f2 f3 f4 mr m2 h0 v0 v1 hpos hzb h'H
        go_loopw [39] (fun _ wr => ∃ Y h2 : Nat, Y + h2 = h' + 1 ∧ Blk wr g5 44 #[.int .i64 0, .int .i64 Y, .int .i64 W, .int .i64 h2] ∧ But (g5 + 1) g5 w4 wr ∧ Hid (∀ y : Nat, y < Y → R y = 0)) (fun _ wr => celN wr ⟨g5, 3, none⟩)
        case atStart => exact ⟨0, h' + 1, by omega, M5.out, bu, Lib.hid fun y h1 => by omega⟩
        case round =>
          obtain ⟨Y, h2, hY, m6, bu6, HY⟩ := hrel
          clear M5 bu HM0
          have Yh : Y ≤ h' := by
            rcases Nat.lt_or_ge h' Y with c | c
            · exact absurd (HY.out h' c) HZ.out
            · exact c
          obtain ⟨k, rfl⟩ : ∃ k, h2 = k + 1 := ⟨h2 - 1, by omega⟩
          have mr := KR.out.but bu6 (by omega) (by omega)
          obtain ⟨p1, p2, p3, p4⟩ := m6.cells4
          obtain ⟨f1, f2, f3, f4⟩ := m6.frozen4
          have hc := mr.i64at (i := (Y : Int)) (by omega) (by omega)
          rw [Int.toNat_natCast] at hc
          have YH : (Y : Int) < H := by omega
          have M6 := Lib.hid m6
          have HM6 := Lib.hid (celN_of p4)
          clear m6
          by_cases hz : R Y = 0
          · rw [hz] at hc
            have HZY := Lib.hid hz
            have v1 : IntKind.i64.wrap ((Y : Int) + 1) = ((Y + 1 : Nat) : Int) := (IntWalk.i64_in _ (by omega)).trans (by omega)
            obtain ⟨kI, hkI⟩ : ∃ q : Int, ((k + 1 : Nat) : Int) = q := ⟨_, rfl⟩
            have v2 : IntKind.i64.wrap (kI - 1) = (k : Int) := (IntWalk.i64_in _ (by omega)).trans (by omega)
            rw [hkI] at p4
            have M7 := Lib.hid ((M6.out.set_ 1 (.int .i64 ((Y + 1 : Nat) : Int))).set_ 3 (.int .i64 (k : Int)))
            obtain ⟨y1, hy1⟩ : ∃ q : Int, ((Y + 1 : Nat) : Int) = q := ⟨_, rfl⟩
            rw [hy1] at v1 M7
            have HK := Lib.hid hkI
            have HY1 := Lib.hid hy1
            have bu7 := (bu6.set 1 (.int .i64 y1)).set 3 (.int .i64 (k : Int))
            clear hz hkI hy1
            go_wp2_with fail
            refine ⟨⟨Y + 1, k, by omega, ?_, bu7, Lib.hid fun y y1 => ?_⟩, ?_⟩
            · rw [HY1.out]; exact M7.out
            · by_cases e : y = Y
              · subst e; exact HZY.out
              · exact HY.out y (by omega)
            · have h9 := celN_of (show _ = some (Value.int .i64 (k : Int)) from M7.out.cell 3)
              rw [h9, HM6.out]; omega
          · have hzb : (R Y == 0) = false := by simp [hz]
            have HZY := Lib.hid hz
            clear hz
            go_wp2_with fail
            clear hc p1 p2 p3 p4 f1 f2 f3 f4 mr hzb YH
            obtain ⟨x0, hx0, hx1⟩ : ∃ x0 : Nat, x0 < W ∧ C x0 ≠ 0 := by
              have h9 := HZY.out
              rw [← HR.out, rowS_empty HP.out] at h9
              obtain ⟨i, hi⟩ := Classical.not_forall.1 h9
              have h10 : i < n ∧ (i : Int) / W = Y ∧ p i = 1 := Classical.byContradiction fun h => hi fun a b c => h ⟨a, b, c⟩
              have hW0 : 0 < W := by
                rcases Nat.eq_zero_or_pos W with e | e
                · have := HN.out; rw [e, Nat.zero_mul] at this; omega
                · exact e
              refine ⟨i % W, Nat.mod_lt _ hW0, fun e => ?_⟩
              rw [← HCC.out] at e
              exact (colS_empty HP.out _).1 e i h10.1 (Int.natCast_emod i W).symm h10.2.2
            have HX0 := Lib.hid hx1
            clear hx1
            go_loopw [53] (fun _ wr => ∃ d : Nat, d ≤ W ∧ Blk wr g5 44 #[.int .i64 0, .int .i64 Y, .int .i64 d, .int .i64 ((k + 1 : Nat) : Int)] ∧ But (g5 + 1) g5 w4 wr ∧ Hid (∀ x : Nat, x < W → d ≤ x → C x = 0)) (fun _ wr => celN wr ⟨g5, 2, none⟩)
            case atStart => exact ⟨W, Nat.le_refl _, M6.out, bu6, Lib.hid fun x h1 h2 => by omega⟩
            case round =>
              obtain ⟨d, hd, m8, bu8, HD⟩ := hrel
              clear M6 bu6 HM6
              have hdx : x0 < d := Nat.lt_of_not_le fun h => HX0.out (HD.out x0 hx0 h)
              obtain ⟨d', rfl⟩ : ∃ k, d = k + 1 := ⟨d - 1, by omega⟩
              have mc := KC.out.but bu8 (by omega) (by omega)
              obtain ⟨p1, p2, p3, p4⟩ := m8.cells4
              obtain ⟨f1, f2, f3, f4⟩ := m8.frozen4
              have hc := mc.i64at (i := (d' : Int)) (by omega) (by omega)
              rw [Int.toNat_natCast] at hc
              have dW : (d' : Int) < W := by omega
              have M8 := Lib.hid m8
              have HM8 := Lib.hid (celN_of p3)
              obtain ⟨dI, hdI⟩ : ∃ q : Int, ((d' + 1 : Nat) : Int) = q := ⟨_, rfl⟩
              have v0 : IntKind.i64.wrap dI = dI := IntWalk.i64_in _ (by omega)
              have v1 : IntKind.i64.wrap (dI - 1) = (d' : Int) := (IntWalk.i64_in _ (by omega)).trans (by omega)
              rw [hdI] at p3
              have HDI := Lib.hid hdI
              clear m8 hdI
              by_cases hz : C d' = 0
              · rw [hz] at hc
                have HZD := Lib.hid hz
                clear hz
                have M9 := Lib.hid (M8.out.set_ 2 (.int .i64 (d' : Int)))
                go_wp2_with fail
                refine ⟨⟨d', by omega, M9.out, bu8.set 2 (.int .i64 d'), Lib.hid fun x x1 x2 => ?_⟩, ?_⟩
                · by_cases e : x = d'
                  · subst e; exact HZD.out
                  · exact HD.out x x1 (by omega)
                · have h9 := celN_of (show _ = some (Value.int .i64 (d' : Int)) from M9.out.cell 2)
                  rw [h9, HM8.out]; omega
              · have hzb : (C d' == 0) = false := by simp [hz]
                have HZD := Lib.hid hz
                clear hz
                go_wp2_with fail
                clear hc p1 p2 p3 p4 f1 f2 f3 f4 mc hzb v0 v1 dW hx0 hdx
                go_loopw [67] (fun _ wr => ∃ X f : Nat, X + f = d' + 1 ∧ Blk wr g5 44 #[.int .i64 X, .int .i64 Y, .int .i64 f, .int .i64 ((k + 1 : Nat) : Int)] ∧ But (g5 + 1) g5 w4 wr ∧ Hid (∀ x : Nat, x < X → C x = 0)) (fun _ wr => celN wr ⟨g5, 2, none⟩)
                case atStart => exact ⟨0, d' + 1, by omega, M8.out, bu8, Lib.hid fun x h1 => by omega⟩
                case round =>
                  obtain ⟨X, f, hX, m10, bu10, HX⟩ := hrel
                  clear M8 bu8 HM8
                  have Xd : X ≤ d' := by
                    rcases Nat.lt_or_ge d' X with c | c
                    · exact absurd (HX.out d' c) HZD.out
                    · exact c
                  obtain ⟨l, rfl⟩ : ∃ k, f = k + 1 := ⟨f - 1, by omega⟩
                  have mc := KC.out.but bu10 (by omega) (by omega)
                  obtain ⟨p1, p2, p3, p4⟩ := m10.cells4
                  obtain ⟨f1, f2, f3, f4⟩ := m10.frozen4
                  have hc := mc.i64at (i := (X : Int)) (by omega) (by omega)
                  rw [Int.toNat_natCast] at hc
                  have XW : (X : Int) < W := by omega
                  have M10 := Lib.hid m10
                  have HM10 := Lib.hid (celN_of p3)
                  clear m10
                  by_cases hz : C X = 0
                  · rw [hz] at hc
                    have HZX := Lib.hid hz
                    have v1 : IntKind.i64.wrap ((X : Int) + 1) = ((X + 1 : Nat) : Int) := (IntWalk.i64_in _ (by omega)).trans (by omega)
                    obtain ⟨lI, hlI⟩ : ∃ q : Int, ((l + 1 : Nat) : Int) = q := ⟨_, rfl⟩
                    have v2 : IntKind.i64.wrap (lI - 1) = (l : Int) := (IntWalk.i64_in _ (by omega)).trans (by omega)
                    rw [hlI] at p3
                    have M11 := Lib.hid ((M10.out.set_ 0 (.int .i64 ((X + 1 : Nat) : Int))).set_ 2 (.int .i64 (l : Int)))
                    obtain ⟨x1, hx1⟩ : ∃ q : Int, ((X + 1 : Nat) : Int) = q := ⟨_, rfl⟩
                    rw [hx1] at v1 M11
                    have HX1 := Lib.hid hx1
                    have bu11 := (bu10.set 0 (.int .i64 x1)).set 2 (.int .i64 (l : Int))
                    clear hz hlI hx1
                    go_wp2_with fail
                    refine ⟨⟨X + 1, l, by omega, ?_, bu11, Lib.hid fun x x1 => ?_⟩, ?_⟩
                    · rw [HX1.out]; exact M11.out
                    · by_cases e : x = X
                      · subst e; exact HZX.out
                      · exact HX.out x (by omega)
                    · have h9 := celN_of (show _ = some (Value.int .i64 (l : Int)) from M11.out.cell 2)
                      rw [h9, HM10.out]; omega
                  · have hzb : (C X == 0) = false := by simp [hz]
                    have HZX := Lib.hid hz
                    clear hz
                    have hW0 : 0 < W := by omega
                    have BX : IsBox W (inkL n p) ((X : Int), (Y : Int), ((d' + 1 - X : Nat) : Int), ((h' + 1 - Y : Nat) : Int)) := by
                      have r1 := HE.out; have r2 := HY.out; have r3 := HZY.out; have r4 := HZ.out; have r5 := HD.out; have r6 := HX.out; have r7 := HZX.out; have r8 := HZD.out
                      rw [← HR.out] at r1 r2 r3 r4
                      rw [← HCC.out] at r5 r6 r7 r8
                      exact box_of hW0 HN.out HP.out r1 r2 r3 r4 (by omega) hh r5 r6 r7 r8 (by omega) hd
                    rw [show d' + 1 - X = l + 1 by omega, show h' + 1 - Y = k + 1 by omega] at BX
                    have HBX := Lib.hid BX
                    have bE : Below w.heap.size w wr := HB4.out.trans (bu10.to ZZ.out (by omega) (by omega))
                    have m2 := K2.out.but bu10 (by omega) (by omega)
                    obtain ⟨e1, e2, e3, e4⟩ := m2.frozen4
                    obtain ⟨d1, d2, d3, d4⟩ := m2.cells4
                    obtain ⟨lI, hlI⟩ : ∃ q : Int, ((l + 1 : Nat) : Int) = q := ⟨_, rfl⟩
                    obtain ⟨kI, hkI⟩ : ∃ q : Int, ((k + 1 : Nat) : Int) = q := ⟨_, rfl⟩
                    rw [hlI] at p3 HBX
                    rw [hkI] at p4 HBX
                    have k9 := (((m2.set_ 0 (.int .i64 (X : Int))).set_ 1 (.int .i64 (Y : Int))).set_ 2 (.int .i64 lI)).set_ 3 (.int .i64 kI)
                    obtain ⟨s1, s2, s3, s4⟩ := Blk.cells4 (a := .int .i64 (X : Int)) (b := .int .i64 (Y : Int)) (c := .int .i64 lI) (d := .int .i64 kI) k9
                    have bE9 := (((bE.setCell (p := ⟨w.heap.size + 1, 0, none⟩) (by show w.heap.size ≤ w.heap.size + 1; omega) (.int .i64 (X : Int))).setCell (p := ⟨w.heap.size + 1, 1, none⟩) (by show w.heap.size ≤ w.heap.size + 1; omega) (.int .i64 (Y : Int))).setCell (p := ⟨w.heap.size + 1, 2, none⟩) (by show w.heap.size ≤ w.heap.size + 1; omega) (.int .i64 lI)).setCell (p := ⟨w.heap.size + 1, 3, none⟩) (by show w.heap.size ≤ w.heap.size + 1; omega) (.int .i64 kI)
                    clear BX hlI hkI bE M10 HM10 HE HY HZY HZ HD HX HZX HZD bu10
                    go_wp2_with fail
                    refine bodyPost_ret (v := boxV ((X : Int), (Y : Int), lI, kI)) (by simp [results, Tryd.results48, go_sem, boxV, s1, s2, s3, s4]) rfl ?_
                    exact ⟨_, rfl, HBX.out, bE9⟩
end Go.Proofs.YtoonkpjddfiopaaDoor

/- Walk: the reference's near. -/
namespace Go.Proofs.YtoonkpjddfiopaaDoor
open Go.RowKit
set_option linter.unusedVariables false
attribute [local go_sem] Oper.semAt_some
/-- neighbours, by the differences of their columns and rows -/
def nearB (x y : Int) (e : Bool) : Bool := !(decide (x < -1) || decide (1 < x) || decide (y < -1) || decide (1 < y)) && (e || decide (x = 0) || decide (y = 0))
set_option maxRecDepth 100000 in
set_option maxHeartbeats 4000000 in
theorem near_any (a1 a2 b1 b2 : Int) (e : Bool) (w : World) (h1 : -1000000 ≤ a1 ∧ a1 ≤ 1000000) (h2 : -1000000 ≤ a2 ∧ a2 ≤ 1000000) (h3 : -1000000 ≤ b1 ∧ b1 ≤ 1000000) (h4 : -1000000 ≤ b2 ∧ b2 ≤ 1000000) :
    Calls Tryd.prog 97 #[.agg #[.int .i64 a1, .int .i64 a2], .agg #[.int .i64 b1, .int .i64 b2], .bool e] w fun ee w' => ee = .returned (.bool (nearB (a1 - b1) (a2 - b2) e)) ∧ Below w.heap.size w w' := by
  obtain ⟨x, hx⟩ : ∃ x, a1 - b1 = x := ⟨_, rfl⟩
  obtain ⟨y, hy⟩ : ∃ y, a2 - b2 = y := ⟨_, rfl⟩
  have v1 : IntKind.i64.wrap (a1 - b1) = x := (IntWalk.i64_in _ (by omega)).trans hx
  have v2 : IntKind.i64.wrap (a2 - b2) = y := (IntWalk.i64_in _ (by omega)).trans hy
  rw [hx, hy]
  have k1 : Blk ((w.alloc (.cells #[.int .i64 a1, .int .i64 a2] 51)).alloc (.cells #[.int .i64 b1, .int .i64 b2] 51)) w.heap.size 51 #[.int .i64 a1, .int .i64 a2] := (Blk.new _ _ _).alloc _
  have k2 : Blk ((w.alloc (.cells #[.int .i64 a1, .int .i64 a2] 51)).alloc (.cells #[.int .i64 b1, .int .i64 b2] 51)) (w.heap.size + 1) 51 #[.int .i64 b1, .int .i64 b2] := Blk.new' (by simp) _ _
  have b0 : Below w.heap.size w ((w.alloc (.cells #[.int .i64 a1, .int .i64 a2] 51)).alloc (.cells #[.int .i64 b1, .int .i64 b2] 51)) := by (repeat (first | exact Below.refl _ _ | assumption | refine Below.drew ?_ | refine below_drewN ?_ _ | refine Below.alloc ?_ (by first | omega | (simp; done) | (simp; omega)) _ | refine Below.setCell ?_ (by first | omega | (simp; done) | (simp; omega)) _ | refine below_setRow ?_ (by first | omega | (simp; done) | (simp; omega)) _ ))
  clear hx hy h1 h2 h3 h4
  go_enter Tryd.func97, Tryd.ntmps97
  go_wp2_with fail
  obtain ⟨p1, p2⟩ := k1.cells2
  obtain ⟨p3, p4⟩ := k2.cells2
  generalize (w.alloc (.cells #[.int .i64 a1, .int .i64 a2] 51)).alloc (.cells #[.int .i64 b1, .int .i64 b2] 51) = w1 at *
  go_quiet (fail)
  clear p1 p2 p3 p4 k1 k2 v1 v2
  by_cases c1 : x < -1
  · have hr : nearB x y e = false := by simp [nearB, c1]
    go_wp2_with fail
    go_ret
    exact ⟨by first | rfl | (rw [hr]; rfl), below_drewN b0 _⟩
  · by_cases c2 : 1 < x
    · have hr : nearB x y e = false := by simp [nearB, c2]
      go_wp2_with fail
      go_ret
      exact ⟨by first | rfl | (rw [hr]; rfl), below_drewN b0 _⟩
    · by_cases c3 : y < -1
      · have hr : nearB x y e = false := by simp [nearB, c3]
        go_wp2_with fail
        go_ret
        exact ⟨by first | rfl | (rw [hr]; rfl), below_drewN b0 _⟩
      · by_cases c4 : 1 < y
        · have hr : nearB x y e = false := by simp [nearB, c4]
          go_wp2_with fail
          go_ret
          exact ⟨by first | rfl | (rw [hr]; rfl), below_drewN b0 _⟩
        · cases e with
          | true =>
            have hr : nearB x y true = true := by simp [nearB, c1, c2, c3, c4]
            go_wp2_with fail
            go_ret
            exact ⟨by first | rfl | (rw [hr]; rfl), below_drewN b0 _⟩
          | false =>
            by_cases x0 : x = 0
            · subst x0
              have hr : nearB 0 y false = true := by simp [nearB, c3, c4]
              go_wp2_with fail
              go_ret
              exact ⟨by first | rfl | (rw [hr]; rfl), below_drewN b0 _⟩
            · have hx0 : (x == 0) = false := by simp [x0]
              by_cases y0 : y = 0
              · subst y0
                have hr : nearB x 0 false = true := by simp [nearB, c1, c2]
                go_wp2_with fail
                go_ret
                exact ⟨by first | rfl | (rw [hr]; rfl), below_drewN b0 _⟩
              · have hy0 : (y == 0) = false := by simp [y0]
                have hr : nearB x y false = false := by simp [nearB, x0, y0]
                go_wp2_with fail
                go_ret
                exact ⟨by first | rfl | (rw [hr]; rfl), below_drewN b0 _⟩
/-- nearby, and not the same: neighbours of the grid -/
theorem near_adj {W i j : Nat} {e : Bool} (hne : i ≠ j) : nearB (((i % W : Nat) : Int) - ((j % W : Nat) : Int)) (((i / W : Nat) : Int) - ((j / W : Nat) : Int)) e = true ↔ AdjN W e i j := by
  unfold nearB AdjN
  push_cast
  simp only [Bool.and_eq_true, Bool.not_eq_true', Bool.or_eq_false_iff, Bool.or_eq_true, decide_eq_true_eq, decide_eq_false_iff_not]
  generalize (i : Int) % (W : Int) = a
  generalize (j : Int) % (W : Int) = b
  generalize (i : Int) / (W : Int) = c
  generalize (j : Int) / (W : Int) = d
  constructor
  · rintro ⟨⟨⟨⟨h1, h2⟩, h3⟩, h4⟩, h5⟩
    refine ⟨hne, by omega, by omega, by omega, by omega, ?_⟩
    rcases h5 with (h5 | h5) | h5
    · exact .inl h5
    · exact .inr (.inl (by omega))
    · exact .inr (.inr (by omega))
  · rintro ⟨-, h1, h2, h3, h4, h5⟩
    refine ⟨⟨⟨⟨by omega, by omega⟩, by omega⟩, by omega⟩, ?_⟩
    rcases h5 with h5 | h5 | h5
    · exact .inl (.inl h5)
    · exact .inl (.inr (by omega))
    · exact .inr (by omega)
end Go.Proofs.YtoonkpjddfiopaaDoor

/- Plain: a pass over all pairs of neighbours. No program in sight. -/
namespace Go.Proofs.YtoonkpjddfiopaaDoor
set_option linter.unusedVariables false
/-- the pairs of S are in order -/
def Pd (n W : Nat) (e : Bool) (p num : Int → Int) (S : Nat → Nat → Prop) : Prop := ∀ i j : Nat, InkN n p i → InkN n p j → AdjN W e i j → S i j → num i ≤ num j
structure Pass (n W : Nat) (e : Bool) (p num0 : Int → Int) (b : Bool) (num : Int → Int) (S : Nat → Nat → Prop) : Prop where
  nu : NumI n (InkN n p) (AdjN W e) num
  le : sumN n num ≤ sumN n num0
  lt : b = true → sumN n num < sumN n num0
  sm : b = false → num = num0 ∧ Pd n W e p num0 S
section
variable {n W : Nat} {e : Bool} {p num0 num : Int → Int} {b : Bool} {S S' : Nat → Nat → Prop}
theorem Pass.start (h : NumI n (InkN n p) (AdjN W e) num0) : Pass n W e p num0 false num0 (fun _ _ => False) := ⟨h, Int.le_refl _, fun h => (by cases h), fun _ => ⟨rfl, fun _ _ _ _ _ h => h.elim⟩⟩
theorem Pass.conv (h : Pass n W e p num0 b num S) (hS : ∀ i j, InkN n p i → InkN n p j → AdjN W e i j → S' i j → S i j) : Pass n W e p num0 b num S' :=
  ⟨h.nu, h.le, h.lt, fun hb => ⟨(h.sm hb).1, fun i j hi hj ha hs => (h.sm hb).2 i j hi hj ha (hS i j hi hj ha hs)⟩⟩
theorem Pass.keep (h : Pass n W e p num0 b num S) {i0 j0 : Nat} (hk : num i0 ≤ num j0) (hS : ∀ i j, InkN n p i → InkN n p j → AdjN W e i j → S' i j → S i j ∨ (i = i0 ∧ j = j0)) : Pass n W e p num0 b num S' :=
  ⟨h.nu, h.le, h.lt, fun hb => ⟨(h.sm hb).1, fun i j hi hj ha hs => by
    rcases hS i j hi hj ha hs with h1 | ⟨rfl, rfl⟩
    · exact (h.sm hb).2 i j hi hj ha h1
    · rw [← (h.sm hb).1]; exact hk⟩⟩
theorem Pass.step (h : Pass n W e p num0 b num S) {i0 j0 : Nat} (hi : InkN n p i0) (hj : InkN n p j0) (ha : AdjN W e i0 j0) (hl : num j0 < num i0) : Pass n W e p num0 true (upd num i0 (num j0)) S' := by
  have hs : sumN n (upd num i0 (num j0)) < sumN n num := by
    rw [sumN_upd, if_pos hi.1]; omega
  have := h.le
  exact ⟨h.nu.step hi hj ha hj.1 hl, by omega, fun _ => by omega, fun h => by cases h⟩
def Sx (W y x : Nat) : Nat → Nat → Prop := fun i _ => i / W < y ∨ (i / W = y ∧ i % W < x)
def Sv (W y x : Nat) (v : Int) : Nat → Nat → Prop := fun i j => Sx W y x i j ∨ (i = y * W + x ∧ ((j / W : Nat) : Int) < v)
def Su (W y x : Nat) (v u : Int) : Nat → Nat → Prop := fun i j => Sv W y x v i j ∨ (i = y * W + x ∧ ((j / W : Nat) : Int) = v ∧ ((j % W : Nat) : Int) < u)
theorem place_div {x y : Nat} (hx : x < W) : (y * W + x) / W = y ∧ (y * W + x) % W = x := by
  have h0 : 0 < W := by omega
  refine ⟨?_, ?_⟩
  · rw [Nat.add_comm, Nat.add_mul_div_right _ _ h0, Nat.div_eq_of_lt hx, Nat.zero_add]
  · rw [Nat.add_comm, Nat.add_mul_mod_self_right, Nat.mod_eq_of_lt hx]
theorem adj_row {x y j : Nat} (hx : x < W) (h : AdjN W e (y * W + x) j) : (y : Int) - 1 ≤ ((j / W : Nat) : Int) ∧ ((j / W : Nat) : Int) ≤ y + 1 ∧ (x : Int) - 1 ≤ ((j % W : Nat) : Int) ∧ ((j % W : Nat) : Int) ≤ x + 1 := by
  obtain ⟨-, h1, h2, h3, h4, -⟩ := h
  obtain ⟨d1, d2⟩ := place_div (y := y) hx
  have e1 : ((y * W + x : Nat) : Int) % (W : Int) = x := by rw [← Int.natCast_emod, d2]
  have e2 : ((y * W + x : Nat) : Int) / (W : Int) = y := by rw [← Int.natCast_ediv, d1]
  push_cast at h1 h2 h3 h4 e1 e2 ⊢
  rw [e1] at h1 h2
  rw [e2] at h3 h4
  omega
variable {x y : Nat} {v u : Int}
theorem Pass.v0 (hx : x < W) (h : Pass n W e p num0 b num (Sx W y x)) : Pass n W e p num0 b num (Sv W y x ((y : Int) - 1)) := h.conv fun i j _ _ ha hs => by
  rcases hs with hs | ⟨rfl, hs⟩
  · exact hs
  · have := adj_row hx ha; omega
theorem Pass.u0 (hx : x < W) (h : Pass n W e p num0 b num (Sv W y x v)) : Pass n W e p num0 b num (Su W y x v ((x : Int) - 1)) := h.conv fun i j _ _ ha hs => by
  rcases hs with hs | ⟨rfl, _, hs⟩
  · exact hs
  · have := adj_row hx ha; omega
theorem Pass.ve (hx : x < W) (h : Pass n W e p num0 b num (Su W y x v ((x : Int) + 2))) : Pass n W e p num0 b num (Sv W y x (v + 1)) := h.conv fun i j _ _ ha hs => by
  rcases hs with hs | ⟨rfl, hs⟩
  · exact .inl (.inl hs)
  · have := adj_row hx ha
    by_cases c : ((j / W : Nat) : Int) = v
    · exact .inr ⟨rfl, c, by omega⟩
    · exact .inl (.inr ⟨rfl, by omega⟩)
theorem sx_succ (hx : x < W) {i j : Nat} (h : Sx W y (x + 1) i j) : Sx W y x i j ∨ i = y * W + x := by
  rcases h with h | ⟨h1, h2⟩
  · exact .inl (.inl h)
  · by_cases c : i % W = x
    · right
      have := Nat.div_add_mod i W
      rw [h1, c, Nat.mul_comm] at this
      exact this.symm
    · exact .inl (.inr ⟨h1, by omega⟩)
theorem Pass.xe (hx : x < W) (h : Pass n W e p num0 b num (Sv W y x ((y : Int) + 2))) : Pass n W e p num0 b num (Sx W y (x + 1)) := h.conv fun i j _ _ ha hs => by
  rcases sx_succ hx hs with hs | rfl
  · exact .inl hs
  · have := adj_row hx ha
    exact .inr ⟨rfl, by omega⟩
theorem Pass.xno (hx : x < W) (hi : ¬ InkN n p (y * W + x)) (h : Pass n W e p num0 b num (Sx W y x)) : Pass n W e p num0 b num (Sx W y (x + 1)) := h.conv fun i j hii _ ha hs => by
  rcases sx_succ hx hs with hs | rfl
  · exact hs
  · exact absurd hii hi
theorem Pass.row (hW : 0 < W) (h : Pass n W e p num0 b num (Sx W y W)) : Pass n W e p num0 b num (Sx W (y + 1) 0) := h.conv fun i j _ _ _ hs => by
  rcases hs with hs | ⟨-, hs⟩
  · by_cases c : i / W = y
    · exact .inr ⟨c, Nat.mod_lt _ hW⟩
    · exact .inl (by omega)
  · exact absurd hs (Nat.not_lt_zero _)
theorem Pass.first (h : NumI n (InkN n p) (AdjN W e) num0) : Pass n W e p num0 false num0 (Sx W 0 0) := (Pass.start h).conv fun i j _ _ _ hs => by
  rcases hs with hs | ⟨-, hs⟩ <;> exact absurd hs (Nat.not_lt_zero _)
/-- a pair that is no pair of neighbours with ink -/
theorem Pass.uno (hno : ∀ j : Nat, InkN n p j → AdjN W e (y * W + x) j → ((j / W : Nat) : Int) = v → ((j % W : Nat) : Int) = u → False) (h : Pass n W e p num0 b num (Su W y x v u)) : Pass n W e p num0 b num (Su W y x v (u + 1)) := h.conv fun i j _ hj ha hs => by
  rcases hs with hs | ⟨rfl, h1, h2⟩
  · exact .inl hs
  · by_cases c : ((j % W : Nat) : Int) = u
    · exact (hno j hj ha h1 c).elim
    · exact .inr ⟨rfl, h1, by omega⟩
theorem Pass.ukeep {j0 : Nat} (h1 : ((j0 / W : Nat) : Int) = v) (h2 : ((j0 % W : Nat) : Int) = u) (hk : num ((y * W + x : Nat) : Int) ≤ num j0) (h : Pass n W e p num0 b num (Su W y x v u)) : Pass n W e p num0 b num (Su W y x v (u + 1)) := h.keep hk fun i j _ _ _ hs => by
  rcases hs with hs | ⟨rfl, h3, h4⟩
  · exact .inl (.inl hs)
  · by_cases c : ((j % W : Nat) : Int) = u
    · right
      have ej : j = j0 := by
        have a1 : j / W = j0 / W := by omega
        have a2 : j % W = j0 % W := by omega
        rw [← Nat.div_add_mod j W, ← Nat.div_add_mod j0 W, a1, a2]
      exact ⟨rfl, ej⟩
    · exact .inl (.inr ⟨rfl, h3, by omega⟩)
/-- a pass without a change: all neighbours have the same number -/
theorem Pass.fixed {H : Nat} (hn : n = W * H) (h : Pass n W e p num0 false num (Sx W H 0)) : num = num0 ∧ ∀ i j : Nat, InkN n p i → InkN n p j → AdjN W e i j → num i ≤ num j := by
  obtain ⟨h1, h2⟩ := h.sm rfl
  refine ⟨h1, fun i j hi hj ha => ?_⟩
  rw [h1]
  exact h2 i j hi hj ha (.inl (Nat.div_lt_of_lt_mul (hn ▸ hi.1)))
end
end Go.Proofs.YtoonkpjddfiopaaDoor
