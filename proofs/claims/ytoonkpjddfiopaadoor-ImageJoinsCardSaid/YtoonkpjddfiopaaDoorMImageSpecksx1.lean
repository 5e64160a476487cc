/- Texts of mine in build order: C15, J12, J13. Conditions: each theorem's own. -/
import Derived.Test.YtoonkpjddfiopaaDoorMImageSetsx8
/- Plain laws of the parts that have at least so many pixels (Despeckle): no program in sight. -/
namespace Go.Proofs.YtoonkpjddfiopaaDoor
set_option linter.unusedVariables false

section
variable {n W : Nat} {p : Int → Int} {m : Int}
theorem bg_01 (n W : Nat) (p : Int → Int) (m i : Int) : bgQ n W p m i = 0 ∨ bgQ n W p m i = 1 := by unfold bgQ; split <;> simp
theorem bg_one {i : Int} : bgQ n W p m i = 1 ↔ bigN n (InkN n p) (AdjN W true) m i.toNat := by
  unfold bgQ
  by_cases c : bigN n (InkN n p) (AdjN W true) m i.toNat
  · rw [if_pos c]; exact ⟨fun _ => c, fun _ => rfl⟩
  · rw [if_neg c]; exact ⟨fun h => absurd h (by decide), fun h => absurd h c⟩
theorem bg_ink (n W : Nat) (p : Int → Int) (m : Int) : InkN n (bgQ n W p m) = bigN n (InkN n p) (AdjN W true) m := by
  funext i; apply propext
  constructor
  · rintro ⟨h1, h2⟩
    have := bg_one.1 h2
    rwa [Int.toNat_natCast] at this
  · exact fun h => ⟨h.1.1, bg_one.2 (by rw [Int.toNat_natCast]; exact h)⟩
theorem eq01 {a b : Int} (ha : a = 0 ∨ a = 1) (hb : b = 0 ∨ b = 1) (h : a = 1 ↔ b = 1) : a = b := by omega
theorem bg_bg (i : Int) : bgQ n W (bgQ n W p m) m i = bgQ n W p m i :=
  eq01 (bg_01 _ _ _ _ _) (bg_01 _ _ _ _ _) (by rw [bg_one, bg_one, bg_ink]; exact big_big AdjN.symm)
theorem bg_sub {i : Int} (h0 : 0 ≤ i) (h : bgQ n W p m i = 1) : p i = 1 := by
  have := (bg_one.1 h).1.2
  rwa [Int.toNat_of_nonneg h0] at this
theorem bg_less {m' i : Int} (hm : m ≤ m') (h : bgQ n W p m' i = 1) : bgQ n W p m i = 1 := bg_one.2 (big_less hm (bg_one.1 h))
/-- how many of the first t parts have at least m pixels -/
noncomputable def cntK (n W : Nat) (p : Int → Int) (m : Int) (t : Nat) : Nat := (((rootN n (InkN n p) (AdjN W true)).take t).filter fun i => decide (m ≤ ((partN n (InkN n p) (AdjN W true) i).length : Int))).length
theorem cnt_zero : cntK n W p m 0 = 0 := rfl
theorem cnt_le (t : Nat) : cntK n W p m t ≤ t := by
  unfold cntK
  refine Nat.le_trans (List.length_filter_le _ _) ?_
  rw [List.length_take]; omega
theorem cnt_yes {t r : Nat} (hr : (rootN n (InkN n p) (AdjN W true))[t]? = some r) (h : m ≤ ((partN n (InkN n p) (AdjN W true) r).length : Int)) : cntK n W p m (t + 1) = cntK n W p m t + 1 := by
  unfold cntK
  rw [List.take_add_one, hr, List.filter_append, List.length_append]
  simp [List.filter, h]
theorem cnt_no {t r : Nat} (hr : (rootN n (InkN n p) (AdjN W true))[t]? = some r) (h : ¬ m ≤ ((partN n (InkN n p) (AdjN W true) r).length : Int)) : cntK n W p m (t + 1) = cntK n W p m t := by
  unfold cntK
  rw [List.take_add_one, hr, List.filter_append, List.length_append]
  simp [List.filter, h]
theorem cnt_all : cntK n W p m (rootN n (InkN n p) (AdjN W true)).length = (rootN n (InkN n (bgQ n W p m)) (AdjN W true)).length := by
  rw [bg_ink, big_roots AdjN.symm]
  unfold cntK
  rw [List.take_length]
theorem bg_part {r : Nat} (hr : r ∈ rootN n (InkN n (bgQ n W p m)) (AdjN W true)) : m ≤ ((partN n (InkN n (bgQ n W p m)) (AdjN W true) r).length : Int) := by
  rw [bg_ink] at hr ⊢
  have h := ((big_root AdjN.symm).1 (mem_rootN.1 hr).2).1
  rw [big_part AdjN.symm h]; exact h.2
end
end Go.Proofs.YtoonkpjddfiopaaDoor

/- Walks: small components (the closure of ImageSpecks, slices.ContainsFunc over components where no one is small). -/
namespace Go.Proofs.YtoonkpjddfiopaaDoor
open Go.RowKit
set_option linter.unusedVariables false

theorem enterSmall (args : Array Value) (w : World) : (callFunc 68 args).run Tryd.prog w = .ok (.enter 68 args) w := by kernel_rfl
set_option maxHeartbeats 400000 in
theorem small1_any (c1 c2 c3 c4 m : Int) (AP : Option Addr) (P cP b : Nat) (w : World) (h : w.cell? ⟨b, 0, none⟩ = some (.int .i64 m)) (hm : m ≤ (P : Int)) :
    Calls Tryd.prog 68 #[.agg #[.int .i64 c1, .int .i64 c2, .int .i64 c3, .int .i64 c4, .slice AP P cP], .pointer (some ⟨b, 0, none⟩)] w fun e w' => e = .returned (.bool false) ∧ Below w.heap.size w w' := by
  have hb := (show Below w.heap.size w (w.alloc (.cells #[.int .i64 c1, .int .i64 c2, .int .i64 c3, .int .i64 c4, .slice AP P cP] 47)) from (Below.refl _ _).alloc (Nat.le_refl _) _)
  have hlt := block_lt h
  have h1 := hb.cell (p := ⟨b, 0, none⟩) hlt
  rw [h] at h1
  have k1 := (Blk.new w 47 #[.int .i64 c1, .int .i64 c2, .int .i64 c3, .int .i64 c4, .slice AP P cP]).cell 4
  change _ = some (Value.slice AP P cP) at k1
  have d1 : decide ((P : Int) < m) = false := decide_eq_false (by omega)
  clear hlt h
  go_enter Tryd.func68, Tryd.ntmps68
  go_wp2
  go_ret
  exact ⟨rfl, hb⟩
set_option maxHeartbeats 400000 in
theorem idxC_no (fid : Nat) (cap : Array Value) (L : List (Nat × (Int × Int × Int × Int) × Value)) (A : Option Addr) (K c : Nat) (w : World) (hA : EArr w w.heap.size 5 encC A L) (hK : L.length = K) (hKm : K ≤ maxLen)
    (hent : ∀ args w, (callFunc fid args).run Tryd.prog w = .ok (.enter fid args) w)
    (hf : ∀ t ∈ L, ∀ w', Below w.heap.size w w' → Calls Tryd.prog fid (#[.agg (encC t).toArray] ++ cap) w' fun e w'' => e = .returned (.bool false) ∧ Below w'.heap.size w' w'') :
    Calls Tryd.prog 119 #[.slice A K c, .func (.func fid) #[] cap] w fun e w' => e = .returned (.int .i64 (-1)) ∧ Below w.heap.size w w' := by
  unfold maxLen at hKm
  have HF := Lib.hid hf; clear hf
  have HA := Lib.hid hA; clear hA
  have HK := Lib.hid hK; clear hK
  go_enter Tryd.func119, Tryd.ntmps119
  go_wp2
  go_loopw [8] (fun s wr => ∃ t : Nat, t ≤ K ∧ s = .int .i64 t ∧ Below w.heap.size w wr) (fun s _ => K - (intOf s).toNat)
  case atStart => exact ⟨0, by omega, rfl, Below.refl _ _⟩
  case round =>
    obtain ⟨t, ht, rfl, hb⟩ := hrel
    by_cases tl : (t : Int) < K
    · obtain ⟨⟨r, ⟨c1, c2, c3, c4⟩, v⟩, hLt⟩ : ∃ y, L[t]? = some y := ⟨L[t]'(by rw [HK.out]; omega), List.getElem?_eq_getElem _⟩
      have hne : L ≠ [] := fun e => by rw [e] at hLt; simp at hLt
      obtain ⟨gL, rfl, hgL, hcl⟩ := HA.out hne
      have cells : ∀ s, s < 5 → wr.cell? ⟨gL, t * 5 + s, none⟩ = (encC (r, (c1, c2, c3, c4), v))[s]? := fun s hs => by
        rw [← hcl t _ hLt s hs]
        exact hb.cell (p := ⟨gL, t * 5 + s, none⟩) hgL
      have q0 := cells 0 (by omega); have q1 := cells 1 (by omega); have q2 := cells 2 (by omega); have q3 := cells 3 (by omega); have q4 := cells 4 (by omega)
      change _ = some (Value.int .i64 c1) at q0
      change _ = some (Value.int .i64 c2) at q1
      change _ = some (Value.int .i64 c3) at q2
      change _ = some (Value.int .i64 c4) at q3
      change _ = some v at q4
      rw [Nat.add_zero] at q0
      have hcall := Lib.hid (HF.out _ (List.mem_of_getElem? hLt) wr hb)
      have hbb := Lib.hid hb
      clear cells hcl hLt hne hb
      go_wp2_with fail
      refine (hcall.out).mono ?_
      rintro e w' ⟨rfl, hb'⟩
      have hb2 := below_call hbb.out hbb.out.size hb'
      clear q0 q1 q2 q3 q4
      go_wp2
      go_roundw
      case rel => exact ⟨t + 1, by omega, by go_num, hb2⟩
      case measure => simp [intOf]; omega
    · go_wp2
      go_ret
      exact ⟨ret_int rfl, hb⟩
theorem containsC_no (fid : Nat) (cap : Array Value) (L : List (Nat × (Int × Int × Int × Int) × Value)) (A : Option Addr) (K c : Nat) (w : World) (hA : EArr w w.heap.size 5 encC A L) (hK : L.length = K) (hKm : K ≤ maxLen)
    (hent : ∀ args w, (callFunc fid args).run Tryd.prog w = .ok (.enter fid args) w)
    (hf : ∀ t ∈ L, ∀ w', Below w.heap.size w w' → Calls Tryd.prog fid (#[.agg (encC t).toArray] ++ cap) w' fun e w'' => e = .returned (.bool false) ∧ Below w'.heap.size w' w'') :
    Calls Tryd.prog 67 #[.slice A K c, .func (.func fid) #[] cap] w fun e w' => e = .returned (.bool false) ∧ Below w.heap.size w w' := by
  have IF := Lib.hid (idxC_no fid cap L A K c w hA hK hKm hent hf)
  clear hf hent hA hK
  go_enter Tryd.func67, Tryd.ntmps67
  go_wp2_with fail
  refine IF.out.mono ?_
  rintro e w' ⟨rfl, hb⟩
  go_wp2
  go_ret
  exact ⟨rfl, hb⟩
end Go.Proofs.YtoonkpjddfiopaaDoor

/- Walk of the law ImageSpecks. -/
namespace Go.Proofs.YtoonkpjddfiopaaDoor
open Go.RowKit
set_option linter.unusedVariables false

set_option maxRecDepth 100000 in
set_option maxHeartbeats 4000000 in
theorem imageSpecks_any (s l : Int) (A : Option Addr) (n c : Nat) (r : Int → Int) (w : World) (hA : ArrB w w.heap.size A n r) (hn : n ≤ maxLen) (hr : IsB r) (hs : 0 ≤ s ∧ s ≤ 65535) (hl : 0 ≤ l ∧ l ≤ 255) :
    Calls Tryd.prog 12 #[.int .u16 s, .slice A n c, .int .u8 l] w fun e w' => e = .returned (.bool true) ∧ Below w.heap.size w w' := by
  obtain ⟨hs0, hs1⟩ := hs
  obtain ⟨W, hW⟩ : ∃ W : Nat, s % 41 = W := ⟨(s % 41).toNat, by omega⟩
  obtain ⟨H, hH⟩ : ∃ H : Nat, s / 41 % 31 = H := ⟨(s / 41 % 31).toNat, by omega⟩
  have W1 : W ≤ 40 := by omega
  have H1 : H ≤ 30 := by omega
  obtain ⟨N, hN⟩ : ∃ N : Nat, N = W * H := ⟨_, rfl⟩
  have hN9 : N ≤ 1200 := by rw [hN]; exact Nat.mul_le_mul W1 H1
  have hNI : (N : Int) = (W : Int) * H := by rw [hN]; push_cast; rfl
  have hnm : N ≤ maxLen := by unfold maxLen; omega
  obtain ⟨m, hm⟩ : ∃ m, l.tmod 40 = m := ⟨_, rfl⟩
  have hm' : l % 40 = m := by rw [← hm, Int.tmod_eq_emod_of_nonneg hl.1]
  have m0 : 0 ≤ m := by omega
  have m1 : m ≤ 39 := by omega
  have um : IntKind.u8.wrap m = m := IntWalk.u8_in _ (by omega)
  have vm : IntKind.i64.wrap m = m := IntWalk.i64_in _ (by omega)
  have vm1 : IntKind.i64.wrap (m + 1) = m + 1 := IntWalk.i64_in _ (by omega)
  obtain ⟨p, hp⟩ : ∃ p, bitQ n r = p := ⟨_, rfl⟩
  have p01 : ∀ i, p i = 0 ∨ p i = 1 := fun i => by rw [← hp]; exact bit01 n r i
  have ck : ∀ f : Int → Int, (∀ i, f i = 0 ∨ f i = 1) → chk W H N f = 0 := fun f h => chk_mk (by omega) (by omega) (by omega) (by omega) hNI fun i _ _ => by rcases h i with e | e <;> omega
  have MA := Lib.hid fun w' h' => made_any s W H A n c r w' h' hn hr hs0 hs1 hW hH N hNI
  rw [hp] at MA
  have D1 := Lib.hid fun A' c' w' h1 => desp_any W H m A' N c' p w' h1 (by omega) (by omega) hN (fun i _ _ => p01 i)
  have D2 := Lib.hid fun A' c' w' h1 => desp_any W H m A' N c' (bgQ N W p m) w' h1 (by omega) (by omega) hN (fun i _ _ => bg_01 _ _ _ _ i)
  have D3 := Lib.hid fun A' c' w' h1 => desp_any W H (m + 1) A' N c' p w' h1 (by omega) (by omega) hN (fun i _ _ => p01 i)
  have CO1 := Lib.hid fun A' c' w' h1 => comps_any W H true A' N c' (bgQ N W p m) w' h1 (by omega) (by omega) hN (fun i _ _ => bg_01 _ _ _ _ i)
  have CO2 := Lib.hid fun A' c' w' h1 => comps_any W H true A' N c' p w' h1 (by omega) (by omega) hN (fun i _ _ => p01 i)
  have EQ : Hid (∀ i : Int, 0 ≤ i → i < N → bgQ N W p m i = bgQ N W (bgQ N W p m) m i) := fun i _ _ => (bg_bg i).symm
  have WI := Lib.hid fun (f g : Int → Int) (hf : ∀ i, f i = 0 ∨ f i = 1) (hg : ∀ i, g i = 0 ∨ g i = 1) (hfg : ∀ i, 0 ≤ i → f i = 1 → g i = 1) A' B' c' d' w' h1 h2 => within_ok W H A' B' N c' d' f g w' h1 h2 hnm (ck f hf) (ck g hg) (isB_01 hf) (isB_01 hg) true (by
    symm; rw [decide_eq_true_iff]
    refine sumN_nil fun i i0 _ => ?_
    show lessF (f i) (g i) = 0
    unfold lessF
    rw [if_neg]
    rintro ⟨a, b⟩
    exact b (hfg i i0 a))
  have W1' := Lib.hid fun A' B' c' d' w' h1 h2 => WI.out (bgQ N W p m) p (fun i => bg_01 _ _ _ _ i) p01 (fun i i0 h => bg_sub i0 h) A' B' c' d' w' h1 h2
  have W2' := Lib.hid fun A' B' c' d' w' h1 h2 => WI.out (bgQ N W p (m + 1)) (bgQ N W p m) (fun i => bg_01 _ _ _ _ i) (fun i => bg_01 _ _ _ _ i) (fun i i0 h => bg_less (by omega) h) A' B' c' d' w' h1 h2
  have CA := Lib.hid (cnt_all (n := N) (W := W) (p := p) (m := m))
  have BP := Lib.hid fun r hr => bg_part (n := N) (W := W) (p := p) (m := m) (r := r) hr
  have RL1 := Lib.hid (rootK_len N (InkN N (bgQ N W p m)) (AdjN W true))
  have RL2 := Lib.hid (rootK_len N (InkN N p) (AdjN W true))
  obtain ⟨q, hq⟩ : ∃ q, bgQ N W p m = q := ⟨_, rfl⟩
  obtain ⟨q2, hq2⟩ : ∃ x, bgQ N W q m = x := ⟨_, rfl⟩
  obtain ⟨q3, hq3⟩ : ∃ q, bgQ N W p (m + 1) = q := ⟨_, rfl⟩
  rw [hq] at D1 D2 CO1 EQ W1' W2' CA BP RL1
  rw [hq3] at D3 W2'
  rw [hq2] at D2 EQ
  have HA := Lib.hid hA
  clear hA hn hr hs0 hs1 hW hH hN hNI hp p01 ck WI hl hm' m0 hq hq3 hq2
  have K0 := Kp.nil w
  have b0 := Below.refl w.heap.size w
  go_enter Tryd.func12, Tryd.ntmps12
  go_wp2_with fail
  refine (MA.out _ HA.out).mono ?_
  rintro e v1 ⟨_, rfl, ⟨gva, rfl, hgva, kva⟩, hb1⟩
  have K1a := (K0.below hb1).addA (kva.arrB kva.lt)
  have b1a := below_call b0 b0.size hb1
  have z1 := b1a.size
  have b1 : Below w.heap.size w (v1.alloc (.cells #[.int .i64 W, .int .i64 H, .slice (some ⟨gva, 0, none⟩) N N] 24)) := by (repeat (first | exact Below.refl _ _ | assumption | refine Below.drew ?_ | refine below_drewN ?_ _ | refine Below.alloc ?_ (by first | omega | (simp; done) | (simp; omega)) _ | refine Below.setCell ?_ (by first | omega | (simp; done) | (simp; omega)) _ | refine below_setRow ?_ (by first | omega | (simp; done) | (simp; omega)) _ ))
  have K1 := K1a.new 24 #[.int .i64 W, .int .i64 H, .slice (some ⟨gva, 0, none⟩) N N]
  clear K0 b0 K1a b1a hb1  z1 MA hgva kva
  obtain ⟨p1, p2, p3⟩ := (K1.b 0 rfl).cells3
  go_upto_region 2 with fail
  generalize v1.alloc (.cells #[.int .i64 W, .int .i64 H, .slice (some ⟨gva, 0, none⟩) N N] 24) = w1 at *
  have z1' := b1.size
  obtain ⟨gm, hgm⟩ : ∃ g, w1.heap.size = g := ⟨_, rfl⟩
  go_upto_region 3 with fail
  have K1x := K1.new 3 #[.int .i64 m]
  have b1x := b1.alloc b1.size (.cells #[.int .i64 m] 3)
  rw [hgm] at K1x
  clear K1 b1 p1 p2 p3 z1'
  generalize w1.alloc (.cells #[.int .i64 m] 3) = w1x at *
  clear hgm
  have l1 := (K1x.b 0 rfl).cells1
  obtain ⟨p1, p2, p3⟩ := (K1x.b 1 rfl).cells3
  go_wp2_with fail
  refine (D1.out _ _ _ (K1x.a 0 rfl)).mono ?_
  rintro e v2 ⟨_, rfl, ⟨Ax, cx, rfl, hgx, ax⟩, hb2⟩
  have K2a := (K1x.below hb2).addA ax
  have b2a := below_call b1x b1x.size hb2
  have z2 := b2a.size
  have b2 : Below w.heap.size w (v2.alloc (.cells #[.int .i64 W, .int .i64 H, .slice Ax N cx] 24)) := by (repeat (first | exact Below.refl _ _ | assumption | refine Below.drew ?_ | refine below_drewN ?_ _ | refine Below.alloc ?_ (by first | omega | (simp; done) | (simp; omega)) _ | refine Below.setCell ?_ (by first | omega | (simp; done) | (simp; omega)) _ | refine below_setRow ?_ (by first | omega | (simp; done) | (simp; omega)) _ ))
  have K2 := K2a.new 24 #[.int .i64 W, .int .i64 H, .slice Ax N cx]
  clear K1x b1x K2a b2a hb2 ax hgx p1 p2 p3 l1 z2 D1
  obtain ⟨p1, p2, p3⟩ := (K2.b 0 rfl).cells3
  have l1 := (K2.b 1 rfl).cells1
  go_wp2_with fail
  generalize v2.alloc (.cells #[.int .i64 W, .int .i64 H, .slice Ax N cx] 24) = w2 at *
  refine (D2.out _ _ _ (K2.a 0 rfl)).mono ?_
  rintro e v3 ⟨_, rfl, ⟨Ay, cy, rfl, hgy, ay⟩, hb3⟩
  have K3a := (K2.below hb3).addA ay
  have b3a := below_call b2 b2.size hb3
  have z3 := b3a.size
  have b3 : Below w.heap.size w (v3.alloc (.cells #[.int .i64 W, .int .i64 H, .slice Ay N cy] 24)) := by (repeat (first | exact Below.refl _ _ | assumption | refine Below.drew ?_ | refine below_drewN ?_ _ | refine Below.alloc ?_ (by first | omega | (simp; done) | (simp; omega)) _ | refine Below.setCell ?_ (by first | omega | (simp; done) | (simp; omega)) _ | refine below_setRow ?_ (by first | omega | (simp; done) | (simp; omega)) _ ))
  have K3 := K3a.new 24 #[.int .i64 W, .int .i64 H, .slice Ay N cy]
  clear K2 b2 K3a b3a hb3 ay hgy p1 p2 p3 l1 z3 D2
  obtain ⟨p1, p2, p3⟩ := (K3.b 3 rfl).cells3
  have l1 := (K3.b 2 rfl).cells1
  go_wp2_with fail
  generalize v3.alloc (.cells #[.int .i64 W, .int .i64 H, .slice Ay N cy] 24) = w3 at *
  refine (D3.out _ _ _ (K3.a 2 rfl)).mono ?_
  rintro e v4 ⟨_, rfl, ⟨Az, cz, rfl, hgz, az⟩, hb4⟩
  have K4a := (K3.below hb4).addA az
  have b4a := below_call b3 b3.size hb4
  have z4 := b4a.size
  have b4 : Below w.heap.size w (v4.alloc (.cells #[.int .i64 W, .int .i64 H, .slice Az N cz] 24)) := by (repeat (first | exact Below.refl _ _ | assumption | refine Below.drew ?_ | refine below_drewN ?_ _ | refine Below.alloc ?_ (by first | omega | (simp; done) | (simp; omega)) _ | refine Below.setCell ?_ (by first | omega | (simp; done) | (simp; omega)) _ | refine below_setRow ?_ (by first | omega | (simp; done) | (simp; omega)) _ ))
  have K4 := K4a.new 24 #[.int .i64 W, .int .i64 H, .slice Az N cz]
  clear K3 b3 K4a b4a hb4 az hgz p1 p2 p3 l1 z4 D3
  obtain ⟨p1, p2, p3⟩ := (K4.b 2 rfl).cells3
  have l1 := (K4.b 3 rfl).cells1
  go_wp2_with fail
  generalize v4.alloc (.cells #[.int .i64 W, .int .i64 H, .slice Az N cz] 24) = w4 at *
  refine (CO1.out _ _ _ (K4.a 2 rfl)).mono ?_
  rintro e v5 ⟨_, rfl, ⟨vx, rfl, hRX⟩, hb5⟩
  have K5 := K4.below hb5
  have b5 := below_call b4 b4.size hb5
  clear K4 b4 hb5 p1 p2 p3 l1 
  have RX := Lib.hid (hRX.base (Nat.zero_le _))
  clear hRX
  obtain ⟨p1, p2, p3⟩ := (K5.b 4 rfl).cells3
  have l1 := (K5.b 3 rfl).cells1
  go_wp2_with fail
  refine (CO2.out _ _ _ (K5.a 3 rfl)).mono ?_
  rintro e v6 ⟨_, rfl, ⟨vg, rfl, hRG⟩, hb6⟩
  replace RX := Lib.hid (RX.out.below hb6)
  have K6 := K5.below hb6
  have b6 := below_call b5 b5.size hb6
  clear K5 b5 hb6 p1 p2 p3 l1 
  have RG := Lib.hid (hRG.base (Nat.zero_le _))
  clear hRG
  clear CO1 CO2
  obtain ⟨Al, cl, rfl, hcx⟩ := RX.out.val
  obtain ⟨Ag, cg, rfl, hcg⟩ := RG.out.val
  obtain ⟨K1, hK1⟩ : ∃ k, (rootK N (InkN N q) (AdjN W true)).length = k := ⟨_, rfl⟩
  obtain ⟨K2, hK2⟩ : ∃ k, (rootK N (InkN N p) (AdjN W true)).length = k := ⟨_, rfl⟩
  have HK1 := Lib.hid hK1
  have HK2 := Lib.hid hK2
  have k1 : K1 ≤ 1200 := by have := RL1.out; omega
  have k2 : K2 ≤ 1200 := by have := RL2.out; omega
  rw [hK1] at hcx
  rw [hK2] at hcg
  have RX' := RX; have RG' := RG
  rw [hK1] at RX'
  rw [hK2] at RG'
  rw [hK1, hK2]
  clear RX RG hK1 hK2 hcx hcg RL1 RL2
  obtain ⟨p1, p2, p3⟩ := (K6.b 2 rfl).cells3
  obtain ⟨r1, r2, r3⟩ := (K6.b 1 rfl).cells3
  have l1 := (K6.b 3 rfl).cells1
  go_wp2_with fail
  refine (sameInk_true W H Ax Ay N cx cy q q2 _ (K6.a 2 rfl) (K6.a 1 rfl) hnm EQ.out).mono ?_
  rintro e v7 ⟨rfl, hb7⟩
  replace RX' := Lib.hid (RX'.out.below hb7)
  replace RG' := Lib.hid (RG'.out.below hb7)
  have K7 := K6.below hb7
  have b7 := below_call b6 b6.size hb7
  clear K6 b6 hb7 p1 p2 p3 r1 r2 r3 l1 
  obtain ⟨p1, p2, p3⟩ := (K7.b 2 rfl).cells3
  obtain ⟨r1, r2, r3⟩ := (K7.b 4 rfl).cells3
  have l1 := (K7.b 3 rfl).cells1
  go_wp2_with fail
  refine (W1'.out _ _ _ _ _ (K7.a 2 rfl) (K7.a 3 rfl)).mono ?_
  rintro e v8 ⟨rfl, hb8⟩
  replace RX' := Lib.hid (RX'.out.below hb8)
  replace RG' := Lib.hid (RG'.out.below hb8)
  have K8 := K7.below hb8
  have b8 := below_call b7 b7.size hb8
  clear K7 b7 hb8 p1 p2 p3 r1 r2 r3 l1 W1'
  obtain ⟨p1, p2, p3⟩ := (K8.b 0 rfl).cells3
  obtain ⟨r1, r2, r3⟩ := (K8.b 2 rfl).cells3
  have l1 := (K8.b 3 rfl).cells1
  go_wp2_with fail
  refine (W2'.out _ _ _ _ _ (K8.a 0 rfl) (K8.a 2 rfl)).mono ?_
  rintro e v9 ⟨rfl, hb9⟩
  replace RX' := Lib.hid (RX'.out.below hb9)
  replace RG' := Lib.hid (RG'.out.below hb9)
  have K9 := K8.below hb9
  have b9 := below_call b8 b8.size hb9
  clear K8 b8 hb9 p1 p2 p3 r1 r2 r3 l1 W2'
  go_upto_region 12 with fail
  go_wp2_with fail
  go_loopw [95, 19] (fun s u wr => ∃ t : Nat, t ≤ K2 ∧ s = .int .i64 t ∧ u = .int .i64 (cntK N W p m t : Int) ∧ Below v9.heap.size v9 wr) (fun s _ _ => K2 - (intOf s).toNat)
  case atStart => exact ⟨0, by omega, rfl, rfl, Below.refl _ _⟩
  case round =>
    obtain ⟨t, ht, rfl, rfl, hb⟩ := hrel
    have HB := Lib.hid hb
    have l1 := ((K9.below hb).b 3 rfl).cells1
    by_cases tl : (t : Int) < K2
    · obtain ⟨L, hL1, hL2, hL3⟩ := RG'.out.below hb
      have hLK : L.length = K2 := by
        have h9 := congrArg List.length hL1
        rw [List.length_map] at h9
        exact h9.trans HK2.out
      obtain ⟨⟨r, ⟨c1, c2, c3, c4⟩, v⟩, hLt⟩ : ∃ y, L[t]? = some y := ⟨L[t]'(by omega), List.getElem?_eq_getElem _⟩
      have hne : L ≠ [] := fun e => by rw [e] at hLt; simp at hLt
      obtain ⟨A', c', ev, -, hE⟩ := hL2.arr encC_len
      obtain ⟨gL, e8, hgL, hcl⟩ := hE hne
      have eA : Ag = some ⟨gL, 0, none⟩ := by rw [← e8]; cases ev; rfl
      subst eA
      have cells : ∀ s, s < 5 → wr.cell? ⟨gL, t * 5 + s, none⟩ = (encC (r, (c1, c2, c3, c4), v))[s]? := fun s hs => hcl t _ hLt s hs
      have q0 := cells 0 (by omega); have q1 := cells 1 (by omega); have q2 := cells 2 (by omega); have q3 := cells 3 (by omega); have q4 := cells 4 (by omega)
      change _ = some (Value.int .i64 c1) at q0
      change _ = some (Value.int .i64 c2) at q1
      change _ = some (Value.int .i64 c3) at q2
      change _ = some (Value.int .i64 c4) at q3
      change _ = some v at q4
      rw [Nat.add_zero] at q0
      have hER : ERow wr 0 51 2 (encP W) v (partN N (InkN N p) (AdjN W true) r) := (hL3 _ (List.mem_of_getElem? hLt)).2
      have hroot : (rootN N (InkN N p) (AdjN W true))[t]? = some r := by
        have h9 := hL1
        rw [rootK_n] at h9
        rw [← h9, List.getElem?_map, hLt]; rfl
      have HRT := Lib.hid hroot
      obtain ⟨AP, cP, rfl, hcP⟩ := hER.val
      obtain ⟨P, hP⟩ : ∃ P, (partN N (InkN N p) (AdjN W true) r).length = P := ⟨_, rfl⟩
      have HPL := Lib.hid hP
      rw [hP] at q4
      obtain ⟨C, hC⟩ : ∃ C : Int, (cntK N W p m t : Int) = C := ⟨_, rfl⟩
      have HCC := Lib.hid hC
      have hCb : 0 ≤ C ∧ C ≤ 1200 := by have := cnt_le (n := N) (W := W) (p := p) (m := m) t; omega
      rw [hC]
      have uC : IntKind.i64.wrap (C + 1) = C + 1 := IntWalk.i64_in _ (by omega)
      clear cells hcl hLt hne hE hL1 hL2 hL3 hLK hroot hER hcP hP hC ev e8 hgL
      obtain ⟨gc, hgc⟩ : ∃ g, wr.heap.size = g := ⟨_, rfl⟩
      have hlm := block_lt l1
      go_upto_region 14 with fail
      have kc := (Blk.new wr 47 #[.int .i64 c1, .int .i64 c2, .int .i64 c3, .int .i64 c4, .slice AP P cP]).cell 4
      have bc : Below wr.heap.size wr (wr.alloc (.cells #[.int .i64 c1, .int .i64 c2, .int .i64 c3, .int .i64 c4, .slice AP P cP] 47)) := (Below.refl _ _).alloc (Nat.le_refl _) _
      have l2 := (bc.cell (p := ⟨gm, 0, none⟩) hlm).trans l1
      have hb2 := below_call hb hb.size bc
      rw [hgc] at kc
      change _ = some (Value.slice AP P cP) at kc
      generalize wr.alloc (.cells #[.int .i64 c1, .int .i64 c2, .int .i64 c3, .int .i64 c4, .slice AP P cP] 47) = w5 at *
      clear hb HB l1 bc q0 q1 q2 q3 q4 hgc hlm
      by_cases hle : m ≤ (P : Int)
      · have EC := Lib.hid (show (cntK N W p m (t + 1) : Int) = C + 1 by rw [cnt_yes HRT.out (by rw [HPL.out]; exact hle), ← HCC.out]; push_cast; rfl)
        go_wp2_with fail
        go_roundw
        case rel => exact ⟨t + 1, by omega, by go_num, by rw [EC.out], hb2⟩
        case measure => simp [intOf]; omega
      · have EC := Lib.hid (show (cntK N W p m (t + 1) : Int) = C by rw [cnt_no HRT.out (by rw [HPL.out]; exact hle), ← HCC.out])
        have hle2 : (P : Int) < m := by omega
        go_wp2_with fail
        go_roundw
        case rel => exact ⟨t + 1, by omega, by go_num, by rw [EC.out], hb2⟩
        case measure => simp [intOf]; omega
    · obtain rfl : t = K2 := by omega
      have ec : (cntK N W p m t : Int) = K1 := by
        rw [← HK1.out, ← HK2.out, rootK_n, rootK_n, CA.out]
      rw [ec]
      have hlm := block_lt l1
      obtain ⟨L, hL1, hL2, hL3⟩ := RX'.out.below hb
      have hLK : L.length = K1 := by
        have h9 := congrArg List.length hL1
        rw [List.length_map] at h9
        exact h9.trans HK1.out
      obtain ⟨A', c', ev, -, hE⟩ := hL2.arr encC_len
      have eA : A' = Al := by cases ev; rfl
      subst eA
      have CN := Lib.hid (containsC_no 68 #[.pointer (some ⟨gm, 0, none⟩)] L A' K1 cl wr hE hLK (by unfold maxLen; omega) enterSmall (fun t ht w' hb' => by
        obtain ⟨r, ⟨c1, c2, c3, c4⟩, v⟩ := t
        have h1 : ERow wr 0 51 2 (encP W) v (partN N (InkN N q) (AdjN W true) r) := (hL3 _ ht).2
        have hr : r ∈ rootN N (InkN N q) (AdjN W true) := by
          rw [← rootK_n, ← hL1]
          exact List.mem_map.2 ⟨_, ht, rfl⟩
        obtain ⟨AP, cP, rfl, -⟩ := h1.val
        exact small1_any c1 c2 c3 c4 m AP _ cP gm w' ((hb'.cell (p := ⟨gm, 0, none⟩) hlm).trans l1) (BP.out r hr)))
      clear hE hL1 hL2 hL3 hLK ev hlm ec ht
      have bx := below_call b9 b9.size hb
      go_wp2_with fail
      refine CN.out.mono ?_
      rintro e v20 ⟨rfl, hb20⟩
      have b20 := below_call bx bx.size hb20
      clear bx hb hb20 l1
      go_wp2_with fail
      refine (awake1_any _).mono ?_
      rintro e v21 ⟨rfl, hb21⟩
      have b21 := below_call b20 b20.size hb21
      go_wp2
      go_ret
      exact ⟨rfl, b21⟩
end Go.Proofs.YtoonkpjddfiopaaDoor
