/- Texts of mine in build order: T43, T44. Conditions: each theorem's own. -/
import Derived.Test.YtdimlpcbbkokiaaMStaveStripsx8
/- Walk: strips of the program and of the reference compared (custoslaw03.strips). Written by gen/t43.py. -/
namespace Go.Proofs.Ytdimlpcbbkokiaa
open Go.RowKit Go.Shelf
set_option linter.unusedVariables false
attribute [local go_sem] Oper.semAt_some
theorem ArrB.fillBox {w : World} {n g t : Nat} {A : Option Addr} {q : Int → Int} {x y : Int} {B : Option Addr} {k l : Nat} {x' y' z' : Value} (h : ArrB w w.heap.size A n q) (hk : Blk w g t #[.int .i64 x, .int .i64 y, .slice B k l]) :
    ArrB (((w.setCell ⟨g, 0, none⟩ x').setCell ⟨g, 1, none⟩ y').setCell ⟨g, 2, none⟩ z') (((w.setCell ⟨g, 0, none⟩ x').setCell ⟨g, 1, none⟩ y').setCell ⟨g, 2, none⟩ z').heap.size A n q := fun hn => by
  obtain ⟨b, off, rfl, hb, hc⟩ := h hn
  refine (h.fill1 fun a e => ?_) hn
  cases e
  show b ≠ g
  rintro rfl
  have h0 := hc 0 (by omega) (by omega)
  rw [hk.cell] at h0
  match off, h0 with
  | 0, h0 => simp at h0
  | 1, h0 => simp at h0
  | 2, h0 => simp at h0
  | off + 3, h0 => simp at h0
theorem ArrB.fill1S {w : World} {n g t : Nat} {A : Option Addr} {q : Int → Int} {B : Option Addr} {k l : Nat} {x' : Value} (h : ArrB w w.heap.size A n q) (hk : Blk w g t #[.slice B k l]) :
    ArrB (w.setCell ⟨g, 0, none⟩ x') (w.setCell ⟨g, 0, none⟩ x').heap.size A n q := fun hn => by
  obtain ⟨b, off, rfl, hb, hc⟩ := h hn
  rw [World.size_setCell]
  refine (h.far1 (p := ⟨g, 0, none⟩) (fun a e => ?_) x') hn
  cases e
  show b ≠ g
  rintro rfl
  have h0 := hc 0 (by omega) (by omega)
  rw [hk.cell] at h0
  match off, h0 with
  | 0, h0 => simp at h0
  | off + 1, h0 => simp at h0
theorem FoundM.far {B : Nat} {w : World} {m : Nat → Nat} {ln : Nat → Nat → Int} {k g t : Nat} {vo : Value} {v : Nat → Value} {cs : Array Value} (h : FoundM B w m ln k vo v) (hb : Blk w g t cs) (h1 : 25 ≠ t) (h2 : 3 ≠ t) (o : Nat) (u : Value) : FoundM B (w.setCell ⟨g, o, none⟩ u) m ln k vo v :=
  ⟨own_far h.row hb h1 o u, fun i hi => own_far (h.lines i hi) hb h2 o u⟩
set_option maxRecDepth 100000 in
set_option maxHeartbeats 8000000 in
theorem strips_any (W H SW SH up down : Int) (A SA AL : Option Addr) (n c sn sc K cL : Nat) (p sp : Int → Int) (m : Nat → Nat) (ln : Nat → Nat → Int) (w : World)
    (hA : ArrB w w.heap.size A n p) (hn : n ≤ 6000) (hB : IsB p) (hcA : A = none → c = 0) (hS0 : ArrB w w.heap.size SA sn sp) (hsn : sn ≤ 6000) (hBS : IsB sp) (hcS : SA = none → sc = 0) (hL : LinesIn w AL K cL m ln) :
    Calls Try.prog 43 #[.agg #[.int .i64 W, .int .i64 H, .slice A n c], .agg #[.int .i64 SW, .int .i64 SH, .slice SA sn sc], .agg #[.slice AL K cL], .int .i64 up, .int .i64 down] w fun e w' => e = .returned (.bool true) ∧ Below w.heap.size w w' := by
  have b1 : Below w.heap.size w (((w.alloc (.cells #[.int .i64 W, .int .i64 H, .slice A n c] 24)).alloc (.cells #[.int .i64 SW, .int .i64 SH, .slice SA sn sc] 24)).alloc (.cells #[.slice AL K cL] 54)) := by (repeat (first | exact Below.refl _ _ | assumption | refine Below.drew ?_ | refine below_drewN ?_ _ | refine Below.alloc ?_ (by first | omega | (simp; done) | (simp; omega)) _ | refine Below.setCell ?_ (by first | omega | (simp; done) | (simp; omega)) _ | refine below_setRow ?_ (by first | omega | (simp; done) | (simp; omega)) _ ))
  have k1 : Blk (((w.alloc (.cells #[.int .i64 W, .int .i64 H, .slice A n c] 24)).alloc (.cells #[.int .i64 SW, .int .i64 SH, .slice SA sn sc] 24)).alloc (.cells #[.slice AL K cL] 54)) w.heap.size 24 #[.int .i64 W, .int .i64 H, .slice A n c] := ((Blk.new _ _ _).alloc _).alloc _
  have k2 : Blk (((w.alloc (.cells #[.int .i64 W, .int .i64 H, .slice A n c] 24)).alloc (.cells #[.int .i64 SW, .int .i64 SH, .slice SA sn sc] 24)).alloc (.cells #[.slice AL K cL] 54)) (w.heap.size + 1) 24 #[.int .i64 SW, .int .i64 SH, .slice SA sn sc] := (Blk.new' (by simp) _ _).alloc _
  have k3 : Blk (((w.alloc (.cells #[.int .i64 W, .int .i64 H, .slice A n c] 24)).alloc (.cells #[.int .i64 SW, .int .i64 SH, .slice SA sn sc] 24)).alloc (.cells #[.slice AL K cL] 54)) (w.heap.size + 1 + 1) 54 #[.slice AL K cL] := Blk.new' (by simp) _ _
  have hKc := hL.outer
  have hKle := hL.le
  have hm2 : ∀ i, i < K → m i ≤ 17592186044416 := hL.lens
  have L0 := hL.lines
  have C1 := Lib.hid fun w' h' => copyInk_any W H A n c p w' h' hcA (by omega)
  have C3 := Lib.hid fun w' h' => copyInk_any SW SH SA sn sc sp w' h' hcS (by omega)
  have C5 := Lib.hid fun w' h' => copyStave_any AL K cL m ln w' h' (by omega) hm2
  go_enter Try.func43, Try.ntmps43
  go_wp2_with fail
  generalize (((w.alloc (.cells #[.int .i64 W, .int .i64 H, .slice A n c] 24)).alloc (.cells #[.int .i64 SW, .int .i64 SH, .slice SA sn sc] 24)).alloc (.cells #[.slice AL K cL] 54)) = w1 at *
  have HA := Lib.hid (hA.to b1); have HS := Lib.hid (hS0.to b1); have HL := Lib.hid (L0.below b1)
  obtain ⟨p1, p2, p3⟩ := k1.cells3
  obtain ⟨q1, q2, q3⟩ := k2.cells3
  have p4 := k3.cells0
  have y1 := k1.lt; have y2 := k2.lt; have y3 := k3.lt
  go_upto_region 1 with fail
  go_cut [11, 12, 13] (fun f1 f2 f3 wx => ∃ g6 g7 g8 A1 c1 A3 c3 vo vs, f1 = .pointer (some ⟨g6, 0, none⟩) ∧ f2 = .pointer (some ⟨g7, 0, none⟩) ∧ f3 = .pointer (some ⟨g8, 0, none⟩) ∧ Below w1.heap.size w1 wx ∧
     Blk wx g6 24 #[.int .i64 W, .int .i64 H, .slice A1 n c1] ∧ Blk wx g7 24 #[.int .i64 SW, .int .i64 SH, .slice A3 sn c3] ∧ Blk wx g8 54 #[vo] ∧ ArrB wx wx.heap.size A1 n p ∧ ArrB wx wx.heap.size A3 sn sp ∧ FoundM w1.heap.size wx m ln K vo vs)
  case first =>
    have keepS : ∀ (v v' : World), Below v.heap.size v v' → ((v.cell? ⟨w.heap.size, 0, none⟩ = some (.int .i64 W) ∧ v.cell? ⟨w.heap.size, 1, none⟩ = some (.int .i64 H) ∧ v.cell? ⟨w.heap.size, 2, none⟩ = some (.slice A n c)) ∧ (v.cell? ⟨w.heap.size + 1, 0, none⟩ = some (.int .i64 SW) ∧ v.cell? ⟨w.heap.size + 1, 1, none⟩ = some (.int .i64 SH) ∧ v.cell? ⟨w.heap.size + 1, 2, none⟩ = some (.slice SA sn sc)) ∧ v.cell? ⟨w.heap.size + 1 + 1, 0, none⟩ = some (.slice AL K cL)) → ((v'.cell? ⟨w.heap.size, 0, none⟩ = some (.int .i64 W) ∧ v'.cell? ⟨w.heap.size, 1, none⟩ = some (.int .i64 H) ∧ v'.cell? ⟨w.heap.size, 2, none⟩ = some (.slice A n c)) ∧ (v'.cell? ⟨w.heap.size + 1, 0, none⟩ = some (.int .i64 SW) ∧ v'.cell? ⟨w.heap.size + 1, 1, none⟩ = some (.int .i64 SH) ∧ v'.cell? ⟨w.heap.size + 1, 2, none⟩ = some (.slice SA sn sc)) ∧ v'.cell? ⟨w.heap.size + 1 + 1, 0, none⟩ = some (.slice AL K cL)) := fun v v' hb h => by
      have hk : ∀ a x, v.cell? a = some x → v'.cell? a = some x := fun a x hx => (hb.cell (World.block_lt_of_cell? v a hx)).trans hx
      exact ⟨⟨hk _ _ h.1.1, hk _ _ h.1.2.1, hk _ _ h.1.2.2⟩, ⟨hk _ _ h.2.1.1, hk _ _ h.2.1.2.1, hk _ _ h.2.1.2.2⟩, hk _ _ h.2.2⟩
    have keepU : ∀ (v : World) (p : Addr) (u : Value), w1.heap.size ≤ p.block → ((v.cell? ⟨w.heap.size, 0, none⟩ = some (.int .i64 W) ∧ v.cell? ⟨w.heap.size, 1, none⟩ = some (.int .i64 H) ∧ v.cell? ⟨w.heap.size, 2, none⟩ = some (.slice A n c)) ∧ (v.cell? ⟨w.heap.size + 1, 0, none⟩ = some (.int .i64 SW) ∧ v.cell? ⟨w.heap.size + 1, 1, none⟩ = some (.int .i64 SH) ∧ v.cell? ⟨w.heap.size + 1, 2, none⟩ = some (.slice SA sn sc)) ∧ v.cell? ⟨w.heap.size + 1 + 1, 0, none⟩ = some (.slice AL K cL)) → (((v.setCell p u).cell? ⟨w.heap.size, 0, none⟩ = some (.int .i64 W) ∧ (v.setCell p u).cell? ⟨w.heap.size, 1, none⟩ = some (.int .i64 H) ∧ (v.setCell p u).cell? ⟨w.heap.size, 2, none⟩ = some (.slice A n c)) ∧ ((v.setCell p u).cell? ⟨w.heap.size + 1, 0, none⟩ = some (.int .i64 SW) ∧ (v.setCell p u).cell? ⟨w.heap.size + 1, 1, none⟩ = some (.int .i64 SH) ∧ (v.setCell p u).cell? ⟨w.heap.size + 1, 2, none⟩ = some (.slice SA sn sc)) ∧ (v.setCell p u).cell? ⟨w.heap.size + 1 + 1, 0, none⟩ = some (.slice AL K cL)) := fun v p u hp h => by
      have hk : ∀ a : Addr, a.block < w1.heap.size → ∀ x, v.cell? a = some x → (v.setCell p u).cell? a = some x := fun a ha x hx => (World.cell?_setCell_other _ _ _ _ (fun e => by subst e; omega)).trans hx
      exact ⟨⟨hk _ y1 _ h.1.1, hk _ y1 _ h.1.2.1, hk _ y1 _ h.1.2.2⟩, ⟨hk _ y2 _ h.2.1.1, hk _ y2 _ h.2.1.2.1, hk _ y2 _ h.2.1.2.2⟩, hk _ y3 _ h.2.2⟩
    refine wp_region_held_drew (S := fun w' => (w'.cell? ⟨w.heap.size, 0, none⟩ = some (.int .i64 W) ∧ w'.cell? ⟨w.heap.size, 1, none⟩ = some (.int .i64 H) ∧ w'.cell? ⟨w.heap.size, 2, none⟩ = some (.slice A n c)) ∧ (w'.cell? ⟨w.heap.size + 1, 0, none⟩ = some (.int .i64 SW) ∧ w'.cell? ⟨w.heap.size + 1, 1, none⟩ = some (.int .i64 SH) ∧ w'.cell? ⟨w.heap.size + 1, 2, none⟩ = some (.slice SA sn sc)) ∧ w'.cell? ⟨w.heap.size + 1 + 1, 0, none⟩ = some (.slice AL K cL)) (by kernel_rfl) (by simp [go_sem, *]) (fun hHeld => ?_)
    refine wpAnyH_take (i := 0) (oi := _) (v := ?_) (by simp only [List.getElem?_toArray, List.getElem?_cons_zero]; exact rfl) (by kernel_rfl) (by kernel_rfl) (by kernel_rfl) (by exact fun _ _ _ h => h) (Or.inl ⟨by rfl, ?_⟩) (by assumption) ?_
    rotate_left 1
    · intro w hSw
      (try dsimp only at hSw)
      go_simp
      try with_reducible rfl
    try simp only [Act.put, List.setIfInBounds_toArray, List.set_cons_zero, List.set_cons_succ]
    refine wpAnyH_take (i := 2) (oi := _) (v := ?_) (by simp only [List.getElem?_toArray, List.getElem?_cons_zero, List.getElem?_cons_succ]; exact rfl) (by kernel_rfl) (by kernel_rfl) (by kernel_rfl) (by exact fun _ _ _ h => h) (Or.inl ⟨by rfl, ?_⟩) (by assumption) ?_
    rotate_left 1
    · intro w hSw
      (try dsimp only at hSw)
      go_simp
      try with_reducible rfl
    try simp only [Act.put, List.setIfInBounds_toArray, List.set_cons_zero, List.set_cons_succ]
    refine wpAnyH_take (i := 4) (oi := _) (v := ?_) (by simp only [List.getElem?_toArray, List.getElem?_cons_zero, List.getElem?_cons_succ]; exact rfl) (by kernel_rfl) (by kernel_rfl) (by kernel_rfl) (by exact fun _ _ _ h => h) (Or.inl ⟨by rfl, ?_⟩) (by assumption) ?_
    rotate_left 1
    · intro w hSw
      (try dsimp only at hSw)
      go_simp
      try with_reducible rfl
    try simp only [Act.put, List.setIfInBounds_toArray, List.set_cons_zero, List.set_cons_succ]
    refine wpAnyH_inv (J := fun (listed : Array Bool) (a : Act) (w' : World) => ∃ (b1 b3 b5 a6 a7 a8 : Bool) (A1 A3 : Option Addr) (c1 c3 : Nat) (vo : Value) (g6 g7 g8 : Nat),
        listed = #[true, b1, true, b3, true, b5, a6, a7, a8, false, false, false] ∧ a = ⟨(.agg #[.int .i64 W, .int .i64 H, .slice A n c] :: .agg #[.int .i64 SW, .int .i64 SH, .slice SA sn sc] :: .agg #[.slice AL K cL] :: .int .i64 up :: .int .i64 down :: .pointer (some ⟨w.heap.size, 0, none⟩) :: .pointer (some ⟨w.heap.size + 1, 0, none⟩) :: .pointer (some ⟨w.heap.size + 1 + 1, 0, none⟩) :: undef :: undef :: .bool false :: cond a6 (.pointer (some ⟨g6, 0, none⟩)) undef :: cond a7 (.pointer (some ⟨g7, 0, none⟩)) undef :: cond a8 (.pointer (some ⟨g8, 0, none⟩)) undef :: undef :: undef :: undef :: undef :: undef :: undef :: undef :: undef :: .agg #[.int .i64 W, .int .i64 H, .slice A n c] :: cond b1 (.agg #[.int .i64 W, .int .i64 H, .slice A1 n c1]) undef :: .agg #[.int .i64 SW, .int .i64 SH, .slice SA sn sc] :: cond b3 (.agg #[.int .i64 SW, .int .i64 SH, .slice A3 sn c3]) undef :: .agg #[.slice AL K cL] :: cond b5 (.agg #[vo]) undef :: undef :: undef :: undef :: undef :: undef :: undef :: undef :: undef :: undef :: undef :: undef :: undef :: undef :: undef :: undef :: undef :: undef :: undef :: undef :: undef :: undef :: undef :: undef :: undef :: undef :: undef :: undef :: undef :: undef :: undef :: undef :: undef :: undef :: undef :: undef :: undef :: undef :: undef :: undef :: undef :: undef :: undef :: undef :: undef :: undef :: undef :: undef :: undef :: undef :: undef :: undef :: undef :: undef :: undef :: undef :: undef :: undef :: undef :: undef :: undef :: undef :: undef :: undef :: undef :: undef :: []).toArray, []⟩ ∧ (b3 = true → b1 = true) ∧ (b5 = true → b3 = true) ∧ Below w1.heap.size w1 w' ∧
        (b1 = true → ArrB w' w'.heap.size A1 n p) ∧ (b3 = true → ArrB w' w'.heap.size A3 sn sp) ∧ (b5 = true → ∃ vs, FoundM w1.heap.size w' m ln K vo vs) ∧
        (a6 = true → w1.heap.size ≤ g6 ∧ Blk w' g6 24 #[.int .i64 0, .int .i64 0, .slice none 0 0]) ∧ (a7 = true → w1.heap.size ≤ g7 ∧ Blk w' g7 24 #[.int .i64 0, .int .i64 0, .slice none 0 0]) ∧ (a8 = true → w1.heap.size ≤ g8 ∧ Blk w' g8 54 #[.slice none 0 0]) ∧ (a6 = true → a7 = true → g6 ≠ g7)) ?_ _ _ _ _ ⟨false, false, false, false, false, false, none, none, 0, 0, undef, 0, 0, 0, rfl, rfl, id, id, (Below.refl _ _).drew, (fun h => by cases h), (fun h => by cases h), (fun h => by cases h), (fun h => by cases h), (fun h => by cases h), (fun h => by cases h), (fun h => by cases h)⟩ (by assumption) (by decide)
    clear hHeld
    rintro listed a w' ⟨e1, e3, e5, a6, a7, a8, A1, A3, c1, c3, vo, g6, g7, g8, rfl, rfl, h31, h53, hb, f1, f3, f5, f6, f7, f8, f67⟩ hS
    have F1 := Lib.hid f1; have F3 := Lib.hid f3; have F5 := Lib.hid f5; have F6 := Lib.hid f6; have F7 := Lib.hid f7; have F8 := Lib.hid f8; have F67 := Lib.hid f67
    clear f1 f3 f5 f6 f7 f8 f67 p1 p2 p3 q1 q2 q3 p4
    by_cases hall : e5 = true ∧ a6 = true ∧ a7 = true ∧ a8 = true
    · obtain ⟨rfl, rfl, rfl, rfl⟩ := hall
      obtain rfl : e3 = true := h53 rfl
      obtain rfl : e1 = true := h31 rfl
      left
      intro fuel hc
      obtain ⟨f, rfl⟩ : ∃ f, fuel = f + 3 := ⟨fuel - 3, by
        have : cntF #[true, true, true, true, true, true, true, true, true, false, false, false] = 3 := by decide
        omega⟩
      have a1 := F1.out rfl
      have a3 := F3.out rfl
      obtain ⟨vs, hF⟩ := F5.out rfl
      obtain ⟨A5, c5, rfl, hc5, hn5, -⟩ := hF.toLines
      obtain ⟨hg6, k6⟩ := F6.out rfl
      obtain ⟨hg7, k7⟩ := F7.out rfl
      obtain ⟨hg8, k8⟩ := F8.out rfl
      have hne := F67.out rfl rfl
      have n68 : g6 ≠ g8 := fun e => by subst e; rw [Blk] at k6 k8; rw [k6] at k8; cases k8
      have n78 : g7 ≠ g8 := fun e => by subst e; rw [Blk] at k7 k8; rw [k7] at k8; cases k8
      clear F1 F3 F5 F6 F7 F8 F67 h31 h53 hc
      obtain ⟨r1, r2, r3⟩ := k6.cells3
      obtain ⟨s1, s2, s3⟩ := k6.frozen3
      refine wpAnyH_ready (rs := [9]) (by kernel_rfl) (by simp) ?_
      refine AllReadyH.cons (o := _) (by simp only [List.getElem?_toArray, List.getElem?_cons_zero, List.getElem?_cons_succ]; exact rfl) (fun K' hK => ?_) AllReadyH.nil
      go_simp
      refine hK.out _ _ (keepU _ _ _ (by show w1.heap.size ≤ g6; exact hg6) (keepU _ _ _ (by show w1.heap.size ≤ g6; exact hg6) (keepU _ _ _ (by show w1.heap.size ≤ g6; exact hg6) hS))) (fun hHeld => ?_)
      clear hK K'
      try simp only [List.setIfInBounds_toArray, List.set_cons_zero, List.set_cons_succ]
      have a1' := a1.fillBox k6 (x' := .int .i64 W) (y' := .int .i64 H) (z' := .slice A1 n c1)
      have a3' := a3.fillBox k6 (x' := .int .i64 W) (y' := .int .i64 H) (z' := .slice A1 n c1)
      have hF' := FoundM.far (FoundM.far (FoundM.far hF k6 (by decide) (by decide) 0 (.int .i64 W)) (k6.set_ 0 (.int .i64 W)) (by decide) (by decide) 1 (.int .i64 H)) ((k6.set_ 0 (.int .i64 W)).set_ 1 (.int .i64 H)) (by decide) (by decide) 2 (.slice A1 n c1)
      have k6' := Blk.fill3 (a := .int .i64 W) (b := .int .i64 H) (c := .slice A1 n c1) k6
      have k7' := Blk.far3 (a := .int .i64 W) (b := .int .i64 H) (c := .slice A1 n c1) k7 (Ne.symm hne)
      have k8' := Blk.far3 (a := .int .i64 W) (b := .int .i64 H) (c := .slice A1 n c1) k8 (Ne.symm n68)
      have hb' := below_fill3 (a := .int .i64 W) (b := .int .i64 H) (c := .slice A1 n c1) hb hg6
      clear a1 a3 hF k6 k7 k8 hb r1 r2 r3 s1 s2 s3 hS
      generalize ((w'.setCell ⟨g6, 0, none⟩ (.int .i64 W)).setCell ⟨g6, 1, none⟩ (.int .i64 H)).setCell ⟨g6, 2, none⟩ (.slice A1 n c1) = v2 at *
      obtain ⟨r1, r2, r3⟩ := k7'.cells3
      obtain ⟨s1, s2, s3⟩ := k7'.frozen3
      have hS := hHeld
      clear hHeld
      refine wpAnyH_ready (rs := [10]) (by kernel_rfl) (by simp) ?_
      refine AllReadyH.cons (o := _) (by simp only [List.getElem?_toArray, List.getElem?_cons_zero, List.getElem?_cons_succ]; exact rfl) (fun K' hK => ?_) AllReadyH.nil
      go_simp
      refine hK.out _ _ (keepU _ _ _ (by show w1.heap.size ≤ g7; exact hg7) (keepU _ _ _ (by show w1.heap.size ≤ g7; exact hg7) (keepU _ _ _ (by show w1.heap.size ≤ g7; exact hg7) hS))) (fun hHeld => ?_)
      clear hK K'
      try simp only [List.setIfInBounds_toArray, List.set_cons_zero, List.set_cons_succ]
      have a1 := a1'.fillBox k7' (x' := .int .i64 SW) (y' := .int .i64 SH) (z' := .slice A3 sn c3)
      have a3 := a3'.fillBox k7' (x' := .int .i64 SW) (y' := .int .i64 SH) (z' := .slice A3 sn c3)
      have hF := FoundM.far (FoundM.far (FoundM.far hF' k7' (by decide) (by decide) 0 (.int .i64 SW)) (k7'.set_ 0 (.int .i64 SW)) (by decide) (by decide) 1 (.int .i64 SH)) ((k7'.set_ 0 (.int .i64 SW)).set_ 1 (.int .i64 SH)) (by decide) (by decide) 2 (.slice A3 sn c3)
      have k7 := Blk.fill3 (a := .int .i64 SW) (b := .int .i64 SH) (c := .slice A3 sn c3) k7'
      have k6 := Blk.far3 (a := .int .i64 SW) (b := .int .i64 SH) (c := .slice A3 sn c3) k6' hne
      have k8 := Blk.far3 (a := .int .i64 SW) (b := .int .i64 SH) (c := .slice A3 sn c3) k8' (Ne.symm n78)
      have hb := below_fill3 (a := .int .i64 SW) (b := .int .i64 SH) (c := .slice A3 sn c3) hb' hg7
      clear a1' a3' hF' k6' k7' k8' hb' r1 r2 r3 s1 s2 s3 hS
      generalize ((v2.setCell ⟨g7, 0, none⟩ (.int .i64 SW)).setCell ⟨g7, 1, none⟩ (.int .i64 SH)).setCell ⟨g7, 2, none⟩ (.slice A3 sn c3) = v3 at *
      have r1 := k8.cells0
      have s1 := k8.frozen 0
      have hS := hHeld
      clear hHeld
      refine wpAnyH_ready (rs := [11]) (by kernel_rfl) (by simp) ?_
      refine AllReadyH.cons (o := _) (by simp only [List.getElem?_toArray, List.getElem?_cons_zero, List.getElem?_cons_succ]; exact rfl) (fun K' hK => ?_) AllReadyH.nil
      go_simp
      refine hK.out _ _ (keepU v3 ⟨g8, 0, none⟩ (.slice A5 K c5) hg8 hS) (fun hHeld => ?_)
      clear hK K'
      try simp only [List.setIfInBounds_toArray, List.set_cons_zero, List.set_cons_succ]
      refine wpAnyH_done (by kernel_rfl) ?_ _
      have a1' := a1.fill1S k8 (x' := .slice A5 K c5)
      have a3' := a3.fill1S k8 (x' := .slice A5 K c5)
      have hF' := FoundM.far hF k8 (by decide) (by decide) 0 (.slice A5 K c5)
      have k8' := Blk.fill1 (a := .slice A5 K c5) k8
      have k6' := k6.far (p := ⟨g8, 0, none⟩) n68 (.slice A5 K c5)
      have k7' := k7.far (p := ⟨g8, 0, none⟩) n78 (.slice A5 K c5)
      have hb' := hb.setCell (p := ⟨g8, 0, none⟩) hg8 (.slice A5 K c5)
      clear a1 a3 hF k6 k7 k8 hb r1 s1 hS hHeld
      go_wp2_with fail
      go_meet
      exact ⟨g6, g7, g8, A1, c1, A3, c3, _, vs, rfl, rfl, rfl, hb', k6', k7', k8', a1', a3', hF'⟩
    · right
      refine ⟨?_, fun i hi => ?_⟩
      · clear F1 F3 F5 F6 F7 F8 F67 hS hb keepS keepU
        refine List.isEmpty_eq_false_iff_exists_mem.1 ?_
        cases e5 <;> cases a6 <;> cases a7 <;> cases a8 <;> first | exact absurd ⟨rfl, rfl, rfl, rfl⟩ hall | skip
        all_goals
          cases e3 <;> cases e1 <;> first | exact absurd (h53 rfl) (by decide) | exact absurd (h31 rfl) (by decide) | kernel_rfl
      · have hun := ready_un hi
        have hi12 : i < 12 := by
          rcases Nat.lt_or_ge i 12 with h | h
          · exact h
          · simp [Array.getElem?_eq_none (show (#[true, e1, true, e3, true, e5, a6, a7, a8, false, false, false] : Array Bool).size ≤ i from h)] at hun
        have hcs : i = 0 ∨ i = 1 ∨ i = 2 ∨ i = 3 ∨ i = 4 ∨ i = 5 ∨ i = 6 ∨ i = 7 ∨ i = 8 ∨ i = 9 ∨ i = 10 ∨ i = 11 := by omega
        clear hi12
        rcases hcs with rfl | rfl | rfl | rfl | rfl | rfl | rfl | rfl | rfl | rfl | rfl | rfl
        · simp at hun
        · obtain rfl : e1 = false := by simpa using hun
          refine wpOp_step (o := _) (by simp only [List.getElem?_toArray, List.getElem?_cons_zero, List.getElem?_cons_succ]; exact rfl) (fun K' hK => ?_)
          go_simp
          go_at_call 14
          refine Calls.mono (C1.out _ ((HA.out.to (hb)))) ?_
          rintro e v1 ⟨_, rfl, ⟨_, rfl, A', c', rfl, hc', hnil', hge', ha'⟩, hb1⟩
          refine hK _ _ ⟨keepS _ _ hb1 hS, true, e3, e5, a6, a7, a8, A', A3, c', c3, vo, g6, g7, g8, rfl, rfl, fun _ => rfl, h53, below_call hb hb.size hb1, fun _ => ha', fun h => (F3.out h).to hb1, fun h => by obtain ⟨vs, hF⟩ := F5.out h; exact ⟨vs, hF.below hb1⟩, fun h => ⟨(F6.out h).1, (F6.out h).2.below' hb1⟩, fun h => ⟨(F7.out h).1, (F7.out h).2.below' hb1⟩, fun h => ⟨(F8.out h).1, (F8.out h).2.below' hb1⟩, F67.out⟩
        · simp at hun
        · obtain rfl : e3 = false := by simpa using hun
          obtain rfl : e1 = true := by simpa using ready_after hi (by simp only [List.getElem?_toArray, List.getElem?_cons_zero, List.getElem?_cons_succ]; exact rfl) 1 (by kernel_rfl)
          refine wpOp_step (o := _) (by simp only [List.getElem?_toArray, List.getElem?_cons_zero, List.getElem?_cons_succ]; exact rfl) (fun K' hK => ?_)
          go_simp
          go_at_call 14
          refine Calls.mono (C3.out _ ((HS.out.to (hb)))) ?_
          rintro e v1 ⟨_, rfl, ⟨_, rfl, A', c', rfl, hc', hnil', hge', ha'⟩, hb1⟩
          refine hK _ _ ⟨keepS _ _ hb1 hS, true, true, e5, a6, a7, a8, A1, A', c1, c', vo, g6, g7, g8, rfl, rfl, fun _ => rfl, fun _ => rfl, below_call hb hb.size hb1, fun h => (F1.out h).to hb1, fun _ => ha', fun h => by obtain ⟨vs, hF⟩ := F5.out h; exact ⟨vs, hF.below hb1⟩, fun h => ⟨(F6.out h).1, (F6.out h).2.below' hb1⟩, fun h => ⟨(F7.out h).1, (F7.out h).2.below' hb1⟩, fun h => ⟨(F8.out h).1, (F8.out h).2.below' hb1⟩, F67.out⟩
        · simp at hun
        · obtain rfl : e5 = false := by simpa using hun
          obtain rfl : e3 = true := by simpa using ready_after hi (by simp only [List.getElem?_toArray, List.getElem?_cons_zero, List.getElem?_cons_succ]; exact rfl) 3 (by kernel_rfl)
          obtain rfl : e1 = true := h31 rfl
          refine wpOp_step (o := _) (by simp only [List.getElem?_toArray, List.getElem?_cons_zero, List.getElem?_cons_succ]; exact rfl) (fun K' hK => ?_)
          go_simp
          go_at_call 37
          refine Calls.mono (C5.out _ ((HL.out.below (hb)))) ?_
          rintro e v1 ⟨_, rfl, ⟨vo', vs', rfl, hF'⟩, hb1⟩
          refine hK _ _ ⟨keepS _ _ hb1 hS, true, true, true, a6, a7, a8, A1, A3, c1, c3, vo', g6, g7, g8, rfl, rfl, h31, fun _ => rfl, below_call hb hb.size hb1, fun h => (F1.out h).to hb1, fun h => (F3.out h).to hb1, fun _ => ⟨vs', hF'.base hb.size⟩, fun h => ⟨(F6.out h).1, (F6.out h).2.below' hb1⟩, fun h => ⟨(F7.out h).1, (F7.out h).2.below' hb1⟩, fun h => ⟨(F8.out h).1, (F8.out h).2.below' hb1⟩, F67.out⟩
        · obtain rfl : a6 = false := by simpa using hun
          refine wpOp_step (o := _) (by simp only [List.getElem?_toArray, List.getElem?_cons_zero, List.getElem?_cons_succ]; exact rfl) (fun K' hK => ?_)
          go_simp
          have bn : Below w'.heap.size w' (w'.alloc (.cells #[.int .i64 0, .int .i64 0, .slice none 0 0] 24)) := (Below.refl _ _).alloc (Nat.le_refl _) _
          refine hK _ _ ⟨?_, e1, e3, e5, true, a7, a8, A1, A3, c1, c3, vo, w'.heap.size, g7, g8, rfl, rfl, h31, h53, hb.alloc hb.size _, fun h => (F1.out h).to bn, fun h => (F3.out h).to bn, fun h => by obtain ⟨vs, hF⟩ := F5.out h; exact ⟨vs, hF.below bn⟩, fun _ => ⟨hb.size, Blk.new _ _ _⟩, fun h => ⟨(F7.out h).1, (F7.out h).2.alloc _⟩, fun h => ⟨(F8.out h).1, (F8.out h).2.alloc _⟩, ?_⟩
          · exact keepS _ _ bn hS
          · intro _ h; have := (F7.out h).2.lt; omega
        · obtain rfl : a7 = false := by simpa using hun
          refine wpOp_step (o := _) (by simp only [List.getElem?_toArray, List.getElem?_cons_zero, List.getElem?_cons_succ]; exact rfl) (fun K' hK => ?_)
          go_simp
          have bn : Below w'.heap.size w' (w'.alloc (.cells #[.int .i64 0, .int .i64 0, .slice none 0 0] 24)) := (Below.refl _ _).alloc (Nat.le_refl _) _
          refine hK _ _ ⟨?_, e1, e3, e5, a6, true, a8, A1, A3, c1, c3, vo, g6, w'.heap.size, g8, rfl, rfl, h31, h53, hb.alloc hb.size _, fun h => (F1.out h).to bn, fun h => (F3.out h).to bn, fun h => by obtain ⟨vs, hF⟩ := F5.out h; exact ⟨vs, hF.below bn⟩, fun h => ⟨(F6.out h).1, (F6.out h).2.alloc _⟩, fun _ => ⟨hb.size, Blk.new _ _ _⟩, fun h => ⟨(F8.out h).1, (F8.out h).2.alloc _⟩, ?_⟩
          · exact keepS _ _ bn hS
          · intro h _; have := (F6.out h).2.lt; omega
        · obtain rfl : a8 = false := by simpa using hun
          refine wpOp_step (o := _) (by simp only [List.getElem?_toArray, List.getElem?_cons_zero, List.getElem?_cons_succ]; exact rfl) (fun K' hK => ?_)
          go_simp
          have bn : Below w'.heap.size w' (w'.alloc (.cells #[.slice none 0 0] 54)) := (Below.refl _ _).alloc (Nat.le_refl _) _
          refine hK _ _ ⟨?_, e1, e3, e5, a6, a7, true, A1, A3, c1, c3, vo, g6, g7, w'.heap.size, rfl, rfl, h31, h53, hb.alloc hb.size _, fun h => (F1.out h).to bn, fun h => (F3.out h).to bn, fun h => by obtain ⟨vs, hF⟩ := F5.out h; exact ⟨vs, hF.below bn⟩, fun h => ⟨(F6.out h).1, (F6.out h).2.alloc _⟩, fun h => ⟨(F7.out h).1, (F7.out h).2.alloc _⟩, fun _ => ⟨hb.size, Blk.new _ _ _⟩, ?_⟩
          · exact keepS _ _ bn hS
          · exact F67.out
        · refine absurd ⟨?_, ?_, ?_, ?_⟩ hall
          · simpa using ready_after hi (by simp only [List.getElem?_toArray, List.getElem?_cons_zero, List.getElem?_cons_succ]; exact rfl) 5 (by kernel_rfl)
          · simpa using ready_after hi (by simp only [List.getElem?_toArray, List.getElem?_cons_zero, List.getElem?_cons_succ]; exact rfl) 6 (by kernel_rfl)
          · simpa using ready_after hi (by simp only [List.getElem?_toArray, List.getElem?_cons_zero, List.getElem?_cons_succ]; exact rfl) 7 (by kernel_rfl)
          · simpa using ready_after hi (by simp only [List.getElem?_toArray, List.getElem?_cons_zero, List.getElem?_cons_succ]; exact rfl) 8 (by kernel_rfl)
        · exact absurd (ready_after hi (by simp only [List.getElem?_toArray, List.getElem?_cons_zero, List.getElem?_cons_succ]; exact rfl) 9 (by kernel_rfl)) (by simp)
        · exact absurd (ready_after hi (by simp only [List.getElem?_toArray, List.getElem?_cons_zero, List.getElem?_cons_succ]; exact rfl) 10 (by kernel_rfl)) (by simp)
  case rest =>
  obtain ⟨g6, g7, g8, A1, c1, A3, c3, vo, vs, rfl, rfl, rfl, hb2, k6, k7, k8, a1, a3, hF⟩ := hcut
  obtain ⟨A5, c5, rfl, -, -, LC⟩ := hF.toLines
  have b2 := below_call b1 b1.size hb2
  have K0 : Kp wc [(g6, 24, #[.int .i64 W, .int .i64 H, .slice A1 n c1]), (g7, 24, #[.int .i64 SW, .int .i64 SH, .slice A3 sn c3]), (g8, 54, #[.slice A5 K c5]), (w.heap.size, 24, #[.int .i64 W, .int .i64 H, .slice A n c]), (w.heap.size + 1, 24, #[.int .i64 SW, .int .i64 SH, .slice SA sn sc]), (w.heap.size + 1 + 1, 54, #[.slice AL K cL])] [(A1, n, p), (A3, sn, sp), (A, n, p), (SA, sn, sp)] :=
    ((((((((((Kp.nil wc).addA (hS0.to b2)).addA (hA.to b2)).addA a3).addA a1).addB (k3.below' hb2)).addB (k2.below' hb2)).addB (k1.below' hb2)).addB k8).addB k7).addB k6
  have LO := L0.lines.below b2
  clear HA HS HL p1 p2 p3 q1 q2 q3 p4 y1 y2 y3 hb2 k1 k2 k3 k6 k7 k8 a1 a3 hF C1 C3 C5 b1 hS0 hA L0 hL
  have hnm : n ≤ maxLen := by unfold maxLen; omega
  have hsm : sn ≤ maxLen := by unfold maxLen; omega
  have hmm : ∀ i, i < K → m i ≤ maxLen := fun i hi => by have := hm2 i hi; unfold maxLen; omega
  have hKm : K ≤ maxLen := by unfold maxLen; omega
  obtain ⟨W2, H2, N2, m1⟩ := rsize_ex (recE W H n p K m ln up down) W (up + down + 1) (fun h => by
    obtain ⟨h1, h2, h3, h4⟩ := recE_ok h
    obtain ⟨e1, e2, -⟩ := chk_ok (stChk_ok h1).1
    exact Int.mul_nonneg e1 (by omega))
  obtain ⟨W3, H3, N3, m2⟩ := rsize_ex (resE W H n p SW SH sn sp K m ln up) W H (fun h => by
    obtain ⟨h1, -⟩ := resE_ok h
    obtain ⟨e1, e2, e3, -⟩ := chk_ok h1
    exact Int.mul_nonneg e1 e3)
  have l1 : N2 ≤ 409600 := rsize_le m1 (fun h => by
    obtain ⟨h1, h2, h3, h4⟩ := recE_ok h
    obtain ⟨e1, e2, -⟩ := chk_ok (stChk_ok h1).1
    exact ⟨e1, e2, by omega, h4⟩)
  have l2 : N3 ≤ 409600 := rsize_le m2 (fun h => by
    obtain ⟨h1, -⟩ := resE_ok h
    obtain ⟨e1, e2, e3, e4, -⟩ := chk_ok h1
    exact ⟨e1, e2, e3, e4⟩)
  have D1 := Lib.hid fun w' h' hl => rectify_all W H A1 A5 n c1 K c5 p m ln up down _ W2 H2 N2 w' h' hnm hB hl hmm rfl m1
  have D2 := Lib.hid fun w' h' hl => rrectify_all W H A AL n c K cL p m ln up down _ W2 H2 N2 w' h' hnm hB hl hmm rfl m1
  have D3 := Lib.hid fun w' h' hs hl => restore_all W H SW SH A1 A3 A5 n c1 sn c3 K c5 p sp m ln up _ W3 H3 N3 w' h' (by omega) hs hsm hl hmm rfl m2
  have D4 := Lib.hid fun w' h' hs hl => rrestore_all W H SW SH A SA AL n c sn sc K cL p sp m ln up _ W3 H3 N3 w' h' hnm hB hs hsm hBS hl hmm rfl m2
  have D5 := Lib.hid fun w' (h1 : Lines w' w'.heap.size A5 K m ln) (h2 : Lines w' w'.heap.size AL K m ln) => sameStave_any A5 AL K K c5 cL m m ln ln w' h1 h2 hKm hKm hmm hmm
  rw [show sameL K K m m ln ln = true from sameL_iff.2 ⟨rfl, fun i _ => ⟨rfl, fun _ _ => rfl⟩⟩] at D5
  generalize recE W H n p K m ln up down = E1 at *
  generalize resE W H n p SW SH sn sp K m ln up = E2 at *
  generalize recQ W H p (ln 4) up = Q1 at *
  generalize resQ W H SH p sp (ln 4) up = Q2 at *
  have M1 := Lib.hid m1; have M2 := Lib.hid m2
  clear m1 m2 hmm hm2 hB hBS
  generalize w.heap.size + 1 + 1 = B3 at *
  generalize w.heap.size + 1 = B2 at *
  obtain ⟨p1, p2, p3⟩ := (K0.b 0 rfl).cells3
  have u1 := (K0.b 2 rfl).cells0
  go_wp2_with fail
  refine (D1.out _ (K0.a 0 rfl) LC).mono ?_
  rintro e v1 ⟨_, rfl, ⟨Ax1, cx1, rfl, hgx1, ax1⟩, hb1⟩
  have K1a := (K0.below hb1).addA ax1
  have b1a := below_call b2 b2.size hb1
  have z1 := b1a.size
  have b1 : Below w.heap.size w (v1.alloc (.cells #[.int .i64 W2, .int .i64 H2, .slice Ax1 N2 cx1] 24)) := by (repeat (first | exact Below.refl _ _ | assumption | refine Below.drew ?_ | refine below_drewN ?_ _ | refine Below.alloc ?_ (by first | omega | (simp; done) | (simp; omega)) _ | refine Below.setCell ?_ (by first | omega | (simp; done) | (simp; omega)) _ | refine below_setRow ?_ (by first | omega | (simp; done) | (simp; omega)) _ ))
  have K1 := K1a.new 24 #[.int .i64 W2, .int .i64 H2, .slice Ax1 N2 cx1]
  replace LO := (LO.below hb1).below ((Below.refl _ _).alloc (Nat.le_refl _) (.cells #[.int .i64 W2, .int .i64 H2, .slice Ax1 N2 cx1] 24))
  replace LC := (LC.below hb1).below ((Below.refl _ _).alloc (Nat.le_refl _) (.cells #[.int .i64 W2, .int .i64 H2, .slice Ax1 N2 cx1] 24))
  clear K0 b2 K1a b1a hb1 ax1 hgx1 p1 p2 p3 u1 z1 D1
  obtain ⟨p1, p2, p3⟩ := (K1.b 4 rfl).cells3
  have u1 := (K1.b 6 rfl).cells0
  go_wp2_with fail
  generalize v1.alloc (.cells #[.int .i64 W2, .int .i64 H2, .slice Ax1 N2 cx1] 24) = w1 at *
  refine (D2.out _ (K1.a 3 rfl) LO).mono ?_
  rintro e v2 ⟨_, rfl, ⟨Ay1, cy1, rfl, hgy1, ay1⟩, hb2⟩
  have K2a := (K1.below hb2).addA ay1
  have b2a := below_call b1 b1.size hb2
  have z2 := b2a.size
  have b2 : Below w.heap.size w (v2.alloc (.cells #[.int .i64 W2, .int .i64 H2, .slice Ay1 N2 cy1] 24)) := by (repeat (first | exact Below.refl _ _ | assumption | refine Below.drew ?_ | refine below_drewN ?_ _ | refine Below.alloc ?_ (by first | omega | (simp; done) | (simp; omega)) _ | refine Below.setCell ?_ (by first | omega | (simp; done) | (simp; omega)) _ | refine below_setRow ?_ (by first | omega | (simp; done) | (simp; omega)) _ ))
  have K2 := K2a.new 24 #[.int .i64 W2, .int .i64 H2, .slice Ay1 N2 cy1]
  replace LO := (LO.below hb2).below ((Below.refl _ _).alloc (Nat.le_refl _) (.cells #[.int .i64 W2, .int .i64 H2, .slice Ay1 N2 cy1] 24))
  replace LC := (LC.below hb2).below ((Below.refl _ _).alloc (Nat.le_refl _) (.cells #[.int .i64 W2, .int .i64 H2, .slice Ay1 N2 cy1] 24))
  clear K1 b1 K2a b2a hb2 ay1 hgy1 p1 p2 p3 u1 z2 D2
  obtain ⟨p1, p2, p3⟩ := (K2.b 2 rfl).cells3
  obtain ⟨r1, r2, r3⟩ := (K2.b 3 rfl).cells3
  have u1 := (K2.b 4 rfl).cells0
  go_wp2_with fail
  generalize v2.alloc (.cells #[.int .i64 W2, .int .i64 H2, .slice Ay1 N2 cy1] 24) = w2 at *
  refine (D3.out _ (K2.a 2 rfl) (K2.a 3 rfl) LC).mono ?_
  rintro e v3 ⟨_, rfl, ⟨Ax2, cx2, rfl, hgx2, ax2⟩, hb3⟩
  have K3a := (K2.below hb3).addA ax2
  have b3a := below_call b2 b2.size hb3
  have z3 := b3a.size
  have b3 : Below w.heap.size w (v3.alloc (.cells #[.int .i64 W3, .int .i64 H3, .slice Ax2 N3 cx2] 24)) := by (repeat (first | exact Below.refl _ _ | assumption | refine Below.drew ?_ | refine below_drewN ?_ _ | refine Below.alloc ?_ (by first | omega | (simp; done) | (simp; omega)) _ | refine Below.setCell ?_ (by first | omega | (simp; done) | (simp; omega)) _ | refine below_setRow ?_ (by first | omega | (simp; done) | (simp; omega)) _ ))
  have K3 := K3a.new 24 #[.int .i64 W3, .int .i64 H3, .slice Ax2 N3 cx2]
  replace LO := (LO.below hb3).below ((Below.refl _ _).alloc (Nat.le_refl _) (.cells #[.int .i64 W3, .int .i64 H3, .slice Ax2 N3 cx2] 24))
  replace LC := (LC.below hb3).below ((Below.refl _ _).alloc (Nat.le_refl _) (.cells #[.int .i64 W3, .int .i64 H3, .slice Ax2 N3 cx2] 24))
  clear K2 b2 K3a b3a hb3 ax2 hgx2 p1 p2 p3 r1 r2 r3 u1 z3 D3
  obtain ⟨p1, p2, p3⟩ := (K3.b 6 rfl).cells3
  obtain ⟨r1, r2, r3⟩ := (K3.b 7 rfl).cells3
  have u1 := (K3.b 8 rfl).cells0
  go_wp2_with fail
  generalize v3.alloc (.cells #[.int .i64 W3, .int .i64 H3, .slice Ax2 N3 cx2] 24) = w3 at *
  refine (D4.out _ (K3.a 5 rfl) (K3.a 6 rfl) LO).mono ?_
  rintro e v4 ⟨_, rfl, ⟨Ay2, cy2, rfl, hgy2, ay2⟩, hb4⟩
  have K4a := (K3.below hb4).addA ay2
  have b4a := below_call b3 b3.size hb4
  have z4 := b4a.size
  have b4 : Below w.heap.size w (v4.alloc (.cells #[.int .i64 W3, .int .i64 H3, .slice Ay2 N3 cy2] 24)) := by (repeat (first | exact Below.refl _ _ | assumption | refine Below.drew ?_ | refine below_drewN ?_ _ | refine Below.alloc ?_ (by first | omega | (simp; done) | (simp; omega)) _ | refine Below.setCell ?_ (by first | omega | (simp; done) | (simp; omega)) _ | refine below_setRow ?_ (by first | omega | (simp; done) | (simp; omega)) _ ))
  have K4 := K4a.new 24 #[.int .i64 W3, .int .i64 H3, .slice Ay2 N3 cy2]
  replace LO := (LO.below hb4).below ((Below.refl _ _).alloc (Nat.le_refl _) (.cells #[.int .i64 W3, .int .i64 H3, .slice Ay2 N3 cy2] 24))
  replace LC := (LC.below hb4).below ((Below.refl _ _).alloc (Nat.le_refl _) (.cells #[.int .i64 W3, .int .i64 H3, .slice Ay2 N3 cy2] 24))
  clear K3 b3 K4a b4a hb4 ay2 hgy2 p1 p2 p3 r1 r2 r3 u1 z4 D4
  obtain ⟨p1, p2, p3⟩ := (K4.b 3 rfl).cells3
  obtain ⟨r1, r2, r3⟩ := (K4.b 2 rfl).cells3
  go_wp2_with fail
  generalize v4.alloc (.cells #[.int .i64 W3, .int .i64 H3, .slice Ay2 N3 cy2] 24) = w4 at *
  refine (sameInk_true W2 H2 Ax1 Ay1 N2 cx1 cy1 Q1 Q1 _ (K4.a 3 rfl) (K4.a 2 rfl) (by unfold maxLen; omega) (fun _ _ _ => rfl)).mono ?_
  rintro e v5 ⟨rfl, hb5⟩
  replace LO := LO.below hb5
  replace LC := LC.below hb5
  have K5 := K4.below hb5
  have b5 := below_call b4 b4.size hb5
  clear K4 b4 hb5 p1 p2 p3 r1 r2 r3 
  obtain ⟨p1, p2, p3⟩ := (K5.b 1 rfl).cells3
  obtain ⟨r1, r2, r3⟩ := (K5.b 0 rfl).cells3
  go_wp2_with fail
  refine (sameInk_true W3 H3 Ax2 Ay2 N3 cx2 cy2 Q2 Q2 _ (K5.a 1 rfl) (K5.a 0 rfl) (by unfold maxLen; omega) (fun _ _ _ => rfl)).mono ?_
  rintro e v6 ⟨rfl, hb6⟩
  replace LO := LO.below hb6
  replace LC := LC.below hb6
  have K6 := K5.below hb6
  have b6 := below_call b5 b5.size hb6
  clear K5 b5 hb6 p1 p2 p3 r1 r2 r3 
  obtain ⟨p1, p2, p3⟩ := (K6.b 4 rfl).cells3
  obtain ⟨r1, r2, r3⟩ := (K6.b 7 rfl).cells3
  go_wp2_with fail
  refine (sameInk_true W H A1 A n c1 c p p _ (K6.a 4 rfl) (K6.a 6 rfl) (by unfold maxLen; omega) (fun _ _ _ => rfl)).mono ?_
  rintro e v7 ⟨rfl, hb7⟩
  replace LO := LO.below hb7
  replace LC := LC.below hb7
  have K7 := K6.below hb7
  have b7 := below_call b6 b6.size hb7
  clear K6 b6 hb7 p1 p2 p3 r1 r2 r3 
  obtain ⟨p1, p2, p3⟩ := (K7.b 5 rfl).cells3
  obtain ⟨r1, r2, r3⟩ := (K7.b 8 rfl).cells3
  go_wp2_with fail
  refine (sameInk_true SW SH A3 SA sn c3 sc sp sp _ (K7.a 5 rfl) (K7.a 7 rfl) (by unfold maxLen; omega) (fun _ _ _ => rfl)).mono ?_
  rintro e v8 ⟨rfl, hb8⟩
  replace LO := LO.below hb8
  replace LC := LC.below hb8
  have K8 := K7.below hb8
  have b8 := below_call b7 b7.size hb8
  clear K7 b7 hb8 p1 p2 p3 r1 r2 r3 
  have u1 := (K8.b 6 rfl).cells0
  have u2 := (K8.b 9 rfl).cells0
  go_wp2_with fail
  refine (D5.out _ LC LO).mono ?_
  rintro e v9 ⟨rfl, hb9⟩
  replace LO := LO.below hb9
  replace LC := LC.below hb9
  have K9 := K8.below hb9
  have b9 := below_call b8 b8.size hb9
  clear K8 b8 hb9 u1 u2 
  go_wp2
  go_ret
  exact ⟨rfl, b9⟩
end Go.Proofs.Ytdimlpcbbkokiaa

/- Walk: StaveStrips. Written by gen/t44.py. -/
namespace Go.Proofs.Ytdimlpcbbkokiaa
open Go.RowKit Go.Shelf
set_option linter.unusedVariables false
attribute [local go_sem] Oper.semAt_some
theorem LinesIn.to {w w' : World} {A : Option Addr} {K c : Nat} {m : Nat → Nat} {ln : Nat → Nat → Int} (h : LinesIn w A K c m ln) (hb : Below w.heap.size w w') : LinesIn w' A K c m ln := ⟨h.nil, h.le, h.lines.below hb, h.lens, h.outer, h.wf⟩
set_option maxRecDepth 100000 in
set_option maxHeartbeats 4000000 in
theorem staveStrips_any (W H SW SH up down : Int) (A SA AL : Option Addr) (n c sn sc K cL : Nat) (p sp : Int → Int) (m : Nat → Nat) (ln : Nat → Nat → Int) (w : World)
    (hA : ArrB w w.heap.size A n p) (hB : IsB p) (hcA : A = none → c = 0) (hS : ArrB w w.heap.size SA sn sp) (hBS : IsB sp) (hcS : SA = none → sc = 0) (hL : LinesIn w AL K cL m ln) :
    Calls Try.prog 8 #[.agg #[.int .i64 W, .int .i64 H, .slice A n c], .agg #[.int .i64 SW, .int .i64 SH, .slice SA sn sc], .agg #[.slice AL K cL], .int .i64 up, .int .i64 down] w fun e w' => e = .returned (.bool true) ∧ Below w.heap.size w w' := by
  have AW := Lib.hid fun w' => awake3_any w'
  have F1 := Lib.hid fun w' => few_any W H A n c w'
  have F2 := Lib.hid fun w' => few_any SW SH SA sn sc w'
  have b1 : Below w.heap.size w (((w.alloc (.cells #[.int .i64 W, .int .i64 H, .slice A n c] 24)).alloc (.cells #[.int .i64 SW, .int .i64 SH, .slice SA sn sc] 24)).alloc (.cells #[.slice AL K cL] 54)) := by (repeat (first | exact Below.refl _ _ | assumption | refine Below.drew ?_ | refine below_drewN ?_ _ | refine Below.alloc ?_ (by first | omega | (simp; done) | (simp; omega)) _ | refine Below.setCell ?_ (by first | omega | (simp; done) | (simp; omega)) _ | refine below_setRow ?_ (by first | omega | (simp; done) | (simp; omega)) _ ))
  have k1 : Blk (((w.alloc (.cells #[.int .i64 W, .int .i64 H, .slice A n c] 24)).alloc (.cells #[.int .i64 SW, .int .i64 SH, .slice SA sn sc] 24)).alloc (.cells #[.slice AL K cL] 54)) w.heap.size 24 #[.int .i64 W, .int .i64 H, .slice A n c] := ((Blk.new _ _ _).alloc _).alloc _
  have k2 : Blk (((w.alloc (.cells #[.int .i64 W, .int .i64 H, .slice A n c] 24)).alloc (.cells #[.int .i64 SW, .int .i64 SH, .slice SA sn sc] 24)).alloc (.cells #[.slice AL K cL] 54)) (w.heap.size + 1) 24 #[.int .i64 SW, .int .i64 SH, .slice SA sn sc] := (Blk.new' (by simp) _ _).alloc _
  have k3 : Blk (((w.alloc (.cells #[.int .i64 W, .int .i64 H, .slice A n c] 24)).alloc (.cells #[.int .i64 SW, .int .i64 SH, .slice SA sn sc] 24)).alloc (.cells #[.slice AL K cL] 54)) (w.heap.size + 1 + 1) 54 #[.slice AL K cL] := Blk.new' (by simp) _ _
  have ST := Lib.hid fun w' (hb : Below w.heap.size w w') (h1 : n ≤ 6000) (h2 : sn ≤ 6000) => strips_any W H SW SH up down A SA AL n c sn sc K cL p sp m ln w' (hA.to hb) h1 hB hcA (hS.to hb) h2 hBS hcS (hL.to hb)
  clear hA hS hL
  by_cases h1 : (n : Int) ≤ 6000
  · rw [decide_eq_true h1] at F1
    by_cases h2 : (sn : Int) ≤ 6000
    · rw [decide_eq_true h2] at F2
      go_enter Try.func8, Try.ntmps8
      go_wp2_with fail
      generalize (((w.alloc (.cells #[.int .i64 W, .int .i64 H, .slice A n c] 24)).alloc (.cells #[.int .i64 SW, .int .i64 SH, .slice SA sn sc] 24)).alloc (.cells #[.slice AL K cL] 54)) = w1 at *
      refine (F1.out _).mono ?_
      rintro e w2 ⟨rfl, hb2⟩
      have b2 := below_call b1 b1.size hb2
      replace k1 := k1.below' hb2
      replace k2 := k2.below' hb2
      replace k3 := k3.below' hb2
      clear hb2 
      obtain ⟨p1, p2, p3⟩ := k1.cells3
      obtain ⟨q1, q2, q3⟩ := k2.cells3
      go_wp2_with fail
      refine (F2.out _).mono ?_
      rintro e w3 ⟨rfl, hb3⟩
      have b3 := below_call b2 b2.size hb3
      replace k1 := k1.below' hb3
      replace k2 := k2.below' hb3
      replace k3 := k3.below' hb3
      clear hb3 p1 p2 p3 q1 q2 q3
      obtain ⟨p1, p2, p3⟩ := k1.cells3
      obtain ⟨q1, q2, q3⟩ := k2.cells3
      have p4 := k3.cells0
      go_wp2_with fail
      refine (ST.out _ b3 (by omega) (by omega)).mono ?_
      rintro e w4 ⟨rfl, hb4⟩
      have b4 := below_call b3 b3.size hb4
      replace k1 := k1.below' hb4
      replace k2 := k2.below' hb4
      replace k3 := k3.below' hb4
      clear hb4 p1 p2 p3 q1 q2 q3 p4
      go_wp2_with fail
      refine (AW.out _).mono ?_
      rintro e w5 ⟨rfl, hb5⟩
      have b5 := below_call b4 b4.size hb5
      replace k1 := k1.below' hb5
      replace k2 := k2.below' hb5
      replace k3 := k3.below' hb5
      clear hb5 
      go_wp2
      go_ret
      exact ⟨rfl, b5⟩
    · rw [decide_eq_false h2] at F2
      clear ST
      go_enter Try.func8, Try.ntmps8
      go_wp2_with fail
      generalize (((w.alloc (.cells #[.int .i64 W, .int .i64 H, .slice A n c] 24)).alloc (.cells #[.int .i64 SW, .int .i64 SH, .slice SA sn sc] 24)).alloc (.cells #[.slice AL K cL] 54)) = w1 at *
      refine (F1.out _).mono ?_
      rintro e w2 ⟨rfl, hb2⟩
      have b2 := below_call b1 b1.size hb2
      replace k1 := k1.below' hb2
      replace k2 := k2.below' hb2
      replace k3 := k3.below' hb2
      clear hb2 
      obtain ⟨p1, p2, p3⟩ := k1.cells3
      obtain ⟨q1, q2, q3⟩ := k2.cells3
      go_wp2_with fail
      refine (F2.out _).mono ?_
      rintro e w3 ⟨rfl, hb3⟩
      have b3 := below_call b2 b2.size hb3
      replace k1 := k1.below' hb3
      replace k2 := k2.below' hb3
      replace k3 := k3.below' hb3
      clear hb3 p1 p2 p3 q1 q2 q3
      go_wp2_with fail
      refine (AW.out _).mono ?_
      rintro e w4 ⟨rfl, hb4⟩
      have b4 := below_call b3 b3.size hb4
      replace k1 := k1.below' hb4
      replace k2 := k2.below' hb4
      replace k3 := k3.below' hb4
      clear hb4 
      go_wp2
      go_ret
      exact ⟨rfl, b4⟩
  · rw [decide_eq_false h1] at F1
    clear ST F2
    go_enter Try.func8, Try.ntmps8
    go_wp2_with fail
    generalize (((w.alloc (.cells #[.int .i64 W, .int .i64 H, .slice A n c] 24)).alloc (.cells #[.int .i64 SW, .int .i64 SH, .slice SA sn sc] 24)).alloc (.cells #[.slice AL K cL] 54)) = w1 at *
    refine (F1.out _).mono ?_
    rintro e w2 ⟨rfl, hb2⟩
    have b2 := below_call b1 b1.size hb2
    replace k1 := k1.below' hb2
    replace k2 := k2.below' hb2
    replace k3 := k3.below' hb2
    clear hb2 
    go_wp2_with fail
    refine (AW.out _).mono ?_
    rintro e w3 ⟨rfl, hb3⟩
    have b3 := below_call b2 b2.size hb3
    replace k1 := k1.below' hb3
    replace k2 := k2.below' hb3
    replace k3 := k3.below' hb3
    clear hb3 
    go_wp2
    go_ret
    exact ⟨rfl, b3⟩
end Go.Proofs.Ytdimlpcbbkokiaa
