/- Walk: a path as numbers say (custoslaw03.walk): whatever the numbers, it is a path. -/
import Derived.Test.YtdimlpcbbkokiaaT13
import Derived.Deep.RegionLaw
import Derived.Test.YtdimlpcbbkokiaaW21
import Derived.Deep.AppendLies
namespace Go.Proofs.Ytdimlpcbbkokiaa
open Go.RowKit Go.Shelf
set_option linter.unusedVariables false
attribute [local go_sem] Oper.semAt_some

theorem and_three_u8 (E : Int) (h0 : 0 ≤ E) (h1 : E ≤ 255) : bits BinOp.and IntKind.u8 E 3 = E % 4 := by
  have h : ∀ k : Fin 256, bits BinOp.and IntKind.u8 (k.val : Int) 3 = (k.val : Int) % 4 := by decide +kernel
  have := h ⟨E.toNat, by omega⟩
  simpa [Int.toNat_of_nonneg h0] using this
/-- a path of an image, column by column -/
def IsP (W H : Int) (l : Nat → Int) (n : Nat) : Prop := (∀ x, x < n → 0 ≤ l x ∧ l x < H) ∧ ∀ x, x + 1 < n → l x - 1 ≤ l (x + 1) ∧ l (x + 1) ≤ l x + 1
theorem IsP.snoc {W H : Int} {l : Nat → Int} {y : Nat} {v : Int} (h : IsP W H l (y + 1)) (h0 : 0 ≤ v) (h1 : v < H) (h2 : l y - 1 ≤ v) (h3 : v ≤ l y + 1) : IsP W H (fun i => if i = y + 1 then v else l i) (y + 1 + 1) := by
  refine ⟨fun x hx => ?_, fun x hx => ?_⟩
  · show 0 ≤ (if x = y + 1 then v else l x) ∧ (if x = y + 1 then v else l x) < H
    by_cases e : x = y + 1
    · rw [if_pos e]; exact ⟨h0, h1⟩
    · rw [if_neg e]; exact h.1 x (by omega)
  · show (if x = y + 1 then v else l x) - 1 ≤ (if x + 1 = y + 1 then v else l (x + 1)) ∧ (if x + 1 = y + 1 then v else l (x + 1)) ≤ (if x = y + 1 then v else l x) + 1
    rw [if_neg (by omega : ¬ x = y + 1)]
    by_cases e : x = y
    · subst e; rw [if_pos rfl]; exact ⟨h2, h3⟩
    · rw [if_neg (by omega)]; exact h.2 x (by omega)
theorem map_snoc (l : Nat → Int) (y : Nat) (v : Int) : (List.range (y + 1 + 1)).map (fun j => Value.int .i64 (if j = y + 1 then v else l j)) = (List.range (y + 1)).map (fun j => Value.int .i64 (l j)) ++ [.int .i64 v] := by
  rw [range_snoc, if_pos rfl]
  congr 1
  exact List.map_congr_left fun i hi => by rw [if_neg]; have := List.mem_range.1 hi; omega

set_option maxRecDepth 100000 in
set_option maxHeartbeats 3000000 in
theorem walk_any (W H f : Int) (A B : Option Addr) (n c m d : Nat) (r : Int → Int) (w : World) (hB : ArrB w w.heap.size B m r) (hm : m ≤ maxLen) (hr : IsB r) (hf : 0 ≤ f ∧ f ≤ 255) (hW : 1 ≤ W ∧ W ≤ 640) (hH : 1 ≤ H ∧ H ≤ 640) :
    Calls Try.prog 25 #[.agg #[.int .i64 W, .int .i64 H, .slice A n c], .int .u8 f, .slice B m d] w (New w fun v w' => ∃ l, IsP W H l W.toNat ∧ w'.ownsRow w.heap.size 3 1 v W.toNat ((List.range W.toNat).map fun j => Value.int .i64 (l j))) := by
  obtain ⟨hf1, hf2⟩ := hf; obtain ⟨hW1, hW2⟩ := hW; obtain ⟨hH1, hH2⟩ := hH
  obtain ⟨i0, hi0, hz0, hz1, hz2⟩ := info_parts infoInt
  have v1 : IntKind.i64.wrap f = f := IntWalk.i64_in _ (by omega)
  have v2 : f.tmod H = f % H := Int.tmod_eq_emod_of_nonneg hf1
  have bH : (H == 0) = false := by simp; omega
  have nH : ¬ H = 0 := by omega
  have fm1 : 0 ≤ f % H := Int.emod_nonneg _ (by omega)
  have fm2 : f % H < H := Int.emod_lt_of_pos _ (by omega)
  go_enter Try.func25, Try.ntmps25
  go_wp2_with fail
  have b1 : Below w.heap.size w ((w.alloc (.cells #[.int .i64 W, .int .i64 H, .slice A n c] 24)).alloc (.cells #[.int .i64 (f % H)] 3)) := by (repeat (first | exact Below.refl _ _ | assumption | refine Below.drew ?_ | refine below_drewN ?_ _ | refine Below.alloc ?_ (by first | omega | (simp; done) | (simp; omega)) _ | refine Below.setCell ?_ (by first | omega | (simp; done) | (simp; omega)) _ | refine below_setRow ?_ (by first | omega | (simp; done) | (simp; omega)) _ ))
  have k1 : Blk ((w.alloc (.cells #[.int .i64 W, .int .i64 H, .slice A n c] 24)).alloc (.cells #[.int .i64 (f % H)] 3)) w.heap.size 24 #[.int .i64 W, .int .i64 H, .slice A n c] := (Blk.new _ _ _).alloc _
  have o1 : ((w.alloc (.cells #[.int .i64 W, .int .i64 H, .slice A n c] 24)).alloc (.cells #[.int .i64 (f % H)] 3)).ownsRow w.heap.size 3 1 (.slice (some ⟨w.heap.size + 1, 0, none⟩) 1 1) 1 [.int .i64 (f % H)] := own_one (Blk.new' (by simp) _ _) (by omega)
  go_loopw [7, 8] (fun vo s wr => ∃ (y : Nat) (l : Nat → Int), (y : Int) + 1 ≤ W ∧ s = .int .i64 ((y : Int) + 1) ∧ IsP W H l (y + 1) ∧ wr.ownsRow w.heap.size 3 1 vo (y + 1) ((List.range (y + 1)).map fun j => Value.int .i64 (l j)) ∧ Below w.heap.size w wr ∧ Blk wr w.heap.size 24 #[.int .i64 W, .int .i64 H, .slice A n c]) (fun _ s _ => (W + 1 - intOf s).toNat)
  case atStart => exact ⟨0, fun _ => f % H, by omega, rfl, ⟨fun x _ => ⟨fm1, fm2⟩, fun x _ => ⟨by omega, by omega⟩⟩, o1, b1, k1⟩
  case round =>
    obtain ⟨y, l, hy, rfl, hP, own, b2, k2⟩ := hrel
    clear o1 b1 k1 v1 v2 fm1 fm2
    obtain ⟨p1, p2, p3⟩ := k2.cells3
    have ln := own_len own
    obtain ⟨X, hX⟩ : ∃ X : Int, (y : Int) + 1 = X := ⟨_, rfl⟩
    rw [hX] at hy ⊢
    by_cases hlt : X < W
    · have X0 : 1 ≤ X := by omega
      have HX := Lib.hid hX
      clear hX
      obtain ⟨A7, c7, rfl, ha7⟩ := own_arrI own
      obtain ⟨b7, off7, rfl, hb7, hc7⟩ := ArrI.fn ha7 (by omega)
      obtain ⟨a0, a1⟩ := hP.1 y (by omega)
      have q1 := hc7 (X - 1) (by have := HX.out; omega) (by have := HX.out; omega)
      rw [show (X - 1).toNat = y by have := HX.out; omega] at q1
      obtain ⟨J, hJ⟩ : ∃ J : Int, X - 1 = J := ⟨_, rfl⟩
      have w1 : IntKind.i64.wrap (X - 1) = J := by rw [hJ]; exact IntWalk.i64_in _ (by omega)
      have J0 : 0 ≤ J := by omega
      have J1 : J < (y : Int) + 1 := by have := HX.out; omega
      have J2 : J.toNat = y := by have := HX.out; omega
      clear hJ hc7
      obtain ⟨a, ha⟩ : ∃ a : Int, l y = a := ⟨_, rfl⟩
      rw [ha] at q1 a0 a1
      have q2 : wr.cell? ⟨b7, off7 + J.toNat, none⟩ = some (.int .i64 a) := by rw [J2]; exact q1
      have HA := Lib.hid ha
      have w3 : IntKind.i64.wrap (H - 1) = H - 1 := IntWalk.i64_in _ (by omega)
      have w5 : IntKind.i64.wrap a = a := IntWalk.i64_in _ (by omega)
      have yb : y + 1 ≤ 640 := by have := HX.out; omega
      have w4 : IntKind.i64.wrap (X + 1) = X + 1 := IntWalk.i64_in _ (by omega)
      clear ha J2 q1 ha7
      have HP := Lib.hid hP
      have z2 := b2.size
      have q0 : 0 ≤ X := by omega
      have t0 : X.tdiv 4 = X / 4 := Int.tdiv_eq_ediv_of_nonneg q0
      have t1 : IntKind.i64.wrap (X / 4) = X / 4 := IntWalk.i64_in _ (by omega)
      have t2 : X.tmod 4 = X % 4 := Int.tmod_eq_emod_of_nonneg q0
      by_cases hd : X / 4 < m
      · have d0 : 0 ≤ X / 4 := by omega
        obtain ⟨b, off, rfl, hb, hcell⟩ := ArrB.at_ (ArrB.below hB b2) d0 hd
        obtain ⟨r1, r2⟩ := hr (X / 4)
        have hv : 0 ≤ r (X / 4) / 2 ^ (2 * (X % 4)).toNat ∧ r (X / 4) / 2 ^ (2 * (X % 4)).toNat ≤ 255 := by
          have h1 : (0 : Int) < 2 ^ (2 * (X % 4)).toNat := Int.pow_pos (by omega)
          exact ⟨Int.ediv_nonneg r1 (by omega), Int.le_trans (Int.ediv_le_self _ r1) r2⟩
        obtain ⟨hv1, hv2⟩ := hv
        have bv := and_three_u8 _ hv1 hv2
        obtain ⟨E, hE⟩ : ∃ E : Int, r (X / 4) / 2 ^ (2 * (X % 4)).toNat % 4 = E := ⟨_, rfl⟩
        have E0 : 0 ≤ E := by omega
        have E1 : E ≤ 3 := by omega
        rw [hE] at bv
        have t3 : IntKind.i64.wrap (2 * (X % 4)) = 2 * (X % 4) := IntWalk.i64_in _ (by omega)
        have t4 : IntKind.i64.wrap E = E := IntWalk.i64_in _ (by omega)
        obtain ⟨e, he⟩ : ∃ e : Int, E - 1 = e := ⟨_, rfl⟩
        have t5 : IntKind.i64.wrap (E - 1) = e := by rw [he]; exact IntWalk.i64_in _ (by omega)
        have e0 : 0 ≤ 2 * (X % 4) := by omega
        have e1 : 2 * (X % 4) < 8 := by omega
        have e2 : -1 ≤ e := by omega
        clear hE he hP hB
        by_cases h1 : 1 < e
        · have w2 : IntKind.i64.wrap (a + 0) = a + 0 := IntWalk.i64_in _ (by omega)
          go_wp2_with fail
          go_region_law
            (refine step_append_lies _ (by rfl) _ _ _ (by rfl) w.heap.size 3 i0 (.int .i64 0) 1 8 Try.underlying25 hi0 hz0 hz1 hz2 rfl (by omega) _ _ _ (by rfl) ((own.alloc _).drew) ⟨wr.heap.size, 0, none⟩ 1 1 [.int .i64 _] (by rfl) (by rfl) (World.news_of_block (cs := #[.int .i64 _]) (t := 3) (fr := (0, 0)) (heap_alloc_new wr _)) (by simp [Value.oneCell']) (by omega) (by unfold maxLen; omega) (by omega) (by first | omega | (simp; omega)) (wr.heap.size + 1) (by simp) ?_
             intro gg cap w7 hown1 hgrow hat hlt1)
          all_goals
            have b7' : Below w.heap.size w w7 := ((b2.alloc b2.size (.cells #[.int .i64 (min (max a 0) (H - 1))] 3)).drew).grown hgrow (by simp; omega) (fun k hk => (own_ge own hk).1)
            have k7 := ((k2.alloc (.cells #[.int .i64 (min (max a 0) (H - 1))] 3)).drew).grown hgrow (own_neB own k2 (by decide))
            have hP' := HP.out.snoc (v := min (max a 0) (H - 1)) (by omega) (by omega) (by rw [HA.out]; omega) (by rw [HA.out]; omega)
            clear own hgrow hat
            go_wp2
            go_roundw
            case rel => exact ⟨y + 1, _, by have := HX.out; omega, (by have := HX.out; congr 1; omega), hP', by rw [map_snoc]; exact hown1, b7', k7⟩
            case measure => simp [intOf]; omega
        · have w2 : IntKind.i64.wrap (a + e) = a + e := IntWalk.i64_in _ (by omega)
          go_wp2_with fail
          go_region_law
            (refine step_append_lies _ (by rfl) _ _ _ (by rfl) w.heap.size 3 i0 (.int .i64 0) 1 8 Try.underlying25 hi0 hz0 hz1 hz2 rfl (by omega) _ _ _ (by rfl) ((own.alloc _).drew) ⟨wr.heap.size, 0, none⟩ 1 1 [.int .i64 _] (by rfl) (by rfl) (World.news_of_block (cs := #[.int .i64 _]) (t := 3) (fr := (0, 0)) (heap_alloc_new wr _)) (by simp [Value.oneCell']) (by omega) (by unfold maxLen; omega) (by omega) (by first | omega | (simp; omega)) (wr.heap.size + 1) (by simp) ?_
             intro gg cap w7 hown1 hgrow hat hlt1)
          all_goals
            have b7' : Below w.heap.size w w7 := ((b2.alloc b2.size (.cells #[.int .i64 (min (max (a + e) 0) (H - 1))] 3)).drew).grown hgrow (by simp; omega) (fun k hk => (own_ge own hk).1)
            have k7 := ((k2.alloc (.cells #[.int .i64 (min (max (a + e) 0) (H - 1))] 3)).drew).grown hgrow (own_neB own k2 (by decide))
            have hP' := HP.out.snoc (v := min (max (a + e) 0) (H - 1)) (by omega) (by omega) (by rw [HA.out]; omega) (by rw [HA.out]; omega)
            clear own hgrow hat
            go_wp2
            go_roundw
            case rel => exact ⟨y + 1, _, by have := HX.out; omega, (by have := HX.out; congr 1; omega), hP', by rw [map_snoc]; exact hown1, b7', k7⟩
            case measure => simp [intOf]; omega
      · clear hP hB
        have w2 : IntKind.i64.wrap (a + 0) = a + 0 := IntWalk.i64_in _ (by omega)
        go_wp2_with fail
        go_region_law
          (refine step_append_lies _ (by rfl) _ _ _ (by rfl) w.heap.size 3 i0 (.int .i64 0) 1 8 Try.underlying25 hi0 hz0 hz1 hz2 rfl (by omega) _ _ _ (by rfl) ((own.alloc _).drew) ⟨wr.heap.size, 0, none⟩ 1 1 [.int .i64 _] (by rfl) (by rfl) (World.news_of_block (cs := #[.int .i64 _]) (t := 3) (fr := (0, 0)) (heap_alloc_new wr _)) (by simp [Value.oneCell']) (by omega) (by unfold maxLen; omega) (by omega) (by first | omega | (simp; omega)) (wr.heap.size + 1) (by simp) ?_
           intro gg cap w7 hown1 hgrow hat hlt1)
        all_goals
          have b7' : Below w.heap.size w w7 := ((b2.alloc b2.size (.cells #[.int .i64 (min (max a 0) (H - 1))] 3)).drew).grown hgrow (by simp; omega) (fun k hk => (own_ge own hk).1)
          have k7 := ((k2.alloc (.cells #[.int .i64 (min (max a 0) (H - 1))] 3)).drew).grown hgrow (own_neB own k2 (by decide))
          have hP' := HP.out.snoc (v := min (max a 0) (H - 1)) (by omega) (by omega) (by rw [HA.out]; omega) (by rw [HA.out]; omega)
          clear own hgrow hat
          go_wp2
          go_roundw
          case rel => exact ⟨y + 1, _, by have := HX.out; omega, (by have := HX.out; congr 1; omega), hP', by rw [map_snoc]; exact hown1, b7', k7⟩
          case measure => simp [intOf]; omega
    · have e : W.toNat = y + 1 := by omega
      go_wp2
      go_ret
      have e2 : W.toNat = y + 1 := by omega
      refine ⟨_, rfl, ⟨l, ?_, ?_⟩, b2⟩
      · first | exact hP | (rw [e2]; exact hP)
      · show wr.ownsRow _ _ _ u7 _ _
        rw [range_snoc] at own
        exact own
end Go.Proofs.Ytdimlpcbbkokiaa
