/- Texts of mine in build order: I8. Conditions: each theorem's own. -/
import Derived.Test.YtoonkpjddfiopaaDoorMImageSetsx5
/- Walk: the reference's components. Written by gen/i8.py. -/
namespace Go.Proofs.YtoonkpjddfiopaaDoor
open Go.RowKit Go.Shelf
set_option linter.unusedVariables false
attribute [local go_sem] Oper.semAt_some

def boolN (v : Value) : Nat := match v with | .bool true => 1 | _ => 0
def celI (w : World) (a : Addr) : Int := match w.cell? a with | some v => intOf v | none => 0
/-- the sum of a row of numbers -/
def sumW (g n : Nat) (w : World) : Nat := (sumN n fun j => celI w ⟨g, j.toNat, none⟩).toNat
theorem sumW_of {g n : Nat} {w : World} {q : Int → Int} (h : Blk w g 3 (i64s n q)) : sumW g n w = (sumN n q).toNat := by
  unfold sumW
  rw [sumN_congr fun i h0 h1 => ?_]
  unfold celI
  rw [h.i64at h0 h1]; rfl
theorem info_Cr : (Tryd.prog.info? 48).map (fun i => (i.zero, i.size, i.bytes)) = some (some (.agg #[.int .i64 0, .int .i64 0, .int .i64 0, .int .i64 0, .slice none 0 0]), 5, 56) := by kernel_rfl

set_option maxRecDepth 100000 in
set_option maxHeartbeats 16000000 in
theorem rcomps_any (W H : Nat) (e : Bool) (A : Option Addr) (n c : Nat) (p : Int → Int) (w : World) (hA : ArrB w w.heap.size A n p) (hB : IsB p) (hW : W ≤ 640) (hH : H ≤ 640) (hn : n = W * H) (hp : ∀ i : Int, 0 ≤ i → i < n → p i = 0 ∨ p i = 1) :
    Calls Tryd.prog 27 #[.agg #[.int .i64 W, .int .i64 H, .slice A n c], .bool e] w (New w fun v w' => CRow w' w.heap.size 48 W n e p n v) := by
  have hn9 : n ≤ 409600 := by rw [hn]; exact Nat.mul_le_mul hW hH
  have hnI : (n : Int) = (W : Int) * H := by rw [hn]; push_cast; rfl
  have IK := Lib.hid fun (x y : Int) w' hA' => rink_any W H A n c p x y w' hA' (by omega) (by omega) hnI
  have hmk := makeI (n : Int) (by omega) (by omega)
  rw [Int.toNat_natCast] at hmk
  have NW := Lib.hid fun w' => rnew_any W H n w' (by omega) (by omega) (by omega) (by omega) hnI
  have HP := Lib.hid hp
  have HN := Lib.hid hn
  have HNI := Lib.hid hnI
  have HA := Lib.hid hA
  obtain ⟨r0, hr0, hrz0, hrz1, hrz2⟩ := info_parts info_Pt
  obtain ⟨r1, hs0, hsz0, hsz1, hsz2⟩ := info_parts info_Cr
  clear hp hA hn hnI hB
  go_enter Tryd.func27, Tryd.ntmps27
  obtain ⟨gn, hgn⟩ : ∃ g, (w.alloc (.cells #[.int .i64 W, .int .i64 H, .slice A n c] 24)).heap.size = g := ⟨_, rfl⟩
  go_upto_region 2 with fail
  have k1 : Blk ((w.alloc (.cells #[.int .i64 W, .int .i64 H, .slice A n c] 24)).alloc (.cells (i64s n fun _ => 0) 3)) w.heap.size 24 #[.int .i64 W, .int .i64 H, .slice A n c] := (Blk.new _ _ _).alloc _
  have k2 : Blk ((w.alloc (.cells #[.int .i64 W, .int .i64 H, .slice A n c] 24)).alloc (.cells (i64s n fun _ => 0) 3)) gn 3 (i64s n fun _ => 0) := by rw [← hgn]; exact Blk.new _ _ _
  have b1 : Below w.heap.size w ((w.alloc (.cells #[.int .i64 W, .int .i64 H, .slice A n c] 24)).alloc (.cells (i64s n fun _ => 0) 3)) := by (repeat (first | exact Below.refl _ _ | assumption | refine Below.drew ?_ | refine below_drewN ?_ _ | refine Below.alloc ?_ (by first | omega | (simp; done) | (simp; omega)) _ | refine Below.setCell ?_ (by first | omega | (simp; done) | (simp; omega)) _ | refine below_setRow ?_ (by first | omega | (simp; done) | (simp; omega)) _ ))
  have zz : ((w.alloc (.cells #[.int .i64 W, .int .i64 H, .slice A n c] 24)).alloc (.cells (i64s n fun _ => 0) 3)).heap.size = gn + 1 := by rw [World.size_alloc, hgn]
  have zgn : gn = w.heap.size + 1 := by rw [← hgn]; simp
  generalize (w.alloc (.cells #[.int .i64 W, .int .i64 H, .slice A n c] 24)).alloc (.cells (i64s n fun _ => 0) 3) = w2 at *
  clear hgn hmk
  have K1 := Lib.hid k1
  have B1 := Lib.hid b1
  have ZZ := Lib.hid zz
  have hwn : w.heap.size ≠ gn := by omega
  have hwl : w.heap.size < gn + 1 := by omega
  clear k1 b1 zgn
  go_wp2_with fail
  go_loopw [6] (fun s wr => ∃ i : Nat, i ≤ n ∧ s = .int .i64 i ∧ But (gn + 1) gn w2 wr ∧ Blk wr gn 3 (i64s n (fun j => if j < i then j else 0))) (fun s _ => n - (intOf s).toNat)
  case atStart => exact ⟨0, by omega, rfl, But.refl _ (by omega), k2.i64conv fun j h0 _ => by rw [if_neg (by omega)]⟩
  case round =>
    obtain ⟨i, hi, rfl, bu, mk⟩ := hrel
    clear k2
    by_cases il : (i : Int) < n
    · have hc := mk.i64at (i := (i : Int)) (by omega) il
      have hf := mk.frozen i
      have MS := Lib.hid (mk.i64set (i : Int) (by omega) (i : Int))
      rw [Int.toNat_natCast] at hc MS
      have bu2 := bu.set i (.int .i64 i)
      clear mk
      go_wp2_with fail
      go_roundw
      case rel => exact ⟨i + 1, by omega, by go_num, bu2, MS.out.i64conv fun j _ _ => by
        show (if j = (i : Int) then (i : Int) else if j < (i : Int) then j else 0) = if j < ((i + 1 : Nat) : Int) then j else 0
        by_cases e : j = i
        · rw [if_pos e, if_pos (by omega)]; exact e.symm
        · rw [if_neg e]
          by_cases e2 : j < i
          · rw [if_pos e2, if_pos (by omega)]
          · rw [if_neg e2, if_neg (by omega)]⟩
      case measure => simp [intOf]; omega
    · have mk2 : Blk wr gn 3 (i64s n fun i => i) := mk.i64conv fun j _ hj => by rw [if_pos (by omega)]
      have NS := Lib.hid (NumI.start n (InkN n p) (AdjN W e))
      clear hi mk
      go_wp2_with fail
      go_loopw [7] (fun s wr => ∃ (b : Bool) (num : Int → Int), s = .bool b ∧ Hid (NumI n (InkN n p) (AdjN W e) num) ∧ But (gn + 1) gn w2 wr ∧ Blk wr gn 3 (i64s n num) ∧ Hid (b = false → ∀ i j : Nat, InkN n p i → InkN n p j → AdjN W e i j → num i ≤ num j)) (fun s wr => 2 * sumW gn n wr + boolN s)
      case atStart => exact ⟨true, _, rfl, NS, bu, mk2, Lib.hid fun h => by cases h⟩
      case round =>
        obtain ⟨b, num0, rfl, HNu, bu2, mk3, HFx⟩ := hrel
        clear bu mk2 NS
        cases b with
        | true =>
          have HS0 := Lib.hid (sumW_of mk3)
          have HSn := Lib.hid (sumN_nonneg fun i hi => (HNu.out.le i hi).1)
          have PF := Lib.hid (Pass.first HNu.out)
          generalize wr = wA at *
          clear HFx
          go_wp2_with fail
          go_loopw [8, 7] (fun s t wr => ∃ (y : Nat) (b : Bool) (num : Int → Int), y ≤ H ∧ s = .int .i64 y ∧ t = .bool b ∧ Hid (Pass n W e p num0 b num (Sx W y 0)) ∧ But (gn + 1) gn w2 wr ∧ Blk wr gn 3 (i64s n num)) (fun s _ _ => H - (intOf s).toNat)
          case atStart => exact ⟨0, false, num0, by omega, rfl, rfl, PF, bu2, mk3⟩
          case round =>
            obtain ⟨y, b, num, hy, rfl, rfl, HPa, bu3, mk4⟩ := hrel
            clear bu2 mk3 PF
            have m1 := K1.out.but bu3 hwl hwn
            obtain ⟨p1, p2, p3⟩ := m1.cells3
            by_cases yl : (y : Int) < H
            · go_wp2_with fail
              clear p1 p2 p3 m1
              go_loopw [9, 7] (fun s t wr => ∃ (x : Nat) (b : Bool) (num : Int → Int), x ≤ W ∧ s = .int .i64 x ∧ t = .bool b ∧ Hid (Pass n W e p num0 b num (Sx W y x)) ∧ But (gn + 1) gn w2 wr ∧ Blk wr gn 3 (i64s n num)) (fun s _ _ => W - (intOf s).toNat)
              case atStart => exact ⟨0, b, num, by omega, rfl, rfl, HPa, bu3, mk4⟩
              case round =>
                obtain ⟨x, b, num, hx, rfl, rfl, HPa, bu4, mk5⟩ := hrel
                clear bu3 mk4
                have m1 := K1.out.but bu4 hwl hwn
                obtain ⟨p1, p2, p3⟩ := m1.cells3
                by_cases xl : (x : Int) < W
                · have hxW : x < W := by omega
                  have PV := Lib.hid (HPa.out.v0 hxW)
                  have v1 : IntKind.i64.wrap ((y : Int) - 1) = (y : Int) - 1 := IntWalk.i64_in _ (by omega)
                  have v2 : IntKind.i64.wrap ((y : Int) + 1) = (y : Int) + 1 := IntWalk.i64_in _ (by omega)
                  obtain ⟨bi, hbi⟩ : ∃ bi, inkB W H p x y = bi := ⟨_, rfl⟩
                  have HBI := Lib.hid hbi
                  clear HPa hbi
                  go_wp2_with fail
                  clear p1 p2 p3 m1
                  go_loopw [10, 7] (fun s t wr => ∃ (v : Int) (b : Bool) (num : Int → Int), (y : Int) - 1 ≤ v ∧ v ≤ y + 2 ∧ (bi = false → v = (y : Int) - 1) ∧ s = .int .i64 v ∧ t = .bool b ∧ Hid (Pass n W e p num0 b num (Sv W y x v)) ∧ But (gn + 1) gn w2 wr ∧ Blk wr gn 3 (i64s n num)) (fun s _ _ => ((y : Int) + 2 - intOf s).toNat)
                  case atStart => exact ⟨(y : Int) - 1, b, num, by omega, by omega, fun _ => rfl, rfl, rfl, PV, bu4, mk5⟩
                  case round =>
                    obtain ⟨v, b, num, hv0, hv1, hvb, rfl, rfl, HPv, bu5, mk6⟩ := hrel
                    clear bu4 mk5 PV
                    have m1 := K1.out.but bu5 hwl hwn
                    obtain ⟨p1, p2, p3⟩ := m1.cells3
                    have v3 : IntKind.i64.wrap (v + 1) = v + 1 := IntWalk.i64_in _ (by omega)
                    by_cases vl : v ≤ (y : Int) + 1
                    · have hb0 : Below w.heap.size w wr := B1.out.trans (bu5.to ZZ.out (by omega) (by omega))
                      have IK1 := Lib.hid (IK.out x y wr (HA.out.to hb0))
                      rw [HBI.out] at IK1
                      cases bi with
                      | false =>
                        have hve := hvb rfl
                        have hni : ¬ InkN n p (y * W + x) := fun h => by
                          have h9 := HBI.out
                          rw [inkB_in (by omega) xl (by omega) yl] at h9
                          have h10 : ((y * W + x : Nat) : Int) = (y : Int) * W + x := by push_cast; rfl
                          have := h.2
                          rw [h10] at this
                          rw [this] at h9
                          exact absurd h9 (by decide)
                        have PX := Lib.hid ((HPv.out.conv fun i j _ _ _ hs => .inl hs).xno hxW hni)
                        clear hvb hv0 hv1 hve
                        go_wp2_with fail
                        refine IK1.out.mono ?_
                        rintro ee w6 ⟨rfl, hb6⟩
                        have bu6 := bu5.then (hb6.mono bu5.size)
                        have mk7 := mk6.below' hb6
                        clear p1 p2 p3 m1 bu5 mk6 hb6 hb0
                        go_wp2_with fail
                        go_roundw
                        case rel => exact ⟨x + 1, b, num, by omega, by go_num, rfl, PX, bu6, mk7⟩
                        case measure => simp [intOf]; omega
                      | true =>
                        go_wp2_with fail
                        refine IK1.out.mono ?_
                        rintro ee w6 ⟨rfl, hb6⟩
                        have bu6 := bu5.then (hb6.mono bu5.size)
                        have mk7 := mk6.below' hb6
                        have PU := Lib.hid (HPv.out.u0 hxW)
                        have t1 : IntKind.i64.wrap ((x : Int) - 1) = (x : Int) - 1 := IntWalk.i64_in _ (by omega)
                        have t2 : IntKind.i64.wrap ((x : Int) + 1) = (x : Int) + 1 := IntWalk.i64_in _ (by omega)
                        clear p1 p2 p3 m1 bu5 mk6 hb6 hb0 HPv
                        go_wp2_with fail
                        go_loopw [11, 7] (fun s t wr => ∃ (u : Int) (b : Bool) (num : Int → Int), (x : Int) - 1 ≤ u ∧ u ≤ x + 2 ∧ s = .int .i64 u ∧ t = .bool b ∧ Hid (Pass n W e p num0 b num (Su W y x v u)) ∧ But (gn + 1) gn w2 wr ∧ Blk wr gn 3 (i64s n num)) (fun s _ _ => ((x : Int) + 2 - intOf s).toNat)
                        case atStart => exact ⟨(x : Int) - 1, b, num, by omega, by omega, rfl, rfl, PU, bu6, mk7⟩
                        case round =>
                          obtain ⟨u, b, num, hu0, hu1, rfl, rfl, HPu, bu7, mk8⟩ := hrel
                          clear bu6 mk7 PU
                          have u3 : IntKind.i64.wrap (u + 1) = u + 1 := IntWalk.i64_in _ (by omega)
                          by_cases ul : u ≤ (x : Int) + 1
                          · go_upto_region 21 with fail
                            have m1 := K1.out.but bu7 hwl hwn
                            have m2 := mk8
                            obtain ⟨p1, p2, p3⟩ := m1.cells3
                            have hb0 : Below w.heap.size w wr := B1.out.trans (bu7.to ZZ.out (by omega) (by omega))
                            have IKU := Lib.hid (IK.out u v wr.drew (HA.out.to hb0.drew))
                            have NE := Lib.hid fun w' => near_any x y u v e w' (by omega) (by omega) (by omega) (by omega)
                            obtain ⟨iu, hiu⟩ : ∃ b, inkB W H p u v = b := ⟨_, rfl⟩
                            obtain ⟨ne, hne⟩ : ∃ b, nearB ((x : Int) - u) ((y : Int) - v) e = b := ⟨_, rfl⟩
                            rw [hiu] at IKU
                            have NE := Lib.hid fun w' => (by rw [← hne]; exact NE.out w' : Calls Tryd.prog 97 #[.agg #[.int .i64 x, .int .i64 y], .agg #[.int .i64 u, .int .i64 v], .bool e] w' fun ee w'' => ee = .returned (.bool ne) ∧ Below w'.heap.size w' w'')
                            have HIU := Lib.hid hiu; have HNE := Lib.hid hne
                            clear hiu hne hb0
                            go_cut [100] (fun t wx => t = .bool (iu && ne && decide (num (v * W + u) < num ((y * W + x : Nat) : Int))) ∧ Below wr.heap.size wr wx)
                            case first =>
                              cases iu with
                              | false =>
                                have KS := Lib.hid fun w' (hb : Below wr.heap.size wr w') => (show w'.cell? ⟨w.heap.size, 0, none⟩ = some (.int .i64 W) ∧ w'.cell? ⟨w.heap.size, 1, none⟩ = some (.int .i64 H) ∧ w'.cell? ⟨w.heap.size, 2, none⟩ = some (.slice A n c) from (m1.below' hb).cells3)
                                refine wp_region_held_drew (S := fun w' => w'.cell? ⟨w.heap.size, 0, none⟩ = some (.int .i64 W) ∧ w'.cell? ⟨w.heap.size, 1, none⟩ = some (.int .i64 H) ∧ w'.cell? ⟨w.heap.size, 2, none⟩ = some (.slice A n c)) (by kernel_rfl) (KS.out _ (Below.refl _ _).drew) (fun hHeld => ?_)
                                refine wpAnyH_take (i := 0) (oi := _) (v := ?_) (by simp only [List.getElem?_toArray, List.getElem?_cons_zero]; exact rfl) (by kernel_rfl) (by kernel_rfl) (by kernel_rfl) (by exact fun _ _ _ h => h) (Or.inl ⟨by rfl, ?_⟩) (by assumption) ?_
                                rotate_left 1
                                · intro w hSw
                                  (try dsimp only at hSw)
                                  go_simp
                                  try with_reducible rfl
                                try simp only [Act.put, List.setIfInBounds_toArray, List.set_cons_zero, List.set_cons_succ]
                                refine wpAnyH_take (i := 1) (oi := _) (v := ?_) (by simp only [List.getElem?_toArray, List.getElem?_cons_zero, List.getElem?_cons_succ]; exact rfl) (by kernel_rfl) (by kernel_rfl) (by kernel_rfl) (by exact fun _ _ _ h => h) (Or.inl ⟨by rfl, ?_⟩) (by assumption) ?_
                                rotate_left 1
                                · intro w hSw
                                  (try dsimp only at hSw)
                                  go_simp
                                  try with_reducible rfl
                                try simp only [Act.put, List.setIfInBounds_toArray, List.set_cons_zero, List.set_cons_succ]
                                refine wpAnyH_take (i := 2) (oi := _) (v := ?_) (by simp only [List.getElem?_toArray, List.getElem?_cons_zero, List.getElem?_cons_succ]; exact rfl) (by kernel_rfl) (by kernel_rfl) (by kernel_rfl) (by exact fun _ _ _ h => h) (Or.inl ⟨by rfl, ?_⟩) (by assumption) ?_
                                rotate_left 1
                                · intro w hSw
                                  (try dsimp only at hSw)
                                  go_simp
                                  try with_reducible rfl
                                try simp only [Act.put, List.setIfInBounds_toArray, List.set_cons_zero, List.set_cons_succ]
                                refine wpAnyH_ready (rs := [3]) (by kernel_rfl) (by simp) ?_
                                refine AllReadyH.cons (o := _) (by simp only [List.getElem?_toArray, List.getElem?_cons_zero, List.getElem?_cons_succ]; exact rfl) (fun K' hK => ?_) AllReadyH.nil
                                go_simp
                                refine IKU.out.mono ?_
                                rintro ee w7 ⟨rfl, hb7⟩
                                have b7 := (Below.refl wr.heap.size wr).drew.trans hb7
                                have n1 := m1.below' b7
                                have n2 := m2.below' b7
                                refine hK.out _ _ (KS.out _ b7) (fun hHeld => ?_)
                                clear hK K'
                                try simp only [Act.put, List.setIfInBounds_toArray, List.set_cons_zero, List.set_cons_succ]
                                refine wpAnyH_take (i := 4) (oi := _) (v := ?_) (by simp only [List.getElem?_toArray, List.getElem?_cons_zero, List.getElem?_cons_succ]; exact rfl) (by kernel_rfl) (by kernel_rfl) (by kernel_rfl) (by exact fun _ _ _ h => h) (Or.inl ⟨by rfl, ?_⟩) (by assumption) ?_
                                rotate_left 1
                                · intro w hSw
                                  (try dsimp only at hSw)
                                  go_simp
                                  try with_reducible rfl
                                try simp only [Act.put, List.setIfInBounds_toArray, List.set_cons_zero, List.set_cons_succ]
                                refine wpAnyH_take (i := 5) (oi := _) (v := undef) (by simp only [List.getElem?_toArray, List.getElem?_cons_zero, List.getElem?_cons_succ]; exact rfl) (by kernel_rfl) (by kernel_rfl) (by kernel_rfl) (by exact fun _ _ _ h => h) (Or.inr ⟨by rfl, rfl⟩) (by assumption) ?_
                                try simp only [Act.put, List.setIfInBounds_toArray, List.set_cons_zero, List.set_cons_succ]
                                refine wpAnyH_take (i := 6) (oi := _) (v := undef) (by simp only [List.getElem?_toArray, List.getElem?_cons_zero, List.getElem?_cons_succ]; exact rfl) (by kernel_rfl) (by kernel_rfl) (by kernel_rfl) (by exact fun _ _ _ h => h) (Or.inr ⟨by rfl, rfl⟩) (by assumption) ?_
                                try simp only [Act.put, List.setIfInBounds_toArray, List.set_cons_zero, List.set_cons_succ]
                                refine wpAnyH_take (i := 7) (oi := _) (v := undef) (by simp only [List.getElem?_toArray, List.getElem?_cons_zero, List.getElem?_cons_succ]; exact rfl) (by kernel_rfl) (by kernel_rfl) (by kernel_rfl) (by exact fun _ _ _ h => h) (Or.inr ⟨by rfl, rfl⟩) (by assumption) ?_
                                try simp only [Act.put, List.setIfInBounds_toArray, List.set_cons_zero, List.set_cons_succ]
                                refine wpAnyH_take (i := 8) (oi := _) (v := undef) (by simp only [List.getElem?_toArray, List.getElem?_cons_zero, List.getElem?_cons_succ]; exact rfl) (by kernel_rfl) (by kernel_rfl) (by kernel_rfl) (by exact fun _ _ _ h => h) (Or.inr ⟨by rfl, rfl⟩) (by assumption) ?_
                                try simp only [Act.put, List.setIfInBounds_toArray, List.set_cons_zero, List.set_cons_succ]
                                refine wpAnyH_take (i := 9) (oi := _) (v := undef) (by simp only [List.getElem?_toArray, List.getElem?_cons_zero, List.getElem?_cons_succ]; exact rfl) (by kernel_rfl) (by kernel_rfl) (by kernel_rfl) (by exact fun _ _ _ h => h) (Or.inr ⟨by rfl, rfl⟩) (by assumption) ?_
                                try simp only [Act.put, List.setIfInBounds_toArray, List.set_cons_zero, List.set_cons_succ]
                                refine wpAnyH_take (i := 10) (oi := _) (v := undef) (by simp only [List.getElem?_toArray, List.getElem?_cons_zero, List.getElem?_cons_succ]; exact rfl) (by kernel_rfl) (by kernel_rfl) (by kernel_rfl) (by exact fun _ _ _ h => h) (Or.inr ⟨by rfl, rfl⟩) (by assumption) ?_
                                try simp only [Act.put, List.setIfInBounds_toArray, List.set_cons_zero, List.set_cons_succ]
                                refine wpAnyH_take (i := 11) (oi := _) (v := undef) (by simp only [List.getElem?_toArray, List.getElem?_cons_zero, List.getElem?_cons_succ]; exact rfl) (by kernel_rfl) (by kernel_rfl) (by kernel_rfl) (by exact fun _ _ _ h => h) (Or.inr ⟨by rfl, rfl⟩) (by assumption) ?_
                                try simp only [Act.put, List.setIfInBounds_toArray, List.set_cons_zero, List.set_cons_succ]
                                refine wpAnyH_take (i := 12) (oi := _) (v := undef) (by simp only [List.getElem?_toArray, List.getElem?_cons_zero, List.getElem?_cons_succ]; exact rfl) (by kernel_rfl) (by kernel_rfl) (by kernel_rfl) (by exact fun _ _ _ h => h) (Or.inr ⟨by rfl, rfl⟩) (by assumption) ?_
                                try simp only [Act.put, List.setIfInBounds_toArray, List.set_cons_zero, List.set_cons_succ]
                                refine wpAnyH_take (i := 13) (oi := _) (v := ?_) (by simp only [List.getElem?_toArray, List.getElem?_cons_zero, List.getElem?_cons_succ]; exact rfl) (by kernel_rfl) (by kernel_rfl) (by kernel_rfl) (by exact fun _ _ _ h => h) (Or.inl ⟨by rfl, ?_⟩) (by assumption) ?_
                                rotate_left 1
                                · intro w hSw
                                  (try dsimp only at hSw)
                                  go_simp
                                  try with_reducible rfl
                                try simp only [Act.put, List.setIfInBounds_toArray, List.set_cons_zero, List.set_cons_succ]
                                refine wpAnyH_take (i := 14) (oi := _) (v := ?_) (by simp only [List.getElem?_toArray, List.getElem?_cons_zero, List.getElem?_cons_succ]; exact rfl) (by kernel_rfl) (by kernel_rfl) (by kernel_rfl) (by exact fun _ _ _ h => h) (Or.inl ⟨by rfl, ?_⟩) (by assumption) ?_
                                rotate_left 1
                                · intro w hSw
                                  (try dsimp only at hSw)
                                  go_simp
                                  try with_reducible rfl
                                try simp only [Act.put, List.setIfInBounds_toArray, List.set_cons_zero, List.set_cons_succ]
                                refine wpAnyH_take (i := 15) (oi := _) (v := undef) (by simp only [List.getElem?_toArray, List.getElem?_cons_zero, List.getElem?_cons_succ]; exact rfl) (by kernel_rfl) (by kernel_rfl) (by kernel_rfl) (by exact fun _ _ _ h => h) (Or.inr ⟨by rfl, rfl⟩) (by assumption) ?_
                                try simp only [Act.put, List.setIfInBounds_toArray, List.set_cons_zero, List.set_cons_succ]
                                refine wpAnyH_take (i := 16) (oi := _) (v := undef) (by simp only [List.getElem?_toArray, List.getElem?_cons_zero, List.getElem?_cons_succ]; exact rfl) (by kernel_rfl) (by kernel_rfl) (by kernel_rfl) (by exact fun _ _ _ h => h) (Or.inr ⟨by rfl, rfl⟩) (by assumption) ?_
                                try simp only [Act.put, List.setIfInBounds_toArray, List.set_cons_zero, List.set_cons_succ]
                                refine wpAnyH_take (i := 17) (oi := _) (v := undef) (by simp only [List.getElem?_toArray, List.getElem?_cons_zero, List.getElem?_cons_succ]; exact rfl) (by kernel_rfl) (by kernel_rfl) (by kernel_rfl) (by exact fun _ _ _ h => h) (Or.inr ⟨by rfl, rfl⟩) (by assumption) ?_
                                try simp only [Act.put, List.setIfInBounds_toArray, List.set_cons_zero, List.set_cons_succ]
                                refine wpAnyH_take (i := 18) (oi := _) (v := undef) (by simp only [List.getElem?_toArray, List.getElem?_cons_zero, List.getElem?_cons_succ]; exact rfl) (by kernel_rfl) (by kernel_rfl) (by kernel_rfl) (by exact fun _ _ _ h => h) (Or.inr ⟨by rfl, rfl⟩) (by assumption) ?_
                                try simp only [Act.put, List.setIfInBounds_toArray, List.set_cons_zero, List.set_cons_succ]
                                refine wpAnyH_take (i := 19) (oi := _) (v := undef) (by simp only [List.getElem?_toArray, List.getElem?_cons_zero, List.getElem?_cons_succ]; exact rfl) (by kernel_rfl) (by kernel_rfl) (by kernel_rfl) (by exact fun _ _ _ h => h) (Or.inr ⟨by rfl, rfl⟩) (by assumption) ?_
                                try simp only [Act.put, List.setIfInBounds_toArray, List.set_cons_zero, List.set_cons_succ]
                                refine wpAnyH_take (i := 20) (oi := _) (v := undef) (by simp only [List.getElem?_toArray, List.getElem?_cons_zero, List.getElem?_cons_succ]; exact rfl) (by kernel_rfl) (by kernel_rfl) (by kernel_rfl) (by exact fun _ _ _ h => h) (Or.inr ⟨by rfl, rfl⟩) (by assumption) ?_
                                try simp only [Act.put, List.setIfInBounds_toArray, List.set_cons_zero, List.set_cons_succ]
                                refine wpAnyH_take (i := 21) (oi := _) (v := undef) (by simp only [List.getElem?_toArray, List.getElem?_cons_zero, List.getElem?_cons_succ]; exact rfl) (by kernel_rfl) (by kernel_rfl) (by kernel_rfl) (by exact fun _ _ _ h => h) (Or.inr ⟨by rfl, rfl⟩) (by assumption) ?_
                                try simp only [Act.put, List.setIfInBounds_toArray, List.set_cons_zero, List.set_cons_succ]
                                refine wpAnyH_take (i := 22) (oi := _) (v := undef) (by simp only [List.getElem?_toArray, List.getElem?_cons_zero, List.getElem?_cons_succ]; exact rfl) (by kernel_rfl) (by kernel_rfl) (by kernel_rfl) (by exact fun _ _ _ h => h) (Or.inr ⟨by rfl, rfl⟩) (by assumption) ?_
                                try simp only [Act.put, List.setIfInBounds_toArray, List.set_cons_zero, List.set_cons_succ]
                                refine wpAnyH_take (i := 23) (oi := _) (v := undef) (by simp only [List.getElem?_toArray, List.getElem?_cons_zero, List.getElem?_cons_succ]; exact rfl) (by kernel_rfl) (by kernel_rfl) (by kernel_rfl) (by exact fun _ _ _ h => h) (Or.inr ⟨by rfl, rfl⟩) (by assumption) ?_
                                try simp only [Act.put, List.setIfInBounds_toArray, List.set_cons_zero, List.set_cons_succ]
                                refine wpAnyH_take (i := 24) (oi := _) (v := undef) (by simp only [List.getElem?_toArray, List.getElem?_cons_zero, List.getElem?_cons_succ]; exact rfl) (by kernel_rfl) (by kernel_rfl) (by kernel_rfl) (by exact fun _ _ _ h => h) (Or.inr ⟨by rfl, rfl⟩) (by assumption) ?_
                                try simp only [Act.put, List.setIfInBounds_toArray, List.set_cons_zero, List.set_cons_succ]
                                refine wpAnyH_take (i := 25) (oi := _) (v := undef) (by simp only [List.getElem?_toArray, List.getElem?_cons_zero, List.getElem?_cons_succ]; exact rfl) (by kernel_rfl) (by kernel_rfl) (by kernel_rfl) (by exact fun _ _ _ h => h) (Or.inr ⟨by rfl, rfl⟩) (by assumption) ?_
                                try simp only [Act.put, List.setIfInBounds_toArray, List.set_cons_zero, List.set_cons_succ]
                                refine wpAnyH_take (i := 26) (oi := _) (v := undef) (by simp only [List.getElem?_toArray, List.getElem?_cons_zero, List.getElem?_cons_succ]; exact rfl) (by kernel_rfl) (by kernel_rfl) (by kernel_rfl) (by exact fun _ _ _ h => h) (Or.inr ⟨by rfl, rfl⟩) (by assumption) ?_
                                try simp only [Act.put, List.setIfInBounds_toArray, List.set_cons_zero, List.set_cons_succ]
                                refine wpAnyH_take (i := 27) (oi := _) (v := undef) (by simp only [List.getElem?_toArray, List.getElem?_cons_zero, List.getElem?_cons_succ]; exact rfl) (by kernel_rfl) (by kernel_rfl) (by kernel_rfl) (by exact fun _ _ _ h => h) (Or.inr ⟨by rfl, rfl⟩) (by assumption) ?_
                                try simp only [Act.put, List.setIfInBounds_toArray, List.set_cons_zero, List.set_cons_succ]
                                refine wpAnyH_take (i := 28) (oi := _) (v := undef) (by simp only [List.getElem?_toArray, List.getElem?_cons_zero, List.getElem?_cons_succ]; exact rfl) (by kernel_rfl) (by kernel_rfl) (by kernel_rfl) (by exact fun _ _ _ h => h) (Or.inr ⟨by rfl, rfl⟩) (by assumption) ?_
                                try simp only [Act.put, List.setIfInBounds_toArray, List.set_cons_zero, List.set_cons_succ]
                                refine wpAnyH_take (i := 29) (oi := _) (v := undef) (by simp only [List.getElem?_toArray, List.getElem?_cons_zero, List.getElem?_cons_succ]; exact rfl) (by kernel_rfl) (by kernel_rfl) (by kernel_rfl) (by exact fun _ _ _ h => h) (Or.inr ⟨by rfl, rfl⟩) (by assumption) ?_
                                try simp only [Act.put, List.setIfInBounds_toArray, List.set_cons_zero, List.set_cons_succ]
                                refine wpAnyH_take (i := 30) (oi := _) (v := undef) (by simp only [List.getElem?_toArray, List.getElem?_cons_zero, List.getElem?_cons_succ]; exact rfl) (by kernel_rfl) (by kernel_rfl) (by kernel_rfl) (by exact fun _ _ _ h => h) (Or.inr ⟨by rfl, rfl⟩) (by assumption) ?_
                                try simp only [Act.put, List.setIfInBounds_toArray, List.set_cons_zero, List.set_cons_succ]
                                refine wpAnyH_take (i := 31) (oi := _) (v := undef) (by simp only [List.getElem?_toArray, List.getElem?_cons_zero, List.getElem?_cons_succ]; exact rfl) (by kernel_rfl) (by kernel_rfl) (by kernel_rfl) (by exact fun _ _ _ h => h) (Or.inr ⟨by rfl, rfl⟩) (by assumption) ?_
                                try simp only [Act.put, List.setIfInBounds_toArray, List.set_cons_zero, List.set_cons_succ]
                                refine wpAnyH_take (i := 32) (oi := _) (v := undef) (by simp only [List.getElem?_toArray, List.getElem?_cons_zero, List.getElem?_cons_succ]; exact rfl) (by kernel_rfl) (by kernel_rfl) (by kernel_rfl) (by exact fun _ _ _ h => h) (Or.inr ⟨by rfl, rfl⟩) (by assumption) ?_
                                try simp only [Act.put, List.setIfInBounds_toArray, List.set_cons_zero, List.set_cons_succ]
                                refine wpAnyH_take (i := 33) (oi := _) (v := undef) (by simp only [List.getElem?_toArray, List.getElem?_cons_zero, List.getElem?_cons_succ]; exact rfl) (by kernel_rfl) (by kernel_rfl) (by kernel_rfl) (by exact fun _ _ _ h => h) (Or.inr ⟨by rfl, rfl⟩) (by assumption) ?_
                                try simp only [Act.put, List.setIfInBounds_toArray, List.set_cons_zero, List.set_cons_succ]
                                refine wpAnyH_take (i := 34) (oi := _) (v := ?_) (by simp only [List.getElem?_toArray, List.getElem?_cons_zero, List.getElem?_cons_succ]; exact rfl) (by kernel_rfl) (by kernel_rfl) (by kernel_rfl) (by exact fun _ _ _ h => h) (Or.inl ⟨by rfl, ?_⟩) (by assumption) ?_
                                rotate_left 1
                                · intro w hSw
                                  (try dsimp only at hSw)
                                  go_simp
                                  try with_reducible rfl
                                try simp only [Act.put, List.setIfInBounds_toArray, List.set_cons_zero, List.set_cons_succ]
                                refine wpAnyH_done (by kernel_rfl) ?_ _
                                go_wp2_with fail
                                go_meet
                                exact ⟨rfl, b7⟩
                              | true =>
                                cases ne with
                                | false =>
                                  have KS := Lib.hid fun w' (hb : Below wr.heap.size wr w') => (show w'.cell? ⟨w.heap.size, 0, none⟩ = some (.int .i64 W) ∧ w'.cell? ⟨w.heap.size, 1, none⟩ = some (.int .i64 H) ∧ w'.cell? ⟨w.heap.size, 2, none⟩ = some (.slice A n c) from (m1.below' hb).cells3)
                                  refine wp_region_held_drew (S := fun w' => w'.cell? ⟨w.heap.size, 0, none⟩ = some (.int .i64 W) ∧ w'.cell? ⟨w.heap.size, 1, none⟩ = some (.int .i64 H) ∧ w'.cell? ⟨w.heap.size, 2, none⟩ = some (.slice A n c)) (by kernel_rfl) (KS.out _ (Below.refl _ _).drew) (fun hHeld => ?_)
                                  refine wpAnyH_take (i := 0) (oi := _) (v := ?_) (by simp only [List.getElem?_toArray, List.getElem?_cons_zero]; exact rfl) (by kernel_rfl) (by kernel_rfl) (by kernel_rfl) (by exact fun _ _ _ h => h) (Or.inl ⟨by rfl, ?_⟩) (by assumption) ?_
                                  rotate_left 1
                                  · intro w hSw
                                    (try dsimp only at hSw)
                                    go_simp
                                    try with_reducible rfl
                                  try simp only [Act.put, List.setIfInBounds_toArray, List.set_cons_zero, List.set_cons_succ]
                                  refine wpAnyH_take (i := 1) (oi := _) (v := ?_) (by simp only [List.getElem?_toArray, List.getElem?_cons_zero, List.getElem?_cons_succ]; exact rfl) (by kernel_rfl) (by kernel_rfl) (by kernel_rfl) (by exact fun _ _ _ h => h) (Or.inl ⟨by rfl, ?_⟩) (by assumption) ?_
                                  rotate_left 1
                                  · intro w hSw
                                    (try dsimp only at hSw)
                                    go_simp
                                    try with_reducible rfl
                                  try simp only [Act.put, List.setIfInBounds_toArray, List.set_cons_zero, List.set_cons_succ]
                                  refine wpAnyH_take (i := 2) (oi := _) (v := ?_) (by simp only [List.getElem?_toArray, List.getElem?_cons_zero, List.getElem?_cons_succ]; exact rfl) (by kernel_rfl) (by kernel_rfl) (by kernel_rfl) (by exact fun _ _ _ h => h) (Or.inl ⟨by rfl, ?_⟩) (by assumption) ?_
                                  rotate_left 1
                                  · intro w hSw
                                    (try dsimp only at hSw)
                                    go_simp
                                    try with_reducible rfl
                                  try simp only [Act.put, List.setIfInBounds_toArray, List.set_cons_zero, List.set_cons_succ]
                                  refine wpAnyH_ready (rs := [3]) (by kernel_rfl) (by simp) ?_
                                  refine AllReadyH.cons (o := _) (by simp only [List.getElem?_toArray, List.getElem?_cons_zero, List.getElem?_cons_succ]; exact rfl) (fun K' hK => ?_) AllReadyH.nil
                                  go_simp
                                  refine IKU.out.mono ?_
                                  rintro ee w7 ⟨rfl, hb7⟩
                                  have b7 := (Below.refl wr.heap.size wr).drew.trans hb7
                                  have n1 := m1.below' b7
                                  have n2 := m2.below' b7
                                  refine hK.out _ _ (KS.out _ b7) (fun hHeld => ?_)
                                  clear hK K'
                                  try simp only [Act.put, List.setIfInBounds_toArray, List.set_cons_zero, List.set_cons_succ]
                                  refine wpAnyH_take (i := 4) (oi := _) (v := ?_) (by simp only [List.getElem?_toArray, List.getElem?_cons_zero, List.getElem?_cons_succ]; exact rfl) (by kernel_rfl) (by kernel_rfl) (by kernel_rfl) (by exact fun _ _ _ h => h) (Or.inl ⟨by rfl, ?_⟩) (by assumption) ?_
                                  rotate_left 1
                                  · intro w hSw
                                    (try dsimp only at hSw)
                                    go_simp
                                    try with_reducible rfl
                                  try simp only [Act.put, List.setIfInBounds_toArray, List.set_cons_zero, List.set_cons_succ]
                                  refine wpAnyH_take (i := 5) (oi := _) (v := ?_) (by simp only [List.getElem?_toArray, List.getElem?_cons_zero, List.getElem?_cons_succ]; exact rfl) (by kernel_rfl) (by kernel_rfl) (by kernel_rfl) (by exact fun _ _ _ h => h) (Or.inl ⟨by rfl, ?_⟩) (by assumption) ?_
                                  rotate_left 1
                                  · intro w hSw
                                    (try dsimp only at hSw)
                                    go_simp
                                    try with_reducible rfl
                                  try simp only [Act.put, List.setIfInBounds_toArray, List.set_cons_zero, List.set_cons_succ]
                                  refine wpAnyH_take (i := 6) (oi := _) (v := ?_) (by simp only [List.getElem?_toArray, List.getElem?_cons_zero, List.getElem?_cons_succ]; exact rfl) (by kernel_rfl) (by kernel_rfl) (by kernel_rfl) (by exact fun _ _ _ h => h) (Or.inl ⟨by rfl, ?_⟩) (by assumption) ?_
                                  rotate_left 1
                                  · intro w hSw
                                    (try dsimp only at hSw)
                                    go_simp
                                    try with_reducible rfl
                                  try simp only [Act.put, List.setIfInBounds_toArray, List.set_cons_zero, List.set_cons_succ]
                                  refine wpAnyH_take (i := 7) (oi := _) (v := ?_) (by simp only [List.getElem?_toArray, List.getElem?_cons_zero, List.getElem?_cons_succ]; exact rfl) (by kernel_rfl) (by kernel_rfl) (by kernel_rfl) (by exact fun _ _ _ h => h) (Or.inl ⟨by rfl, ?_⟩) (by assumption) ?_
                                  rotate_left 1
                                  · intro w hSw
                                    (try dsimp only at hSw)
                                    go_simp
                                    try with_reducible rfl
                                  try simp only [Act.put, List.setIfInBounds_toArray, List.set_cons_zero, List.set_cons_succ]
                                  refine wpAnyH_take (i := 8) (oi := _) (v := ?_) (by simp only [List.getElem?_toArray, List.getElem?_cons_zero, List.getElem?_cons_succ]; exact rfl) (by kernel_rfl) (by kernel_rfl) (by kernel_rfl) (by exact fun _ _ _ h => h) (Or.inl ⟨by rfl, ?_⟩) (by assumption) ?_
                                  rotate_left 1
                                  · intro w hSw
                                    (try dsimp only at hSw)
                                    go_simp
                                    try with_reducible rfl
                                  try simp only [Act.put, List.setIfInBounds_toArray, List.set_cons_zero, List.set_cons_succ]
                                  refine wpAnyH_take (i := 9) (oi := _) (v := ?_) (by simp only [List.getElem?_toArray, List.getElem?_cons_zero, List.getElem?_cons_succ]; exact rfl) (by kernel_rfl) (by kernel_rfl) (by kernel_rfl) (by exact fun _ _ _ h => h) (Or.inl ⟨by rfl, ?_⟩) (by assumption) ?_
                                  rotate_left 1
                                  · intro w hSw
                                    (try dsimp only at hSw)
                                    go_simp
                                    try with_reducible rfl
                                  try simp only [Act.put, List.setIfInBounds_toArray, List.set_cons_zero, List.set_cons_succ]
                                  refine wpAnyH_take (i := 10) (oi := _) (v := ?_) (by simp only [List.getElem?_toArray, List.getElem?_cons_zero, List.getElem?_cons_succ]; exact rfl) (by kernel_rfl) (by kernel_rfl) (by kernel_rfl) (by exact fun _ _ _ h => h) (Or.inl ⟨by rfl, ?_⟩) (by assumption) ?_
                                  rotate_left 1
                                  · intro w hSw
                                    (try dsimp only at hSw)
                                    go_simp
                                    try with_reducible rfl
                                  try simp only [Act.put, List.setIfInBounds_toArray, List.set_cons_zero, List.set_cons_succ]
                                  refine wpAnyH_take (i := 11) (oi := _) (v := ?_) (by simp only [List.getElem?_toArray, List.getElem?_cons_zero, List.getElem?_cons_succ]; exact rfl) (by kernel_rfl) (by kernel_rfl) (by kernel_rfl) (by exact fun _ _ _ h => h) (Or.inl ⟨by rfl, ?_⟩) (by assumption) ?_
                                  rotate_left 1
                                  · intro w hSw
                                    (try dsimp only at hSw)
                                    go_simp
                                    try with_reducible rfl
                                  try simp only [Act.put, List.setIfInBounds_toArray, List.set_cons_zero, List.set_cons_succ]
                                  refine wpAnyH_ready (rs := [12]) (by kernel_rfl) (by simp) ?_
                                  refine AllReadyH.cons (o := _) (by simp only [List.getElem?_toArray, List.getElem?_cons_zero, List.getElem?_cons_succ]; exact rfl) (fun K' hK => ?_) AllReadyH.nil
                                  go_simp
                                  refine (NE.out w7).mono ?_
                                  rintro ee w8 ⟨rfl, hb8⟩
                                  have b8 := below_call b7 b7.size hb8
                                  refine hK.out _ _ (KS.out _ b8) (fun hHeld => ?_)
                                  clear hK K'
                                  try simp only [Act.put, List.setIfInBounds_toArray, List.set_cons_zero, List.set_cons_succ]
                                  refine wpAnyH_take (i := 13) (oi := _) (v := ?_) (by simp only [List.getElem?_toArray, List.getElem?_cons_zero, List.getElem?_cons_succ]; exact rfl) (by kernel_rfl) (by kernel_rfl) (by kernel_rfl) (by exact fun _ _ _ h => h) (Or.inl ⟨by rfl, ?_⟩) (by assumption) ?_
                                  rotate_left 1
                                  · intro w hSw
                                    (try dsimp only at hSw)
                                    go_simp
                                    try with_reducible rfl
                                  try simp only [Act.put, List.setIfInBounds_toArray, List.set_cons_zero, List.set_cons_succ]
                                  refine wpAnyH_take (i := 14) (oi := _) (v := ?_) (by simp only [List.getElem?_toArray, List.getElem?_cons_zero, List.getElem?_cons_succ]; exact rfl) (by kernel_rfl) (by kernel_rfl) (by kernel_rfl) (by exact fun _ _ _ h => h) (Or.inl ⟨by rfl, ?_⟩) (by assumption) ?_
                                  rotate_left 1
                                  · intro w hSw
                                    (try dsimp only at hSw)
                                    go_simp
                                    try with_reducible rfl
                                  try simp only [Act.put, List.setIfInBounds_toArray, List.set_cons_zero, List.set_cons_succ]
                                  refine wpAnyH_take (i := 15) (oi := _) (v := undef) (by simp only [List.getElem?_toArray, List.getElem?_cons_zero, List.getElem?_cons_succ]; exact rfl) (by kernel_rfl) (by kernel_rfl) (by kernel_rfl) (by exact fun _ _ _ h => h) (Or.inr ⟨by rfl, rfl⟩) (by assumption) ?_
                                  try simp only [Act.put, List.setIfInBounds_toArray, List.set_cons_zero, List.set_cons_succ]
                                  refine wpAnyH_take (i := 16) (oi := _) (v := undef) (by simp only [List.getElem?_toArray, List.getElem?_cons_zero, List.getElem?_cons_succ]; exact rfl) (by kernel_rfl) (by kernel_rfl) (by kernel_rfl) (by exact fun _ _ _ h => h) (Or.inr ⟨by rfl, rfl⟩) (by assumption) ?_
                                  try simp only [Act.put, List.setIfInBounds_toArray, List.set_cons_zero, List.set_cons_succ]
                                  refine wpAnyH_take (i := 17) (oi := _) (v := undef) (by simp only [List.getElem?_toArray, List.getElem?_cons_zero, List.getElem?_cons_succ]; exact rfl) (by kernel_rfl) (by kernel_rfl) (by kernel_rfl) (by exact fun _ _ _ h => h) (Or.inr ⟨by rfl, rfl⟩) (by assumption) ?_
                                  try simp only [Act.put, List.setIfInBounds_toArray, List.set_cons_zero, List.set_cons_succ]
                                  refine wpAnyH_take (i := 18) (oi := _) (v := undef) (by simp only [List.getElem?_toArray, List.getElem?_cons_zero, List.getElem?_cons_succ]; exact rfl) (by kernel_rfl) (by kernel_rfl) (by kernel_rfl) (by exact fun _ _ _ h => h) (Or.inr ⟨by rfl, rfl⟩) (by assumption) ?_
                                  try simp only [Act.put, List.setIfInBounds_toArray, List.set_cons_zero, List.set_cons_succ]
                                  refine wpAnyH_take (i := 19) (oi := _) (v := undef) (by simp only [List.getElem?_toArray, List.getElem?_cons_zero, List.getElem?_cons_succ]; exact rfl) (by kernel_rfl) (by kernel_rfl) (by kernel_rfl) (by exact fun _ _ _ h => h) (Or.inr ⟨by rfl, rfl⟩) (by assumption) ?_
                                  try simp only [Act.put, List.setIfInBounds_toArray, List.set_cons_zero, List.set_cons_succ]
                                  refine wpAnyH_take (i := 20) (oi := _) (v := undef) (by simp only [List.getElem?_toArray, List.getElem?_cons_zero, List.getElem?_cons_succ]; exact rfl) (by kernel_rfl) (by kernel_rfl) (by kernel_rfl) (by exact fun _ _ _ h => h) (Or.inr ⟨by rfl, rfl⟩) (by assumption) ?_
                                  try simp only [Act.put, List.setIfInBounds_toArray, List.set_cons_zero, List.set_cons_succ]
                                  refine wpAnyH_take (i := 21) (oi := _) (v := undef) (by simp only [List.getElem?_toArray, List.getElem?_cons_zero, List.getElem?_cons_succ]; exact rfl) (by kernel_rfl) (by kernel_rfl) (by kernel_rfl) (by exact fun _ _ _ h => h) (Or.inr ⟨by rfl, rfl⟩) (by assumption) ?_
                                  try simp only [Act.put, List.setIfInBounds_toArray, List.set_cons_zero, List.set_cons_succ]
                                  refine wpAnyH_take (i := 22) (oi := _) (v := undef) (by simp only [List.getElem?_toArray, List.getElem?_cons_zero, List.getElem?_cons_succ]; exact rfl) (by kernel_rfl) (by kernel_rfl) (by kernel_rfl) (by exact fun _ _ _ h => h) (Or.inr ⟨by rfl, rfl⟩) (by assumption) ?_
                                  try simp only [Act.put, List.setIfInBounds_toArray, List.set_cons_zero, List.set_cons_succ]
                                  refine wpAnyH_take (i := 23) (oi := _) (v := undef) (by simp only [List.getElem?_toArray, List.getElem?_cons_zero, List.getElem?_cons_succ]; exact rfl) (by kernel_rfl) (by kernel_rfl) (by kernel_rfl) (by exact fun _ _ _ h => h) (Or.inr ⟨by rfl, rfl⟩) (by assumption) ?_
                                  try simp only [Act.put, List.setIfInBounds_toArray, List.set_cons_zero, List.set_cons_succ]
                                  refine wpAnyH_take (i := 24) (oi := _) (v := undef) (by simp only [List.getElem?_toArray, List.getElem?_cons_zero, List.getElem?_cons_succ]; exact rfl) (by kernel_rfl) (by kernel_rfl) (by kernel_rfl) (by exact fun _ _ _ h => h) (Or.inr ⟨by rfl, rfl⟩) (by assumption) ?_
                                  try simp only [Act.put, List.setIfInBounds_toArray, List.set_cons_zero, List.set_cons_succ]
                                  refine wpAnyH_take (i := 25) (oi := _) (v := undef) (by simp only [List.getElem?_toArray, List.getElem?_cons_zero, List.getElem?_cons_succ]; exact rfl) (by kernel_rfl) (by kernel_rfl) (by kernel_rfl) (by exact fun _ _ _ h => h) (Or.inr ⟨by rfl, rfl⟩) (by assumption) ?_
                                  try simp only [Act.put, List.setIfInBounds_toArray, List.set_cons_zero, List.set_cons_succ]
                                  refine wpAnyH_take (i := 26) (oi := _) (v := undef) (by simp only [List.getElem?_toArray, List.getElem?_cons_zero, List.getElem?_cons_succ]; exact rfl) (by kernel_rfl) (by kernel_rfl) (by kernel_rfl) (by exact fun _ _ _ h => h) (Or.inr ⟨by rfl, rfl⟩) (by assumption) ?_
                                  try simp only [Act.put, List.setIfInBounds_toArray, List.set_cons_zero, List.set_cons_succ]
                                  refine wpAnyH_take (i := 27) (oi := _) (v := undef) (by simp only [List.getElem?_toArray, List.getElem?_cons_zero, List.getElem?_cons_succ]; exact rfl) (by kernel_rfl) (by kernel_rfl) (by kernel_rfl) (by exact fun _ _ _ h => h) (Or.inr ⟨by rfl, rfl⟩) (by assumption) ?_
                                  try simp only [Act.put, List.setIfInBounds_toArray, List.set_cons_zero, List.set_cons_succ]
                                  refine wpAnyH_take (i := 28) (oi := _) (v := undef) (by simp only [List.getElem?_toArray, List.getElem?_cons_zero, List.getElem?_cons_succ]; exact rfl) (by kernel_rfl) (by kernel_rfl) (by kernel_rfl) (by exact fun _ _ _ h => h) (Or.inr ⟨by rfl, rfl⟩) (by assumption) ?_
                                  try simp only [Act.put, List.setIfInBounds_toArray, List.set_cons_zero, List.set_cons_succ]
                                  refine wpAnyH_take (i := 29) (oi := _) (v := undef) (by simp only [List.getElem?_toArray, List.getElem?_cons_zero, List.getElem?_cons_succ]; exact rfl) (by kernel_rfl) (by kernel_rfl) (by kernel_rfl) (by exact fun _ _ _ h => h) (Or.inr ⟨by rfl, rfl⟩) (by assumption) ?_
                                  try simp only [Act.put, List.setIfInBounds_toArray, List.set_cons_zero, List.set_cons_succ]
                                  refine wpAnyH_take (i := 30) (oi := _) (v := undef) (by simp only [List.getElem?_toArray, List.getElem?_cons_zero, List.getElem?_cons_succ]; exact rfl) (by kernel_rfl) (by kernel_rfl) (by kernel_rfl) (by exact fun _ _ _ h => h) (Or.inr ⟨by rfl, rfl⟩) (by assumption) ?_
                                  try simp only [Act.put, List.setIfInBounds_toArray, List.set_cons_zero, List.set_cons_succ]
                                  refine wpAnyH_take (i := 31) (oi := _) (v := undef) (by simp only [List.getElem?_toArray, List.getElem?_cons_zero, List.getElem?_cons_succ]; exact rfl) (by kernel_rfl) (by kernel_rfl) (by kernel_rfl) (by exact fun _ _ _ h => h) (Or.inr ⟨by rfl, rfl⟩) (by assumption) ?_
                                  try simp only [Act.put, List.setIfInBounds_toArray, List.set_cons_zero, List.set_cons_succ]
                                  refine wpAnyH_take (i := 32) (oi := _) (v := undef) (by simp only [List.getElem?_toArray, List.getElem?_cons_zero, List.getElem?_cons_succ]; exact rfl) (by kernel_rfl) (by kernel_rfl) (by kernel_rfl) (by exact fun _ _ _ h => h) (Or.inr ⟨by rfl, rfl⟩) (by assumption) ?_
                                  try simp only [Act.put, List.setIfInBounds_toArray, List.set_cons_zero, List.set_cons_succ]
                                  refine wpAnyH_take (i := 33) (oi := _) (v := undef) (by simp only [List.getElem?_toArray, List.getElem?_cons_zero, List.getElem?_cons_succ]; exact rfl) (by kernel_rfl) (by kernel_rfl) (by kernel_rfl) (by exact fun _ _ _ h => h) (Or.inr ⟨by rfl, rfl⟩) (by assumption) ?_
                                  try simp only [Act.put, List.setIfInBounds_toArray, List.set_cons_zero, List.set_cons_succ]
                                  refine wpAnyH_take (i := 34) (oi := _) (v := ?_) (by simp only [List.getElem?_toArray, List.getElem?_cons_zero, List.getElem?_cons_succ]; exact rfl) (by kernel_rfl) (by kernel_rfl) (by kernel_rfl) (by exact fun _ _ _ h => h) (Or.inl ⟨by rfl, ?_⟩) (by assumption) ?_
                                  rotate_left 1
                                  · intro w hSw
                                    (try dsimp only at hSw)
                                    go_simp
                                    try with_reducible rfl
                                  try simp only [Act.put, List.setIfInBounds_toArray, List.set_cons_zero, List.set_cons_succ]
                                  refine wpAnyH_done (by kernel_rfl) ?_ _
                                  go_wp2_with fail
                                  go_meet
                                  exact ⟨rfl, b8⟩
                                | true =>
                                  obtain ⟨i1, i2, i3, i4, -⟩ := inkB_iff.1 HIU.out
                                  obtain ⟨z, hz⟩ : ∃ z : Nat, v * W + u = (z : Int) := ⟨(v * W + u).toNat, by have := (idx_lt i1 i2 i3 i4).1; omega⟩
                                  have hzn : (z : Int) < n := by
                                    have h8 := (idx_lt i1 i2 i3 i4).2.1
                                    rw [hz, Int.mul_comm, ← HNI.out] at h8
                                    exact h8
                                  obtain ⟨i0, hi0⟩ : ∃ i0 : Nat, y * W + x = i0 := ⟨_, rfl⟩
                                  have hi0I : (y : Int) * W + x = (i0 : Int) := by rw [← hi0]; push_cast; rfl
                                  have hi0n : (i0 : Int) < n := by
                                    have h8 := (idx_lt (x := (x : Int)) (y := (y : Int)) (W := W) (H := H) (by omega) xl (by omega) yl).2.1
                                    rw [hi0I, Int.mul_comm, ← HNI.out] at h8
                                    exact h8
                                  have w1 := idx_lt i1 i2 i3 i4
                                  have w2' := idx_lt (x := (x : Int)) (y := (y : Int)) (W := W) (H := H) (by omega) xl (by omega) yl
                                  have q1 : IntKind.i64.wrap (v * W) = v * W := IntWalk.i64_in _ (by omega)
                                  have q2 : IntKind.i64.wrap (v * W + u) = (z : Int) := (IntWalk.i64_in _ (by omega)).trans hz
                                  have q3 : IntKind.i64.wrap ((y : Int) * W) = (y : Int) * W := IntWalk.i64_in _ (by omega)
                                  have q4 : IntKind.i64.wrap ((y : Int) * W + x) = (i0 : Int) := (IntWalk.i64_in _ (by omega)).trans hi0I
                                  have c1 := m2.i64at (i := (z : Int)) (by omega) hzn
                                  have c2 := m2.i64at (i := (i0 : Int)) (by omega) hi0n
                                  rw [Int.toNat_natCast] at c1 c2
                                  obtain ⟨nz, hnz⟩ : ∃ q, num (z : Int) = q := ⟨_, rfl⟩
                                  obtain ⟨ni, hni⟩ : ∃ q, num (i0 : Int) = q := ⟨_, rfl⟩
                                  rw [hnz] at c1
                                  rw [hni] at c2
                                  have HNZ := Lib.hid (show num (v * W + u) = nz from by rw [hz]; exact hnz)
                                  have HNN0 := Lib.hid (show num ((y * W + x : Nat) : Int) = ni from by rw [hi0]; exact hni)
                                  have KS := Lib.hid fun w' (hb : Below wr.heap.size wr w') => (show (w'.cell? ⟨w.heap.size, 0, none⟩ = some (.int .i64 W) ∧ w'.cell? ⟨w.heap.size, 1, none⟩ = some (.int .i64 H) ∧ w'.cell? ⟨w.heap.size, 2, none⟩ = some (.slice A n c)) ∧ w'.cell? ⟨gn, z, none⟩ = some (.int .i64 nz) ∧ w'.cell? ⟨gn, i0, none⟩ = some (.int .i64 ni) from
                                    ⟨(m1.below' hb).cells3, (hb.cell (p := ⟨gn, z, none⟩) m2.lt).trans c1, (hb.cell (p := ⟨gn, i0, none⟩) m2.lt).trans c2⟩)
                                  clear w1 w2' hz hi0 hi0I i1 i2 i3 i4 hnz hni
                                  by_cases hlt : nz < ni
                                  · skip
                                    refine wp_region_held_drew (S := fun w' => (w'.cell? ⟨w.heap.size, 0, none⟩ = some (.int .i64 W) ∧ w'.cell? ⟨w.heap.size, 1, none⟩ = some (.int .i64 H) ∧ w'.cell? ⟨w.heap.size, 2, none⟩ = some (.slice A n c)) ∧ w'.cell? ⟨gn, z, none⟩ = some (.int .i64 nz) ∧ w'.cell? ⟨gn, i0, none⟩ = some (.int .i64 ni)) (by kernel_rfl) (KS.out _ (Below.refl _ _).drew) (fun hHeld => ?_)
                                    refine wpAnyH_take (i := 0) (oi := _) (v := ?_) (by simp only [List.getElem?_toArray, List.getElem?_cons_zero]; exact rfl) (by kernel_rfl) (by kernel_rfl) (by kernel_rfl) (by exact fun _ _ _ h => h) (Or.inl ⟨by rfl, ?_⟩) (by assumption) ?_
                                    rotate_left 1
                                    · intro w hSw
                                      (try dsimp only at hSw)
                                      go_simp
                                      try with_reducible rfl
                                    try simp only [Act.put, List.setIfInBounds_toArray, List.set_cons_zero, List.set_cons_succ]
                                    refine wpAnyH_take (i := 1) (oi := _) (v := ?_) (by simp only [List.getElem?_toArray, List.getElem?_cons_zero, List.getElem?_cons_succ]; exact rfl) (by kernel_rfl) (by kernel_rfl) (by kernel_rfl) (by exact fun _ _ _ h => h) (Or.inl ⟨by rfl, ?_⟩) (by assumption) ?_
                                    rotate_left 1
                                    · intro w hSw
                                      (try dsimp only at hSw)
                                      go_simp
                                      try with_reducible rfl
                                    try simp only [Act.put, List.setIfInBounds_toArray, List.set_cons_zero, List.set_cons_succ]
                                    refine wpAnyH_take (i := 2) (oi := _) (v := ?_) (by simp only [List.getElem?_toArray, List.getElem?_cons_zero, List.getElem?_cons_succ]; exact rfl) (by kernel_rfl) (by kernel_rfl) (by kernel_rfl) (by exact fun _ _ _ h => h) (Or.inl ⟨by rfl, ?_⟩) (by assumption) ?_
                                    rotate_left 1
                                    · intro w hSw
                                      (try dsimp only at hSw)
                                      go_simp
                                      try with_reducible rfl
                                    try simp only [Act.put, List.setIfInBounds_toArray, List.set_cons_zero, List.set_cons_succ]
                                    refine wpAnyH_ready (rs := [3]) (by kernel_rfl) (by simp) ?_
                                    refine AllReadyH.cons (o := _) (by simp only [List.getElem?_toArray, List.getElem?_cons_zero, List.getElem?_cons_succ]; exact rfl) (fun K' hK => ?_) AllReadyH.nil
                                    go_simp
                                    refine IKU.out.mono ?_
                                    rintro ee w7 ⟨rfl, hb7⟩
                                    have b7 := (Below.refl wr.heap.size wr).drew.trans hb7
                                    have n1 := m1.below' b7
                                    have n2 := m2.below' b7
                                    refine hK.out _ _ (KS.out _ b7) (fun hHeld => ?_)
                                    clear hK K'
                                    try simp only [Act.put, List.setIfInBounds_toArray, List.set_cons_zero, List.set_cons_succ]
                                    refine wpAnyH_take (i := 4) (oi := _) (v := ?_) (by simp only [List.getElem?_toArray, List.getElem?_cons_zero, List.getElem?_cons_succ]; exact rfl) (by kernel_rfl) (by kernel_rfl) (by kernel_rfl) (by exact fun _ _ _ h => h) (Or.inl ⟨by rfl, ?_⟩) (by assumption) ?_
                                    rotate_left 1
                                    · intro w hSw
                                      (try dsimp only at hSw)
                                      go_simp
                                      try with_reducible rfl
                                    try simp only [Act.put, List.setIfInBounds_toArray, List.set_cons_zero, List.set_cons_succ]
                                    refine wpAnyH_take (i := 5) (oi := _) (v := ?_) (by simp only [List.getElem?_toArray, List.getElem?_cons_zero, List.getElem?_cons_succ]; exact rfl) (by kernel_rfl) (by kernel_rfl) (by kernel_rfl) (by exact fun _ _ _ h => h) (Or.inl ⟨by rfl, ?_⟩) (by assumption) ?_
                                    rotate_left 1
                                    · intro w hSw
                                      (try dsimp only at hSw)
                                      go_simp
                                      try with_reducible rfl
                                    try simp only [Act.put, List.setIfInBounds_toArray, List.set_cons_zero, List.set_cons_succ]
                                    refine wpAnyH_take (i := 6) (oi := _) (v := ?_) (by simp only [List.getElem?_toArray, List.getElem?_cons_zero, List.getElem?_cons_succ]; exact rfl) (by kernel_rfl) (by kernel_rfl) (by kernel_rfl) (by exact fun _ _ _ h => h) (Or.inl ⟨by rfl, ?_⟩) (by assumption) ?_
                                    rotate_left 1
                                    · intro w hSw
                                      (try dsimp only at hSw)
                                      go_simp
                                      try with_reducible rfl
                                    try simp only [Act.put, List.setIfInBounds_toArray, List.set_cons_zero, List.set_cons_succ]
                                    refine wpAnyH_take (i := 7) (oi := _) (v := ?_) (by simp only [List.getElem?_toArray, List.getElem?_cons_zero, List.getElem?_cons_succ]; exact rfl) (by kernel_rfl) (by kernel_rfl) (by kernel_rfl) (by exact fun _ _ _ h => h) (Or.inl ⟨by rfl, ?_⟩) (by assumption) ?_
                                    rotate_left 1
                                    · intro w hSw
                                      (try dsimp only at hSw)
                                      go_simp
                                      try with_reducible rfl
                                    try simp only [Act.put, List.setIfInBounds_toArray, List.set_cons_zero, List.set_cons_succ]
                                    refine wpAnyH_take (i := 8) (oi := _) (v := ?_) (by simp only [List.getElem?_toArray, List.getElem?_cons_zero, List.getElem?_cons_succ]; exact rfl) (by kernel_rfl) (by kernel_rfl) (by kernel_rfl) (by exact fun _ _ _ h => h) (Or.inl ⟨by rfl, ?_⟩) (by assumption) ?_
                                    rotate_left 1
                                    · intro w hSw
                                      (try dsimp only at hSw)
                                      go_simp
                                      try with_reducible rfl
                                    try simp only [Act.put, List.setIfInBounds_toArray, List.set_cons_zero, List.set_cons_succ]
                                    refine wpAnyH_take (i := 9) (oi := _) (v := ?_) (by simp only [List.getElem?_toArray, List.getElem?_cons_zero, List.getElem?_cons_succ]; exact rfl) (by kernel_rfl) (by kernel_rfl) (by kernel_rfl) (by exact fun _ _ _ h => h) (Or.inl ⟨by rfl, ?_⟩) (by assumption) ?_
                                    rotate_left 1
                                    · intro w hSw
                                      (try dsimp only at hSw)
                                      go_simp
                                      try with_reducible rfl
                                    try simp only [Act.put, List.setIfInBounds_toArray, List.set_cons_zero, List.set_cons_succ]
                                    refine wpAnyH_take (i := 10) (oi := _) (v := ?_) (by simp only [List.getElem?_toArray, List.getElem?_cons_zero, List.getElem?_cons_succ]; exact rfl) (by kernel_rfl) (by kernel_rfl) (by kernel_rfl) (by exact fun _ _ _ h => h) (Or.inl ⟨by rfl, ?_⟩) (by assumption) ?_
                                    rotate_left 1
                                    · intro w hSw
                                      (try dsimp only at hSw)
                                      go_simp
                                      try with_reducible rfl
                                    try simp only [Act.put, List.setIfInBounds_toArray, List.set_cons_zero, List.set_cons_succ]
                                    refine wpAnyH_take (i := 11) (oi := _) (v := ?_) (by simp only [List.getElem?_toArray, List.getElem?_cons_zero, List.getElem?_cons_succ]; exact rfl) (by kernel_rfl) (by kernel_rfl) (by kernel_rfl) (by exact fun _ _ _ h => h) (Or.inl ⟨by rfl, ?_⟩) (by assumption) ?_
                                    rotate_left 1
                                    · intro w hSw
                                      (try dsimp only at hSw)
                                      go_simp
                                      try with_reducible rfl
                                    try simp only [Act.put, List.setIfInBounds_toArray, List.set_cons_zero, List.set_cons_succ]
                                    refine wpAnyH_ready (rs := [12]) (by kernel_rfl) (by simp) ?_
                                    refine AllReadyH.cons (o := _) (by simp only [List.getElem?_toArray, List.getElem?_cons_zero, List.getElem?_cons_succ]; exact rfl) (fun K' hK => ?_) AllReadyH.nil
                                    go_simp
                                    refine (NE.out w7).mono ?_
                                    rintro ee w8 ⟨rfl, hb8⟩
                                    have b8 := below_call b7 b7.size hb8
                                    refine hK.out _ _ (KS.out _ b8) (fun hHeld => ?_)
                                    clear hK K'
                                    try simp only [Act.put, List.setIfInBounds_toArray, List.set_cons_zero, List.set_cons_succ]
                                    refine wpAnyH_take (i := 13) (oi := _) (v := ?_) (by simp only [List.getElem?_toArray, List.getElem?_cons_zero, List.getElem?_cons_succ]; exact rfl) (by kernel_rfl) (by kernel_rfl) (by kernel_rfl) (by exact fun _ _ _ h => h) (Or.inl ⟨by rfl, ?_⟩) (by assumption) ?_
                                    rotate_left 1
                                    · intro w hSw
                                      (try dsimp only at hSw)
                                      go_simp
                                      try with_reducible rfl
                                    try simp only [Act.put, List.setIfInBounds_toArray, List.set_cons_zero, List.set_cons_succ]
                                    refine wpAnyH_take (i := 14) (oi := _) (v := ?_) (by simp only [List.getElem?_toArray, List.getElem?_cons_zero, List.getElem?_cons_succ]; exact rfl) (by kernel_rfl) (by kernel_rfl) (by kernel_rfl) (by exact fun _ _ _ h => h) (Or.inl ⟨by rfl, ?_⟩) (by assumption) ?_
                                    rotate_left 1
                                    · intro w hSw
                                      (try dsimp only at hSw)
                                      go_simp
                                      try with_reducible rfl
                                    try simp only [Act.put, List.setIfInBounds_toArray, List.set_cons_zero, List.set_cons_succ]
                                    refine wpAnyH_take (i := 15) (oi := _) (v := ?_) (by simp only [List.getElem?_toArray, List.getElem?_cons_zero, List.getElem?_cons_succ]; exact rfl) (by kernel_rfl) (by kernel_rfl) (by kernel_rfl) (by exact fun _ _ _ h => h) (Or.inl ⟨by rfl, ?_⟩) (by assumption) ?_
                                    rotate_left 1
                                    · intro w hSw
                                      (try dsimp only at hSw)
                                      go_simp
                                      try with_reducible rfl
                                    try simp only [Act.put, List.setIfInBounds_toArray, List.set_cons_zero, List.set_cons_succ]
                                    refine wpAnyH_take (i := 16) (oi := _) (v := ?_) (by simp only [List.getElem?_toArray, List.getElem?_cons_zero, List.getElem?_cons_succ]; exact rfl) (by kernel_rfl) (by kernel_rfl) (by kernel_rfl) (by exact fun _ _ _ h => h) (Or.inl ⟨by rfl, ?_⟩) (by assumption) ?_
                                    rotate_left 1
                                    · intro w hSw
                                      (try dsimp only at hSw)
                                      go_simp
                                      try with_reducible rfl
                                    try simp only [Act.put, List.setIfInBounds_toArray, List.set_cons_zero, List.set_cons_succ]
                                    refine wpAnyH_take (i := 17) (oi := _) (v := ?_) (by simp only [List.getElem?_toArray, List.getElem?_cons_zero, List.getElem?_cons_succ]; exact rfl) (by kernel_rfl) (by kernel_rfl) (by kernel_rfl) (by exact fun _ _ _ h => h) (Or.inl ⟨by rfl, ?_⟩) (by assumption) ?_
                                    rotate_left 1
                                    · intro w hSw
                                      (try dsimp only at hSw)
                                      go_simp
                                      try with_reducible rfl
                                    try simp only [Act.put, List.setIfInBounds_toArray, List.set_cons_zero, List.set_cons_succ]
                                    refine wpAnyH_take (i := 18) (oi := _) (v := ?_) (by simp only [List.getElem?_toArray, List.getElem?_cons_zero, List.getElem?_cons_succ]; exact rfl) (by kernel_rfl) (by kernel_rfl) (by kernel_rfl) (by exact fun _ _ _ h => h) (Or.inl ⟨by rfl, ?_⟩) (by assumption) ?_
                                    rotate_left 1
                                    · intro w hSw
                                      (try dsimp only at hSw)
                                      go_simp
                                      try with_reducible rfl
                                    try simp only [Act.put, List.setIfInBounds_toArray, List.set_cons_zero, List.set_cons_succ]
                                    refine wpAnyH_take (i := 19) (oi := _) (v := ?_) (by simp only [List.getElem?_toArray, List.getElem?_cons_zero, List.getElem?_cons_succ]; exact rfl) (by kernel_rfl) (by kernel_rfl) (by kernel_rfl) (by exact fun _ _ _ h => h) (Or.inl ⟨by rfl, ?_⟩) (by assumption) ?_
                                    rotate_left 1
                                    · intro w hSw
                                      (try dsimp only at hSw)
                                      go_simp
                                      try with_reducible rfl
                                    try simp only [Act.put, List.setIfInBounds_toArray, List.set_cons_zero, List.set_cons_succ]
                                    refine wpAnyH_take (i := 20) (oi := _) (v := ?_) (by simp only [List.getElem?_toArray, List.getElem?_cons_zero, List.getElem?_cons_succ]; exact rfl) (by kernel_rfl) (by kernel_rfl) (by kernel_rfl) (by exact fun _ _ _ h => h) (Or.inl ⟨by rfl, ?_⟩) (by assumption) ?_
                                    rotate_left 1
                                    · intro w hSw
                                      (try dsimp only at hSw)
                                      go_simp
                                      try with_reducible rfl
                                    try simp only [Act.put, List.setIfInBounds_toArray, List.set_cons_zero, List.set_cons_succ]
                                    refine wpAnyH_take (i := 21) (oi := _) (v := ?_) (by simp only [List.getElem?_toArray, List.getElem?_cons_zero, List.getElem?_cons_succ]; exact rfl) (by kernel_rfl) (by kernel_rfl) (by kernel_rfl) (by exact fun _ _ _ h => h) (Or.inl ⟨by rfl, ?_⟩) (by assumption) ?_
                                    rotate_left 1
                                    · intro w hSw
                                      (try dsimp only at hSw)
                                      go_simp
                                      try with_reducible rfl
                                    try simp only [Act.put, List.setIfInBounds_toArray, List.set_cons_zero, List.set_cons_succ]
                                    refine wpAnyH_take (i := 22) (oi := _) (v := ?_) (by simp only [List.getElem?_toArray, List.getElem?_cons_zero, List.getElem?_cons_succ]; exact rfl) (by kernel_rfl) (by kernel_rfl) (by kernel_rfl) (by exact fun _ _ _ h => h) (Or.inl ⟨by rfl, ?_⟩) (by assumption) ?_
                                    rotate_left 1
                                    · intro w hSw
                                      (try dsimp only at hSw)
                                      go_simp
                                      try with_reducible rfl
                                    try simp only [Act.put, List.setIfInBounds_toArray, List.set_cons_zero, List.set_cons_succ]
                                    refine wpAnyH_take (i := 23) (oi := _) (v := ?_) (by simp only [List.getElem?_toArray, List.getElem?_cons_zero, List.getElem?_cons_succ]; exact rfl) (by kernel_rfl) (by kernel_rfl) (by kernel_rfl) (by exact fun _ _ _ h => h) (Or.inl ⟨by rfl, ?_⟩) (by assumption) ?_
                                    rotate_left 1
                                    · intro w hSw
                                      (try dsimp only at hSw)
                                      go_simp
                                      try with_reducible rfl
                                    try simp only [Act.put, List.setIfInBounds_toArray, List.set_cons_zero, List.set_cons_succ]
                                    refine wpAnyH_take (i := 24) (oi := _) (v := ?_) (by simp only [List.getElem?_toArray, List.getElem?_cons_zero, List.getElem?_cons_succ]; exact rfl) (by kernel_rfl) (by kernel_rfl) (by kernel_rfl) (by exact fun _ _ _ h => h) (Or.inl ⟨by rfl, ?_⟩) (by assumption) ?_
                                    rotate_left 1
                                    · intro w hSw
                                      (try dsimp only at hSw)
                                      go_simp
                                      try with_reducible rfl
                                    try simp only [Act.put, List.setIfInBounds_toArray, List.set_cons_zero, List.set_cons_succ]
                                    refine wpAnyH_take (i := 25) (oi := _) (v := ?_) (by simp only [List.getElem?_toArray, List.getElem?_cons_zero, List.getElem?_cons_succ]; exact rfl) (by kernel_rfl) (by kernel_rfl) (by kernel_rfl) (by exact fun _ _ _ h => h) (Or.inl ⟨by rfl, ?_⟩) (by assumption) ?_
                                    rotate_left 1
                                    · intro w hSw
                                      (try dsimp only at hSw)
                                      go_simp
                                      try with_reducible rfl
                                    try simp only [Act.put, List.setIfInBounds_toArray, List.set_cons_zero, List.set_cons_succ]
                                    refine wpAnyH_take (i := 26) (oi := _) (v := ?_) (by simp only [List.getElem?_toArray, List.getElem?_cons_zero, List.getElem?_cons_succ]; exact rfl) (by kernel_rfl) (by kernel_rfl) (by kernel_rfl) (by exact fun _ _ _ h => h) (Or.inl ⟨by rfl, ?_⟩) (by assumption) ?_
                                    rotate_left 1
                                    · intro w hSw
                                      (try dsimp only at hSw)
                                      go_simp
                                      try with_reducible rfl
                                    try simp only [Act.put, List.setIfInBounds_toArray, List.set_cons_zero, List.set_cons_succ]
                                    refine wpAnyH_take (i := 27) (oi := _) (v := ?_) (by simp only [List.getElem?_toArray, List.getElem?_cons_zero, List.getElem?_cons_succ]; exact rfl) (by kernel_rfl) (by kernel_rfl) (by kernel_rfl) (by exact fun _ _ _ h => h) (Or.inl ⟨by rfl, ?_⟩) (by assumption) ?_
                                    rotate_left 1
                                    · intro w hSw
                                      (try dsimp only at hSw)
                                      go_simp
                                      try with_reducible rfl
                                    try simp only [Act.put, List.setIfInBounds_toArray, List.set_cons_zero, List.set_cons_succ]
                                    refine wpAnyH_take (i := 28) (oi := _) (v := ?_) (by simp only [List.getElem?_toArray, List.getElem?_cons_zero, List.getElem?_cons_succ]; exact rfl) (by kernel_rfl) (by kernel_rfl) (by kernel_rfl) (by exact fun _ _ _ h => h) (Or.inl ⟨by rfl, ?_⟩) (by assumption) ?_
                                    rotate_left 1
                                    · intro w hSw
                                      (try dsimp only at hSw)
                                      go_simp
                                      try with_reducible rfl
                                    try simp only [Act.put, List.setIfInBounds_toArray, List.set_cons_zero, List.set_cons_succ]
                                    refine wpAnyH_take (i := 29) (oi := _) (v := ?_) (by simp only [List.getElem?_toArray, List.getElem?_cons_zero, List.getElem?_cons_succ]; exact rfl) (by kernel_rfl) (by kernel_rfl) (by kernel_rfl) (by exact fun _ _ _ h => h) (Or.inl ⟨by rfl, ?_⟩) (by assumption) ?_
                                    rotate_left 1
                                    · intro w hSw
                                      (try dsimp only at hSw)
                                      go_simp
                                      try with_reducible rfl
                                    try simp only [Act.put, List.setIfInBounds_toArray, List.set_cons_zero, List.set_cons_succ]
                                    refine wpAnyH_take (i := 30) (oi := _) (v := ?_) (by simp only [List.getElem?_toArray, List.getElem?_cons_zero, List.getElem?_cons_succ]; exact rfl) (by kernel_rfl) (by kernel_rfl) (by kernel_rfl) (by exact fun _ _ _ h => h) (Or.inl ⟨by rfl, ?_⟩) (by assumption) ?_
                                    rotate_left 1
                                    · intro w hSw
                                      (try dsimp only at hSw)
                                      go_simp
                                      try with_reducible rfl
                                    try simp only [Act.put, List.setIfInBounds_toArray, List.set_cons_zero, List.set_cons_succ]
                                    refine wpAnyH_take (i := 31) (oi := _) (v := ?_) (by simp only [List.getElem?_toArray, List.getElem?_cons_zero, List.getElem?_cons_succ]; exact rfl) (by kernel_rfl) (by kernel_rfl) (by kernel_rfl) (by exact fun _ _ _ h => h) (Or.inl ⟨by rfl, ?_⟩) (by assumption) ?_
                                    rotate_left 1
                                    · intro w hSw
                                      (try dsimp only at hSw)
                                      go_simp
                                      try with_reducible rfl
                                    try simp only [Act.put, List.setIfInBounds_toArray, List.set_cons_zero, List.set_cons_succ]
                                    refine wpAnyH_take (i := 32) (oi := _) (v := ?_) (by simp only [List.getElem?_toArray, List.getElem?_cons_zero, List.getElem?_cons_succ]; exact rfl) (by kernel_rfl) (by kernel_rfl) (by kernel_rfl) (by exact fun _ _ _ h => h) (Or.inl ⟨by rfl, ?_⟩) (by assumption) ?_
                                    rotate_left 1
                                    · intro w hSw
                                      (try dsimp only at hSw)
                                      go_simp
                                      try with_reducible rfl
                                    try simp only [Act.put, List.setIfInBounds_toArray, List.set_cons_zero, List.set_cons_succ]
                                    refine wpAnyH_take (i := 33) (oi := _) (v := ?_) (by simp only [List.getElem?_toArray, List.getElem?_cons_zero, List.getElem?_cons_succ]; exact rfl) (by kernel_rfl) (by kernel_rfl) (by kernel_rfl) (by exact fun _ _ _ h => h) (Or.inl ⟨by rfl, ?_⟩) (by assumption) ?_
                                    rotate_left 1
                                    · intro w hSw
                                      (try dsimp only at hSw)
                                      go_simp
                                      try with_reducible rfl
                                    try simp only [Act.put, List.setIfInBounds_toArray, List.set_cons_zero, List.set_cons_succ]
                                    refine wpAnyH_take (i := 34) (oi := _) (v := ?_) (by simp only [List.getElem?_toArray, List.getElem?_cons_zero, List.getElem?_cons_succ]; exact rfl) (by kernel_rfl) (by kernel_rfl) (by kernel_rfl) (by exact fun _ _ _ h => h) (Or.inl ⟨by rfl, ?_⟩) (by assumption) ?_
                                    rotate_left 1
                                    · intro w hSw
                                      (try dsimp only at hSw)
                                      go_simp
                                      try with_reducible rfl
                                    try simp only [Act.put, List.setIfInBounds_toArray, List.set_cons_zero, List.set_cons_succ]
                                    refine wpAnyH_done (by kernel_rfl) ?_ _
                                    go_wp2_with fail
                                    go_meet
                                    exact ⟨by rw [HNZ.out, HNN0.out, decide_eq_true hlt]; rfl, b8⟩
                                  · skip
                                    refine wp_region_held_drew (S := fun w' => (w'.cell? ⟨w.heap.size, 0, none⟩ = some (.int .i64 W) ∧ w'.cell? ⟨w.heap.size, 1, none⟩ = some (.int .i64 H) ∧ w'.cell? ⟨w.heap.size, 2, none⟩ = some (.slice A n c)) ∧ w'.cell? ⟨gn, z, none⟩ = some (.int .i64 nz) ∧ w'.cell? ⟨gn, i0, none⟩ = some (.int .i64 ni)) (by kernel_rfl) (KS.out _ (Below.refl _ _).drew) (fun hHeld => ?_)
                                    refine wpAnyH_take (i := 0) (oi := _) (v := ?_) (by simp only [List.getElem?_toArray, List.getElem?_cons_zero]; exact rfl) (by kernel_rfl) (by kernel_rfl) (by kernel_rfl) (by exact fun _ _ _ h => h) (Or.inl ⟨by rfl, ?_⟩) (by assumption) ?_
                                    rotate_left 1
                                    · intro w hSw
                                      (try dsimp only at hSw)
                                      go_simp
                                      try with_reducible rfl
                                    try simp only [Act.put, List.setIfInBounds_toArray, List.set_cons_zero, List.set_cons_succ]
                                    refine wpAnyH_take (i := 1) (oi := _) (v := ?_) (by simp only [List.getElem?_toArray, List.getElem?_cons_zero, List.getElem?_cons_succ]; exact rfl) (by kernel_rfl) (by kernel_rfl) (by kernel_rfl) (by exact fun _ _ _ h => h) (Or.inl ⟨by rfl, ?_⟩) (by assumption) ?_
                                    rotate_left 1
                                    · intro w hSw
                                      (try dsimp only at hSw)
                                      go_simp
                                      try with_reducible rfl
                                    try simp only [Act.put, List.setIfInBounds_toArray, List.set_cons_zero, List.set_cons_succ]
                                    refine wpAnyH_take (i := 2) (oi := _) (v := ?_) (by simp only [List.getElem?_toArray, List.getElem?_cons_zero, List.getElem?_cons_succ]; exact rfl) (by kernel_rfl) (by kernel_rfl) (by kernel_rfl) (by exact fun _ _ _ h => h) (Or.inl ⟨by rfl, ?_⟩) (by assumption) ?_
                                    rotate_left 1
                                    · intro w hSw
                                      (try dsimp only at hSw)
                                      go_simp
                                      try with_reducible rfl
                                    try simp only [Act.put, List.setIfInBounds_toArray, List.set_cons_zero, List.set_cons_succ]
                                    refine wpAnyH_ready (rs := [3]) (by kernel_rfl) (by simp) ?_
                                    refine AllReadyH.cons (o := _) (by simp only [List.getElem?_toArray, List.getElem?_cons_zero, List.getElem?_cons_succ]; exact rfl) (fun K' hK => ?_) AllReadyH.nil
                                    go_simp
                                    refine IKU.out.mono ?_
                                    rintro ee w7 ⟨rfl, hb7⟩
                                    have b7 := (Below.refl wr.heap.size wr).drew.trans hb7
                                    have n1 := m1.below' b7
                                    have n2 := m2.below' b7
                                    refine hK.out _ _ (KS.out _ b7) (fun hHeld => ?_)
                                    clear hK K'
                                    try simp only [Act.put, List.setIfInBounds_toArray, List.set_cons_zero, List.set_cons_succ]
                                    refine wpAnyH_take (i := 4) (oi := _) (v := ?_) (by simp only [List.getElem?_toArray, List.getElem?_cons_zero, List.getElem?_cons_succ]; exact rfl) (by kernel_rfl) (by kernel_rfl) (by kernel_rfl) (by exact fun _ _ _ h => h) (Or.inl ⟨by rfl, ?_⟩) (by assumption) ?_
                                    rotate_left 1
                                    · intro w hSw
                                      (try dsimp only at hSw)
                                      go_simp
                                      try with_reducible rfl
                                    try simp only [Act.put, List.setIfInBounds_toArray, List.set_cons_zero, List.set_cons_succ]
                                    refine wpAnyH_take (i := 5) (oi := _) (v := ?_) (by simp only [List.getElem?_toArray, List.getElem?_cons_zero, List.getElem?_cons_succ]; exact rfl) (by kernel_rfl) (by kernel_rfl) (by kernel_rfl) (by exact fun _ _ _ h => h) (Or.inl ⟨by rfl, ?_⟩) (by assumption) ?_
                                    rotate_left 1
                                    · intro w hSw
                                      (try dsimp only at hSw)
                                      go_simp
                                      try with_reducible rfl
                                    try simp only [Act.put, List.setIfInBounds_toArray, List.set_cons_zero, List.set_cons_succ]
                                    refine wpAnyH_take (i := 6) (oi := _) (v := ?_) (by simp only [List.getElem?_toArray, List.getElem?_cons_zero, List.getElem?_cons_succ]; exact rfl) (by kernel_rfl) (by kernel_rfl) (by kernel_rfl) (by exact fun _ _ _ h => h) (Or.inl ⟨by rfl, ?_⟩) (by assumption) ?_
                                    rotate_left 1
                                    · intro w hSw
                                      (try dsimp only at hSw)
                                      go_simp
                                      try with_reducible rfl
                                    try simp only [Act.put, List.setIfInBounds_toArray, List.set_cons_zero, List.set_cons_succ]
                                    refine wpAnyH_take (i := 7) (oi := _) (v := ?_) (by simp only [List.getElem?_toArray, List.getElem?_cons_zero, List.getElem?_cons_succ]; exact rfl) (by kernel_rfl) (by kernel_rfl) (by kernel_rfl) (by exact fun _ _ _ h => h) (Or.inl ⟨by rfl, ?_⟩) (by assumption) ?_
                                    rotate_left 1
                                    · intro w hSw
                                      (try dsimp only at hSw)
                                      go_simp
                                      try with_reducible rfl
                                    try simp only [Act.put, List.setIfInBounds_toArray, List.set_cons_zero, List.set_cons_succ]
                                    refine wpAnyH_take (i := 8) (oi := _) (v := ?_) (by simp only [List.getElem?_toArray, List.getElem?_cons_zero, List.getElem?_cons_succ]; exact rfl) (by kernel_rfl) (by kernel_rfl) (by kernel_rfl) (by exact fun _ _ _ h => h) (Or.inl ⟨by rfl, ?_⟩) (by assumption) ?_
                                    rotate_left 1
                                    · intro w hSw
                                      (try dsimp only at hSw)
                                      go_simp
                                      try with_reducible rfl
                                    try simp only [Act.put, List.setIfInBounds_toArray, List.set_cons_zero, List.set_cons_succ]
                                    refine wpAnyH_take (i := 9) (oi := _) (v := ?_) (by simp only [List.getElem?_toArray, List.getElem?_cons_zero, List.getElem?_cons_succ]; exact rfl) (by kernel_rfl) (by kernel_rfl) (by kernel_rfl) (by exact fun _ _ _ h => h) (Or.inl ⟨by rfl, ?_⟩) (by assumption) ?_
                                    rotate_left 1
                                    · intro w hSw
                                      (try dsimp only at hSw)
                                      go_simp
                                      try with_reducible rfl
                                    try simp only [Act.put, List.setIfInBounds_toArray, List.set_cons_zero, List.set_cons_succ]
                                    refine wpAnyH_take (i := 10) (oi := _) (v := ?_) (by simp only [List.getElem?_toArray, List.getElem?_cons_zero, List.getElem?_cons_succ]; exact rfl) (by kernel_rfl) (by kernel_rfl) (by kernel_rfl) (by exact fun _ _ _ h => h) (Or.inl ⟨by rfl, ?_⟩) (by assumption) ?_
                                    rotate_left 1
                                    · intro w hSw
                                      (try dsimp only at hSw)
                                      go_simp
                                      try with_reducible rfl
                                    try simp only [Act.put, List.setIfInBounds_toArray, List.set_cons_zero, List.set_cons_succ]
                                    refine wpAnyH_take (i := 11) (oi := _) (v := ?_) (by simp only [List.getElem?_toArray, List.getElem?_cons_zero, List.getElem?_cons_succ]; exact rfl) (by kernel_rfl) (by kernel_rfl) (by kernel_rfl) (by exact fun _ _ _ h => h) (Or.inl ⟨by rfl, ?_⟩) (by assumption) ?_
                                    rotate_left 1
                                    · intro w hSw
                                      (try dsimp only at hSw)
                                      go_simp
                                      try with_reducible rfl
                                    try simp only [Act.put, List.setIfInBounds_toArray, List.set_cons_zero, List.set_cons_succ]
                                    refine wpAnyH_ready (rs := [12]) (by kernel_rfl) (by simp) ?_
                                    refine AllReadyH.cons (o := _) (by simp only [List.getElem?_toArray, List.getElem?_cons_zero, List.getElem?_cons_succ]; exact rfl) (fun K' hK => ?_) AllReadyH.nil
                                    go_simp
                                    refine (NE.out w7).mono ?_
                                    rintro ee w8 ⟨rfl, hb8⟩
                                    have b8 := below_call b7 b7.size hb8
                                    refine hK.out _ _ (KS.out _ b8) (fun hHeld => ?_)
                                    clear hK K'
                                    try simp only [Act.put, List.setIfInBounds_toArray, List.set_cons_zero, List.set_cons_succ]
                                    refine wpAnyH_take (i := 13) (oi := _) (v := ?_) (by simp only [List.getElem?_toArray, List.getElem?_cons_zero, List.getElem?_cons_succ]; exact rfl) (by kernel_rfl) (by kernel_rfl) (by kernel_rfl) (by exact fun _ _ _ h => h) (Or.inl ⟨by rfl, ?_⟩) (by assumption) ?_
                                    rotate_left 1
                                    · intro w hSw
                                      (try dsimp only at hSw)
                                      go_simp
                                      try with_reducible rfl
                                    try simp only [Act.put, List.setIfInBounds_toArray, List.set_cons_zero, List.set_cons_succ]
                                    refine wpAnyH_take (i := 14) (oi := _) (v := ?_) (by simp only [List.getElem?_toArray, List.getElem?_cons_zero, List.getElem?_cons_succ]; exact rfl) (by kernel_rfl) (by kernel_rfl) (by kernel_rfl) (by exact fun _ _ _ h => h) (Or.inl ⟨by rfl, ?_⟩) (by assumption) ?_
                                    rotate_left 1
                                    · intro w hSw
                                      (try dsimp only at hSw)
                                      go_simp
                                      try with_reducible rfl
                                    try simp only [Act.put, List.setIfInBounds_toArray, List.set_cons_zero, List.set_cons_succ]
                                    refine wpAnyH_take (i := 15) (oi := _) (v := ?_) (by simp only [List.getElem?_toArray, List.getElem?_cons_zero, List.getElem?_cons_succ]; exact rfl) (by kernel_rfl) (by kernel_rfl) (by kernel_rfl) (by exact fun _ _ _ h => h) (Or.inl ⟨by rfl, ?_⟩) (by assumption) ?_
                                    rotate_left 1
                                    · intro w hSw
                                      (try dsimp only at hSw)
                                      go_simp
                                      try with_reducible rfl
                                    try simp only [Act.put, List.setIfInBounds_toArray, List.set_cons_zero, List.set_cons_succ]
                                    refine wpAnyH_take (i := 16) (oi := _) (v := ?_) (by simp only [List.getElem?_toArray, List.getElem?_cons_zero, List.getElem?_cons_succ]; exact rfl) (by kernel_rfl) (by kernel_rfl) (by kernel_rfl) (by exact fun _ _ _ h => h) (Or.inl ⟨by rfl, ?_⟩) (by assumption) ?_
                                    rotate_left 1
                                    · intro w hSw
                                      (try dsimp only at hSw)
                                      go_simp
                                      try with_reducible rfl
                                    try simp only [Act.put, List.setIfInBounds_toArray, List.set_cons_zero, List.set_cons_succ]
                                    refine wpAnyH_take (i := 17) (oi := _) (v := ?_) (by simp only [List.getElem?_toArray, List.getElem?_cons_zero, List.getElem?_cons_succ]; exact rfl) (by kernel_rfl) (by kernel_rfl) (by kernel_rfl) (by exact fun _ _ _ h => h) (Or.inl ⟨by rfl, ?_⟩) (by assumption) ?_
                                    rotate_left 1
                                    · intro w hSw
                                      (try dsimp only at hSw)
                                      go_simp
                                      try with_reducible rfl
                                    try simp only [Act.put, List.setIfInBounds_toArray, List.set_cons_zero, List.set_cons_succ]
                                    refine wpAnyH_take (i := 18) (oi := _) (v := ?_) (by simp only [List.getElem?_toArray, List.getElem?_cons_zero, List.getElem?_cons_succ]; exact rfl) (by kernel_rfl) (by kernel_rfl) (by kernel_rfl) (by exact fun _ _ _ h => h) (Or.inl ⟨by rfl, ?_⟩) (by assumption) ?_
                                    rotate_left 1
                                    · intro w hSw
                                      (try dsimp only at hSw)
                                      go_simp
                                      try with_reducible rfl
                                    try simp only [Act.put, List.setIfInBounds_toArray, List.set_cons_zero, List.set_cons_succ]
                                    refine wpAnyH_take (i := 19) (oi := _) (v := ?_) (by simp only [List.getElem?_toArray, List.getElem?_cons_zero, List.getElem?_cons_succ]; exact rfl) (by kernel_rfl) (by kernel_rfl) (by kernel_rfl) (by exact fun _ _ _ h => h) (Or.inl ⟨by rfl, ?_⟩) (by assumption) ?_
                                    rotate_left 1
                                    · intro w hSw
                                      (try dsimp only at hSw)
                                      go_simp
                                      try with_reducible rfl
                                    try simp only [Act.put, List.setIfInBounds_toArray, List.set_cons_zero, List.set_cons_succ]
                                    refine wpAnyH_take (i := 20) (oi := _) (v := ?_) (by simp only [List.getElem?_toArray, List.getElem?_cons_zero, List.getElem?_cons_succ]; exact rfl) (by kernel_rfl) (by kernel_rfl) (by kernel_rfl) (by exact fun _ _ _ h => h) (Or.inl ⟨by rfl, ?_⟩) (by assumption) ?_
                                    rotate_left 1
                                    · intro w hSw
                                      (try dsimp only at hSw)
                                      go_simp
                                      try with_reducible rfl
                                    try simp only [Act.put, List.setIfInBounds_toArray, List.set_cons_zero, List.set_cons_succ]
                                    refine wpAnyH_take (i := 21) (oi := _) (v := ?_) (by simp only [List.getElem?_toArray, List.getElem?_cons_zero, List.getElem?_cons_succ]; exact rfl) (by kernel_rfl) (by kernel_rfl) (by kernel_rfl) (by exact fun _ _ _ h => h) (Or.inl ⟨by rfl, ?_⟩) (by assumption) ?_
                                    rotate_left 1
                                    · intro w hSw
                                      (try dsimp only at hSw)
                                      go_simp
                                      try with_reducible rfl
                                    try simp only [Act.put, List.setIfInBounds_toArray, List.set_cons_zero, List.set_cons_succ]
                                    refine wpAnyH_take (i := 22) (oi := _) (v := ?_) (by simp only [List.getElem?_toArray, List.getElem?_cons_zero, List.getElem?_cons_succ]; exact rfl) (by kernel_rfl) (by kernel_rfl) (by kernel_rfl) (by exact fun _ _ _ h => h) (Or.inl ⟨by rfl, ?_⟩) (by assumption) ?_
                                    rotate_left 1
                                    · intro w hSw
                                      (try dsimp only at hSw)
                                      go_simp
                                      try with_reducible rfl
                                    try simp only [Act.put, List.setIfInBounds_toArray, List.set_cons_zero, List.set_cons_succ]
                                    refine wpAnyH_take (i := 23) (oi := _) (v := ?_) (by simp only [List.getElem?_toArray, List.getElem?_cons_zero, List.getElem?_cons_succ]; exact rfl) (by kernel_rfl) (by kernel_rfl) (by kernel_rfl) (by exact fun _ _ _ h => h) (Or.inl ⟨by rfl, ?_⟩) (by assumption) ?_
                                    rotate_left 1
                                    · intro w hSw
                                      (try dsimp only at hSw)
                                      go_simp
                                      try with_reducible rfl
                                    try simp only [Act.put, List.setIfInBounds_toArray, List.set_cons_zero, List.set_cons_succ]
                                    refine wpAnyH_take (i := 24) (oi := _) (v := ?_) (by simp only [List.getElem?_toArray, List.getElem?_cons_zero, List.getElem?_cons_succ]; exact rfl) (by kernel_rfl) (by kernel_rfl) (by kernel_rfl) (by exact fun _ _ _ h => h) (Or.inl ⟨by rfl, ?_⟩) (by assumption) ?_
                                    rotate_left 1
                                    · intro w hSw
                                      (try dsimp only at hSw)
                                      go_simp
                                      try with_reducible rfl
                                    try simp only [Act.put, List.setIfInBounds_toArray, List.set_cons_zero, List.set_cons_succ]
                                    refine wpAnyH_take (i := 25) (oi := _) (v := ?_) (by simp only [List.getElem?_toArray, List.getElem?_cons_zero, List.getElem?_cons_succ]; exact rfl) (by kernel_rfl) (by kernel_rfl) (by kernel_rfl) (by exact fun _ _ _ h => h) (Or.inl ⟨by rfl, ?_⟩) (by assumption) ?_
                                    rotate_left 1
                                    · intro w hSw
                                      (try dsimp only at hSw)
                                      go_simp
                                      try with_reducible rfl
                                    try simp only [Act.put, List.setIfInBounds_toArray, List.set_cons_zero, List.set_cons_succ]
                                    refine wpAnyH_take (i := 26) (oi := _) (v := ?_) (by simp only [List.getElem?_toArray, List.getElem?_cons_zero, List.getElem?_cons_succ]; exact rfl) (by kernel_rfl) (by kernel_rfl) (by kernel_rfl) (by exact fun _ _ _ h => h) (Or.inl ⟨by rfl, ?_⟩) (by assumption) ?_
                                    rotate_left 1
                                    · intro w hSw
                                      (try dsimp only at hSw)
                                      go_simp
                                      try with_reducible rfl
                                    try simp only [Act.put, List.setIfInBounds_toArray, List.set_cons_zero, List.set_cons_succ]
                                    refine wpAnyH_take (i := 27) (oi := _) (v := ?_) (by simp only [List.getElem?_toArray, List.getElem?_cons_zero, List.getElem?_cons_succ]; exact rfl) (by kernel_rfl) (by kernel_rfl) (by kernel_rfl) (by exact fun _ _ _ h => h) (Or.inl ⟨by rfl, ?_⟩) (by assumption) ?_
                                    rotate_left 1
                                    · intro w hSw
                                      (try dsimp only at hSw)
                                      go_simp
                                      try with_reducible rfl
                                    try simp only [Act.put, List.setIfInBounds_toArray, List.set_cons_zero, List.set_cons_succ]
                                    refine wpAnyH_take (i := 28) (oi := _) (v := ?_) (by simp only [List.getElem?_toArray, List.getElem?_cons_zero, List.getElem?_cons_succ]; exact rfl) (by kernel_rfl) (by kernel_rfl) (by kernel_rfl) (by exact fun _ _ _ h => h) (Or.inl ⟨by rfl, ?_⟩) (by assumption) ?_
                                    rotate_left 1
                                    · intro w hSw
                                      (try dsimp only at hSw)
                                      go_simp
                                      try with_reducible rfl
                                    try simp only [Act.put, List.setIfInBounds_toArray, List.set_cons_zero, List.set_cons_succ]
                                    refine wpAnyH_take (i := 29) (oi := _) (v := ?_) (by simp only [List.getElem?_toArray, List.getElem?_cons_zero, List.getElem?_cons_succ]; exact rfl) (by kernel_rfl) (by kernel_rfl) (by kernel_rfl) (by exact fun _ _ _ h => h) (Or.inl ⟨by rfl, ?_⟩) (by assumption) ?_
                                    rotate_left 1
                                    · intro w hSw
                                      (try dsimp only at hSw)
                                      go_simp
                                      try with_reducible rfl
                                    try simp only [Act.put, List.setIfInBounds_toArray, List.set_cons_zero, List.set_cons_succ]
                                    refine wpAnyH_take (i := 30) (oi := _) (v := ?_) (by simp only [List.getElem?_toArray, List.getElem?_cons_zero, List.getElem?_cons_succ]; exact rfl) (by kernel_rfl) (by kernel_rfl) (by kernel_rfl) (by exact fun _ _ _ h => h) (Or.inl ⟨by rfl, ?_⟩) (by assumption) ?_
                                    rotate_left 1
                                    · intro w hSw
                                      (try dsimp only at hSw)
                                      go_simp
                                      try with_reducible rfl
                                    try simp only [Act.put, List.setIfInBounds_toArray, List.set_cons_zero, List.set_cons_succ]
                                    refine wpAnyH_take (i := 31) (oi := _) (v := ?_) (by simp only [List.getElem?_toArray, List.getElem?_cons_zero, List.getElem?_cons_succ]; exact rfl) (by kernel_rfl) (by kernel_rfl) (by kernel_rfl) (by exact fun _ _ _ h => h) (Or.inl ⟨by rfl, ?_⟩) (by assumption) ?_
                                    rotate_left 1
                                    · intro w hSw
                                      (try dsimp only at hSw)
                                      go_simp
                                      try with_reducible rfl
                                    try simp only [Act.put, List.setIfInBounds_toArray, List.set_cons_zero, List.set_cons_succ]
                                    refine wpAnyH_take (i := 32) (oi := _) (v := ?_) (by simp only [List.getElem?_toArray, List.getElem?_cons_zero, List.getElem?_cons_succ]; exact rfl) (by kernel_rfl) (by kernel_rfl) (by kernel_rfl) (by exact fun _ _ _ h => h) (Or.inl ⟨by rfl, ?_⟩) (by assumption) ?_
                                    rotate_left 1
                                    · intro w hSw
                                      (try dsimp only at hSw)
                                      go_simp
                                      try with_reducible rfl
                                    try simp only [Act.put, List.setIfInBounds_toArray, List.set_cons_zero, List.set_cons_succ]
                                    refine wpAnyH_take (i := 33) (oi := _) (v := ?_) (by simp only [List.getElem?_toArray, List.getElem?_cons_zero, List.getElem?_cons_succ]; exact rfl) (by kernel_rfl) (by kernel_rfl) (by kernel_rfl) (by exact fun _ _ _ h => h) (Or.inl ⟨by rfl, ?_⟩) (by assumption) ?_
                                    rotate_left 1
                                    · intro w hSw
                                      (try dsimp only at hSw)
                                      go_simp
                                      try with_reducible rfl
                                    try simp only [Act.put, List.setIfInBounds_toArray, List.set_cons_zero, List.set_cons_succ]
                                    refine wpAnyH_take (i := 34) (oi := _) (v := ?_) (by simp only [List.getElem?_toArray, List.getElem?_cons_zero, List.getElem?_cons_succ]; exact rfl) (by kernel_rfl) (by kernel_rfl) (by kernel_rfl) (by exact fun _ _ _ h => h) (Or.inl ⟨by rfl, ?_⟩) (by assumption) ?_
                                    rotate_left 1
                                    · intro w hSw
                                      (try dsimp only at hSw)
                                      go_simp
                                      try with_reducible rfl
                                    try simp only [Act.put, List.setIfInBounds_toArray, List.set_cons_zero, List.set_cons_succ]
                                    refine wpAnyH_done (by kernel_rfl) ?_ _
                                    go_wp2_with fail
                                    go_meet
                                    exact ⟨by rw [HNZ.out, HNN0.out, decide_eq_false (by omega : ¬ nz < ni)]; rfl, b8⟩
                            case rest =>
                            obtain ⟨rfl, hb9⟩ := hcut
                            generalize wc = w9 at *
                            have bu9 := bu7.then (hb9.mono bu7.size)
                            have mk9 := mk8.below' hb9
                            have m19 := m1.below' hb9
                            clear IKU NE m1 m2 p1 p2 p3 mk8 bu7 hb9
                            have hplace : ∀ j : Nat, ((j / W : Nat) : Int) = v → ((j % W : Nat) : Int) = u → (j : Int) = v * W + u := fun j h1 h2 => by
                              have := Nat.div_add_mod j W
                              rw [Nat.mul_comm] at this
                              have h9 : ((j / W * W + j % W : Nat) : Int) = (j : Int) := by rw [this]
                              push_cast at h9 h1 h2
                              rw [h1, h2] at h9
                              exact h9.symm
                            obtain ⟨pd1, pd2⟩ := place_div (W := W) (x := x) (y := y) hxW
                            have hadj : ∀ j : Nat, ((j / W : Nat) : Int) = v → ((j % W : Nat) : Int) = u → y * W + x ≠ j → (AdjN W e (y * W + x) j ↔ ne = true) := fun j h1 h2 h3 => by
                              rw [← near_adj h3, pd1, pd2, h1, h2, HNE.out]
                            cases ht : (iu && ne && decide (num (v * W + u) < num ((y * W + x : Nat) : Int))) with
                            | false =>
                              have PN : Hid (Pass n W e p num0 b num (Su W y x v (u + 1))) := Lib.hid (by
                                by_cases c : iu = true ∧ ne = true
                                · obtain ⟨rfl, rfl⟩ := c
                                  obtain ⟨i1, i2, i3, i4, -⟩ := inkB_iff.1 HIU.out
                                  obtain ⟨z, hz⟩ : ∃ z : Nat, v * W + u = (z : Int) := ⟨(v * W + u).toNat, by have := (idx_lt i1 i2 i3 i4).1; omega⟩
                                  have z1 : ((z / W : Nat) : Int) = v := by rw [Int.natCast_ediv, ← hz]; exact idx_div i1 i2
                                  have z2 : ((z % W : Nat) : Int) = u := by rw [Int.natCast_emod, ← hz]; exact idx_mod i1 i2
                                  refine HPu.out.ukeep z1 z2 ?_
                                  have h9 : decide (num (v * W + u) < num ((y * W + x : Nat) : Int)) = false := by simpa using ht
                                  have := of_decide_eq_false h9
                                  rw [hz] at this
                                  omega
                                · refine HPu.out.uno fun j hj ha h1 h2 => c ⟨?_, ?_⟩
                                  · have h3 := hplace j h1 h2
                                    have hjn := hj.1
                                    have hW0 : 0 < W := by omega
                                    rw [← HIU.out]
                                    exact inkB_iff.2 ⟨by rw [← h2]; exact Int.natCast_nonneg _, by rw [← h2]; exact Int.ofNat_lt.2 (Nat.mod_lt _ hW0), by rw [← h1]; exact Int.natCast_nonneg _, by rw [← h1]; exact Int.ofNat_lt.2 (Nat.div_lt_of_lt_mul (HN.out ▸ hjn)), by rw [← h3]; exact hj.2⟩
                                  · exact (hadj j h1 h2 fun e9 => by subst e9; exact ha.1 rfl).1 ha)
                              clear hplace hadj pd1 pd2 ht HPu m19
                              go_wp2_with fail
                              go_roundw
                              case rel => exact ⟨u + 1, b, num, by omega, by omega, rfl, rfl, PN, bu9, mk9⟩
                              case measure => simp [intOf]; omega
                            | true =>
                              rw [Bool.and_eq_true, Bool.and_eq_true, decide_eq_true_iff] at ht
                              obtain ⟨⟨rfl, rfl⟩, hlt⟩ := ht
                              obtain ⟨i1, i2, i3, i4, i5⟩ := inkB_iff.1 HIU.out
                              obtain ⟨z, hz⟩ : ∃ z : Nat, v * W + u = (z : Int) := ⟨(v * W + u).toNat, by have := (idx_lt i1 i2 i3 i4).1; omega⟩
                              have z1 : ((z / W : Nat) : Int) = v := by rw [Int.natCast_ediv, ← hz]; exact idx_div i1 i2
                              have z2 : ((z % W : Nat) : Int) = u := by rw [Int.natCast_emod, ← hz]; exact idx_mod i1 i2
                              have hzn : (z : Int) < n := by
                                have h8 := (idx_lt i1 i2 i3 i4).2.1
                                rw [hz, Int.mul_comm, ← HNI.out] at h8
                                exact h8
                              obtain ⟨i0, hi0⟩ : ∃ i0 : Nat, y * W + x = i0 := ⟨_, rfl⟩
                              have hi0I : (y : Int) * W + x = (i0 : Int) := by rw [← hi0]; push_cast; rfl
                              have hi0n : (i0 : Int) < n := by
                                have h8 := (idx_lt (x := (x : Int)) (y := (y : Int)) (W := W) (H := H) (by omega) xl (by omega) yl).2.1
                                rw [hi0I, Int.mul_comm, ← HNI.out] at h8
                                exact h8
                              rw [hz, hi0] at hlt
                              have hne : i0 ≠ z := fun e9 => by rw [e9] at hlt; omega
                              have hink0 : InkN n p i0 := ⟨by omega, by
                                have h9 := HBI.out
                                rw [inkB_in (by omega) xl (by omega) yl, hi0I] at h9
                                exact of_decide_eq_true h9⟩
                              have hinkz : InkN n p z := ⟨by omega, by rw [← hz]; exact i5⟩
                              rw [hi0] at hadj
                              have PN := Lib.hid (HPu.out.step (S' := Su W y x v (u + 1)) hink0 hinkz ((hadj z z1 z2 hne).2 rfl) hlt)
                              have w1 := idx_lt i1 i2 i3 i4
                              have w2' := idx_lt (x := (x : Int)) (y := (y : Int)) (W := W) (H := H) (by omega) xl (by omega) yl
                              have q1 : IntKind.i64.wrap (v * W) = v * W := IntWalk.i64_in _ (by omega)
                              have q2 : IntKind.i64.wrap (v * W + u) = (z : Int) := (IntWalk.i64_in _ (by omega)).trans hz
                              have q3 : IntKind.i64.wrap ((y : Int) * W) = (y : Int) * W := IntWalk.i64_in _ (by omega)
                              have q4 : IntKind.i64.wrap ((y : Int) * W + x) = (i0 : Int) := (IntWalk.i64_in _ (by omega)).trans hi0I
                              have c1 := mk9.i64at (i := (z : Int)) (by omega) hzn
                              have c2 := mk9.i64at (i := (i0 : Int)) (by omega) hi0n
                              have cf := mk9.frozen i0
                              rw [Int.toNat_natCast] at c1 c2
                              obtain ⟨nz, hnz⟩ : ∃ q, num (z : Int) = q := ⟨_, rfl⟩
                              obtain ⟨ni, hni⟩ : ∃ q, num (i0 : Int) = q := ⟨_, rfl⟩
                              rw [hnz] at c1 PN
                              rw [hni] at c2
                              have mk10 := Lib.hid ((mk9.drew).i64set (i0 : Int) (by omega) nz)
                              rw [Int.toNat_natCast] at mk10
                              have bu10 := (bu9.then (Below.refl _ _).drew).set i0 (.int .i64 nz)
                              obtain ⟨p1, p2, p3⟩ := m19.cells3
                              clear w1 w2' hz hi0 hi0I i1 i2 i3 i4 i5 hnz hni hplace hadj pd1 pd2 z1 z2 hne hink0 hinkz hlt HPu m19
                              go_upto_region 22 with fail
                              go_still_tail 17, (by kernel_rfl)
                              change wpList _ _ _ _ _ w9.drew
                              replace c2 : w9.drew.cell? ⟨gn, i0, none⟩ = some (.int .i64 ni) := c2
                              replace cf : w9.drew.frozen? ⟨gn, i0, none⟩ = false := cf
                              clear bu9 mk9 q1 q2 q3 q4
                              go_wp2_with fail
                              go_roundw
                              case rel => exact ⟨u + 1, true, _, by omega, by omega, rfl, rfl, PN, bu10, mk10.out⟩
                              case measure => simp [intOf]; omega
                          · have eu : u = (x : Int) + 2 := by omega
                            have PE := Lib.hid ((eu ▸ HPu.out).ve hxW)
                            clear hu0 hu1 eu
                            go_wp2_with fail
                            go_roundw
                            case rel => exact ⟨v + 1, b, num, by omega, by omega, (fun h => by cases h), rfl, rfl, PE, bu7, mk8⟩
                            case measure => simp [intOf]; omega
                    · have ev : v = (y : Int) + 2 := by omega
                      have PX := Lib.hid ((ev ▸ HPv.out).xe hxW)
                      clear hv0 hv1 hvb ev
                      go_wp2_with fail
                      go_roundw
                      case rel => exact ⟨x + 1, b, num, by omega, by go_num, rfl, PX, bu5, mk6⟩
                      case measure => simp [intOf]; omega
                · have ex : x = W := by omega
                  by_cases hW0 : W = 0
                  · have HPr : Hid (Pass n W e p num0 b num (Sx W (y + 1) 0)) := Lib.hid (HPa.out.conv fun i j hi _ _ _ => by
                      have := hi.1; have h9 := HN.out; rw [hW0, Nat.zero_mul] at h9; omega)
                    clear hx ex
                    go_wp2_with fail
                    go_roundw
                    case rel => exact ⟨y + 1, b, num, by omega, by go_num, rfl, HPr, bu4, mk5⟩
                    case measure => simp [intOf]; omega
                  · have HPr := Lib.hid ((ex ▸ HPa.out : Pass n W e p num0 b num (Sx W y W)).row (by omega))
                    clear hx ex
                    go_wp2_with fail
                    go_roundw
                    case rel => exact ⟨y + 1, b, num, by omega, by go_num, rfl, HPr, bu4, mk5⟩
                    case measure => simp [intOf]; omega
            · have ey : y = H := by omega
              have HPe := Lib.hid (ey ▸ HPa.out : Pass n W e p num0 b num (Sx W H 0))
              have MS := Lib.hid (sumW_of mk4)
              clear hy ey
              go_wp2_with fail
              go_roundw
              case rel => exact ⟨b, num, rfl, Lib.hid HPe.out.nu, bu3, mk4, Lib.hid fun hb => by
                subst hb
                exact (HPe.out.fixed HN.out).2⟩
              case measure =>
                rw [MS.out, HS0.out]
                have s1 := HPe.out.le; have s2 := HPe.out.lt; have s3 := HSn.out
                cases b with
                | true =>
                  have := s2 rfl
                  have h9 := sumN_nonneg fun i hi => (HPe.out.nu.le i hi).1
                  simp only [boolN]; omega
                | false => simp only [boolN]; omega
        | false =>
          have HF := Lib.hid (HFx.out rfl)
          clear HFx
          go_wp2_with fail
          have kG := K1.out.but bu2 hwl hwn
          have bG : Below w.heap.size w wr := B1.out.trans (bu2.to ZZ.out (by omega) (by omega))
          have AG := Lib.hid (HA.out.to bG)
          have BG := Lib.hid bG
          have KG := Lib.hid kG
          have MK := Lib.hid mk3
          have HRoot := Lib.hid fun (i : Nat) (hi : InkN n p i) => HNu.out.root (fun x hx => hx.1) AdjN.symm HF.out hi
          have HPart := Lib.hid fun (i r : Nat) (hr : Root (InkN n p) (AdjN W e) r) (hi : InkN n p i) => HNu.out.part (fun x hx => hx.1) AdjN.symm HF.out hr hi
          obtain ⟨gB, hgB⟩ : ∃ g, wr.heap.size = g := ⟨_, rfl⟩
          have HGB := Lib.hid hgB
          have zw : w.heap.size < gB := by rw [← hgB]; exact kG.lt
          have zg : gn < gB := by rw [← hgB]; exact mk3.lt
          generalize wr = wB at *
          clear bu2 mk3 HF HNu zz kG bG hwl hwn hgB
          go_loopw [13, 12] (fun s vo wr => ∃ i : Nat, i ≤ n ∧ s = .int .i64 i ∧ Below gB wB wr ∧ CRow wr gB 48 W n e p i vo) (fun s _ _ => n - (intOf s).toNat)
          case atStart => exact ⟨0, by omega, rfl, Below.refl _ _, CRow.zero _ _ _ _ _ _ _⟩
          case round =>
            obtain ⟨i, hi, rfl, bb, hC⟩ := hrel
            rw [← HGB.out] at bb
            have m1 := KG.out.below' bb
            have mk := MK.out.below' bb
            obtain ⟨p1, p2, p3⟩ := m1.cells3
            by_cases il : (i : Int) < n
            · have hAr := AG.out.to bb
              obtain ⟨bA, oA, eA, hbA, hcA⟩ := ArrB.at_ hAr (i := (i : Int)) (by omega) il
              subst eA
              rw [Int.toNat_natCast] at hcA
              have hcn := mk.i64at (i := (i : Int)) (by omega) il
              rw [Int.toNat_natCast] at hcn
              obtain ⟨ni, hni⟩ : ∃ q, num0 (i : Int) = q := ⟨_, rfl⟩
              rw [hni] at hcn
              have HNI2 := Lib.hid hni
              have hpi := HP.out i (by omega) il
              clear hni
              by_cases hroot : Root (InkN n p) (AdjN W e) i
              · have h1 : p (i : Int) = 1 := hroot.1.2
                have h2 : ni = i := by rw [← HNI2.out]; exact (HRoot.out i hroot.1).2 hroot
                rw [h1] at hcA
                rw [h2] at hcn
                have HR := Lib.hid hroot
                have HC := Lib.hid hC
                have W0 : 0 < W := by
                  rcases Nat.eq_zero_or_pos W with h | h
                  · have := HN.out; rw [h, Nat.zero_mul] at this; omega
                  · exact h
                clear hpi h1 h2 hroot hC
                go_wp2_with fail
                refine (NW.out wr).mono ?_
                rintro ee w3 ⟨_, rfl, ⟨gq, rfl, hgq, kq⟩, hb3⟩
                have bb3 := below_call bb bb.size hb3
                have zq := kq.lt
                have z3 := hb3.size
                obtain ⟨go, hgo⟩ : ∃ g, w3.heap.size = g := ⟨_, rfl⟩
                go_upto_region 31 with fail
                have kx : Blk ((w3.alloc (.cells #[.int .i64 W, .int .i64 H, .slice (some ⟨gq, 0, none⟩) n n] 24)).alloc (.cells #[.int .i64 0, .int .i64 0, .int .i64 0, .int .i64 0, .slice none 0 0] 48)) go 24 #[.int .i64 W, .int .i64 H, .slice (some ⟨gq, 0, none⟩) n n] := by rw [← hgo]; exact (Blk.new _ _ _).alloc _
                have kc : Blk ((w3.alloc (.cells #[.int .i64 W, .int .i64 H, .slice (some ⟨gq, 0, none⟩) n n] 24)).alloc (.cells #[.int .i64 0, .int .i64 0, .int .i64 0, .int .i64 0, .slice none 0 0] 48)) (go + 1) 48 #[.int .i64 0, .int .i64 0, .int .i64 0, .int .i64 0, .slice none 0 0] := Blk.new' (by simp [hgo]) _ _
                have kq4 : Blk ((w3.alloc (.cells #[.int .i64 W, .int .i64 H, .slice (some ⟨gq, 0, none⟩) n n] 24)).alloc (.cells #[.int .i64 0, .int .i64 0, .int .i64 0, .int .i64 0, .slice none 0 0] 48)) gq 5 (u8s n fun _ => 0) := (kq.alloc _).alloc _
                have bb4 : Below wr.heap.size wr ((w3.alloc (.cells #[.int .i64 W, .int .i64 H, .slice (some ⟨gq, 0, none⟩) n n] 24)).alloc (.cells #[.int .i64 0, .int .i64 0, .int .i64 0, .int .i64 0, .slice none 0 0] 48)) := (hb3.alloc hb3.size _).alloc (by have := hb3.size; simp; omega) _
                generalize (w3.alloc (.cells #[.int .i64 W, .int .i64 H, .slice (some ⟨gq, 0, none⟩) n n] 24)).alloc (.cells #[.int .i64 0, .int .i64 0, .int .i64 0, .int .i64 0, .slice none 0 0] 48) = w4 at *
                obtain ⟨gl, hgl⟩ : ∃ g, wr.heap.size = g := ⟨_, rfl⟩
                have HGL := Lib.hid hgl
                rw [hgl] at hgq bb4 z3
                rw [hgo] at zq z3
                have zB : gB ≤ gl := by rw [← hgl, ← HGB.out]; exact bb.size
                generalize wr = wC at *
                have BB := Lib.hid bb
                have M1 := Lib.hid m1
                have MKC := Lib.hid mk
                have F0 : Hid (FillI n (fun _ => 0) (fun j => j ∈ partK i i (InkN n p) (AdjN W e))) := Lib.hid fun j hj => ⟨⟨fun h => absurd (show (0 : Int) = 1 from h) (by decide), fun h => by rw [partK_start HR.out] at h; simp at h⟩, .inl rfl⟩
                have R0 : ERow w4 gl 51 2 (encP W) (.slice none 0 0) (partK i i (InkN n p) (AdjN W e)) := by rw [partK_start HR.out]; exact ERow.nil _ _ _ _ _
                clear p1 p2 p3 hcA hcn hAr hbA bb m1 mk bb3 hb3 kq hgl hgo
                go_wp2_with fail
                go_loopw [16] (fun s wx => ∃ (k : Nat) (q : Int → Int) (v : Value), i ≤ k ∧ k ≤ n ∧ s = .int .i64 k ∧ Below gl wC wx ∧ Blk wx go 24 #[.int .i64 W, .int .i64 H, .slice (some ⟨gq, 0, none⟩) n n] ∧ Blk wx gq 5 (u8s n q) ∧ Hid ((∀ j, q j = 0 ∨ q j = 1) ∧ FillI n q (fun j => j ∈ partK i k (InkN n p) (AdjN W e))) ∧ Blk wx (go + 1) 48 #[.int .i64 0, .int .i64 0, .int .i64 0, .int .i64 0, v] ∧ ERow wx gl 51 2 (encP W) v (partK i k (InkN n p) (AdjN W e))) (fun s _ => n - (intOf s).toNat)
                case atStart => exact ⟨i, _, _, Nat.le_refl _, by omega, rfl, bb4, kx, kq4, Lib.hid ⟨fun _ => .inl rfl, F0.out⟩, kc, R0⟩
                case round =>
                  obtain ⟨k, q, v, hk0, hk1, rfl, b5, x5, q5, HF5, c5, R5⟩ := hrel
                  clear kx kc kq4 bb4 R0 F0
                  have m1 := M1.out.move (b5.block w.heap.size (by omega))
                  obtain ⟨p1, p2, p3⟩ := m1.cells3
                  by_cases kl : (k : Int) < n
                  · have mk := MKC.out.move (b5.block gn (by omega))
                    have bbx : Below wB.heap.size wB wr := BB.out.trans (b5.mono (by rw [HGB.out]; exact zB))
                    obtain ⟨bA2, oA2, eA2, hbA2, hcA⟩ := ArrB.at_ (AG.out.to bbx) (i := (k : Int)) (by omega) kl
                    cases eA2
                    rw [Int.toNat_natCast] at hcA
                    have hcn := mk.i64at (i := (k : Int)) (by omega) kl
                    rw [Int.toNat_natCast] at hcn
                    obtain ⟨nk, hnk⟩ : ∃ q, num0 (k : Int) = q := ⟨_, rfl⟩
                    rw [hnk] at hcn
                    have HNK := Lib.hid hnk
                    have hpk := HP.out k (by omega) kl
                    clear hnk bbx mk hbA2
                    by_cases hcn1 : Cn (InkN n p) (AdjN W e) i k
                    · have h1 : p (k : Int) = 1 := hcn1.right.2
                      have h2 : nk = i := by rw [← HNK.out]; exact (HPart.out k i HR.out hcn1.right).2 hcn1
                      have hnb : (nk == (i : Int)) = true := by simp [h2]
                      rw [h1] at hcA
                      have HCN := Lib.hid hcn1
                      have HPY := Lib.hid (partK_yes hcn1)
                      clear hpk h1 h2 hcn1
                      obtain ⟨X, hX⟩ : ∃ X : Int, ((k % W : Nat) : Int) = X := ⟨_, rfl⟩
                      obtain ⟨Y, hY⟩ : ∃ Y : Int, ((k / W : Nat) : Int) = Y := ⟨_, rfl⟩
                      have t1 : (k : Int).tmod W = X := by rw [← hX]; exact (Int.ofNat_tmod k W).symm
                      have t2 : (k : Int).tdiv W = Y := by rw [← hY]; exact (Int.ofNat_tdiv k W).symm
                      have Yb : Y ≤ 1000000 := by rw [← hY]; have := Nat.div_le_self k W; omega
                      have Y0 : 0 ≤ Y := by rw [← hY]; exact Int.natCast_nonneg _
                      have t3 : IntKind.i64.wrap Y = Y := IntWalk.i64_in _ (by omega)
                      have wz : ¬ (W : Int) = 0 := by omega
                      have wz' : ((W : Int) == 0) = false := by simp; omega
                      have wz2 : ¬ W = 0 := by omega
                      have HX := Lib.hid hX; have HY := Lib.hid hY
                      clear hX hY
                      go_upto_region 35 with fail
                      go_cut [16] (fun s wy => s = .int .i64 k ∧ ∃ v', Below gl wC wy ∧ Blk wy go 24 #[.int .i64 W, .int .i64 H, .slice (some ⟨gq, 0, none⟩) n n] ∧ Blk wy gq 5 (u8s n q) ∧ Blk wy (go + 1) 48 #[.int .i64 0, .int .i64 0, .int .i64 0, .int .i64 0, v'] ∧ ERow wy gl 51 2 (encP W) v' (partK i k (InkN n p) (AdjN W e) ++ [k]))
                      case first =>
                        have hlk := partK_len (i := i) (k := k) (ink := InkN n p) (A := AdjN W e)
                        have z5 : gl ≤ wr.heap.size := by have := b5.size; rw [HGL.out] at this; exact this
                        have c4 := c5.cell 4
                        change _ = some v at c4
                        obtain ⟨gr, hgr⟩ : ∃ g, wr.heap.size = g := ⟨_, rfl⟩
                        have KW := Lib.hid fun (w' : World) (hh : w'.heap[w.heap.size]? = wr.heap[w.heap.size]?) => (show w'.cell? ⟨w.heap.size, 0, none⟩ = some (.int .i64 W) from (World.cell?_of_block hh).trans p1)
                        refine wp_region_held_drew (S := fun w' => w'.cell? ⟨w.heap.size, 0, none⟩ = some (.int .i64 W)) (by kernel_rfl) (KW.out _ rfl) (fun hHeld => ?_)
                        refine wpAnyH_take (i := 0) (oi := _) (v := ?_) (by simp only [List.getElem?_toArray, List.getElem?_cons_zero]; exact rfl) (by kernel_rfl) (by kernel_rfl) (by kernel_rfl) (by exact fun _ _ _ h => h) (Or.inl ⟨by rfl, ?_⟩) (by assumption) ?_
                        rotate_left 1
                        · intro w hSw
                          (try dsimp only at hSw)
                          go_simp
                          try with_reducible rfl
                        try simp only [Act.put, List.setIfInBounds_toArray, List.set_cons_zero, List.set_cons_succ]
                        refine wpAnyH_take (i := 2) (oi := _) (v := ?_) (by simp only [List.getElem?_toArray, List.getElem?_cons_zero, List.getElem?_cons_succ]; exact rfl) (by kernel_rfl) (by kernel_rfl) (by kernel_rfl) (by exact fun _ _ _ h => h) (Or.inl ⟨by rfl, ?_⟩) (by assumption) ?_
                        rotate_left 1
                        · intro w hSw
                          (try dsimp only at hSw)
                          go_simp
                          try with_reducible rfl
                        try simp only [Act.put, List.setIfInBounds_toArray, List.set_cons_zero, List.set_cons_succ]
                        refine wpAnyH_take (i := 3) (oi := _) (v := ?_) (by simp only [List.getElem?_toArray, List.getElem?_cons_zero, List.getElem?_cons_succ]; exact rfl) (by kernel_rfl) (by kernel_rfl) (by kernel_rfl) (by exact fun _ _ _ h => h) (Or.inl ⟨by rfl, ?_⟩) (by assumption) ?_
                        rotate_left 1
                        · intro w hSw
                          (try dsimp only at hSw)
                          go_simp
                          try with_reducible rfl
                        try simp only [Act.put, List.setIfInBounds_toArray, List.set_cons_zero, List.set_cons_succ]
                        refine wpAnyH_take (i := 4) (oi := _) (v := ?_) (by simp only [List.getElem?_toArray, List.getElem?_cons_zero, List.getElem?_cons_succ]; exact rfl) (by kernel_rfl) (by kernel_rfl) (by kernel_rfl) (by exact fun _ _ _ h => h) (Or.inl ⟨by rfl, ?_⟩) (by assumption) ?_
                        rotate_left 1
                        · intro w hSw
                          (try dsimp only at hSw)
                          go_simp
                          try with_reducible rfl
                        try simp only [Act.put, List.setIfInBounds_toArray, List.set_cons_zero, List.set_cons_succ]
                        refine wpAnyH_take (i := 5) (oi := _) (v := ?_) (by simp only [List.getElem?_toArray, List.getElem?_cons_zero, List.getElem?_cons_succ]; exact rfl) (by kernel_rfl) (by kernel_rfl) (by kernel_rfl) (by exact fun _ _ _ h => h) (Or.inl ⟨by rfl, ?_⟩) (by assumption) ?_
                        rotate_left 1
                        · intro w hSw
                          (try dsimp only at hSw)
                          go_simp
                          try with_reducible rfl
                        try simp only [Act.put, List.setIfInBounds_toArray, List.set_cons_zero, List.set_cons_succ]
                        refine wpAnyH_take (i := 6) (oi := _) (v := ?_) (by simp only [List.getElem?_toArray, List.getElem?_cons_zero, List.getElem?_cons_succ]; exact rfl) (by kernel_rfl) (by kernel_rfl) (by kernel_rfl) (by exact fun _ _ _ h => h) (Or.inl ⟨by rfl, ?_⟩) (by assumption) ?_
                        rotate_left 1
                        · intro w hSw
                          (try dsimp only at hSw)
                          go_simp
                          try with_reducible rfl
                        try simp only [Act.put, List.setIfInBounds_toArray, List.set_cons_zero, List.set_cons_succ]
                        refine wpAnyH_take (i := 7) (oi := _) (v := ?_) (by simp only [List.getElem?_toArray, List.getElem?_cons_zero, List.getElem?_cons_succ]; exact rfl) (by kernel_rfl) (by kernel_rfl) (by kernel_rfl) (by exact fun _ _ _ h => h) (Or.inl ⟨by rfl, ?_⟩) (by assumption) ?_
                        rotate_left 1
                        · intro w hSw
                          (try dsimp only at hSw)
                          go_simp
                          try with_reducible rfl
                        try simp only [Act.put, List.setIfInBounds_toArray, List.set_cons_zero, List.set_cons_succ]
                        refine wpAnyH_take (i := 8) (oi := _) (v := ?_) (by simp only [List.getElem?_toArray, List.getElem?_cons_zero, List.getElem?_cons_succ]; exact rfl) (by kernel_rfl) (by kernel_rfl) (by kernel_rfl) (by exact fun _ _ _ h => h) (Or.inl ⟨by rfl, ?_⟩) (by assumption) ?_
                        rotate_left 1
                        · intro w hSw
                          (try dsimp only at hSw)
                          go_simp
                          try with_reducible rfl
                        try simp only [Act.put, List.setIfInBounds_toArray, List.set_cons_zero, List.set_cons_succ]
                        refine wpAnyH_take (i := 9) (oi := _) (v := ?_) (by simp only [List.getElem?_toArray, List.getElem?_cons_zero, List.getElem?_cons_succ]; exact rfl) (by kernel_rfl) (by kernel_rfl) (by kernel_rfl) (by exact fun _ _ _ h => h) (Or.inl ⟨by rfl, ?_⟩) (by assumption) ?_
                        rotate_left 1
                        · intro w hSw
                          (try dsimp only at hSw)
                          go_simp
                          try with_reducible rfl
                        try simp only [Act.put, List.setIfInBounds_toArray, List.set_cons_zero, List.set_cons_succ]
                        refine wpAnyH_take (i := 10) (oi := _) (v := ?_) (by simp only [List.getElem?_toArray, List.getElem?_cons_zero, List.getElem?_cons_succ]; exact rfl) (by kernel_rfl) (by kernel_rfl) (by kernel_rfl) (by exact fun _ _ _ h => h) (Or.inl ⟨by rfl, ?_⟩) (by assumption) ?_
                        rotate_left 1
                        · intro w hSw
                          (try dsimp only at hSw)
                          go_simp
                          try with_reducible rfl
                        try simp only [Act.put, List.setIfInBounds_toArray, List.set_cons_zero, List.set_cons_succ]
                        refine wpAnyH_ready (rs := [1, 11]) (by kernel_rfl) (by simp) ?_
                        refine AllReadyH.cons (o := _) (by simp only [List.getElem?_toArray, List.getElem?_cons_zero, List.getElem?_cons_succ]; exact rfl) (fun K' hK => ?_) (AllReadyH.cons (o := _) (by simp only [List.getElem?_toArray, List.getElem?_cons_zero, List.getElem?_cons_succ]; exact rfl) (fun K' hK => ?_) AllReadyH.nil)
                        · go_simp
                          refine hK.out _ _ (KW.out _ rfl) (fun hHeld => ?_)
                          clear hK K'
                          try simp only [Act.put, List.setIfInBounds_toArray, List.set_cons_zero, List.set_cons_succ]
                          refine wpAnyH_ready (rs := [11]) (by kernel_rfl) (by simp) ?_
                          refine AllReadyH.cons (o := _) (by simp only [List.getElem?_toArray, List.getElem?_cons_zero, List.getElem?_cons_succ]; exact rfl) (fun K' hK => ?_) AllReadyH.nil
                          go_simp
                          refine hK.out _ _ (KW.out _ (Below.heap_alloc wr _ _ (by omega))) (fun hHeld => ?_)
                          clear hK K'
                          try simp only [Act.put, List.setIfInBounds_toArray, List.set_cons_zero, List.set_cons_succ]
                          refine wpAnyH_ready (rs := [12]) (by kernel_rfl) (by simp) ?_
                          refine AllReadyH.cons (o := _) (by simp only [List.getElem?_toArray, List.getElem?_cons_zero, List.getElem?_cons_succ]; exact rfl) (fun K' hK => ?_) AllReadyH.nil
                          refine step_append_lies _ (by rfl) _ _ _ (by rfl) gl 51 r0 (.agg #[.int .i64 0, .int .i64 0]) 2 16 Tryd.underlying45 hr0 hrz0 hrz1 hrz2 rfl (by omega) v _ _ (by rfl) (show World.ownsRow (wr.alloc (.cells #[.int .i64 X, .int .i64 Y] 51)).drew gl 51 2 v _ _ from ERow.below R5 ((Below.refl _ _).alloc (Nat.le_refl _) _).drew) ⟨gr, 0, none⟩ 1 1 [.int .i64 X, .int .i64 Y] (by rfl) (by rfl) (by rw [← hgr]; exact World.news_of_block (cs := #[.int .i64 X, .int .i64 Y]) (t := 51) (fr := (0, 0)) (heap_alloc_new wr _)) (by simp [Value.oneCell']) (by omega) (by unfold maxLen; omega) (by omega) (by show gl ≤ (wr.alloc (.cells #[.int .i64 X, .int .i64 Y] 51)).heap.size; rw [World.size_alloc]; omega) ((wr.alloc (.cells #[.int .i64 X, .int .i64 Y] 51)).heap.size) rfl ?_
                          intro gg cap w7 hown1 hgrow hat hlt1
                          have bn : Below wr.heap.size wr (wr.alloc (.cells #[.int .i64 X, .int .i64 Y] 51)) := (Below.refl _ _).alloc (Nat.le_refl _) _
                          have RN := R5.below bn
                          have hgrow' : (wr.alloc (.cells #[.int .i64 X, .int .i64 Y] 51)).grownBy w7 v.ownBlock := ⟨hgrow.os, hgrow.tape, hgrow.output, hgrow.size, hgrow.block⟩
                          have c7 := (c5.below' bn).grown hgrow' (ERow.neB RN (c5.below' bn) (by decide))
                          have q7 := (q5.below' bn).grown hgrow' (ERow.neB RN (q5.below' bn) (by decide))
                          have x7 := (x5.below' bn).grown hgrow' (ERow.neB RN (x5.below' bn) (by decide))
                          have m7 := (m1.below' bn).grown hgrow' (ERow.neB RN (m1.below' bn) (by decide))
                          have b7 : Below gl wC w7 := (b5.trans (bn.mono z5)).grown hgrow' (by rw [World.size_alloc]; omega) (fun j hj => (own_ge R5 hj).1)
                          refine hK.out _ _ m7.cells3.1 (fun hHeld => ?_)
                          clear hK K'
                          try simp only [Act.put, List.setIfInBounds_toArray, List.set_cons_zero, List.set_cons_succ]
                          have d4 := c7.cell 4
                          change _ = some v at d4
                          have df := c7.frozen 4
                          refine wpAnyH_take (i := 13) (oi := _) (v := ?_) (by simp only [List.getElem?_toArray, List.getElem?_cons_zero, List.getElem?_cons_succ]; exact rfl) (by kernel_rfl) (by kernel_rfl) (by kernel_rfl) (by exact fun _ _ _ h => h) (Or.inl ⟨by rfl, ?_⟩) (by assumption) ?_
                          rotate_left 1
                          · intro w hSw
                            (try dsimp only at hSw)
                            go_simp
                            try with_reducible rfl
                          try simp only [Act.put, List.setIfInBounds_toArray, List.set_cons_zero, List.set_cons_succ]
                          refine wpAnyH_ready (rs := [14]) (by kernel_rfl) (by simp) ?_
                          refine AllReadyH.cons (o := _) (by simp only [List.getElem?_toArray, List.getElem?_cons_zero, List.getElem?_cons_succ]; exact rfl) (fun K' hK => ?_) AllReadyH.nil
                          go_simp
                          have m8 := m7.far (p := ⟨go + 1, 4, none⟩) (by show w.heap.size ≠ go + 1; omega) (Value.slice (some ⟨gg, 0, none⟩) ((partK i k (InkN n p) (AdjN W e)).length + 1) cap)
                          refine hK.out _ _ m8.cells3.1 (fun hHeld => ?_)
                          clear hK K'
                          try simp only [List.setIfInBounds_toArray, List.set_cons_zero, List.set_cons_succ]
                          refine wpAnyH_done (by kernel_rfl) ?_ _
                          go_wp2_with fail
                          go_meet
                          refine ⟨rfl, (Value.slice (some ⟨gg, 0, none⟩) ((partK i k (InkN n p) (AdjN W e)).length + 1) cap), b7.setCell (p := ⟨go + 1, 4, none⟩) (by show gl ≤ go + 1; omega) (Value.slice (some ⟨gg, 0, none⟩) ((partK i k (InkN n p) (AdjN W e)).length + 1) cap), x7.far (p := ⟨go + 1, 4, none⟩) (by show go ≠ go + 1; omega) (Value.slice (some ⟨gg, 0, none⟩) ((partK i k (InkN n p) (AdjN W e)).length + 1) cap), q7.far (p := ⟨go + 1, 4, none⟩) (by show gq ≠ go + 1; omega) (Value.slice (some ⟨gg, 0, none⟩) ((partK i k (InkN n p) (AdjN W e)).length + 1) cap), c7.set_ 4 (Value.slice (some ⟨gg, 0, none⟩) ((partK i k (InkN n p) (AdjN W e)).length + 1) cap), ?_⟩
                          refine ERow.far (B := gl) (T := 51) (k := 2) (enc := encP W) ?_ c7 (by decide) 4 (Value.slice (some ⟨gg, 0, none⟩) ((partK i k (InkN n p) (AdjN W e)).length + 1) cap)
                          unfold ERow
                          rw [flatE_snoc, List.length_append]
                          show World.ownsRow _ _ _ _ _ _ (_ ++ [Value.int .i64 _, .int .i64 _])
                          rw [HX.out, HY.out]
                          exact hown1
                        · go_simp
                          refine hK.out _ _ (KW.out _ (Below.heap_alloc wr _ _ (by omega))) (fun hHeld => ?_)
                          clear hK K'
                          try simp only [Act.put, List.setIfInBounds_toArray, List.set_cons_zero, List.set_cons_succ]
                          have c4' := (c5.alloc (.cells #[.int .i64 X, .int .i64 Y] 51)).cell 4
                          change _ = some v at c4'
                          refine wpAnyH_ready (rs := [1]) (by kernel_rfl) (by simp) ?_
                          refine AllReadyH.cons (o := _) (by simp only [List.getElem?_toArray, List.getElem?_cons_zero, List.getElem?_cons_succ]; exact rfl) (fun K' hK => ?_) AllReadyH.nil
                          go_simp
                          refine hK.out _ _ (KW.out _ (Below.heap_alloc wr _ _ (by omega))) (fun hHeld => ?_)
                          clear hK K'
                          try simp only [Act.put, List.setIfInBounds_toArray, List.set_cons_zero, List.set_cons_succ]
                          refine wpAnyH_ready (rs := [12]) (by kernel_rfl) (by simp) ?_
                          refine AllReadyH.cons (o := _) (by simp only [List.getElem?_toArray, List.getElem?_cons_zero, List.getElem?_cons_succ]; exact rfl) (fun K' hK => ?_) AllReadyH.nil
                          refine step_append_lies _ (by rfl) _ _ _ (by rfl) gl 51 r0 (.agg #[.int .i64 0, .int .i64 0]) 2 16 Tryd.underlying45 hr0 hrz0 hrz1 hrz2 rfl (by omega) v _ _ (by rfl) (show World.ownsRow (wr.alloc (.cells #[.int .i64 X, .int .i64 Y] 51)).drew gl 51 2 v _ _ from ERow.below R5 ((Below.refl _ _).alloc (Nat.le_refl _) _).drew) ⟨gr, 0, none⟩ 1 1 [.int .i64 X, .int .i64 Y] (by rfl) (by rfl) (by rw [← hgr]; exact World.news_of_block (cs := #[.int .i64 X, .int .i64 Y]) (t := 51) (fr := (0, 0)) (heap_alloc_new wr _)) (by simp [Value.oneCell']) (by omega) (by unfold maxLen; omega) (by omega) (by show gl ≤ (wr.alloc (.cells #[.int .i64 X, .int .i64 Y] 51)).heap.size; rw [World.size_alloc]; omega) ((wr.alloc (.cells #[.int .i64 X, .int .i64 Y] 51)).heap.size) rfl ?_
                          intro gg cap w7 hown1 hgrow hat hlt1
                          have bn : Below wr.heap.size wr (wr.alloc (.cells #[.int .i64 X, .int .i64 Y] 51)) := (Below.refl _ _).alloc (Nat.le_refl _) _
                          have RN := R5.below bn
                          have hgrow' : (wr.alloc (.cells #[.int .i64 X, .int .i64 Y] 51)).grownBy w7 v.ownBlock := ⟨hgrow.os, hgrow.tape, hgrow.output, hgrow.size, hgrow.block⟩
                          have c7 := (c5.below' bn).grown hgrow' (ERow.neB RN (c5.below' bn) (by decide))
                          have q7 := (q5.below' bn).grown hgrow' (ERow.neB RN (q5.below' bn) (by decide))
                          have x7 := (x5.below' bn).grown hgrow' (ERow.neB RN (x5.below' bn) (by decide))
                          have m7 := (m1.below' bn).grown hgrow' (ERow.neB RN (m1.below' bn) (by decide))
                          have b7 : Below gl wC w7 := (b5.trans (bn.mono z5)).grown hgrow' (by rw [World.size_alloc]; omega) (fun j hj => (own_ge R5 hj).1)
                          refine hK.out _ _ m7.cells3.1 (fun hHeld => ?_)
                          clear hK K'
                          try simp only [Act.put, List.setIfInBounds_toArray, List.set_cons_zero, List.set_cons_succ]
                          have d4 := c7.cell 4
                          change _ = some v at d4
                          have df := c7.frozen 4
                          refine wpAnyH_take (i := 13) (oi := _) (v := ?_) (by simp only [List.getElem?_toArray, List.getElem?_cons_zero, List.getElem?_cons_succ]; exact rfl) (by kernel_rfl) (by kernel_rfl) (by kernel_rfl) (by exact fun _ _ _ h => h) (Or.inl ⟨by rfl, ?_⟩) (by assumption) ?_
                          rotate_left 1
                          · intro w hSw
                            (try dsimp only at hSw)
                            go_simp
                            try with_reducible rfl
                          try simp only [Act.put, List.setIfInBounds_toArray, List.set_cons_zero, List.set_cons_succ]
                          refine wpAnyH_ready (rs := [14]) (by kernel_rfl) (by simp) ?_
                          refine AllReadyH.cons (o := _) (by simp only [List.getElem?_toArray, List.getElem?_cons_zero, List.getElem?_cons_succ]; exact rfl) (fun K' hK => ?_) AllReadyH.nil
                          go_simp
                          have m8 := m7.far (p := ⟨go + 1, 4, none⟩) (by show w.heap.size ≠ go + 1; omega) (Value.slice (some ⟨gg, 0, none⟩) ((partK i k (InkN n p) (AdjN W e)).length + 1) cap)
                          refine hK.out _ _ m8.cells3.1 (fun hHeld => ?_)
                          clear hK K'
                          try simp only [List.setIfInBounds_toArray, List.set_cons_zero, List.set_cons_succ]
                          refine wpAnyH_done (by kernel_rfl) ?_ _
                          go_wp2_with fail
                          go_meet
                          refine ⟨rfl, (Value.slice (some ⟨gg, 0, none⟩) ((partK i k (InkN n p) (AdjN W e)).length + 1) cap), b7.setCell (p := ⟨go + 1, 4, none⟩) (by show gl ≤ go + 1; omega) (Value.slice (some ⟨gg, 0, none⟩) ((partK i k (InkN n p) (AdjN W e)).length + 1) cap), x7.far (p := ⟨go + 1, 4, none⟩) (by show go ≠ go + 1; omega) (Value.slice (some ⟨gg, 0, none⟩) ((partK i k (InkN n p) (AdjN W e)).length + 1) cap), q7.far (p := ⟨go + 1, 4, none⟩) (by show gq ≠ go + 1; omega) (Value.slice (some ⟨gg, 0, none⟩) ((partK i k (InkN n p) (AdjN W e)).length + 1) cap), c7.set_ 4 (Value.slice (some ⟨gg, 0, none⟩) ((partK i k (InkN n p) (AdjN W e)).length + 1) cap), ?_⟩
                          refine ERow.far (B := gl) (T := 51) (k := 2) (enc := encP W) ?_ c7 (by decide) 4 (Value.slice (some ⟨gg, 0, none⟩) ((partK i k (InkN n p) (AdjN W e)).length + 1) cap)
                          unfold ERow
                          rw [flatE_snoc, List.length_append]
                          show World.ownsRow _ _ _ _ _ _ (_ ++ [Value.int .i64 _, .int .i64 _])
                          rw [HX.out, HY.out]
                          exact hown1
                      case rest =>
                      obtain ⟨rfl, v', b6, x6, q6, c6, R6⟩ := hcut
                      generalize wc = w6 at *
                      rw [← HPY.out] at R6
                      have m16 := M1.out.move (b6.block w.heap.size (by omega))
                      clear p1 p2 p3 m1 b5 x5 q5 c5 R5 hcA hcn t1 t2 t3
                      obtain ⟨p1, p2, p3⟩ := x6.cells3
                      have hc := q6.u8at (i := (k : Int)) (by omega) kl
                      have hf := q6.frozen k
                      have q7 := Lib.hid (q6.u8set (k : Int) (by omega) 1)
                      rw [Int.toNat_natCast] at hc q7
                      have x7 := x6.far (p := ⟨gq, k, none⟩) (by show go ≠ gq; omega) (.int .u8 1)
                      have c7 := c6.far (p := ⟨gq, k, none⟩) (by show go + 1 ≠ gq; omega) (.int .u8 1)
                      have R7 := R6.far q6 (by decide) k (.int .u8 1)
                      have b7 := b6.setCell (p := ⟨gq, k, none⟩) hgq (.int .u8 1)
                      have HF7 : Hid ((∀ j, upd q k 1 j = 0 ∨ upd q k 1 j = 1) ∧ FillI n (upd q k 1) (fun j => j ∈ partK i (k + 1) (InkN n p) (AdjN W e))) := Lib.hid ⟨fun j => by
                          unfold upd
                          split
                          · exact .inr rfl
                          · exact HF5.out.1 j, HF5.out.2.set fun j => by rw [HPY.out, List.mem_append, List.mem_singleton]⟩
                      clear b6 x6 q6 c6 R6 HF5 m16
                      go_wp2_with fail
                      go_roundw
                      case rel => exact ⟨k + 1, _, v', by omega, by omega, by go_num, b7, x7, q7.out, HF7, c7, R7⟩
                      case measure => simp [intOf]; omega
                    · have hpn := partK_no hcn1
                      have HF7 : Hid ((∀ j, q j = 0 ∨ q j = 1) ∧ FillI n q (fun j => j ∈ partK i (k + 1) (InkN n p) (AdjN W e))) := Lib.hid ⟨HF5.out.1, by rw [hpn]; exact HF5.out.2⟩
                      rw [← hpn] at R5
                      rcases hpk with h0 | h1
                      · rw [h0] at hcA
                        clear h0 hcn1 hpn HF5
                        go_wp2_with fail
                        go_roundw
                        case rel => exact ⟨k + 1, q, v, by omega, by omega, by go_num, b5, x5, q5, HF7, c5, R5⟩
                        case measure => simp [intOf]; omega
                      · have hnb : (nk == (i : Int)) = false := by
                          have : ¬ nk = (i : Int) := fun e9 => hcn1 ((HPart.out k i HR.out ⟨by omega, h1⟩).1 (by rw [HNK.out]; exact e9))
                          simp [this]
                        rw [h1] at hcA
                        clear h1 hcn1 hpn HF5
                        go_wp2_with fail
                        go_roundw
                        case rel => exact ⟨k + 1, q, v, by omega, by omega, by go_num, b5, x5, q5, HF7, c5, R5⟩
                        case measure => simp [intOf]; omega
                  · obtain rfl : k = n := by omega
                    have hq01 := HF5.out.1
                    have hkn : k = W * H := HN.out
                    have BX := Lib.hid (rbox_any W H (some ⟨gq, 0, none⟩) k k q wr (q5.arrB q5.lt) (fun j => by have := hq01 j; omega) hW hH hkn (fun j _ _ => hq01 j))
                    have HL : Hid (inkL k q = partN k (InkN k p) (AdjN W e) i) := Lib.hid (by
                      refine sorted_ext (List.Pairwise.filter _ List.pairwise_lt_range) partN_sorted fun j => ?_
                      rw [mem_inkL]
                      constructor
                      · rintro ⟨h1, h2⟩
                        exact ((HF5.out.2 j h1).1.1 h2)
                      · intro h1
                        have h2 := (mem_partN.1 h1).1
                        exact ⟨h2, (HF5.out.2 j h2).1.2 h1⟩)
                    rw [partK_n] at R5
                    clear hq01 HF5 hk0 hk1 hkn
                    obtain ⟨s1, s2, s3⟩ := x5.cells3
                    go_wp2_with fail
                    refine BX.out.mono ?_
                    rintro ee w6 ⟨⟨b1, b2, b3, b4⟩, rfl, hbx, hb6⟩
                    have hbv : boxV (b1, b2, b3, b4) = .agg #[.int .i64 b1, .int .i64 b2, .int .i64 b3, .int .i64 b4] := rfl
                    rw [hbv]
                    rw [HL.out] at hbx
                    have HBX := Lib.hid hbx
                    have c6 := c5.below' hb6
                    have R6 := R5.below hb6
                    have b6 : Below gl wC w6 := b5.trans (hb6.mono (by have := b5.size; rw [HGL.out] at this; exact this))
                    clear p1 p2 p3 s1 s2 s3 m1 BX b5 x5 q5 c5 R5 hb6 hbv hbx
                    have d0 := c6.cell 0; have d1 := c6.cell 1; have d2 := c6.cell 2; have d3 := c6.cell 3
                    change _ = some (Value.int .i64 0) at d0
                    change _ = some (Value.int .i64 0) at d1
                    change _ = some (Value.int .i64 0) at d2
                    change _ = some (Value.int .i64 0) at d3
                    have f0 := c6.frozen 0; have f1 := c6.frozen 1; have f2 := c6.frozen 2; have f3 := c6.frozen 3
                    have c7 := (((c6.set_ 0 (.int .i64 b1)).set_ 1 (.int .i64 b2)).set_ 2 (.int .i64 b3)).set_ 3 (.int .i64 b4)
                    have R7 := (((R6.far c6 (by decide) 0 (.int .i64 b1)).far (c6.set_ 0 (.int .i64 b1)) (by decide) 1 (.int .i64 b2)).far ((c6.set_ 0 (.int .i64 b1)).set_ 1 (.int .i64 b2)) (by decide) 2 (.int .i64 b3)).far (((c6.set_ 0 (.int .i64 b1)).set_ 1 (.int .i64 b2)).set_ 2 (.int .i64 b3)) (by decide) 3 (.int .i64 b4)
                    have b7 := (((b6.setCell (p := ⟨go + 1, 0, none⟩) (by show gl ≤ go + 1; omega) (.int .i64 b1)).setCell (p := ⟨go + 1, 1, none⟩) (by show gl ≤ go + 1; omega) (.int .i64 b2)).setCell (p := ⟨go + 1, 2, none⟩) (by show gl ≤ go + 1; omega) (.int .i64 b3)).setCell (p := ⟨go + 1, 3, none⟩) (by show gl ≤ go + 1; omega) (.int .i64 b4)
                    go_upto_region 38 with fail
                    generalize (((w6.setCell ⟨go + 1, 0, none⟩ (.int .i64 b1)).setCell ⟨go + 1, 1, none⟩ (.int .i64 b2)).setCell ⟨go + 1, 2, none⟩ (.int .i64 b3)).setCell ⟨go + 1, 3, none⟩ (.int .i64 b4) = w7 at *
                    have c8 : Blk w7 (go + 1) 48 #[.int .i64 b1, .int .i64 b2, .int .i64 b3, .int .i64 b4, v] := c7
                    clear d0 d1 d2 d3 f0 f1 f2 f3 c6 c7 R6 b6
                    have d0 := c8.cell 0; have d1 := c8.cell 1; have d2 := c8.cell 2; have d3 := c8.cell 3; have d4 := c8.cell 4
                    change _ = some (Value.int .i64 b1) at d0
                    change _ = some (Value.int .i64 b2) at d1
                    change _ = some (Value.int .i64 b3) at d2
                    change _ = some (Value.int .i64 b4) at d3
                    change _ = some v at d4
                    obtain ⟨LC, hc1, hc2, hc3⟩ := HC.out
                    have z7 : gl ≤ w7.heap.size := by have := b7.size; rw [HGL.out] at this; exact this
                    have b7' : Below wC.heap.size wC w7 := by rw [HGL.out]; exact b7
                    have r2 := hc2.below b7'
                    have hcl : LC.length ≤ k := by
                      have := congrArg List.length hc1
                      rw [List.length_map] at this
                      have h9 := rootK_len i (InkN k p) (AdjN W e)
                      omega
                    have bnw : Below w7.heap.size w7 (w7.alloc (.cells #[.int .i64 b1, .int .i64 b2, .int .i64 b3, .int .i64 b4, v] 48)) := (Below.refl _ _).alloc (Nat.le_refl _) _
                    have hv1 : v.oneCell' = true := by
                      obtain ⟨Av, cv, ev, -⟩ := R7.val
                      rw [ev]; rfl
                    go_wp2_with (at_builtin; refine wpList_append_own _ rfl (.tmp 187) (.tmp 189) 40 rfl gB 48 r1 (.agg #[.int .i64 0, .int .i64 0, .int .i64 0, .int .i64 0, .slice none 0 0]) 5 56 Tryd.underlying40 hs0 hsz0 hsz1 hsz2 rfl (by decide) _ _ _ rfl (ERow.below r2 bnw) ⟨w7.heap.size, 0, none⟩ 1 1 [.int .i64 b1, .int .i64 b2, .int .i64 b3, .int .i64 b4, v] rfl rfl ?d1 ?d2 ?d3 ?d4 ?d5 ?_)
                    case d1 =>
                      intro t u ht
                      match t, ht with
                      | 0, ht => cases ht; exact (Blk.new w7 48 #[.int .i64 b1, .int .i64 b2, .int .i64 b3, .int .i64 b4, v]).cell 0
                      | 1, ht => cases ht; exact (Blk.new w7 48 #[.int .i64 b1, .int .i64 b2, .int .i64 b3, .int .i64 b4, v]).cell 1
                      | 2, ht => cases ht; exact (Blk.new w7 48 #[.int .i64 b1, .int .i64 b2, .int .i64 b3, .int .i64 b4, v]).cell 2
                      | 3, ht => cases ht; exact (Blk.new w7 48 #[.int .i64 b1, .int .i64 b2, .int .i64 b3, .int .i64 b4, v]).cell 3
                      | 4, ht => cases ht; exact (Blk.new w7 48 #[.int .i64 b1, .int .i64 b2, .int .i64 b3, .int .i64 b4, v]).cell 4
                      | t + 5, ht => simp at ht
                    case d2 =>
                      intro u hu
                      simp only [List.mem_cons, List.not_mem_nil, or_false] at hu
                      rcases hu with rfl | rfl | rfl | rfl | rfl
                      · rfl
                      · rfl
                      · rfl
                      · rfl
                      · exact hv1
                    case d3 => unfold maxLen; omega
                    case d4 => omega
                    case d5 => simp; omega
                    intro v' w14 own14 hg14 _
                    have C14 := crow_snoc (by decide) hc1 (r2.below bnw) (fun t ht => ⟨(hc3 t ht).1, ((hc3 t ht).2.below b7').below bnw⟩) HR.out HBX.out ((R7.base zB).below bnw) hg14 own14
                    have b14 : Below gB wB w14 := ((BB.out.mono (by rw [HGB.out]; exact Nat.le_refl _)).trans (b7.mono zB)).trans (bnw.mono (by omega)) |>.grown hg14 (by simp; omega) (fun j hj => (own_ge r2 hj).1)
                    clear own14 hg14 bnw r2 hc1 hc2 hc3 c8 R7 b7 b7' d0 d1 d2 d3 d4
                    go_wp2
                    go_roundw
                    case rel => exact ⟨i + 1, by omega, by go_num, b14, C14⟩
                    case measure => simp [intOf]; omega
              · have HC := Lib.hid (hC.skip hroot)
                clear hC
                rcases hpi with h0 | h1
                · rw [h0] at hcA
                  clear h0
                  go_wp2_with fail
                  go_roundw
                  case rel => exact ⟨i + 1, by omega, by go_num, HGB.out ▸ bb, HC.out⟩
                  case measure => simp [intOf]; omega
                · have hne : ¬ ni = (i : Int) := fun e9 => hroot ((HRoot.out i ⟨by omega, h1⟩).1 (by rw [HNI2.out]; exact e9))
                  have hnb : (ni != (i : Int)) = true := by simp [hne]
                  rw [h1] at hcA
                  clear h1 hne
                  go_wp2_with fail
                  go_roundw
                  case rel => exact ⟨i + 1, by omega, by go_num, HGB.out ▸ bb, HC.out⟩
                  case measure => simp [intOf]; omega
            · obtain rfl : i = n := by omega
              have bE := below_call BG.out BG.out.size bb
              have zE := BG.out.size
              clear hi
              go_wp2_with fail
              go_ret
              exact ⟨_, rfl, hC.base (by rw [← HGB.out]; exact zE), bE⟩
end Go.Proofs.YtoonkpjddfiopaaDoor
