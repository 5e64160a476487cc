/- Texts of mine in build order: C9, J18, J19, J20, C22, J21. Conditions: each theorem's own. -/
import Derived.Test.YtoonkpjddfiopaaDoorMImageSetsx8
import Derived.Test.YtoonkpjddfiopaaDoorMImageSpecksx1
import Derived.Test.YtoonkpjddfiopaaDoorMImageThinsx1
import Derived.Test.YtoonkpjddfiopaaDoorMImageTurnsx1
import Derived.BigQuiet
import Derived.Deep.QuietTactic
import Derived.Deep.RegionHeld3
import Derived.Deep.DeepCutAuto
import Derived.Deep.Cut
import Derived.Deep.CutBlock
/- Plain: brushes are adjoint. No program in sight. -/
namespace Go.Proofs.YtoonkpjddfiopaaDoor
set_option linter.unusedVariables false
def dilQ (W H : Int) (p : Int → Int) (w h : Nat) : Int → Int := fillB (dilR W H p w h) W
def eroQ (W H : Int) (p : Int → Int) (w h : Nat) : Int → Int := fillB (eroR W H p w h) W
/-- all ink of one is ink of the other -/
def subQ (W H : Int) (p q : Int → Int) : Prop := ∀ x y, inkB W H p x y = true → inkB W H q x y = true
section
variable {W H x y : Int} {p q r : Int → Int} {w h : Nat}
theorem ink_dil : inkB W H (dilQ W H p w h) x y = true ↔ inR W H x y = true ∧ ∃ j, j < h ∧ ∃ i, i < w ∧ inkB W H p (x + i) (y + j) = true := by
  unfold dilQ
  rw [inkB_fill, Bool.and_eq_true]
  unfold dilR
  rw [exB_iff]
  simp only [exB_iff]
theorem ink_ero : inkB W H (eroQ W H p w h) x y = true ↔ inR W H x y = true ∧ ∀ j, j < h → ∀ i, i < w → x - (i : Int) < 0 ∨ y - (j : Int) < 0 ∨ inkB W H p (x - i) (y - j) = true := by
  unfold eroQ
  rw [inkB_fill, Bool.and_eq_true]
  unfold eroR
  rw [Bool.not_eq_true', exB_no]
  simp only [exB_no, Bool.not_eq_false', Bool.or_eq_true, decide_eq_true_iff]
theorem subQ.refl : subQ W H p p := fun _ _ h => h
theorem subQ.trans (h1 : subQ W H p q) (h2 : subQ W H q r) : subQ W H p r := fun x y h => h2 x y (h1 x y h)
theorem dil_adj : subQ W H (dilQ W H p w h) q ↔ subQ W H p (eroQ W H q w h) := by
  constructor
  · intro hs x y hp
    have hi := inR_iff.1 (inkB_inR hp)
    refine ink_ero.2 ⟨inkB_inR hp, fun j hj i hi' => ?_⟩
    by_cases c : x - (i : Int) < 0 ∨ y - (j : Int) < 0
    · rcases c with c | c
      · exact .inl c
      · exact .inr (.inl c)
    · refine .inr (.inr (hs _ _ (ink_dil.2 ⟨inR_iff.2 (by omega), j, hj, i, hi', ?_⟩)))
      rw [show x - (i : Int) + i = x by omega, show y - (j : Int) + j = y by omega]
      exact hp
  · intro hs x y hp
    obtain ⟨hr, j, hj, i, hi, h1⟩ := ink_dil.1 hp
    obtain ⟨-, h2⟩ := ink_ero.1 (hs _ _ h1)
    have hb := inR_iff.1 hr
    rcases h2 j hj i hi with h3 | h3 | h3
    · omega
    · omega
    · rw [show x + (i : Int) - i = x by omega, show y + (j : Int) - j = y by omega] at h3
      exact h3
theorem dil_mono (hs : subQ W H p q) : subQ W H (dilQ W H p w h) (dilQ W H q w h) := fun x y hp => by
  obtain ⟨hr, j, hj, i, hi, h1⟩ := ink_dil.1 hp
  exact ink_dil.2 ⟨hr, j, hj, i, hi, hs _ _ h1⟩
theorem ero_mono (hs : subQ W H p q) : subQ W H (eroQ W H p w h) (eroQ W H q w h) := fun x y hp => by
  obtain ⟨hr, h1⟩ := ink_ero.1 hp
  exact ink_ero.2 ⟨hr, fun j hj i hi => (h1 j hj i hi).imp id (Or.imp id (hs _ _))⟩
theorem sub_closed : subQ W H p (eroQ W H (dilQ W H p w h) w h) := dil_adj.1 subQ.refl
theorem open_sub : subQ W H (dilQ W H (eroQ W H p w h) w h) p := dil_adj.2 subQ.refl
theorem dil_again : subQ W H (dilQ W H (eroQ W H (dilQ W H p w h) w h) w h) (dilQ W H p w h) ∧ subQ W H (dilQ W H p w h) (dilQ W H (eroQ W H (dilQ W H p w h) w h) w h) := ⟨open_sub, dil_mono sub_closed⟩
theorem ero_again : subQ W H (eroQ W H (dilQ W H (eroQ W H p w h) w h) w h) (eroQ W H p w h) ∧ subQ W H (eroQ W H p w h) (eroQ W H (dilQ W H (eroQ W H p w h) w h) w h) := ⟨ero_mono open_sub, sub_closed⟩
/-- images of the same ink are the same -/
theorem sub_eq {C D : Int → Int → Bool} {n : Nat} (hn : (n : Int) = W * H) (hW : 0 ≤ W) (hH : 0 ≤ H) (h1 : subQ W H (fillB C W) (fillB D W)) (h2 : subQ W H (fillB D W) (fillB C W)) {i : Int} (i0 : 0 ≤ i) (i1 : i < n) : fillB C W i = fillB D W i := by
  have hW0 : 0 < W := by
    rcases Int.lt_or_le 0 W with h | h
    · exact h
    · have e : W = 0 := by omega
      rw [e, Int.zero_mul] at hn; omega
  have m0 := Int.emod_nonneg i (show W ≠ 0 by omega)
  have m1 := Int.emod_lt_of_pos i hW0
  have d0 := Int.ediv_nonneg i0 hW
  have d1 : i / W < H := by
    have h9 : i < H * W := by rw [Int.mul_comm]; omega
    exact Int.ediv_lt_of_lt_mul hW0 h9
  have hr : inR W H (i % W) (i / W) = true := inR_iff.2 ⟨m0, m1, d0, d1⟩
  have k1 := h1 (i % W) (i / W)
  have k2 := h2 (i % W) (i / W)
  rw [inkB_fill, inkB_fill, hr, Bool.true_and, Bool.true_and] at k1 k2
  unfold fillB
  by_cases c : C (i % W) (i / W) = true
  · rw [if_pos c, if_pos (k1 c)]
  · rw [if_neg c, if_neg fun h => c (k2 h)]
end
end Go.Proofs.YtoonkpjddfiopaaDoor

/- Walks: brushes of the program: a pixel, a spread. -/
namespace Go.Proofs.YtoonkpjddfiopaaDoor
open Go.RowKit
set_option linter.unusedVariables false
attribute [local go_sem] Oper.semAt_some

def vI (v : Bool) : Int := if v then 1 else 0
theorem exB_false_out {f : Nat → Bool} {i m : Nat} (h1 : exB f i = false) (h2 : ∀ j, i ≤ j → j < m → f j = false) : exB f m = false :=
  exB_no.2 fun j hj => by
    by_cases h : j < i
    · exact exB_no.1 h1 j h
    · exact h2 j (by omega) hj
theorem enterBr1 (args : Array Value) (w : World) : (callFunc 131 args).run Tryd.prog w = .ok (.enter 131 args) w := by kernel_rfl
theorem inR_no {W H x y : Int} (h : ¬ (0 ≤ x ∧ x < W ∧ 0 ≤ y ∧ y < H)) : inR W H x y = false := by unfold inR; exact decide_eq_false h
theorem mulD {d : Int} {i : Nat} (hd : d = -1 ∨ d = 0 ∨ d = 1) (hi : i ≤ 64) : -64 ≤ (i : Int) * d ∧ (i : Int) * d ≤ 64 := by rcases hd with rfl | rfl | rfl <;> omega
theorem outD {W x d : Int} {i j : Nat} (hd : d = -1 ∨ d = 0 ∨ d = 1) (x0 : 0 ≤ x) (x1 : x < W) (hj : i ≤ j) : (x + i * d < 0 → x + j * d < 0) ∧ (W ≤ x + i * d → W ≤ x + j * d) := by
  rcases hd with rfl | rfl | rfl <;> omega
set_option maxRecDepth 100000 in
set_option maxHeartbeats 4000000 in
theorem spr_pix (W H x y : Int) (v : Bool) (m : Nat) (dx dy : Int) (A : Option Addr) (n c bn bdx bdy bg bv : Nat) (p : Int → Int) (w : World) (kn : Blk w bn 3 #[.int .i64 m]) (kx : Blk w bdx 3 #[.int .i64 dx]) (ky : Blk w bdy 3 #[.int .i64 dy])
    (kg : Blk w bg 24 #[.int .i64 W, .int .i64 H, .slice A n c]) (kv : Blk w bv 5 #[.int .u8 (vI v)]) (hA : ArrB w w.heap.size A n p) (hE : chk W H n p = 0) (h01 : ∀ i : Int, 0 ≤ i → i < n → p i = 0 ∨ p i = 1) (hm : m ≤ 64)
    (hdx : dx = -1 ∨ dx = 0 ∨ dx = 1) (hdy : dy = -1 ∨ dy = 0 ∨ dy = 1) (x0 : 0 ≤ x) (x1 : x < W) (y0 : 0 ≤ y) (y1 : y < H) :
    Calls Tryd.prog 131 #[.int .i64 x, .int .i64 y, .pointer (some ⟨bn, 0, none⟩), .pointer (some ⟨bdx, 0, none⟩), .pointer (some ⟨bdy, 0, none⟩), .pointer (some ⟨bg, 0, none⟩), .pointer (some ⟨bv, 0, none⟩)] w
      fun e w' => e = .returned (.int .u8 (if sprF v W H p dx dy m x y = true then 1 else 0)) ∧ Below w.heap.size w w' := by
  obtain ⟨hW1, hW2, hH1, hH2, hnn, hp⟩ := chk_ok hE
  obtain ⟨F, hF⟩ : ∃ F, (fun i : Nat => inR W H (x + i * dx) (y + i * dy) && (inkB W H p (x + i * dx) (y + i * dy) == v)) = F := ⟨_, rfl⟩
  have RES : Hid (∀ b, exB F m = b → (if sprF v W H p dx dy m x y = true then (1 : Int) else 0) = if b = v then 1 else 0) := Lib.hid fun b hb => by
    unfold sprF
    rw [hF, hb]
    cases b <;> cases v <;> rfl
  have HF := Lib.hid hF
  have NO := Lib.hid fun (i : Nat) (h : exB F i = false) (ho : ¬ (0 ≤ x + i * dx ∧ x + i * dx < W ∧ 0 ≤ y + i * dy ∧ y + i * dy < H)) => (exB_false_out (m := m) h fun j hj _ => by
    have o1 := outD hdx x0 x1 hj
    have o2 := outD hdy y0 y1 hj
    rw [← hF]
    show (inR W H (x + j * dx) (y + j * dy) && _) = false
    rw [inR_no (by omega)]; rfl : exB F m = false)
  have HA := Lib.hid hA
  have H01 := Lib.hid h01
  have HNN := Lib.hid hnn
  have MX := Lib.hid fun i (hi : i ≤ 64) => mulD (i := i) hdx hi
  have MY := Lib.hid fun i (hi : i ≤ 64) => mulD (i := i) hdy hi
  obtain ⟨res, hres⟩ : ∃ r, (if sprF v W H p dx dy m x y = true then (1 : Int) else 0) = r := ⟨_, rfl⟩
  rw [hres] at RES
  rw [hres]
  obtain ⟨va, hva⟩ : ∃ a, vI v = a := ⟨_, rfl⟩
  rw [hva] at kv
  have VA : va = 0 ∨ va = 1 := by rw [← hva]; unfold vI; cases v <;> simp
  have R1 : Hid (exB F m = true → res = va) := Lib.hid fun h => by
    rw [RES.out true h, ← hva]; cases v <;> rfl
  have R0 : Hid (exB F m = false → res = 1 - va) := Lib.hid fun h => by
    rw [RES.out false h, ← hva]; cases v <;> rfl
  have u1 : IntKind.u8.wrap (1 - va) = 1 - va := IntWalk.u8_in _ (by omega)
  have HVA := Lib.hid hva
  have KN := Lib.hid kn; have KX := Lib.hid kx; have KY := Lib.hid ky; have KV := Lib.hid kv; have KG := Lib.hid kg
  have c1 := kn.cells1; have c2 := kx.cells1; have c3 := ky.cells1; have c4 := kv.cells1
  obtain ⟨p1, p2, p3⟩ := kg.cells3
  clear kn kx ky kg kv hA hE h01 hdx hdy hF hres RES hva hnn hp
  go_enter Tryd.func131, Tryd.ntmps131
  go_wp2_with fail
  go_loopw [14] (fun s wr => ∃ i : Nat, i ≤ m ∧ s = .int .i64 i ∧ Below w.heap.size w wr ∧ Hid (exB F i = false)) (fun s _ => m - (intOf s).toNat)
  case atStart => exact ⟨0, by omega, rfl, Below.refl _ _, Lib.hid rfl⟩
  case round =>
    obtain ⟨i, hi, rfl, hbw, hex⟩ := hrel
    clear c1 c2 c3 c4 p1 p2 p3
    have c1 := (KN.out.below' hbw).cells1; have c2 := (KX.out.below' hbw).cells1; have c3 := (KY.out.below' hbw).cells1; have c4 := (KV.out.below' hbw).cells1
    obtain ⟨p1, p2, p3⟩ := (KG.out.below' hbw).cells3
    by_cases il : (i : Int) < m
    · have mx := MX.out i (by omega)
      have my := MY.out i (by omega)
      obtain ⟨a, ha⟩ : ∃ a, (i : Int) * dx = a := ⟨_, rfl⟩
      obtain ⟨b, hb⟩ : ∃ b, (i : Int) * dy = b := ⟨_, rfl⟩
      obtain ⟨U, hU⟩ : ∃ U, x + a = U := ⟨_, rfl⟩
      obtain ⟨V, hV⟩ : ∃ V, y + b = V := ⟨_, rfl⟩
      have v1 : IntKind.i64.wrap ((i : Int) * dx) = a := by rw [ha]; exact IntWalk.i64_in _ (by omega)
      have v2 : IntKind.i64.wrap ((i : Int) * dy) = b := by rw [hb]; exact IntWalk.i64_in _ (by omega)
      have v3 : IntKind.i64.wrap (x + a) = U := by rw [hU]; exact IntWalk.i64_in _ (by omega)
      have v4 : IntKind.i64.wrap (y + b) = V := by rw [hV]; exact IntWalk.i64_in _ (by omega)
      have HU : Hid (x + i * dx = U) := Lib.hid (by rw [ha, hU])
      have HV : Hid (y + i * dy = V) := Lib.hid (by rw [hb, hV])
      clear ha hb hU hV mx my
      by_cases hin : 0 ≤ U ∧ U < W ∧ 0 ≤ V ∧ V < H
      · obtain ⟨u0, u1', v0, v1'⟩ := hin
        obtain ⟨j1, j2, j3⟩ := idx_lt u0 u1' v0 v1'
        rw [Int.mul_comm H W] at j2
        have nb := (area_bd hW1 hW2 hH1 hH2).2
        obtain ⟨z, hz⟩ : ∃ z : Nat, V * W + U = (z : Int) := ⟨(V * W + U).toNat, by omega⟩
        have w1 : IntKind.i64.wrap (V * W) = V * W := IntWalk.i64_in _ (by omega)
        have w2 : IntKind.i64.wrap (V * W + U) = (z : Int) := (IntWalk.i64_in _ (by omega)).trans hz
        have zN : (z : Int) < (n : Int) := by rw [HNN.out]; omega
        obtain ⟨bA, off, rfl, hbA, hcell⟩ := ArrB.at_ (HA.out.to hbw) (i := (z : Int)) (by omega) zN
        rw [Int.toNat_natCast] at hcell
        have h1 := H01.out z (by omega) zN
        have FI : Hid (F i = decide (p z = va)) := Lib.hid (by
          rw [← HF.out]
          show (inR W H (x + i * dx) (y + i * dy) && (inkB W H p (x + i * dx) (y + i * dy) == v)) = _
          rw [HU.out, HV.out, inR_iff.2 ⟨u0, u1', v0, v1'⟩, Bool.true_and]
          have e : inkB W H p U V = decide (p z = 1) := by
            apply Bool.eq_iff_iff.2
            rw [inkB_iff, decide_eq_true_iff, ← hz]
            exact ⟨fun h => h.2.2.2.2, fun h => ⟨u0, u1', v0, v1', h⟩⟩
          rw [e, ← HVA.out]
          rcases h1 with h | h <;> rw [h] <;> cases v <;> rfl)
        have EX : Hid (exB F (i + 1) = (exB F i || F i)) := Lib.hid rfl
        obtain ⟨pz, hpz⟩ : ∃ q, p z = q := ⟨_, rfl⟩
        rw [hpz] at hcell FI
        clear hz hpz h1 j1 j2 j3 nb
        by_cases he : pz = va
        · subst he
          have er : res = pz := R1.out (exB_iff.2 ⟨i, by omega, by rw [FI.out]; simp⟩)
          clear FI EX
          have nu : ¬ U < 0 := by omega
          have nv : ¬ V < 0 := by omega
          go_upto_region 4 with fail
          go_quiet (fail)
          go_upto_region 6 with fail
          go_quiet (fail)
          go_wp2_with fail
          go_ret
          exact ⟨by first | rfl | (rw [er]; rfl), by (repeat (first | exact Below.refl _ _ | assumption | refine Below.drew ?_ | refine below_drewN ?_ _ | refine Below.alloc ?_ (by first | omega | (simp; done) | (simp; omega)) _ | refine Below.setCell ?_ (by first | omega | (simp; done) | (simp; omega)) _ | refine below_setRow ?_ (by first | omega | (simp; done) | (simp; omega)) _ ))⟩
        · have HX : Hid (exB F (i + 1) = false) := Lib.hid (by rw [EX.out, hex.out, FI.out]; simp [he])
          clear FI EX
          have nu : ¬ U < 0 := by omega
          have nv : ¬ V < 0 := by omega
          go_upto_region 4 with fail
          go_quiet (fail)
          go_upto_region 6 with fail
          go_quiet (fail)
          go_wp2_with fail
          go_roundw
          case rel => exact ⟨i + 1, by omega, by go_num, by (repeat (first | exact Below.refl _ _ | assumption | refine Below.drew ?_ | refine below_drewN ?_ _ | refine Below.alloc ?_ (by first | omega | (simp; done) | (simp; omega)) _ | refine Below.setCell ?_ (by first | omega | (simp; done) | (simp; omega)) _ | refine below_setRow ?_ (by first | omega | (simp; done) | (simp; omega)) _ )), HX⟩
          case measure => simp [intOf]; omega
      · have er : res = 1 - va := R0.out (NO.out i hex.out (by rw [HU.out, HV.out]; exact hin))
        rcases (show U < 0 ∨ (¬ U < 0 ∧ W ≤ U) ∨ (¬ U < 0 ∧ U < W ∧ V < 0) ∨ (¬ U < 0 ∧ U < W ∧ ¬ V < 0 ∧ H ≤ V) by omega) with q1 | ⟨q1, q2⟩ | ⟨q1, q2, q3⟩ | ⟨q1, q2, q3, q4⟩
        all_goals
          clear hin
          go_upto_region 4 with fail
          go_quiet (fail)
          go_wp2_with fail
          go_ret
          exact ⟨by first | rfl | (rw [er]; rfl), by (repeat (first | exact Below.refl _ _ | assumption | refine Below.drew ?_ | refine below_drewN ?_ _ | refine Below.alloc ?_ (by first | omega | (simp; done) | (simp; omega)) _ | refine Below.setCell ?_ (by first | omega | (simp; done) | (simp; omega)) _ | refine below_setRow ?_ (by first | omega | (simp; done) | (simp; omega)) _ ))⟩
    · obtain rfl : i = m := by omega
      have er : res = 1 - va := R0.out hex.out
      go_wp2_with fail
      go_ret
      exact ⟨by first | rfl | (rw [er]; rfl), by (repeat (first | exact Below.refl _ _ | assumption | refine Below.drew ?_ | refine below_drewN ?_ _ | refine Below.alloc ?_ (by first | omega | (simp; done) | (simp; omega)) _ | refine Below.setCell ?_ (by first | omega | (simp; done) | (simp; omega)) _ | refine below_setRow ?_ (by first | omega | (simp; done) | (simp; omega)) _ ))⟩
end Go.Proofs.YtoonkpjddfiopaaDoor

/- Walks: brushes of the program: spread, brush, Dilate, Erode. -/
namespace Go.Proofs.YtoonkpjddfiopaaDoor
open Go.RowKit
set_option linter.unusedVariables false
attribute [local go_sem] Oper.semAt_some

def sgV (v : Bool) (d : Int) : Int := if v then d else -d
theorem spr_fill (v : Bool) (W H : Int) (p : Int → Int) (dx dy : Int) (m : Nat) : byPix W (fun x y => if sprF v W H p dx dy m x y = true then 1 else 0) = fillB (sprF v W H p dx dy m) W := rfl
set_option maxRecDepth 100000 in
set_option maxHeartbeats 4000000 in
theorem spread_any (v : Bool) (W H : Int) (m : Nat) (dx dy : Int) (A : Option Addr) (n c bv : Nat) (p : Int → Int) (w : World) (kv : Blk w bv 5 #[.int .u8 (vI v)]) (hA : ArrB w w.heap.size A n p) (hE : chk W H n p = 0) (h01 : ∀ i : Int, 0 ≤ i → i < n → p i = 0 ∨ p i = 1) (hm : m ≤ 64)
    (hdx : dx = -1 ∨ dx = 0 ∨ dx = 1) (hdy : dy = -1 ∨ dy = 0 ∨ dy = 1) :
    Calls Tryd.prog 130 #[.agg #[.int .i64 W, .int .i64 H, .slice A n c], .int .i64 dx, .int .i64 dy, .int .i64 m, .pointer (some ⟨bv, 0, none⟩)] w (New w fun r w' => OutN w w' W H n (fillB (sprF v W H p (sgV v dx) (sgV v dy) m) W) r) := by
  obtain ⟨hW1, hW2, hH1, hH2, hnn, hp⟩ := chk_ok hE
  have SP := Lib.hid fun (x y d e : Int) (bn bdx bdy bg : Nat) w' kn kx ky kg kv' hA' hd he x0 x1 y0 y1 => spr_pix W H x y v m d e A n c bn bdx bdy bg bv p w' kn kx ky kg kv' hA' hE h01 hm hd he x0 x1 y0 y1
  have MD := Lib.hid fun (d e : Int) (w' : World) (kn : Blk w' (w.heap.size + 1 + 1 + 1) 3 #[.int .i64 m]) (kx : Blk w' (w.heap.size + 1) 3 #[.int .i64 d]) (ky : Blk w' (w.heap.size + 1 + 1) 3 #[.int .i64 e]) (kg : Blk w' w.heap.size 24 #[.int .i64 W, .int .i64 H, .slice A n c]) (kv' : Blk w' bv 5 #[.int .u8 (vI v)]) (hA' : ArrB w' w'.heap.size A n p) (hd : d = -1 ∨ d = 0 ∨ d = 1) (he : e = -1 ∨ e = 0 ∨ e = 1) =>
    pixmade_any W H n 131 #[.pointer (some ⟨w.heap.size + 1 + 1 + 1, 0, none⟩), .pointer (some ⟨w.heap.size + 1, 0, none⟩), .pointer (some ⟨w.heap.size + 1 + 1, 0, none⟩), .pointer (some ⟨w.heap.size, 0, none⟩), .pointer (some ⟨bv, 0, none⟩)] (fun x y => if sprF v W H p d e m x y = true then 1 else 0) w' enterBr1 hW1 hW2 hH1 hH2 hnn
    (fun x y w'' x0 x1 y0 y1 hb => by
      show Calls _ _ #[_, _, _, _, _, _, _] _ _
      exact SP.out x y d e (w.heap.size + 1 + 1 + 1) (w.heap.size + 1) (w.heap.size + 1 + 1) w.heap.size w'' (kn.below' hb) (kx.below' hb) (ky.below' hb) (kg.below' hb) (kv'.below' hb) (hA'.to hb) hd he x0 x1 y0 y1)
  have hdx' : sgV v dx = -1 ∨ sgV v dx = 0 ∨ sgV v dx = 1 := by unfold sgV; split <;> omega
  have hdy' : sgV v dy = -1 ∨ sgV v dy = 0 ∨ sgV v dy = 1 := by unfold sgV; split <;> omega
  have MD2 := Lib.hid fun w' kn kx ky kg kv' hA' => MD.out (sgV v dx) (sgV v dy) w' kn kx ky kg kv' hA' hdx' hdy'
  obtain ⟨d, hd⟩ : ∃ d, sgV v dx = d := ⟨_, rfl⟩
  obtain ⟨e, he⟩ : ∃ e, sgV v dy = e := ⟨_, rfl⟩
  rw [hd, he] at MD2 ⊢
  obtain ⟨w1, hw1⟩ : ∃ w1, (((((w.alloc (.cells #[.int .i64 W, .int .i64 H, .slice A n c] 24)).alloc (.cells #[.int .i64 dx] 3)).alloc (.cells #[.int .i64 dy] 3)).alloc (.cells #[.int .i64 m] 3)).alloc (.cells #[.int .i64 0, .int .i64 0, .slice none 0 0] 24)) = w1 := ⟨_, rfl⟩
  have b1 : Below w.heap.size w w1 := by rw [← hw1]; (repeat (first | exact Below.refl _ _ | assumption | refine Below.drew ?_ | refine below_drewN ?_ _ | refine Below.alloc ?_ (by first | omega | (simp; done) | (simp; omega)) _ | refine Below.setCell ?_ (by first | omega | (simp; done) | (simp; omega)) _ | refine below_setRow ?_ (by first | omega | (simp; done) | (simp; omega)) _ ))
  have k0 : Blk w1 w.heap.size 24 #[.int .i64 W, .int .i64 H, .slice A n c] := by rw [← hw1]; exact ((((Blk.new _ _ _).alloc _).alloc _).alloc _).alloc _
  have k1 : Blk w1 (w.heap.size + 1) 3 #[.int .i64 dx] := by rw [← hw1]; exact (((Blk.new' (by simp) _ _).alloc _).alloc _).alloc _
  have k2 : Blk w1 (w.heap.size + 1 + 1) 3 #[.int .i64 dy] := by rw [← hw1]; exact ((Blk.new' (by simp) _ _).alloc _).alloc _
  have k3 : Blk w1 (w.heap.size + 1 + 1 + 1) 3 #[.int .i64 m] := by rw [← hw1]; exact (Blk.new' (by simp) _ _).alloc _
  have k4 : Blk w1 (w.heap.size + 1 + 1 + 1 + 1) 24 #[.int .i64 0, .int .i64 0, .slice none 0 0] := by rw [← hw1]; exact Blk.new' (by simp) _ _
  have kv1 := kv.below' b1
  have hA1 := hA.to b1
  have HW := Lib.hid hw1
  have HA := Lib.hid hA
  have zv := kv.lt
  have e1 : IntKind.i64.wrap (-dx) = -dx := IntWalk.i64_in _ (by omega)
  have e2 : IntKind.i64.wrap (-dy) = -dy := IntWalk.i64_in _ (by omega)
  clear hE hp hA kv MD SP hdx' hdy' h01 hw1
  cases v with
  | false =>
    obtain rfl : -dx = d := hd
    obtain rfl : -dy = e := he
    have c1 := k1.cells1; have c2 := k2.cells1; have c3 := kv1.cells1
    have f1 := k1.frozen 0; have f2 := k2.frozen 0
    change _ = some (Value.int .u8 0) at c3
    go_enter Tryd.func130, Tryd.ntmps130
    go_upto_region 1 with fail
    rw [HW.out]
    go_upto_region 2 with fail
    go_region
    have m0 := ((k0.far (p := ⟨w.heap.size + 1, 0, none⟩) (by show _ ≠ w.heap.size + 1; omega) (.int .i64 (-dx))).far (p := ⟨w.heap.size + 1 + 1, 0, none⟩) (by show _ ≠ w.heap.size + 1 + 1; omega) (.int .i64 (-dy))).drew
    have m3 := ((k3.far (p := ⟨w.heap.size + 1, 0, none⟩) (by show _ ≠ w.heap.size + 1; omega) (.int .i64 (-dx))).far (p := ⟨w.heap.size + 1 + 1, 0, none⟩) (by show _ ≠ w.heap.size + 1 + 1; omega) (.int .i64 (-dy))).drew
    have m4 := ((k4.far (p := ⟨w.heap.size + 1, 0, none⟩) (by show _ ≠ w.heap.size + 1; omega) (.int .i64 (-dx))).far (p := ⟨w.heap.size + 1 + 1, 0, none⟩) (by show _ ≠ w.heap.size + 1 + 1; omega) (.int .i64 (-dy))).drew
    have mv := ((kv1.far (p := ⟨w.heap.size + 1, 0, none⟩) (by show _ ≠ w.heap.size + 1; omega) (.int .i64 (-dx))).far (p := ⟨w.heap.size + 1 + 1, 0, none⟩) (by show _ ≠ w.heap.size + 1 + 1; omega) (.int .i64 (-dy))).drew
    have m1 := ((k1.set_ 0 (.int .i64 (-dx))).far (p := ⟨w.heap.size + 1 + 1, 0, none⟩) (by show _ ≠ w.heap.size + 1 + 1; omega) (.int .i64 (-dy))).drew
    have m2 := ((k2.far (p := ⟨w.heap.size + 1, 0, none⟩) (by show _ ≠ w.heap.size + 1; omega) (.int .i64 (-dx))).set_ 0 (.int .i64 (-dy))).drew
    have b2 : Below w.heap.size w ((w1.setCell ⟨w.heap.size + 1, 0, none⟩ (.int .i64 (-dx))).setCell ⟨w.heap.size + 1 + 1, 0, none⟩ (.int .i64 (-dy))).drew := ((b1.setCell (p := ⟨w.heap.size + 1, 0, none⟩) (by show _ ≤ w.heap.size + 1; omega) _).setCell (p := ⟨w.heap.size + 1 + 1, 0, none⟩) (by show _ ≤ w.heap.size + 1 + 1; omega) _).drew
    have mA := HA.out.to b2
    change Blk _ _ _ #[.int .i64 (-dx)] at m1
    change Blk _ _ _ #[.int .i64 (-dy)] at m2
    generalize ((w1.setCell ⟨w.heap.size + 1, 0, none⟩ (.int .i64 (-dx))).setCell ⟨w.heap.size + 1 + 1, 0, none⟩ (.int .i64 (-dy))).drew = w2 at *
    clear k0 k1 k2 k3 k4 kv1 c1 c2 c3 f1 f2 hA1 b1
    have hmf : ∀ (fn : Fn) (first cap : Array Value) (w : World), (Instr.makeFunc fn first cap).run Tryd.prog w = .ok (.func fn first cap) w := fun _ _ _ _ => rfl
    obtain ⟨p1, p2, p3⟩ := m0.cells3
    have M0 := Lib.hid m0; have M1 := Lib.hid m1; have M2 := Lib.hid m2; have M3 := Lib.hid m3; have MV := Lib.hid mv; have MA := Lib.hid mA
    clear m0 m1 m2 m3 mv mA
    go_wp2_with fail
    refine (MD2.out _ M3.out M1.out M2.out M0.out MV.out MA.out).mono ?_
    rintro ee w3 ⟨_, rfl, ⟨gp, rfl, hgp, kp⟩, hb3⟩
    have zz := m4.lt
    have b3 := below_call b2 b2.size hb3
    have k5 := m4.below' hb3
    obtain ⟨f1, f2, f3⟩ := k5.frozen3
    obtain ⟨r1, r2, r3⟩ := k5.cells3
    have k6 := ((k5.set_ 0 (.int .i64 W)).set_ 1 (.int .i64 H)).set_ 2 (.slice (some ⟨gp, 0, none⟩) n n)
    obtain ⟨s1, s2, s3⟩ := Blk.cells3 (a := .int .i64 W) (b := .int .i64 H) (c := .slice (some ⟨gp, 0, none⟩) n n) k6
    clear p1 p2 p3
    go_wp2_with fail
    refine bodyPost_ret (v := .agg #[.int .i64 W, .int .i64 H, .slice (some ⟨gp, 0, none⟩) n n]) (by simp [results, Tryd.results130, go_sem, s1, s2, s3]) rfl ?_
    have g1 : gp ≠ w.heap.size + 1 + 1 + 1 + 1 := by omega
    have zb := b2.size
    refine ⟨_, rfl, ⟨gp, rfl, by omega, ?_⟩, by (repeat (first | exact Below.refl _ _ | assumption | refine Below.drew ?_ | refine below_drewN ?_ _ | refine Below.alloc ?_ (by first | omega | (simp; done) | (simp; omega)) _ | refine Below.setCell ?_ (by first | omega | (simp; done) | (simp; omega)) _ | refine below_setRow ?_ (by first | omega | (simp; done) | (simp; omega)) _ ))⟩
    exact Blk.far (Blk.far (Blk.far kp (p := ⟨w.heap.size + 1 + 1 + 1 + 1, 0, none⟩) g1 (.int .i64 W)) (p := ⟨w.heap.size + 1 + 1 + 1 + 1, 1, none⟩) g1 (.int .i64 H)) (p := ⟨w.heap.size + 1 + 1 + 1 + 1, 2, none⟩) g1 (.slice (some ⟨gp, 0, none⟩) n n)
  | true =>
    obtain rfl : dx = d := hd
    obtain rfl : dy = e := he
    have c3 := kv1.cells1
    change _ = some (Value.int .u8 1) at c3
    go_enter Tryd.func130, Tryd.ntmps130
    go_upto_region 1 with fail
    rw [HW.out]
    have m0 := k0; have m1 := k1; have m2 := k2; have m3 := k3; have m4 := k4; have mv := kv1; have mA := hA1; have b2 := b1
    clear k0 k1 k2 k3 k4 kv1 hA1 b1
    have hmf : ∀ (fn : Fn) (first cap : Array Value) (w : World), (Instr.makeFunc fn first cap).run Tryd.prog w = .ok (.func fn first cap) w := fun _ _ _ _ => rfl
    obtain ⟨p1, p2, p3⟩ := m0.cells3
    have M0 := Lib.hid m0; have M1 := Lib.hid m1; have M2 := Lib.hid m2; have M3 := Lib.hid m3; have MV := Lib.hid mv; have MA := Lib.hid mA
    clear m0 m1 m2 m3 mv mA
    go_wp2_with fail
    refine (MD2.out _ M3.out M1.out M2.out M0.out MV.out MA.out).mono ?_
    rintro ee w3 ⟨_, rfl, ⟨gp, rfl, hgp, kp⟩, hb3⟩
    have zz := m4.lt
    have b3 := below_call b2 b2.size hb3
    have k5 := m4.below' hb3
    obtain ⟨f1, f2, f3⟩ := k5.frozen3
    obtain ⟨r1, r2, r3⟩ := k5.cells3
    have k6 := ((k5.set_ 0 (.int .i64 W)).set_ 1 (.int .i64 H)).set_ 2 (.slice (some ⟨gp, 0, none⟩) n n)
    obtain ⟨s1, s2, s3⟩ := Blk.cells3 (a := .int .i64 W) (b := .int .i64 H) (c := .slice (some ⟨gp, 0, none⟩) n n) k6
    clear p1 p2 p3
    go_wp2_with fail
    refine bodyPost_ret (v := .agg #[.int .i64 W, .int .i64 H, .slice (some ⟨gp, 0, none⟩) n n]) (by simp [results, Tryd.results130, go_sem, s1, s2, s3]) rfl ?_
    have g1 : gp ≠ w.heap.size + 1 + 1 + 1 + 1 := by omega
    have zb := b2.size
    refine ⟨_, rfl, ⟨gp, rfl, by omega, ?_⟩, by (repeat (first | exact Below.refl _ _ | assumption | refine Below.drew ?_ | refine below_drewN ?_ _ | refine Below.alloc ?_ (by first | omega | (simp; done) | (simp; omega)) _ | refine Below.setCell ?_ (by first | omega | (simp; done) | (simp; omega)) _ | refine below_setRow ?_ (by first | omega | (simp; done) | (simp; omega)) _ ))⟩
    exact Blk.far (Blk.far (Blk.far kp (p := ⟨w.heap.size + 1 + 1 + 1 + 1, 0, none⟩) g1 (.int .i64 W)) (p := ⟨w.heap.size + 1 + 1 + 1 + 1, 1, none⟩) g1 (.int .i64 H)) (p := ⟨w.heap.size + 1 + 1 + 1 + 1, 2, none⟩) g1 (.slice (some ⟨gp, 0, none⟩) n n)
end Go.Proofs.YtoonkpjddfiopaaDoor

/- Walks: image.brush whole, Dilate, Erode. -/
namespace Go.Proofs.YtoonkpjddfiopaaDoor
open Go.RowKit
set_option linter.unusedVariables false
attribute [local go_sem] Oper.semAt_some

/-- the error of a brush -/
def brE (W H : Int) (n : Nat) (p : Int → Int) (a b : Int) : Int := if chk W H n p = 0 then (if a < 1 ∨ b < 1 ∨ 64 < a ∨ 64 < b then 1 else 0) else chk W H n p
theorem enterBr0 (args : Array Value) (w : World) : (callFunc 130 args).run Tryd.prog w = .ok (.enter 130 args) w := by kernel_rfl
theorem fillB_01 {C : Int → Int → Bool} {W : Int} (i : Int) : fillB C W i = 0 ∨ fillB C W i = 1 := by unfold fillB; split <;> simp
theorem sg_dir (v : Bool) : sgV v 1 = dirV v ∧ sgV v 0 = 0 := by cases v <;> exact ⟨rfl, rfl⟩
set_option maxRecDepth 100000 in
set_option maxHeartbeats 4000000 in
theorem brush_all (v : Bool) (W H bw bh : Int) (A : Option Addr) (n c : Nat) (p : Int → Int) (E W2 H2 : Int) (N : Nat) (w : World) (hA : ArrB w w.heap.size A n p) (hn : n ≤ maxLen) (hB : IsB p) (hE : brE W H n p bw bh = E) (hs : RSize E W H W2 H2 N) :
    Calls Tryd.prog 78 #[.agg #[.int .i64 W, .int .i64 H, .slice A n c], .int .i64 bw, .int .i64 bh, .int .u8 (vI v)] w (New w fun r w' => OutT w w' E W2 H2 N (brushQ v W H p bw.toNat bh.toNat) r) := by
  have CK := Lib.hid fun w' hA' => check_any W H A n c p w' hA' hn
  have b1 : Below w.heap.size w (((w.alloc (.cells #[.int .i64 W, .int .i64 H, .slice A n c] 24)).alloc (.cells #[.int .u8 (vI v)] 5)).alloc (.cells #[.int .i64 0, .int .i64 0, .slice none 0 0] 24)) := by (repeat (first | exact Below.refl _ _ | assumption | refine Below.drew ?_ | refine below_drewN ?_ _ | refine Below.alloc ?_ (by first | omega | (simp; done) | (simp; omega)) _ | refine Below.setCell ?_ (by first | omega | (simp; done) | (simp; omega)) _ | refine below_setRow ?_ (by first | omega | (simp; done) | (simp; omega)) _ ))
  have k1 : Blk (((w.alloc (.cells #[.int .i64 W, .int .i64 H, .slice A n c] 24)).alloc (.cells #[.int .u8 (vI v)] 5)).alloc (.cells #[.int .i64 0, .int .i64 0, .slice none 0 0] 24)) w.heap.size 24 #[.int .i64 W, .int .i64 H, .slice A n c] := ((Blk.new _ _ _).alloc _).alloc _
  have k2 : Blk (((w.alloc (.cells #[.int .i64 W, .int .i64 H, .slice A n c] 24)).alloc (.cells #[.int .u8 (vI v)] 5)).alloc (.cells #[.int .i64 0, .int .i64 0, .slice none 0 0] 24)) (w.heap.size + 1) 5 #[.int .u8 (vI v)] := (Blk.new' (by simp) _ _).alloc _
  have k3 : Blk (((w.alloc (.cells #[.int .i64 W, .int .i64 H, .slice A n c] 24)).alloc (.cells #[.int .u8 (vI v)] 5)).alloc (.cells #[.int .i64 0, .int .i64 0, .slice none 0 0] 24)) (w.heap.size + 1 + 1) 24 #[.int .i64 0, .int .i64 0, .slice none 0 0] := Blk.new' (by simp) _ _
  have HS := Lib.hid hs
  by_cases h0 : chk W H n p = 0
  · by_cases hl : bw < 1 ∨ bh < 1 ∨ 64 < bw ∨ 64 < bh
    · have hE2 : E = 1 := by rw [← hE]; unfold brE; rw [if_pos h0, if_pos hl]
      subst hE2
      rw [h0] at CK
      clear hs hE h0
      rcases (show (bw < 1 ∧ bw ≤ bh) ∨ (bh < 1 ∧ bh < bw) ∨ (1 ≤ bw ∧ 1 ≤ bh ∧ 64 < bw ∧ bh ≤ bw) ∨ (1 ≤ bw ∧ 1 ≤ bh ∧ 64 < bh ∧ bw < bh) by omega) with ⟨l1, l2⟩ | ⟨l1, l2⟩ | ⟨l1, l2, l3, l4⟩ | ⟨l1, l2, l3, l4⟩
      · have m1 : min bw bh = bw := by omega
        have m2 : (if bh < bw then bh else bw) = bw := by rw [if_neg (by omega)]
        have m3 : bw < 1 := l1
        clear l1 l2 hl
        go_enter Tryd.func78, Tryd.ntmps78
        go_wp2_with fail
        generalize ((w.alloc (.cells #[.int .i64 W, .int .i64 H, .slice A n c] 24)).alloc (.cells #[.int .u8 (vI v)] 5)).alloc (.cells #[.int .i64 0, .int .i64 0, .slice none 0 0] 24) = w1 at *
        refine (CK.out _ (hA.to b1)).mono ?_
        rintro e w2 ⟨rfl, hb2⟩
        have b2 := below_call b1 b1.size hb2
        have k4 := k3.below' hb2
        obtain ⟨r1, r2, r3⟩ := k4.cells3
        obtain ⟨f1, f2, f3⟩ := k4.frozen3
        have k9 := ((k4.set_ 0 (.int .i64 0)).set_ 1 (.int .i64 0)).set_ 2 (.slice none 0 0)
        obtain ⟨s1, s2, s3⟩ := Blk.cells3 (a := .int .i64 0) (b := .int .i64 0) (c := .slice none 0 0) k9
        go_wp2_with fail
        refine bodyPost_ret (v := .tuple #[noImg, .int .i64 1]) (by simp [results, Tryd.results78, go_sem, noImg, s1, s2, s3]) rfl ?_
        exact ⟨_, rfl, outT_bad HS.out (by decide), by (repeat (first | with_reducible exact Below.refl _ _ | with_reducible assumption | with_reducible refine Below.drew ?_ | (with_reducible refine below_alloc' ?_ ?_; focus (first | omega | (simp; done) | (simp; omega))) | (with_reducible refine below_fill3' ?_ ?_; focus omega) | (with_reducible refine below_setCell' ?_ ?_; focus (first | omega | (simp; done) | (simp; omega))) | (with_reducible apply below_call'; (focus (with_reducible assumption)); (focus (first | omega | (simp; done) | (simp; omega))))))⟩
      · have m1 : min bw bh = bh := by omega
        have m2 : (if bh < bw then bh else bw) = bh := by rw [if_pos (by omega)]
        have m3 : bh < 1 := l1
        clear l1 l2 hl
        go_enter Tryd.func78, Tryd.ntmps78
        go_wp2_with fail
        generalize ((w.alloc (.cells #[.int .i64 W, .int .i64 H, .slice A n c] 24)).alloc (.cells #[.int .u8 (vI v)] 5)).alloc (.cells #[.int .i64 0, .int .i64 0, .slice none 0 0] 24) = w1 at *
        refine (CK.out _ (hA.to b1)).mono ?_
        rintro e w2 ⟨rfl, hb2⟩
        have b2 := below_call b1 b1.size hb2
        have k4 := k3.below' hb2
        obtain ⟨r1, r2, r3⟩ := k4.cells3
        obtain ⟨f1, f2, f3⟩ := k4.frozen3
        have k9 := ((k4.set_ 0 (.int .i64 0)).set_ 1 (.int .i64 0)).set_ 2 (.slice none 0 0)
        obtain ⟨s1, s2, s3⟩ := Blk.cells3 (a := .int .i64 0) (b := .int .i64 0) (c := .slice none 0 0) k9
        go_wp2_with fail
        refine bodyPost_ret (v := .tuple #[noImg, .int .i64 1]) (by simp [results, Tryd.results78, go_sem, noImg, s1, s2, s3]) rfl ?_
        exact ⟨_, rfl, outT_bad HS.out (by decide), by (repeat (first | with_reducible exact Below.refl _ _ | with_reducible assumption | with_reducible refine Below.drew ?_ | (with_reducible refine below_alloc' ?_ ?_; focus (first | omega | (simp; done) | (simp; omega))) | (with_reducible refine below_fill3' ?_ ?_; focus omega) | (with_reducible refine below_setCell' ?_ ?_; focus (first | omega | (simp; done) | (simp; omega))) | (with_reducible apply below_call'; (focus (with_reducible assumption)); (focus (first | omega | (simp; done) | (simp; omega))))))⟩
      · obtain ⟨mi, hmi⟩ : ∃ m, min bw bh = m := ⟨_, rfl⟩
        have m2 : (if bh < bw then bh else bw) = mi := by split <;> omega
        have m3 : ¬ mi < 1 := by omega
        have m4 : max bw bh = bw := by omega
        have m5 : (if bw < bh then bh else bw) = bw := by rw [if_neg (by omega)]
        clear l1 l2 l4 hl
        go_enter Tryd.func78, Tryd.ntmps78
        go_wp2_with fail
        generalize ((w.alloc (.cells #[.int .i64 W, .int .i64 H, .slice A n c] 24)).alloc (.cells #[.int .u8 (vI v)] 5)).alloc (.cells #[.int .i64 0, .int .i64 0, .slice none 0 0] 24) = w1 at *
        refine (CK.out _ (hA.to b1)).mono ?_
        rintro e w2 ⟨rfl, hb2⟩
        have b2 := below_call b1 b1.size hb2
        have k4 := k3.below' hb2
        obtain ⟨r1, r2, r3⟩ := k4.cells3
        obtain ⟨f1, f2, f3⟩ := k4.frozen3
        have k9 := ((k4.set_ 0 (.int .i64 0)).set_ 1 (.int .i64 0)).set_ 2 (.slice none 0 0)
        obtain ⟨s1, s2, s3⟩ := Blk.cells3 (a := .int .i64 0) (b := .int .i64 0) (c := .slice none 0 0) k9
        go_wp2_with fail
        refine bodyPost_ret (v := .tuple #[noImg, .int .i64 1]) (by simp [results, Tryd.results78, go_sem, noImg, s1, s2, s3]) rfl ?_
        exact ⟨_, rfl, outT_bad HS.out (by decide), by (repeat (first | with_reducible exact Below.refl _ _ | with_reducible assumption | with_reducible refine Below.drew ?_ | (with_reducible refine below_alloc' ?_ ?_; focus (first | omega | (simp; done) | (simp; omega))) | (with_reducible refine below_fill3' ?_ ?_; focus omega) | (with_reducible refine below_setCell' ?_ ?_; focus (first | omega | (simp; done) | (simp; omega))) | (with_reducible apply below_call'; (focus (with_reducible assumption)); (focus (first | omega | (simp; done) | (simp; omega))))))⟩
      · obtain ⟨mi, hmi⟩ : ∃ m, min bw bh = m := ⟨_, rfl⟩
        have m2 : (if bh < bw then bh else bw) = mi := by split <;> omega
        have m3 : ¬ mi < 1 := by omega
        have m4 : max bw bh = bh := by omega
        have m5 : (if bw < bh then bh else bw) = bh := by rw [if_pos (by omega)]
        clear l1 l2 l4 hl
        go_enter Tryd.func78, Tryd.ntmps78
        go_wp2_with fail
        generalize ((w.alloc (.cells #[.int .i64 W, .int .i64 H, .slice A n c] 24)).alloc (.cells #[.int .u8 (vI v)] 5)).alloc (.cells #[.int .i64 0, .int .i64 0, .slice none 0 0] 24) = w1 at *
        refine (CK.out _ (hA.to b1)).mono ?_
        rintro e w2 ⟨rfl, hb2⟩
        have b2 := below_call b1 b1.size hb2
        have k4 := k3.below' hb2
        obtain ⟨r1, r2, r3⟩ := k4.cells3
        obtain ⟨f1, f2, f3⟩ := k4.frozen3
        have k9 := ((k4.set_ 0 (.int .i64 0)).set_ 1 (.int .i64 0)).set_ 2 (.slice none 0 0)
        obtain ⟨s1, s2, s3⟩ := Blk.cells3 (a := .int .i64 0) (b := .int .i64 0) (c := .slice none 0 0) k9
        go_wp2_with fail
        refine bodyPost_ret (v := .tuple #[noImg, .int .i64 1]) (by simp [results, Tryd.results78, go_sem, noImg, s1, s2, s3]) rfl ?_
        exact ⟨_, rfl, outT_bad HS.out (by decide), by (repeat (first | with_reducible exact Below.refl _ _ | with_reducible assumption | with_reducible refine Below.drew ?_ | (with_reducible refine below_alloc' ?_ ?_; focus (first | omega | (simp; done) | (simp; omega))) | (with_reducible refine below_fill3' ?_ ?_; focus omega) | (with_reducible refine below_setCell' ?_ ?_; focus (first | omega | (simp; done) | (simp; omega))) | (with_reducible apply below_call'; (focus (with_reducible assumption)); (focus (first | omega | (simp; done) | (simp; omega))))))⟩
    · have hE2 : E = 0 := by rw [← hE]; unfold brE; rw [if_pos h0, if_neg hl]
      subst hE2
      rw [h0] at CK
      obtain ⟨hW1, hW2, hH1, hH2, hnn, hp⟩ := chk_ok h0
      obtain ⟨rfl, rfl, hN⟩ := hs.1 rfl
      obtain rfl : N = n := by omega
      obtain ⟨a, ea⟩ : ∃ a : Nat, a = bw.toNat := ⟨_, rfl⟩
      obtain ⟨b, eb⟩ : ∃ b : Nat, b = bh.toNat := ⟨_, rfl⟩
      have ha : (a : Int) = bw := by omega
      have hb : (b : Int) = bh := by omega
      have h01 : ∀ i : Int, 0 ≤ i → i < N → p i = 0 ∨ p i = 1 := fun i i0 i1 => by have := hp i i0 i1; have := hB i; omega
      have S1 := Lib.hid fun (g : Nat) w' kv hA' => spread_any v W2 H2 a 1 0 A N c g p w' kv hA' h0 h01 (by omega) (by omega) (by omega)
      rw [(sg_dir v).1, (sg_dir v).2] at S1
      obtain ⟨q, hq⟩ : ∃ q, fillB (sprF v W2 H2 p (dirV v) 0 a) W2 = q := ⟨_, rfl⟩
      have q01 : ∀ i, q i = 0 ∨ q i = 1 := fun i => by rw [← hq]; exact fillB_01 i
      have h0q : chk W2 H2 N q = 0 := chk_mk hW1 hW2 hH1 hH2 hnn fun i _ _ => by have := q01 i; omega
      have S2 := Lib.hid fun (g : Nat) A' c' w' kv hA' => spread_any v W2 H2 b 0 1 A' N c' g q w' kv hA' h0q (fun i _ _ => q01 i) (by omega) (by omega) (by omega)
      rw [(sg_dir v).1, (sg_dir v).2] at S2
      have HQ : Hid (fillB (sprF v W2 H2 q 0 (dirV v) b) W2 = brushQ v W2 H2 p bw.toNat bh.toNat) := Lib.hid (by unfold brushQ; rw [← ea, ← eb, hq])
      rw [hq, ha] at S1
      rw [hb] at S2
      obtain ⟨mi, hmi⟩ : ∃ m, min bw bh = m := ⟨_, rfl⟩
      have m2 : (if bh < bw then bh else bw) = mi := by split <;> omega
      have m3 : ¬ mi < 1 := by omega
      obtain ⟨ma, hma⟩ : ∃ m, max bw bh = m := ⟨_, rfl⟩
      have m4 : (if bw < bh then bh else bw) = ma := by split <;> omega
      have m5 : ¬ 64 < ma := by omega
      have hmf : ∀ (fn : Fn) (first cap : Array Value) (w : World), (Instr.makeFunc fn first cap).run Tryd.prog w = .ok (.func fn first cap) w := fun _ _ _ _ => rfl
      have hcf := enterBr0
      clear hs hE hp hB hN hl h0 h01 hq q01 h0q hnn ea eb ha hb
      go_enter Tryd.func78, Tryd.ntmps78
      go_wp2_with fail
      generalize ((w.alloc (.cells #[.int .i64 W2, .int .i64 H2, .slice A N c] 24)).alloc (.cells #[.int .u8 (vI v)] 5)).alloc (.cells #[.int .i64 0, .int .i64 0, .slice none 0 0] 24) = w1 at *
      refine (CK.out _ (hA.to b1)).mono ?_
      rintro e w2 ⟨rfl, hb2⟩
      have b2 := below_call b1 b1.size hb2
      have m1' := k1.below' hb2
      have KV := Lib.hid (k2.below' hb2)
      have k4 := k3.below' hb2
      have hA2 := Lib.hid (hA.to b2)
      obtain ⟨p1, p2, p3⟩ := m1'.cells3
      clear b1 k1 k2 k3 hb2 CK m1' hA
      go_wp2_with fail
      refine (S1.out _ _ KV.out hA2.out).mono ?_
      rintro e w3 ⟨_, rfl, ⟨gp, rfl, hgp, kp⟩, hb3⟩
      have b3 := below_call b2 b2.size hb3
      have k5 := k4.below' hb3
      have KV3 := Lib.hid (KV.out.below' hb3)
      have AQ := Lib.hid (kp.arrB kp.lt)
      clear p1 p2 p3 k4 hb3 KV hA2 S1 kp hgp
      go_wp2_with fail
      refine (S2.out _ _ _ _ KV3.out AQ.out).mono ?_
      rintro e w4 ⟨_, rfl, ⟨gz, rfl, hgz, kz⟩, hb4⟩
      have b4 := below_call b3 b3.size hb4
      have zz := k5.lt
      have k6 := k5.below' hb4
      obtain ⟨r1, r2, r3⟩ := k6.cells3
      obtain ⟨f1, f2, f3⟩ := k6.frozen3
      have k7 := ((k6.set_ 0 (.int .i64 W2)).set_ 1 (.int .i64 H2)).set_ 2 (.slice (some ⟨gz, 0, none⟩) N N)
      obtain ⟨s1, s2, s3⟩ := Blk.cells3 (a := .int .i64 W2) (b := .int .i64 H2) (c := .slice (some ⟨gz, 0, none⟩) N N) k7
      have zb := b3.size
      go_wp2_with fail
      refine bodyPost_ret (v := .tuple #[.agg #[.int .i64 W2, .int .i64 H2, .slice (some ⟨gz, 0, none⟩) N N], .int .i64 0]) (by simp [results, Tryd.results78, go_sem, s1, s2, s3]) rfl ?_
      have g1 : gz ≠ w.heap.size + 1 + 1 := by omega
      refine ⟨_, rfl, ⟨_, _, rfl, (fun a e => by cases e; show w.heap.size ≤ gz; omega), ?_⟩, by (repeat (first | exact Below.refl _ _ | assumption | refine Below.drew ?_ | refine below_drewN ?_ _ | refine Below.alloc ?_ (by first | omega | (simp; done) | (simp; omega)) _ | refine Below.setCell ?_ (by first | omega | (simp; done) | (simp; omega)) _ | refine below_setRow ?_ (by first | omega | (simp; done) | (simp; omega)) _ ))⟩
      have KE := Blk.far (Blk.far (Blk.far kz (p := ⟨w.heap.size + 1 + 1, 0, none⟩) g1 (.int .i64 W2)) (p := ⟨w.heap.size + 1 + 1, 1, none⟩) g1 (.int .i64 H2)) (p := ⟨w.heap.size + 1 + 1, 2, none⟩) g1 (.slice (some ⟨gz, 0, none⟩) N N)
      rw [← HQ.out]
      exact KE.arrB KE.lt
  · have hE2 : chk W H n p = E := by rw [← hE]; unfold brE; rw [if_neg h0]
    rw [hE2] at CK h0
    have hz : (E != 0) = true := by simp [h0]
    have HH := Lib.hid h0
    clear hs hE h0 hE2
    go_enter Tryd.func78, Tryd.ntmps78
    go_wp2_with fail
    generalize ((w.alloc (.cells #[.int .i64 W, .int .i64 H, .slice A n c] 24)).alloc (.cells #[.int .u8 (vI v)] 5)).alloc (.cells #[.int .i64 0, .int .i64 0, .slice none 0 0] 24) = w1 at *
    refine (CK.out _ (hA.to b1)).mono ?_
    rintro e w2 ⟨rfl, hb2⟩
    have b2 := below_call b1 b1.size hb2
    have k4 := k3.below' hb2
    obtain ⟨r1, r2, r3⟩ := k4.cells3
    obtain ⟨f1, f2, f3⟩ := k4.frozen3
    have k9 := ((k4.set_ 0 (.int .i64 0)).set_ 1 (.int .i64 0)).set_ 2 (.slice none 0 0)
    obtain ⟨s1, s2, s3⟩ := Blk.cells3 (a := .int .i64 0) (b := .int .i64 0) (c := .slice none 0 0) k9
    go_wp2_with fail
    refine bodyPost_ret (v := .tuple #[noImg, .int .i64 E]) (by simp [results, Tryd.results78, go_sem, noImg, s1, s2, s3]) rfl ?_
    exact ⟨_, rfl, outT_bad HS.out HH.out, by (repeat (first | with_reducible exact Below.refl _ _ | with_reducible assumption | with_reducible refine Below.drew ?_ | (with_reducible refine below_alloc' ?_ ?_; focus (first | omega | (simp; done) | (simp; omega))) | (with_reducible refine below_fill3' ?_ ?_; focus omega) | (with_reducible refine below_setCell' ?_ ?_; focus (first | omega | (simp; done) | (simp; omega))) | (with_reducible apply below_call'; (focus (with_reducible assumption)); (focus (first | omega | (simp; done) | (simp; omega))))))⟩
set_option maxRecDepth 100000 in
set_option maxHeartbeats 4000000 in
theorem dilate_all (W H bw bh : Int) (A : Option Addr) (n c : Nat) (p : Int → Int) (E W2 H2 : Int) (N : Nat) (w : World) (hA : ArrB w w.heap.size A n p) (hn : n ≤ maxLen) (hB : IsB p) (hE : brE W H n p bw bh = E) (hs : RSize E W H W2 H2 N) :
    Calls Tryd.prog 17 #[.agg #[.int .i64 W, .int .i64 H, .slice A n c], .int .i64 bw, .int .i64 bh] w (New w fun r w' => OutT w w' E W2 H2 N (brushQ true W H p bw.toNat bh.toNat) r) := by
  have BR := Lib.hid fun w' hA' => brush_all true W H bw bh A n c p E W2 H2 N w' hA' hn hB hE hs
  have b1 : Below w.heap.size w ((w.alloc (.cells #[.int .i64 W, .int .i64 H, .slice A n c] 24)).alloc (.cells #[.int .i64 0, .int .i64 0, .slice none 0 0] 24)) := by (repeat (first | exact Below.refl _ _ | assumption | refine Below.drew ?_ | refine below_drewN ?_ _ | refine Below.alloc ?_ (by first | omega | (simp; done) | (simp; omega)) _ | refine Below.setCell ?_ (by first | omega | (simp; done) | (simp; omega)) _ | refine below_setRow ?_ (by first | omega | (simp; done) | (simp; omega)) _ ))
  have k3 : Blk ((w.alloc (.cells #[.int .i64 W, .int .i64 H, .slice A n c] 24)).alloc (.cells #[.int .i64 0, .int .i64 0, .slice none 0 0] 24)) (w.heap.size + 1) 24 #[.int .i64 0, .int .i64 0, .slice none 0 0] := Blk.new' (by simp) _ _
  go_enter Tryd.func17, Tryd.ntmps17
  go_wp2_with fail
  generalize (w.alloc (.cells #[.int .i64 W, .int .i64 H, .slice A n c] 24)).alloc (.cells #[.int .i64 0, .int .i64 0, .slice none 0 0] 24) = w1 at *
  refine (BR.out _ (hA.to b1)).mono ?_
  rintro e w2 ⟨_, rfl, ⟨A2, c2, rfl, hg, ha⟩, hb2⟩
  have b2 := below_call b1 b1.size hb2
  have zb := b1.size
  have zz := k3.lt
  have k4 := k3.below' hb2
  obtain ⟨r1, r2, r3⟩ := k4.cells3
  obtain ⟨f1, f2, f3⟩ := k4.frozen3
  have k7 := ((k4.set_ 0 (.int .i64 W2)).set_ 1 (.int .i64 H2)).set_ 2 (.slice A2 N c2)
  obtain ⟨s1, s2, s3⟩ := Blk.cells3 (a := .int .i64 W2) (b := .int .i64 H2) (c := .slice A2 N c2) k7
  go_wp2_with fail
  refine bodyPost_ret (v := .tuple #[.agg #[.int .i64 W2, .int .i64 H2, .slice A2 N c2], .int .i64 E]) (by simp [results, Tryd.results17, go_sem, s1, s2, s3]) rfl ?_
  refine ⟨_, rfl, ⟨_, _, rfl, (fun a e => by have := hg a e; omega), ?_⟩, by (repeat (first | exact Below.refl _ _ | assumption | refine Below.drew ?_ | refine below_drewN ?_ _ | refine Below.alloc ?_ (by first | omega | (simp; done) | (simp; omega)) _ | refine Below.setCell ?_ (by first | omega | (simp; done) | (simp; omega)) _ | refine below_setRow ?_ (by first | omega | (simp; done) | (simp; omega)) _ ))⟩
  exact ha.fill1 fun a e => by have := hg a e; omega
set_option maxRecDepth 100000 in
set_option maxHeartbeats 4000000 in
theorem erode_all (W H bw bh : Int) (A : Option Addr) (n c : Nat) (p : Int → Int) (E W2 H2 : Int) (N : Nat) (w : World) (hA : ArrB w w.heap.size A n p) (hn : n ≤ maxLen) (hB : IsB p) (hE : brE W H n p bw bh = E) (hs : RSize E W H W2 H2 N) :
    Calls Tryd.prog 19 #[.agg #[.int .i64 W, .int .i64 H, .slice A n c], .int .i64 bw, .int .i64 bh] w (New w fun r w' => OutT w w' E W2 H2 N (brushQ false W H p bw.toNat bh.toNat) r) := by
  have BR := Lib.hid fun w' hA' => brush_all false W H bw bh A n c p E W2 H2 N w' hA' hn hB hE hs
  have b1 : Below w.heap.size w ((w.alloc (.cells #[.int .i64 W, .int .i64 H, .slice A n c] 24)).alloc (.cells #[.int .i64 0, .int .i64 0, .slice none 0 0] 24)) := by (repeat (first | exact Below.refl _ _ | assumption | refine Below.drew ?_ | refine below_drewN ?_ _ | refine Below.alloc ?_ (by first | omega | (simp; done) | (simp; omega)) _ | refine Below.setCell ?_ (by first | omega | (simp; done) | (simp; omega)) _ | refine below_setRow ?_ (by first | omega | (simp; done) | (simp; omega)) _ ))
  have k3 : Blk ((w.alloc (.cells #[.int .i64 W, .int .i64 H, .slice A n c] 24)).alloc (.cells #[.int .i64 0, .int .i64 0, .slice none 0 0] 24)) (w.heap.size + 1) 24 #[.int .i64 0, .int .i64 0, .slice none 0 0] := Blk.new' (by simp) _ _
  go_enter Tryd.func19, Tryd.ntmps19
  go_wp2_with fail
  generalize (w.alloc (.cells #[.int .i64 W, .int .i64 H, .slice A n c] 24)).alloc (.cells #[.int .i64 0, .int .i64 0, .slice none 0 0] 24) = w1 at *
  refine (BR.out _ (hA.to b1)).mono ?_
  rintro e w2 ⟨_, rfl, ⟨A2, c2, rfl, hg, ha⟩, hb2⟩
  have b2 := below_call b1 b1.size hb2
  have zb := b1.size
  have zz := k3.lt
  have k4 := k3.below' hb2
  obtain ⟨r1, r2, r3⟩ := k4.cells3
  obtain ⟨f1, f2, f3⟩ := k4.frozen3
  have k7 := ((k4.set_ 0 (.int .i64 W2)).set_ 1 (.int .i64 H2)).set_ 2 (.slice A2 N c2)
  obtain ⟨s1, s2, s3⟩ := Blk.cells3 (a := .int .i64 W2) (b := .int .i64 H2) (c := .slice A2 N c2) k7
  go_wp2_with fail
  refine bodyPost_ret (v := .tuple #[.agg #[.int .i64 W2, .int .i64 H2, .slice A2 N c2], .int .i64 E]) (by simp [results, Tryd.results19, go_sem, s1, s2, s3]) rfl ?_
  refine ⟨_, rfl, ⟨_, _, rfl, (fun a e => by have := hg a e; omega), ?_⟩, by (repeat (first | exact Below.refl _ _ | assumption | refine Below.drew ?_ | refine below_drewN ?_ _ | refine Below.alloc ?_ (by first | omega | (simp; done) | (simp; omega)) _ | refine Below.setCell ?_ (by first | omega | (simp; done) | (simp; omega)) _ | refine below_setRow ?_ (by first | omega | (simp; done) | (simp; omega)) _ ))⟩
  exact ha.fill1 fun a e => by have := hg a e; omega
end Go.Proofs.YtoonkpjddfiopaaDoor

/- Plain: brushes of images that are pictures; one picture within another. -/
namespace Go.Proofs.YtoonkpjddfiopaaDoor
open Go.RowKit
set_option linter.unusedVariables false
section
variable {W H : Int} {n : Nat} {p q : Int → Int}
theorem at_rc {i : Int} (hN : (n : Int) = W * H) (h1 : 0 ≤ W) (h2 : 0 ≤ H) (i0 : 0 ≤ i) (i1 : i < n) : 0 ≤ i % W ∧ i % W < W ∧ 0 ≤ i / W ∧ i / W < H ∧ i / W * W + i % W = i := by
  have hW : 0 < W := by
    rcases Int.lt_or_eq_of_le h1 with h | h
    · exact h
    · rw [← h] at hN; simp at hN; omega
  have e : i / W * W + i % W = i := by have := Int.emod_add_mul_ediv i W; rw [Int.mul_comm] at this; omega
  exact ⟨Int.emod_nonneg _ (by omega), Int.emod_lt_of_pos _ hW, Int.ediv_nonneg i0 (by omega), Int.ediv_lt_of_lt_mul hW (by rw [Int.mul_comm, ← hN]; exact i1), e⟩
theorem sub_pix (hN : (n : Int) = W * H) (h1 : 0 ≤ W) (h2 : 0 ≤ H) : (∀ i : Int, 0 ≤ i → i < n → p i = 1 → q i = 1) ↔ subQ W H p q := by
  constructor
  · intro h x y hp
    obtain ⟨x0, x1, y0, y1, e⟩ := inkB_iff.1 hp
    obtain ⟨j1, j2, j3⟩ := idx_lt x0 x1 y0 y1
    exact inkB_iff.2 ⟨x0, x1, y0, y1, h _ j1 (by rw [hN, Int.mul_comm W H]; exact j2) e⟩
  · intro h i i0 i1 hp
    obtain ⟨a, b, c, d, e⟩ := at_rc hN h1 h2 i0 i1
    have := inkB_iff.1 (h (i % W) (i / W) (inkB_iff.2 ⟨a, b, c, d, by rw [e]; exact hp⟩))
    rw [e] at this
    exact this.2.2.2.2
theorem less_sub (hN : (n : Int) = W * H) (h1 : 0 ≤ W) (h2 : 0 ≤ H) : sumN n (fun i => lessF (p i) (q i)) = 0 ↔ subQ W H p q := by
  rw [← sub_pix hN h1 h2]
  have h := sumN_pos (n := n) (f := fun i => lessF (p i) (q i)) fun i _ _ => lessF_01 _ _
  constructor
  · intro e i i0 i1 hp
    refine Classical.byContradiction fun hq => ?_
    have : 0 < sumN n (fun i => lessF (p i) (q i)) := h.2.2 ⟨i, i0, i1, by show lessF (p i) (q i) = 1; unfold lessF; rw [if_pos ⟨hp, hq⟩]⟩
    omega
  · intro hs
    rcases Int.lt_or_eq_of_le h.1 with h3 | h3
    · obtain ⟨i, i0, i1, e⟩ := h.2.1 h3
      change lessF (p i) (q i) = 1 at e
      unfold lessF at e
      split at e
      · rename_i h4
        exact absurd (hs i i0 i1 h4.1) h4.2
      · omega
    · exact h3.symm
theorem dil_pix (hN : (n : Int) = W * H) (h1 : 0 ≤ W) (h2 : 0 ≤ H) (w h : Nat) {i : Int} (i0 : 0 ≤ i) (i1 : i < n) : brushQ true W H p w h i = dilQ W H p w h i := by
  obtain ⟨a, b, c, d, e⟩ := at_rc hN h1 h2 i0 i1
  unfold brushQ dilQ fillB
  have := dil_same (p := p) (w := w) (h := h) (inR_iff.2 ⟨a, b, c, d⟩)
  unfold fillB at this
  simp only [dirV, if_true]
  rw [this]
theorem ero_pix (hN : (n : Int) = W * H) (h1 : 0 ≤ W) (h2 : 0 ≤ H) (w h : Nat) {i : Int} (i0 : 0 ≤ i) (i1 : i < n) : brushQ false W H p w h i = eroQ W H p w h i := by
  obtain ⟨a, b, c, d, e⟩ := at_rc hN h1 h2 i0 i1
  unfold brushQ eroQ fillB
  have := ero_same (p := p) (w := w) (h := h) (inR_iff.2 ⟨a, b, c, d⟩)
  unfold fillB at this
  simp only [dirV, Bool.false_eq_true, if_false]
  rw [this]
end
theorem dil_img (W H : Int) (x y : Nat) (A : Option Addr) (n c : Nat) (p : Int → Int) (w : World) (hA : ArrB w w.heap.size A n p) (hn : n ≤ maxLen) (hB : IsB p) (hE : chk W H n p = 0) (hx : 1 ≤ x ∧ x ≤ 64) (hy : 1 ≤ y ∧ y ≤ 64) :
    Calls Tryd.prog 17 #[.agg #[.int .i64 W, .int .i64 H, .slice A n c], .int .i64 x, .int .i64 y] w (New w fun r w' => OutT w w' 0 W H n (dilQ W H p x y) r) := by
  obtain ⟨hW1, hW2, hH1, hH2, hnn, hp⟩ := chk_ok hE
  refine (dilate_all W H x y A n c p 0 W H n w hA hn hB (by unfold brE; rw [if_pos hE, if_neg (by omega)]) ⟨fun _ => ⟨rfl, rfl, hnn⟩, fun h => absurd rfl h⟩).mono ?_
  rintro e w' ⟨r, rfl, ho, hb⟩
  refine ⟨r, rfl, ho.conv fun i i0 i1 => ?_, hb⟩
  rw [Int.toNat_natCast, Int.toNat_natCast]
  exact dil_pix hnn hW1 hH1 x y i0 i1
theorem ero_img (W H : Int) (x y : Nat) (A : Option Addr) (n c : Nat) (p : Int → Int) (w : World) (hA : ArrB w w.heap.size A n p) (hn : n ≤ maxLen) (hB : IsB p) (hE : chk W H n p = 0) (hx : 1 ≤ x ∧ x ≤ 64) (hy : 1 ≤ y ∧ y ≤ 64) :
    Calls Tryd.prog 19 #[.agg #[.int .i64 W, .int .i64 H, .slice A n c], .int .i64 x, .int .i64 y] w (New w fun r w' => OutT w w' 0 W H n (eroQ W H p x y) r) := by
  obtain ⟨hW1, hW2, hH1, hH2, hnn, hp⟩ := chk_ok hE
  refine (erode_all W H x y A n c p 0 W H n w hA hn hB (by unfold brE; rw [if_pos hE, if_neg (by omega)]) ⟨fun _ => ⟨rfl, rfl, hnn⟩, fun h => absurd rfl h⟩).mono ?_
  rintro e w' ⟨r, rfl, ho, hb⟩
  refine ⟨r, rfl, ho.conv fun i i0 i1 => ?_, hb⟩
  rw [Int.toNat_natCast, Int.toNat_natCast]
  exact ero_pix hnn hW1 hH1 x y i0 i1
end Go.Proofs.YtoonkpjddfiopaaDoor

/- Walk of the law ImageGrows. Written by gen/j21.py. -/
namespace Go.Proofs.YtoonkpjddfiopaaDoor
open Go.RowKit
set_option linter.unusedVariables false

set_option maxRecDepth 100000 in
set_option maxHeartbeats 4000000 in
theorem imageGrows_any (s kw kh ky : Int) (A C : Option Addr) (n c m d : Nat) (r t : Int → Int) (w : World) (hA : ArrB w w.heap.size A n r) (hn : n ≤ maxLen) (hr : IsB r) (hC : ArrB w w.heap.size C m t) (hm : m ≤ maxLen) (ht : IsB t) (hs : 0 ≤ s ∧ s ≤ 65535) (hkw : 0 ≤ kw ∧ kw ≤ 255) (hkh : 0 ≤ kh ∧ kh ≤ 255) (hky : 0 ≤ ky ∧ ky ≤ 255) :
    Calls Tryd.prog 14 #[.int .u16 s, .slice A n c, .slice C m d, .int .u8 kw, .int .u8 kh, .int .u8 ky] w fun e w' => e = .returned (.bool true) ∧ Below w.heap.size w w' := by
  obtain ⟨hs0, hs1⟩ := hs
  obtain ⟨W, hW⟩ : ∃ W, s % 41 = W := ⟨_, rfl⟩
  obtain ⟨H, hH⟩ : ∃ H, s / 41 % 31 = H := ⟨_, rfl⟩
  have W0 : 0 ≤ W := by omega
  have W1 : W ≤ 40 := by omega
  have H0 : 0 ≤ H := by omega
  have H1 : H ≤ 30 := by omega
  obtain ⟨ab1, ab2⟩ := mul_bd W0 W1 H0 H1
  obtain ⟨N, hN⟩ : ∃ N : Nat, (N : Int) = W * H := ⟨(W * H).toNat, by omega⟩
  have hN9 : N ≤ 1200 := by omega
  have hnm : N ≤ maxLen := by unfold maxLen; omega
  obtain ⟨xm, hxm⟩ : ∃ a : Nat, kw.tmod 9 = a := ⟨(kw % 9).toNat, by rw [Int.tmod_eq_emod_of_nonneg hkw.1]; omega⟩
  obtain ⟨ym, hym⟩ : ∃ a : Nat, kh.tmod 9 = a := ⟨(kh % 9).toNat, by rw [Int.tmod_eq_emod_of_nonneg hkh.1]; omega⟩
  have xm9 : xm < 9 := by have := Int.tmod_eq_emod_of_nonneg (b := 9) hkw.1; omega
  have ym9 : ym < 9 := by have := Int.tmod_eq_emod_of_nonneg (b := 9) hkh.1; omega
  obtain ⟨xi, hxi⟩ : ∃ a : Int, (xm : Int) = a := ⟨_, rfl⟩
  obtain ⟨yi, hyi⟩ : ∃ a : Int, (ym : Int) = a := ⟨_, rfl⟩
  rw [hxi] at hxm; rw [hyi] at hym
  have ux : IntKind.u8.wrap xi = xi := IntWalk.u8_in _ (by omega)
  have vx : IntKind.i64.wrap xi = xi := IntWalk.i64_in _ (by omega)
  have uy : IntKind.u8.wrap yi = yi := IntWalk.u8_in _ (by omega)
  have vy : IntKind.i64.wrap yi = yi := IntWalk.i64_in _ (by omega)
  obtain ⟨X, hX⟩ : ∃ X, xm + 1 = X := ⟨_, rfl⟩
  obtain ⟨Y, hY⟩ : ∃ X, ym + 1 = X := ⟨_, rfl⟩
  obtain ⟨bx, hbx⟩ : ∃ a : Int, (X : Int) = a := ⟨_, rfl⟩
  obtain ⟨b_y, hby⟩ : ∃ a : Int, (Y : Int) = a := ⟨_, rfl⟩
  have wx : IntKind.i64.wrap (1 + xi) = bx := by rw [show 1 + xi = bx by omega]; exact IntWalk.i64_in _ (by omega)
  have wy : IntKind.i64.wrap (1 + yi) = b_y := by rw [show 1 + yi = b_y by omega]; exact IntWalk.i64_in _ (by omega)
  obtain ⟨mm, hmm⟩ : ∃ a : Int, ky.tmod 3 = a := ⟨_, rfl⟩
  have mm3 : 0 ≤ mm ∧ mm < 3 := by have := Int.tmod_eq_emod_of_nonneg (b := 3) hky.1; omega
  have um : IntKind.u8.wrap mm = mm := IntWalk.u8_in _ (by omega)
  obtain ⟨p, hp⟩ : ∃ p, bitQ n r = p := ⟨_, rfl⟩
  obtain ⟨q0, hq⟩ : ∃ q, bitQ m t = q := ⟨_, rfl⟩
  have p01 : ∀ i, p i = 0 ∨ p i = 1 := fun i => by rw [← hp]; exact bit01 n r i
  have q01 : ∀ i, q0 i = 0 ∨ q0 i = 1 := fun i => by rw [← hq]; exact bit01 m t i
  have ck : ∀ f : Int → Int, (∀ i, f i = 0 ∨ f i = 1) → chk W H N f = 0 := fun f h => chk_mk W0 (by omega) H0 (by omega) hN fun i _ _ => by rcases h i with e | e <;> omega
  have MA := Lib.hid fun w' h' => made_any s W H A n c r w' h' hn hr hs0 hs1 hW hH N hN
  have FI := Lib.hid fun A' c' w' h1 h2 => fitted_any W H A' C N c' m d p t w' h1 h2 hm ht W0 (by omega) H0 (by omega) hN
  rw [hp] at MA
  rw [hq] at FI
  have DI := Lib.hid fun (f : Int → Int) (hf : ∀ i, f i = 0 ∨ f i = 1) A' c' w' h1 => dil_img W H X Y A' N c' f w' h1 hnm (isB_01 hf) (ck f hf) (by omega) (by omega)
  have ER := Lib.hid fun (f : Int → Int) (hf : ∀ i, f i = 0 ∨ f i = 1) A' c' w' h1 => ero_img W H X Y A' N c' f w' h1 hnm (isB_01 hf) (ck f hf) (by omega) (by omega)
  rw [hbx, hby] at DI ER
  obtain ⟨DQ, hDQ⟩ : ∃ D : (Int → Int) → Int → Int, (fun f => dilQ W H f X Y) = D := ⟨_, rfl⟩
  obtain ⟨EQ, hEQ⟩ : ∃ D : (Int → Int) → Int → Int, (fun f => eroQ W H f X Y) = D := ⟨_, rfl⟩
  have hD : ∀ f, dilQ W H f X Y = DQ f := fun f => by rw [← hDQ]
  have hEr : ∀ f, eroQ W H f X Y = EQ f := fun f => by rw [← hEQ]
  have D01 := Lib.hid fun f i => (by rw [← hD]; exact fillB_01 i : DQ f i = 0 ∨ DQ f i = 1)
  have E01 := Lib.hid fun f i => (by rw [← hEr]; exact fillB_01 i : EQ f i = 0 ∨ EQ f i = 1)
  have OR := Lib.hid fun (f g : Int → Int) (hf : ∀ i, f i = 0 ∨ f i = 1) (hg : ∀ i, g i = 0 ∨ g i = 1) A' B' c' d' w' h1 h2 => or_ok W H A' B' N c' d' f g w' h1 h2 hnm (ck f hf) (ck g hg) (isB_01 hf) (isB_01 hg)
  have WI := Lib.hid fun (f g : Int → Int) (hf : ∀ i, f i = 0 ∨ f i = 1) (hg : ∀ i, g i = 0 ∨ g i = 1) (b : Bool) (hb : b = decide (sumN N (fun i => lessF (f i) (g i)) = 0)) A' B' c' d' w' h1 h2 => within_ok W H A' B' N c' d' f g w' h1 h2 hnm (ck f hf) (ck g hg) (isB_01 hf) (isB_01 hg) b hb
  have LS : ∀ f g : Int → Int, sumN N (fun i => lessF (f i) (g i)) = 0 ↔ subQ W H f g := fun f g => less_sub hN W0 H0
  have ADJ := Lib.hid fun (q : Int → Int) => (show decide (sumN N (fun i => lessF (p i) (EQ q i)) = 0) = decide (sumN N (fun i => lessF (DQ p i) (q i)) = 0) by
    rw [decide_eq_decide, LS, LS, ← hD, ← hEr]; exact dil_adj.symm)
  have SA : Hid (true = decide (sumN N (fun i => lessF (p i) (EQ (DQ p) i)) = 0)) := Lib.hid (by
    symm; rw [decide_eq_true_iff, LS, ← hD, ← hEr]; exact sub_closed)
  have SB := Lib.hid fun (q : Int → Int) => (show true = decide (sumN N (fun i => lessF (DQ (EQ q) i) (q i)) = 0) by
    symm; rw [decide_eq_true_iff, LS, ← hEr, ← hD]; exact open_sub)
  have EA : Hid (∀ i : Int, 0 ≤ i → i < N → DQ (EQ (DQ p)) i = DQ p i) := fun i i0 i1 => by
    have h := dil_again (W := W) (H := H) (p := p) (w := X) (h := Y)
    rw [hD, hEr, hD] at h
    rw [← hD, ← hD p] at h ⊢
    exact sub_eq hN W0 H0 h.1 h.2 i0 i1
  have EB := Lib.hid fun (q : Int → Int) => (show ∀ i : Int, 0 ≤ i → i < N → EQ (DQ (EQ q)) i = EQ q i from fun i i0 i1 => by
    have h := ero_again (W := W) (H := H) (p := q) (w := X) (h := Y)
    rw [hEr, hD, hEr] at h
    rw [← hEr, ← hEr q] at h ⊢
    exact sub_eq hN W0 H0 h.1 h.2 i0 i1)
  have DI' := Lib.hid fun (f : Int → Int) (hf : ∀ i, f i = 0 ∨ f i = 1) A' c' w' h1 => by have h := DI.out f hf A' c' w' h1; rw [hD] at h; exact h
  have ER' := Lib.hid fun (f : Int → Int) (hf : ∀ i, f i = 0 ∨ f i = 1) A' c' w' h1 => by have h := ER.out f hf A' c' w' h1; rw [hEr] at h; exact h
  have SI := Lib.hid fun (f g : Int → Int) (h : ∀ i : Int, 0 ≤ i → i < N → f i = g i) A' B' c' d' w' h1 h2 => sameInk_true W H A' B' N c' d' f g w' h1 h2 hnm h
  have P01 := Lib.hid p01
  have Q01 := Lib.hid q01
  have HA := Lib.hid hA
  have HC := Lib.hid hC
  clear hA hC hn hm hr ht hs0 hs1 hW hH hN ab1 ab2 W0 W1 H0 H1 hp hq p01 q01 ck DI ER hDQ hEQ hD hEr LS hX hY hbx hby hxi hyi xm9 ym9 hkw hkh hky
  have K0 := Kp.nil w
  have b0 := Below.refl w.heap.size w
  go_enter Tryd.func14, Tryd.ntmps14
  go_wp2_with fail
  refine (MA.out _ HA.out).mono ?_
  rintro e v1 ⟨_, rfl, ⟨gva, rfl, hgva, kva⟩, hb1⟩
  have K1a := (K0.below hb1).addA (kva.arrB kva.lt)
  have b1a := below_call b0 b0.size hb1
  have z1 := b1a.size
  have b1 : Below w.heap.size w (v1.alloc (.cells #[.int .i64 W, .int .i64 H, .slice (some ⟨gva, 0, none⟩) N N] 24)) := by (repeat (first | exact Below.refl _ _ | assumption | refine Below.drew ?_ | refine below_drewN ?_ _ | refine Below.alloc ?_ (by first | omega | (simp; done) | (simp; omega)) _ | refine Below.setCell ?_ (by first | omega | (simp; done) | (simp; omega)) _ | refine below_setRow ?_ (by first | omega | (simp; done) | (simp; omega)) _ ))
  have K1 := K1a.new 24 #[.int .i64 W, .int .i64 H, .slice (some ⟨gva, 0, none⟩) N N]
  have Z0 := b0.size
  have Z1 := hb1.size
  have lva := kva.lt
  clear K0 b0 K1a b1a hb1  z1 MA hgva kva
  obtain ⟨p1, p2, p3⟩ := (K1.b 0 rfl).cells3
  go_wp2_with fail
  have s1 : v1.heap.size < (v1.alloc (.cells #[.int .i64 W, .int .i64 H, .slice (some ⟨gva, 0, none⟩) N N] 24)).heap.size := by simp
  generalize v1.alloc (.cells #[.int .i64 W, .int .i64 H, .slice (some ⟨gva, 0, none⟩) N N] 24) = w1 at *
  refine (FI.out _ _ _ (K1.a 0 rfl) (HC.out.to b1)).mono ?_
  rintro e v2 ⟨_, rfl, ⟨gvb, rfl, hgvb, kvb⟩, hb2⟩
  have K2a := (K1.below hb2).addA (kvb.arrB kvb.lt)
  have b2a := below_call b1 b1.size hb2
  have z2 := b2a.size
  have b2 : Below w.heap.size w (v2.alloc (.cells #[.int .i64 W, .int .i64 H, .slice (some ⟨gvb, 0, none⟩) N N] 24)) := by (repeat (first | exact Below.refl _ _ | assumption | refine Below.drew ?_ | refine below_drewN ?_ _ | refine Below.alloc ?_ (by first | omega | (simp; done) | (simp; omega)) _ | refine Below.setCell ?_ (by first | omega | (simp; done) | (simp; omega)) _ | refine below_setRow ?_ (by first | omega | (simp; done) | (simp; omega)) _ ))
  have K2 := K2a.new 24 #[.int .i64 W, .int .i64 H, .slice (some ⟨gvb, 0, none⟩) N N]
  have lvb := kvb.lt
  have y2 := hb2.size
  clear K1 b1 K2a b2a hb2 p1 p2 p3 z2 FI hgvb kvb
  obtain ⟨p1, p2, p3⟩ := (K2.b 1 rfl).cells3
  go_wp2_with fail
  have s2 : v2.heap.size < (v2.alloc (.cells #[.int .i64 W, .int .i64 H, .slice (some ⟨gvb, 0, none⟩) N N] 24)).heap.size := by simp
  generalize v2.alloc (.cells #[.int .i64 W, .int .i64 H, .slice (some ⟨gvb, 0, none⟩) N N] 24) = w2 at *
  refine (DI'.out p P01.out _ _ _ (K2.a 1 rfl)).mono ?_
  rintro e v3 ⟨_, rfl, ⟨Ax, cx, rfl, hgx, ax⟩, hb3⟩
  have K3a := (K2.below hb3).addA ax
  have b3a := below_call b2 b2.size hb3
  have z3 := b3a.size
  have b3 : Below w.heap.size w (v3.alloc (.cells #[.int .i64 W, .int .i64 H, .slice Ax N cx] 24)) := by (repeat (first | exact Below.refl _ _ | assumption | refine Below.drew ?_ | refine below_drewN ?_ _ | refine Below.alloc ?_ (by first | omega | (simp; done) | (simp; omega)) _ | refine Below.setCell ?_ (by first | omega | (simp; done) | (simp; omega)) _ | refine below_setRow ?_ (by first | omega | (simp; done) | (simp; omega)) _ ))
  have K3 := K3a.new 24 #[.int .i64 W, .int .i64 H, .slice Ax N cx]
  have HGX := Lib.hid hgx
  have y3 := hb3.size
  clear K2 b2 K3a b3a hb3 ax hgx p1 p2 p3 z3 
  obtain ⟨w3, hw3⟩ : ∃ x, v3.alloc (.cells #[.int .i64 W, .int .i64 H, .slice Ax N cx] 24) = x := ⟨_, rfl⟩
  have HW3 := Lib.hid hw3
  rw [hw3] at K3 b3
  clear hw3
  rcases (show mm = 0 ∨ mm = 1 ∨ mm = 2 by omega) with rfl | rfl | rfl
  · have QQ := Q01
    go_upto_region 10 with fail
    rw [HW3.out]
    obtain ⟨q, hqq⟩ : ∃ q, q = q0 := ⟨_, rfl⟩
    obtain ⟨p1, p2, p3⟩ := (K3.b 1 rfl).cells3
    go_wp2_with fail
    refine (ER'.out (q0) QQ.out _ _ _ (K3.a 1 rfl)).mono ?_
    rintro e v4 ⟨_, rfl, ⟨Asm, csm, rfl, hgsm, asm⟩, hb4⟩
    have K4a := (K3.below hb4).addA asm
    have b4a := below_call b3 b3.size hb4
    have z4 := b4a.size
    have b4 : Below w.heap.size w (v4.alloc (.cells #[.int .i64 W, .int .i64 H, .slice Asm N csm] 24)) := by (repeat (first | exact Below.refl _ _ | assumption | refine Below.drew ?_ | refine below_drewN ?_ _ | refine Below.alloc ?_ (by first | omega | (simp; done) | (simp; omega)) _ | refine Below.setCell ?_ (by first | omega | (simp; done) | (simp; omega)) _ | refine below_setRow ?_ (by first | omega | (simp; done) | (simp; omega)) _ ))
    have K4 := K4a.new 24 #[.int .i64 W, .int .i64 H, .slice Asm N csm]
    clear K3 b3 K4a b4a hb4 asm hgsm p1 p2 p3 z4 
    obtain ⟨p1, p2, p3⟩ := (K4.b 1 rfl).cells3
    obtain ⟨r1, r2, r3⟩ := (K4.b 2 rfl).cells3
    go_upto_region 11 with fail
    generalize v4.alloc (.cells #[.int .i64 W, .int .i64 H, .slice Asm N csm] 24) = w4 at *
    have KS := Lib.hid fun (w' : World) (h : Below w4.heap.size w4 w') => (⟨((K4.b 1 rfl).below' h).cells3.1, ((K4.b 1 rfl).below' h).cells3.2.1, ((K4.b 1 rfl).below' h).cells3.2.2, ((K4.b 2 rfl).below' h).cells3.1, ((K4.b 2 rfl).below' h).cells3.2.1, ((K4.b 2 rfl).below' h).cells3.2.2, ((K4.b 3 rfl).below' h).cells3.1, ((K4.b 3 rfl).below' h).cells3.2.1, ((K4.b 3 rfl).below' h).cells3.2.2, ((K4.b 0 rfl).below' h).cells3.1, ((K4.b 0 rfl).below' h).cells3.2.1, ((K4.b 0 rfl).below' h).cells3.2.2⟩ : w'.cell? ⟨v3.heap.size, 0, none⟩ = some (.int .i64 W) ∧ w'.cell? ⟨v3.heap.size, 1, none⟩ = some (.int .i64 H) ∧ w'.cell? ⟨v3.heap.size, 2, none⟩ = some (.slice Ax N cx) ∧ w'.cell? ⟨v2.heap.size, 0, none⟩ = some (.int .i64 W) ∧ w'.cell? ⟨v2.heap.size, 1, none⟩ = some (.int .i64 H) ∧ w'.cell? ⟨v2.heap.size, 2, none⟩ = some (.slice (some ⟨gvb, 0, none⟩) N N) ∧ w'.cell? ⟨v1.heap.size, 0, none⟩ = some (.int .i64 W) ∧ w'.cell? ⟨v1.heap.size, 1, none⟩ = some (.int .i64 H) ∧ w'.cell? ⟨v1.heap.size, 2, none⟩ = some (.slice (some ⟨gva, 0, none⟩) N N) ∧ w'.cell? ⟨v4.heap.size, 0, none⟩ = some (.int .i64 W) ∧ w'.cell? ⟨v4.heap.size, 1, none⟩ = some (.int .i64 H) ∧ w'.cell? ⟨v4.heap.size, 2, none⟩ = some (.slice Asm N csm))
    obtain ⟨R, hR⟩ : ∃ R, decide (sumN N (fun i => lessF (DQ p i) ((q0) i)) = 0) = R := ⟨_, rfl⟩
    have HR := Lib.hid hR
    clear hR
    have bw : Below w4.heap.size w4 w4.drew := (Below.refl _ _).drew
    refine wp_region_held_drew (S := fun w' => w'.cell? ⟨v3.heap.size, 0, none⟩ = some (.int .i64 W) ∧ w'.cell? ⟨v3.heap.size, 1, none⟩ = some (.int .i64 H) ∧ w'.cell? ⟨v3.heap.size, 2, none⟩ = some (.slice Ax N cx) ∧ w'.cell? ⟨v2.heap.size, 0, none⟩ = some (.int .i64 W) ∧ w'.cell? ⟨v2.heap.size, 1, none⟩ = some (.int .i64 H) ∧ w'.cell? ⟨v2.heap.size, 2, none⟩ = some (.slice (some ⟨gvb, 0, none⟩) N N) ∧ w'.cell? ⟨v1.heap.size, 0, none⟩ = some (.int .i64 W) ∧ w'.cell? ⟨v1.heap.size, 1, none⟩ = some (.int .i64 H) ∧ w'.cell? ⟨v1.heap.size, 2, none⟩ = some (.slice (some ⟨gva, 0, none⟩) N N) ∧ w'.cell? ⟨v4.heap.size, 0, none⟩ = some (.int .i64 W) ∧ w'.cell? ⟨v4.heap.size, 1, none⟩ = some (.int .i64 H) ∧ w'.cell? ⟨v4.heap.size, 2, none⟩ = some (.slice Asm N csm)) (by kernel_rfl) (KS.out _ (Below.refl _ _).drew) (fun hHeld => ?_)
    refine wpAnyH_take (i := 0) (oi := _) (v := ?_) (by simp only [List.getElem?_toArray, List.getElem?_cons_zero]; exact rfl) (by kernel_rfl) (by kernel_rfl) (by kernel_rfl) (by exact fun _ _ _ h => h) (Or.inl ⟨by rfl, ?_⟩) (by assumption) ?_
    rotate_left 1
    · intro w hSw
      (try dsimp only at hSw)
      go_simp
      try with_reducible rfl
    try simp only [Act.put, List.setIfInBounds_toArray, List.set_cons_zero, List.set_cons_succ]
    refine wpAnyH_take (i := 1) (oi := _) (v := ?_) (by simp only [List.getElem?_toArray, List.getElem?_cons_zero, List.getElem?_cons_succ]; exact rfl) (by kernel_rfl) (by kernel_rfl) (by kernel_rfl) (by exact fun _ _ _ h => h) (Or.inl ⟨by rfl, ?_⟩) (by assumption) ?_
    rotate_left 1
    · intro w hSw
      (try dsimp only at hSw)
      go_simp
      try with_reducible rfl
    try simp only [Act.put, List.setIfInBounds_toArray, List.set_cons_zero, List.set_cons_succ]
    refine wpAnyH_take (i := 2) (oi := _) (v := ?_) (by simp only [List.getElem?_toArray, List.getElem?_cons_zero, List.getElem?_cons_succ]; exact rfl) (by kernel_rfl) (by kernel_rfl) (by kernel_rfl) (by exact fun _ _ _ h => h) (Or.inl ⟨by rfl, ?_⟩) (by assumption) ?_
    rotate_left 1
    · intro w hSw
      (try dsimp only at hSw)
      go_simp
      try with_reducible rfl
    try simp only [Act.put, List.setIfInBounds_toArray, List.set_cons_zero, List.set_cons_succ]
    refine wpAnyH_take (i := 3) (oi := _) (v := ?_) (by simp only [List.getElem?_toArray, List.getElem?_cons_zero, List.getElem?_cons_succ]; exact rfl) (by kernel_rfl) (by kernel_rfl) (by kernel_rfl) (by exact fun _ _ _ h => h) (Or.inl ⟨by rfl, ?_⟩) (by assumption) ?_
    rotate_left 1
    · intro w hSw
      (try dsimp only at hSw)
      go_simp
      try with_reducible rfl
    try simp only [Act.put, List.setIfInBounds_toArray, List.set_cons_zero, List.set_cons_succ]
    refine wpAnyH_take (i := 4) (oi := _) (v := ?_) (by simp only [List.getElem?_toArray, List.getElem?_cons_zero, List.getElem?_cons_succ]; exact rfl) (by kernel_rfl) (by kernel_rfl) (by kernel_rfl) (by exact fun _ _ _ h => h) (Or.inl ⟨by rfl, ?_⟩) (by assumption) ?_
    rotate_left 1
    · intro w hSw
      (try dsimp only at hSw)
      go_simp
      try with_reducible rfl
    try simp only [Act.put, List.setIfInBounds_toArray, List.set_cons_zero, List.set_cons_succ]
    refine wpAnyH_take (i := 5) (oi := _) (v := ?_) (by simp only [List.getElem?_toArray, List.getElem?_cons_zero, List.getElem?_cons_succ]; exact rfl) (by kernel_rfl) (by kernel_rfl) (by kernel_rfl) (by exact fun _ _ _ h => h) (Or.inl ⟨by rfl, ?_⟩) (by assumption) ?_
    rotate_left 1
    · intro w hSw
      (try dsimp only at hSw)
      go_simp
      try with_reducible rfl
    try simp only [Act.put, List.setIfInBounds_toArray, List.set_cons_zero, List.set_cons_succ]
    refine wpAnyH_take (i := 6) (oi := _) (v := ?_) (by simp only [List.getElem?_toArray, List.getElem?_cons_zero, List.getElem?_cons_succ]; exact rfl) (by kernel_rfl) (by kernel_rfl) (by kernel_rfl) (by exact fun _ _ _ h => h) (Or.inl ⟨by rfl, ?_⟩) (by assumption) ?_
    rotate_left 1
    · intro w hSw
      (try dsimp only at hSw)
      go_simp
      try with_reducible rfl
    try simp only [Act.put, List.setIfInBounds_toArray, List.set_cons_zero, List.set_cons_succ]
    refine wpAnyH_take (i := 7) (oi := _) (v := ?_) (by simp only [List.getElem?_toArray, List.getElem?_cons_zero, List.getElem?_cons_succ]; exact rfl) (by kernel_rfl) (by kernel_rfl) (by kernel_rfl) (by exact fun _ _ _ h => h) (Or.inl ⟨by rfl, ?_⟩) (by assumption) ?_
    rotate_left 1
    · intro w hSw
      (try dsimp only at hSw)
      go_simp
      try with_reducible rfl
    try simp only [Act.put, List.setIfInBounds_toArray, List.set_cons_zero, List.set_cons_succ]
    refine wpAnyH_take (i := 8) (oi := _) (v := ?_) (by simp only [List.getElem?_toArray, List.getElem?_cons_zero, List.getElem?_cons_succ]; exact rfl) (by kernel_rfl) (by kernel_rfl) (by kernel_rfl) (by exact fun _ _ _ h => h) (Or.inl ⟨by rfl, ?_⟩) (by assumption) ?_
    rotate_left 1
    · intro w hSw
      (try dsimp only at hSw)
      go_simp
      try with_reducible rfl
    try simp only [Act.put, List.setIfInBounds_toArray, List.set_cons_zero, List.set_cons_succ]
    refine wpAnyH_take (i := 10) (oi := _) (v := ?_) (by simp only [List.getElem?_toArray, List.getElem?_cons_zero, List.getElem?_cons_succ]; exact rfl) (by kernel_rfl) (by kernel_rfl) (by kernel_rfl) (by exact fun _ _ _ h => h) (Or.inl ⟨by rfl, ?_⟩) (by assumption) ?_
    rotate_left 1
    · intro w hSw
      (try dsimp only at hSw)
      go_simp
      try with_reducible rfl
    try simp only [Act.put, List.setIfInBounds_toArray, List.set_cons_zero, List.set_cons_succ]
    refine wpAnyH_take (i := 11) (oi := _) (v := ?_) (by simp only [List.getElem?_toArray, List.getElem?_cons_zero, List.getElem?_cons_succ]; exact rfl) (by kernel_rfl) (by kernel_rfl) (by kernel_rfl) (by exact fun _ _ _ h => h) (Or.inl ⟨by rfl, ?_⟩) (by assumption) ?_
    rotate_left 1
    · intro w hSw
      (try dsimp only at hSw)
      go_simp
      try with_reducible rfl
    try simp only [Act.put, List.setIfInBounds_toArray, List.set_cons_zero, List.set_cons_succ]
    refine wpAnyH_ready (rs := [9]) (by kernel_rfl) (by simp) ?_
    refine (AllReadyH.cons (o := _) (by simp only [List.getElem?_toArray, List.getElem?_cons_zero, List.getElem?_cons_succ]; exact rfl) (fun K' hK => ?_) AllReadyH.nil)
    go_simp
    refine (WI.out (DQ p) (q0) (D01.out p) QQ.out R HR.out.symm _ _ _ _ _ ((K4.below bw).a 1 rfl) ((K4.below bw).a 2 rfl)).mono ?_
    rintro ee x1 ⟨rfl, hx1⟩
    have c1 := below_call bw bw.size hx1
    refine hK.out _ _ (KS.out _ c1) (fun hHeld => ?_)
    clear hK K'
    try simp only [Act.put, List.setIfInBounds_toArray, List.set_cons_zero, List.set_cons_succ]
    refine wpAnyH_ready (rs := [12]) (by kernel_rfl) (by simp) ?_
    refine (AllReadyH.cons (o := _) (by simp only [List.getElem?_toArray, List.getElem?_cons_zero, List.getElem?_cons_succ]; exact rfl) (fun K' hK => ?_) AllReadyH.nil)
    go_simp
    refine (WI.out p (EQ (q0)) P01.out (E01.out _) R (HR.out.symm.trans (ADJ.out (q0)).symm) _ _ _ _ _ ((K4.below c1).a 3 rfl) ((K4.below c1).a 0 rfl)).mono ?_
    rintro ee x2 ⟨rfl, hx2⟩
    have c2 := below_call c1 c1.size hx2
    refine hK.out _ _ (KS.out _ c2) (fun hHeld => ?_)
    clear hK K'
    try simp only [Act.put, List.setIfInBounds_toArray, List.set_cons_zero, List.set_cons_succ]
    refine wpAnyH_take (i := 13) (oi := _) (v := ?_) (by simp only [List.getElem?_toArray, List.getElem?_cons_zero, List.getElem?_cons_succ]; exact rfl) (by kernel_rfl) (by kernel_rfl) (by kernel_rfl) (by exact fun _ _ _ h => h) (Or.inl ⟨by rfl, ?_⟩) (by assumption) ?_
    rotate_left 1
    · intro w hSw
      (try dsimp only at hSw)
      go_simp
      try with_reducible rfl
    try simp only [Act.put, List.setIfInBounds_toArray, List.set_cons_zero, List.set_cons_succ]
    refine wpAnyH_take (i := 14) (oi := _) (v := ?_) (by simp only [List.getElem?_toArray, List.getElem?_cons_zero, List.getElem?_cons_succ]; exact rfl) (by kernel_rfl) (by kernel_rfl) (by kernel_rfl) (by exact fun _ _ _ h => h) (Or.inl ⟨by rfl, ?_⟩) (by assumption) ?_
    rotate_left 1
    · intro w hSw
      (try dsimp only at hSw)
      go_simp
      try with_reducible rfl
    try simp only [Act.put, List.setIfInBounds_toArray, List.set_cons_zero, List.set_cons_succ]
    refine wpAnyH_done (by kernel_rfl) ?_ _
    have K5 := K4.below c2
    have b5 := below_call b4 b4.size c2
    clear K4 b4 KS hx1 hx2 c1 c2 bw hHeld HR ADJ p1 p2 p3 r1 r2 r3
    generalize x2 = w5 at *
    obtain ⟨p1, p2, p3⟩ := (K5.b 1 rfl).cells3
    go_wp2_with fail
    refine (ER'.out (DQ p) (D01.out p) _ _ _ (K5.a 1 rfl)).mono ?_
    rintro e v6 ⟨_, rfl, ⟨Acl, ccl, rfl, hgcl, acl⟩, hb6⟩
    have K6a := (K5.below hb6).addA acl
    have b6a := below_call b5 b5.size hb6
    have z6 := b6a.size
    have b6 : Below w.heap.size w (v6.alloc (.cells #[.int .i64 W, .int .i64 H, .slice Acl N ccl] 24)) := by (repeat (first | exact Below.refl _ _ | assumption | refine Below.drew ?_ | refine below_drewN ?_ _ | refine Below.alloc ?_ (by first | omega | (simp; done) | (simp; omega)) _ | refine Below.setCell ?_ (by first | omega | (simp; done) | (simp; omega)) _ | refine below_setRow ?_ (by first | omega | (simp; done) | (simp; omega)) _ ))
    have K6 := K6a.new 24 #[.int .i64 W, .int .i64 H, .slice Acl N ccl]
    clear K5 b5 K6a b6a hb6 acl hgcl p1 p2 p3 z6 
    obtain ⟨p1, p2, p3⟩ := (K6.b 0 rfl).cells3
    go_wp2_with fail
    generalize v6.alloc (.cells #[.int .i64 W, .int .i64 H, .slice Acl N ccl] 24) = w6 at *
    refine (DI'.out (EQ (DQ p)) (E01.out _) _ _ _ (K6.a 0 rfl)).mono ?_
    rintro e v7 ⟨_, rfl, ⟨Aag, cag, rfl, hgag, aag⟩, hb7⟩
    have K7a := (K6.below hb7).addA aag
    have b7a := below_call b6 b6.size hb7
    have z7 := b7a.size
    have b7 : Below w.heap.size w (v7.alloc (.cells #[.int .i64 W, .int .i64 H, .slice Aag N cag] 24)) := by (repeat (first | exact Below.refl _ _ | assumption | refine Below.drew ?_ | refine below_drewN ?_ _ | refine Below.alloc ?_ (by first | omega | (simp; done) | (simp; omega)) _ | refine Below.setCell ?_ (by first | omega | (simp; done) | (simp; omega)) _ | refine below_setRow ?_ (by first | omega | (simp; done) | (simp; omega)) _ ))
    have K7 := K7a.new 24 #[.int .i64 W, .int .i64 H, .slice Aag N cag]
    clear K6 b6 K7a b7a hb7 aag hgag p1 p2 p3 z7 
    obtain ⟨p1, p2, p3⟩ := (K7.b 2 rfl).cells3
    go_wp2_with fail
    generalize v7.alloc (.cells #[.int .i64 W, .int .i64 H, .slice Aag N cag] 24) = w7 at *
    refine (DI'.out (EQ (q0)) (E01.out _) _ _ _ (K7.a 2 rfl)).mono ?_
    rintro e v8 ⟨_, rfl, ⟨Aop, cop, rfl, hgop, aop⟩, hb8⟩
    have K8a := (K7.below hb8).addA aop
    have b8a := below_call b7 b7.size hb8
    have z8 := b8a.size
    have b8 : Below w.heap.size w (v8.alloc (.cells #[.int .i64 W, .int .i64 H, .slice Aop N cop] 24)) := by (repeat (first | exact Below.refl _ _ | assumption | refine Below.drew ?_ | refine below_drewN ?_ _ | refine Below.alloc ?_ (by first | omega | (simp; done) | (simp; omega)) _ | refine Below.setCell ?_ (by first | omega | (simp; done) | (simp; omega)) _ | refine below_setRow ?_ (by first | omega | (simp; done) | (simp; omega)) _ ))
    have K8 := K8a.new 24 #[.int .i64 W, .int .i64 H, .slice Aop N cop]
    clear K7 b7 K8a b8a hb8 aop hgop p1 p2 p3 z8 
    obtain ⟨p1, p2, p3⟩ := (K8.b 0 rfl).cells3
    go_wp2_with fail
    generalize v8.alloc (.cells #[.int .i64 W, .int .i64 H, .slice Aop N cop] 24) = w8 at *
    refine (ER'.out (DQ (EQ (q0))) (D01.out _) _ _ _ (K8.a 0 rfl)).mono ?_
    rintro e v9 ⟨_, rfl, ⟨Ale, cle, rfl, hgle, ale⟩, hb9⟩
    have K9a := (K8.below hb9).addA ale
    have b9a := below_call b8 b8.size hb9
    have z9 := b9a.size
    have b9 : Below w.heap.size w (v9.alloc (.cells #[.int .i64 W, .int .i64 H, .slice Ale N cle] 24)) := by (repeat (first | exact Below.refl _ _ | assumption | refine Below.drew ?_ | refine below_drewN ?_ _ | refine Below.alloc ?_ (by first | omega | (simp; done) | (simp; omega)) _ | refine Below.setCell ?_ (by first | omega | (simp; done) | (simp; omega)) _ | refine below_setRow ?_ (by first | omega | (simp; done) | (simp; omega)) _ ))
    have K9 := K9a.new 24 #[.int .i64 W, .int .i64 H, .slice Ale N cle]
    clear K8 b8 K9a b9a hb9 ale hgle p1 p2 p3 z9 
    obtain ⟨p1, p2, p3⟩ := (K9.b 2 rfl).cells3
    obtain ⟨r1, r2, r3⟩ := (K9.b 5 rfl).cells3
    go_wp2_with fail
    generalize v9.alloc (.cells #[.int .i64 W, .int .i64 H, .slice Ale N cle] 24) = w9 at *
    refine (SI.out _ _ EA.out _ _ _ _ _ (K9.a 2 rfl) (K9.a 5 rfl)).mono ?_
    rintro e v10 ⟨rfl, hb10⟩
    have K10 := K9.below hb10
    have b10 := below_call b9 b9.size hb10
    clear K9 b9 hb10 p1 p2 p3 r1 r2 r3 
    obtain ⟨p1, p2, p3⟩ := (K10.b 0 rfl).cells3
    obtain ⟨r1, r2, r3⟩ := (K10.b 4 rfl).cells3
    go_wp2_with fail
    refine (SI.out _ _ (EB.out (q0)) _ _ _ _ _ (K10.a 0 rfl) (K10.a 4 rfl)).mono ?_
    rintro e v11 ⟨rfl, hb11⟩
    have K11 := K10.below hb11
    have b11 := below_call b10 b10.size hb11
    clear K10 b10 hb11 p1 p2 p3 r1 r2 r3 
    obtain ⟨p1, p2, p3⟩ := (K11.b 7 rfl).cells3
    obtain ⟨r1, r2, r3⟩ := (K11.b 3 rfl).cells3
    go_wp2_with fail
    refine (WI.out p (EQ (DQ p)) P01.out (E01.out _) true SA.out _ _ _ _ _ (K11.a 7 rfl) (K11.a 3 rfl)).mono ?_
    rintro e v12 ⟨rfl, hb12⟩
    have K12 := K11.below hb12
    have b12 := below_call b11 b11.size hb12
    clear K11 b11 hb12 p1 p2 p3 r1 r2 r3 
    obtain ⟨p1, p2, p3⟩ := (K12.b 1 rfl).cells3
    obtain ⟨r1, r2, r3⟩ := (K12.b 6 rfl).cells3
    go_wp2_with fail
    refine (WI.out (DQ (EQ (q0))) (q0) (D01.out _) QQ.out true (SB.out (q0)) _ _ _ _ _ (K12.a 1 rfl) (K12.a 6 rfl)).mono ?_
    rintro e v13 ⟨rfl, hb13⟩
    have K13 := K12.below hb13
    have b13 := below_call b12 b12.size hb13
    clear K12 b12 hb13 p1 p2 p3 r1 r2 r3 
    go_wp2_with fail
    refine (awake1_any _).mono ?_
    rintro e v14 ⟨rfl, hb14⟩
    have b14 := below_call b13 b13.size hb14
    go_wp2
    go_ret
    exact ⟨rfl, b14⟩
  · have QQ := Lib.hid (D01.out p)
    obtain ⟨p1, p2, p3⟩ := (K3.b 0 rfl).cells3
    obtain ⟨f1, f2, f3⟩ := (K3.b 1 rfl).frozen3; obtain ⟨r1, r2, r3⟩ := (K3.b 1 rfl).cells3
    go_upto_region 7 with fail
    rw [HW3.out]
    go_upto_region 10 with fail
    have e1 := ((((K3.b 0 rfl).far (p := ⟨v2.heap.size, 0, none⟩) (by show _ ≠ v2.heap.size; omega) (.int .i64 W)).far (p := ⟨v2.heap.size, 1, none⟩) (by show _ ≠ v2.heap.size; omega) (.int .i64 H)).far (p := ⟨v2.heap.size, 2, none⟩) (by show _ ≠ v2.heap.size; omega) (.slice Ax N cx))
    have e2 := (K3.b 1 rfl).fill3 (a := .int .i64 W) (b := .int .i64 H) (c := .slice Ax N cx)
    have e3 := ((((K3.b 2 rfl).far (p := ⟨v2.heap.size, 0, none⟩) (by show _ ≠ v2.heap.size; omega) (.int .i64 W)).far (p := ⟨v2.heap.size, 1, none⟩) (by show _ ≠ v2.heap.size; omega) (.int .i64 H)).far (p := ⟨v2.heap.size, 2, none⟩) (by show _ ≠ v2.heap.size; omega) (.slice Ax N cx))
    have a1 := ArrB.fill1 (g := v2.heap.size) (a := .int .i64 W) (b := .int .i64 H) (c := .slice Ax N cx) (K3.a 0 rfl) (fun y e => by have := HGX.out y e; omega)
    have a3 := ArrB.fill1 (g := v2.heap.size) (a := .int .i64 W) (b := .int .i64 H) (c := .slice Ax N cx) (K3.a 2 rfl) (fun y e => by cases e; show gva ≠ _; omega)
    have K4 := ((((((Kp.nil (((w3.setCell ⟨v2.heap.size, 0, none⟩ (.int .i64 W)).setCell ⟨v2.heap.size, 1, none⟩ (.int .i64 H)).setCell ⟨v2.heap.size, 2, none⟩ (.slice Ax N cx))).addA a3).addA a1).addA a1).addB e3).addB e2).addB e1
    have b4 : Below w.heap.size w (((w3.setCell ⟨v2.heap.size, 0, none⟩ (.int .i64 W)).setCell ⟨v2.heap.size, 1, none⟩ (.int .i64 H)).setCell ⟨v2.heap.size, 2, none⟩ (.slice Ax N cx)) := below_fill3 b3 (by omega)
    clear e1 e2 e3 a1 a3  K3 b3 p1 p2 p3 f1 f2 f3 r1 r2 r3
    generalize (((w3.setCell ⟨v2.heap.size, 0, none⟩ (.int .i64 W)).setCell ⟨v2.heap.size, 1, none⟩ (.int .i64 H)).setCell ⟨v2.heap.size, 2, none⟩ (.slice Ax N cx)) = w4 at *
    obtain ⟨q, hqq⟩ : ∃ q, q = DQ p := ⟨_, rfl⟩
    obtain ⟨p1, p2, p3⟩ := (K4.b 1 rfl).cells3
    go_wp2_with fail
    refine (ER'.out (DQ p) QQ.out _ _ _ (K4.a 1 rfl)).mono ?_
    rintro e v5 ⟨_, rfl, ⟨Asm, csm, rfl, hgsm, asm⟩, hb5⟩
    have K5a := (K4.below hb5).addA asm
    have b5a := below_call b4 b4.size hb5
    have z5 := b5a.size
    have b5 : Below w.heap.size w (v5.alloc (.cells #[.int .i64 W, .int .i64 H, .slice Asm N csm] 24)) := by (repeat (first | exact Below.refl _ _ | assumption | refine Below.drew ?_ | refine below_drewN ?_ _ | refine Below.alloc ?_ (by first | omega | (simp; done) | (simp; omega)) _ | refine Below.setCell ?_ (by first | omega | (simp; done) | (simp; omega)) _ | refine below_setRow ?_ (by first | omega | (simp; done) | (simp; omega)) _ ))
    have K5 := K5a.new 24 #[.int .i64 W, .int .i64 H, .slice Asm N csm]
    clear K4 b4 K5a b5a hb5 asm hgsm p1 p2 p3 z5 
    obtain ⟨p1, p2, p3⟩ := (K5.b 1 rfl).cells3
    obtain ⟨r1, r2, r3⟩ := (K5.b 2 rfl).cells3
    go_upto_region 11 with fail
    generalize v5.alloc (.cells #[.int .i64 W, .int .i64 H, .slice Asm N csm] 24) = w5 at *
    have KS := Lib.hid fun (w' : World) (h : Below w5.heap.size w5 w') => (⟨((K5.b 1 rfl).below' h).cells3.1, ((K5.b 1 rfl).below' h).cells3.2.1, ((K5.b 1 rfl).below' h).cells3.2.2, ((K5.b 2 rfl).below' h).cells3.1, ((K5.b 2 rfl).below' h).cells3.2.1, ((K5.b 2 rfl).below' h).cells3.2.2, ((K5.b 3 rfl).below' h).cells3.1, ((K5.b 3 rfl).below' h).cells3.2.1, ((K5.b 3 rfl).below' h).cells3.2.2, ((K5.b 0 rfl).below' h).cells3.1, ((K5.b 0 rfl).below' h).cells3.2.1, ((K5.b 0 rfl).below' h).cells3.2.2⟩ : w'.cell? ⟨v3.heap.size, 0, none⟩ = some (.int .i64 W) ∧ w'.cell? ⟨v3.heap.size, 1, none⟩ = some (.int .i64 H) ∧ w'.cell? ⟨v3.heap.size, 2, none⟩ = some (.slice Ax N cx) ∧ w'.cell? ⟨v2.heap.size, 0, none⟩ = some (.int .i64 W) ∧ w'.cell? ⟨v2.heap.size, 1, none⟩ = some (.int .i64 H) ∧ w'.cell? ⟨v2.heap.size, 2, none⟩ = some (.slice Ax N cx) ∧ w'.cell? ⟨v1.heap.size, 0, none⟩ = some (.int .i64 W) ∧ w'.cell? ⟨v1.heap.size, 1, none⟩ = some (.int .i64 H) ∧ w'.cell? ⟨v1.heap.size, 2, none⟩ = some (.slice (some ⟨gva, 0, none⟩) N N) ∧ w'.cell? ⟨v5.heap.size, 0, none⟩ = some (.int .i64 W) ∧ w'.cell? ⟨v5.heap.size, 1, none⟩ = some (.int .i64 H) ∧ w'.cell? ⟨v5.heap.size, 2, none⟩ = some (.slice Asm N csm))
    obtain ⟨R, hR⟩ : ∃ R, decide (sumN N (fun i => lessF (DQ p i) ((DQ p) i)) = 0) = R := ⟨_, rfl⟩
    have HR := Lib.hid hR
    clear hR
    have bw : Below w5.heap.size w5 w5.drew := (Below.refl _ _).drew
    refine wp_region_held_drew (S := fun w' => w'.cell? ⟨v3.heap.size, 0, none⟩ = some (.int .i64 W) ∧ w'.cell? ⟨v3.heap.size, 1, none⟩ = some (.int .i64 H) ∧ w'.cell? ⟨v3.heap.size, 2, none⟩ = some (.slice Ax N cx) ∧ w'.cell? ⟨v2.heap.size, 0, none⟩ = some (.int .i64 W) ∧ w'.cell? ⟨v2.heap.size, 1, none⟩ = some (.int .i64 H) ∧ w'.cell? ⟨v2.heap.size, 2, none⟩ = some (.slice Ax N cx) ∧ w'.cell? ⟨v1.heap.size, 0, none⟩ = some (.int .i64 W) ∧ w'.cell? ⟨v1.heap.size, 1, none⟩ = some (.int .i64 H) ∧ w'.cell? ⟨v1.heap.size, 2, none⟩ = some (.slice (some ⟨gva, 0, none⟩) N N) ∧ w'.cell? ⟨v5.heap.size, 0, none⟩ = some (.int .i64 W) ∧ w'.cell? ⟨v5.heap.size, 1, none⟩ = some (.int .i64 H) ∧ w'.cell? ⟨v5.heap.size, 2, none⟩ = some (.slice Asm N csm)) (by kernel_rfl) (KS.out _ (Below.refl _ _).drew) (fun hHeld => ?_)
    refine wpAnyH_take (i := 0) (oi := _) (v := ?_) (by simp only [List.getElem?_toArray, List.getElem?_cons_zero]; exact rfl) (by kernel_rfl) (by kernel_rfl) (by kernel_rfl) (by exact fun _ _ _ h => h) (Or.inl ⟨by rfl, ?_⟩) (by assumption) ?_
    rotate_left 1
    · intro w hSw
      (try dsimp only at hSw)
      go_simp
      try with_reducible rfl
    try simp only [Act.put, List.setIfInBounds_toArray, List.set_cons_zero, List.set_cons_succ]
    refine wpAnyH_take (i := 1) (oi := _) (v := ?_) (by simp only [List.getElem?_toArray, List.getElem?_cons_zero, List.getElem?_cons_succ]; exact rfl) (by kernel_rfl) (by kernel_rfl) (by kernel_rfl) (by exact fun _ _ _ h => h) (Or.inl ⟨by rfl, ?_⟩) (by assumption) ?_
    rotate_left 1
    · intro w hSw
      (try dsimp only at hSw)
      go_simp
      try with_reducible rfl
    try simp only [Act.put, List.setIfInBounds_toArray, List.set_cons_zero, List.set_cons_succ]
    refine wpAnyH_take (i := 2) (oi := _) (v := ?_) (by simp only [List.getElem?_toArray, List.getElem?_cons_zero, List.getElem?_cons_succ]; exact rfl) (by kernel_rfl) (by kernel_rfl) (by kernel_rfl) (by exact fun _ _ _ h => h) (Or.inl ⟨by rfl, ?_⟩) (by assumption) ?_
    rotate_left 1
    · intro w hSw
      (try dsimp only at hSw)
      go_simp
      try with_reducible rfl
    try simp only [Act.put, List.setIfInBounds_toArray, List.set_cons_zero, List.set_cons_succ]
    refine wpAnyH_take (i := 3) (oi := _) (v := ?_) (by simp only [List.getElem?_toArray, List.getElem?_cons_zero, List.getElem?_cons_succ]; exact rfl) (by kernel_rfl) (by kernel_rfl) (by kernel_rfl) (by exact fun _ _ _ h => h) (Or.inl ⟨by rfl, ?_⟩) (by assumption) ?_
    rotate_left 1
    · intro w hSw
      (try dsimp only at hSw)
      go_simp
      try with_reducible rfl
    try simp only [Act.put, List.setIfInBounds_toArray, List.set_cons_zero, List.set_cons_succ]
    refine wpAnyH_take (i := 4) (oi := _) (v := ?_) (by simp only [List.getElem?_toArray, List.getElem?_cons_zero, List.getElem?_cons_succ]; exact rfl) (by kernel_rfl) (by kernel_rfl) (by kernel_rfl) (by exact fun _ _ _ h => h) (Or.inl ⟨by rfl, ?_⟩) (by assumption) ?_
    rotate_left 1
    · intro w hSw
      (try dsimp only at hSw)
      go_simp
      try with_reducible rfl
    try simp only [Act.put, List.setIfInBounds_toArray, List.set_cons_zero, List.set_cons_succ]
    refine wpAnyH_take (i := 5) (oi := _) (v := ?_) (by simp only [List.getElem?_toArray, List.getElem?_cons_zero, List.getElem?_cons_succ]; exact rfl) (by kernel_rfl) (by kernel_rfl) (by kernel_rfl) (by exact fun _ _ _ h => h) (Or.inl ⟨by rfl, ?_⟩) (by assumption) ?_
    rotate_left 1
    · intro w hSw
      (try dsimp only at hSw)
      go_simp
      try with_reducible rfl
    try simp only [Act.put, List.setIfInBounds_toArray, List.set_cons_zero, List.set_cons_succ]
    refine wpAnyH_take (i := 6) (oi := _) (v := ?_) (by simp only [List.getElem?_toArray, List.getElem?_cons_zero, List.getElem?_cons_succ]; exact rfl) (by kernel_rfl) (by kernel_rfl) (by kernel_rfl) (by exact fun _ _ _ h => h) (Or.inl ⟨by rfl, ?_⟩) (by assumption) ?_
    rotate_left 1
    · intro w hSw
      (try dsimp only at hSw)
      go_simp
      try with_reducible rfl
    try simp only [Act.put, List.setIfInBounds_toArray, List.set_cons_zero, List.set_cons_succ]
    refine wpAnyH_take (i := 7) (oi := _) (v := ?_) (by simp only [List.getElem?_toArray, List.getElem?_cons_zero, List.getElem?_cons_succ]; exact rfl) (by kernel_rfl) (by kernel_rfl) (by kernel_rfl) (by exact fun _ _ _ h => h) (Or.inl ⟨by rfl, ?_⟩) (by assumption) ?_
    rotate_left 1
    · intro w hSw
      (try dsimp only at hSw)
      go_simp
      try with_reducible rfl
    try simp only [Act.put, List.setIfInBounds_toArray, List.set_cons_zero, List.set_cons_succ]
    refine wpAnyH_take (i := 8) (oi := _) (v := ?_) (by simp only [List.getElem?_toArray, List.getElem?_cons_zero, List.getElem?_cons_succ]; exact rfl) (by kernel_rfl) (by kernel_rfl) (by kernel_rfl) (by exact fun _ _ _ h => h) (Or.inl ⟨by rfl, ?_⟩) (by assumption) ?_
    rotate_left 1
    · intro w hSw
      (try dsimp only at hSw)
      go_simp
      try with_reducible rfl
    try simp only [Act.put, List.setIfInBounds_toArray, List.set_cons_zero, List.set_cons_succ]
    refine wpAnyH_take (i := 10) (oi := _) (v := ?_) (by simp only [List.getElem?_toArray, List.getElem?_cons_zero, List.getElem?_cons_succ]; exact rfl) (by kernel_rfl) (by kernel_rfl) (by kernel_rfl) (by exact fun _ _ _ h => h) (Or.inl ⟨by rfl, ?_⟩) (by assumption) ?_
    rotate_left 1
    · intro w hSw
      (try dsimp only at hSw)
      go_simp
      try with_reducible rfl
    try simp only [Act.put, List.setIfInBounds_toArray, List.set_cons_zero, List.set_cons_succ]
    refine wpAnyH_take (i := 11) (oi := _) (v := ?_) (by simp only [List.getElem?_toArray, List.getElem?_cons_zero, List.getElem?_cons_succ]; exact rfl) (by kernel_rfl) (by kernel_rfl) (by kernel_rfl) (by exact fun _ _ _ h => h) (Or.inl ⟨by rfl, ?_⟩) (by assumption) ?_
    rotate_left 1
    · intro w hSw
      (try dsimp only at hSw)
      go_simp
      try with_reducible rfl
    try simp only [Act.put, List.setIfInBounds_toArray, List.set_cons_zero, List.set_cons_succ]
    refine wpAnyH_ready (rs := [9]) (by kernel_rfl) (by simp) ?_
    refine (AllReadyH.cons (o := _) (by simp only [List.getElem?_toArray, List.getElem?_cons_zero, List.getElem?_cons_succ]; exact rfl) (fun K' hK => ?_) AllReadyH.nil)
    go_simp
    refine (WI.out (DQ p) (DQ p) (D01.out p) QQ.out R HR.out.symm _ _ _ _ _ ((K5.below bw).a 1 rfl) ((K5.below bw).a 2 rfl)).mono ?_
    rintro ee x1 ⟨rfl, hx1⟩
    have c1 := below_call bw bw.size hx1
    refine hK.out _ _ (KS.out _ c1) (fun hHeld => ?_)
    clear hK K'
    try simp only [Act.put, List.setIfInBounds_toArray, List.set_cons_zero, List.set_cons_succ]
    refine wpAnyH_ready (rs := [12]) (by kernel_rfl) (by simp) ?_
    refine (AllReadyH.cons (o := _) (by simp only [List.getElem?_toArray, List.getElem?_cons_zero, List.getElem?_cons_succ]; exact rfl) (fun K' hK => ?_) AllReadyH.nil)
    go_simp
    refine (WI.out p (EQ (DQ p)) P01.out (E01.out _) R (HR.out.symm.trans (ADJ.out (DQ p)).symm) _ _ _ _ _ ((K5.below c1).a 3 rfl) ((K5.below c1).a 0 rfl)).mono ?_
    rintro ee x2 ⟨rfl, hx2⟩
    have c2 := below_call c1 c1.size hx2
    refine hK.out _ _ (KS.out _ c2) (fun hHeld => ?_)
    clear hK K'
    try simp only [Act.put, List.setIfInBounds_toArray, List.set_cons_zero, List.set_cons_succ]
    refine wpAnyH_take (i := 13) (oi := _) (v := ?_) (by simp only [List.getElem?_toArray, List.getElem?_cons_zero, List.getElem?_cons_succ]; exact rfl) (by kernel_rfl) (by kernel_rfl) (by kernel_rfl) (by exact fun _ _ _ h => h) (Or.inl ⟨by rfl, ?_⟩) (by assumption) ?_
    rotate_left 1
    · intro w hSw
      (try dsimp only at hSw)
      go_simp
      try with_reducible rfl
    try simp only [Act.put, List.setIfInBounds_toArray, List.set_cons_zero, List.set_cons_succ]
    refine wpAnyH_take (i := 14) (oi := _) (v := ?_) (by simp only [List.getElem?_toArray, List.getElem?_cons_zero, List.getElem?_cons_succ]; exact rfl) (by kernel_rfl) (by kernel_rfl) (by kernel_rfl) (by exact fun _ _ _ h => h) (Or.inl ⟨by rfl, ?_⟩) (by assumption) ?_
    rotate_left 1
    · intro w hSw
      (try dsimp only at hSw)
      go_simp
      try with_reducible rfl
    try simp only [Act.put, List.setIfInBounds_toArray, List.set_cons_zero, List.set_cons_succ]
    refine wpAnyH_done (by kernel_rfl) ?_ _
    have K6 := K5.below c2
    have b6 := below_call b5 b5.size c2
    clear K5 b5 KS hx1 hx2 c1 c2 bw hHeld HR ADJ p1 p2 p3 r1 r2 r3
    generalize x2 = w6 at *
    obtain ⟨p1, p2, p3⟩ := (K6.b 1 rfl).cells3
    go_wp2_with fail
    refine (ER'.out (DQ p) (D01.out p) _ _ _ (K6.a 1 rfl)).mono ?_
    rintro e v7 ⟨_, rfl, ⟨Acl, ccl, rfl, hgcl, acl⟩, hb7⟩
    have K7a := (K6.below hb7).addA acl
    have b7a := below_call b6 b6.size hb7
    have z7 := b7a.size
    have b7 : Below w.heap.size w (v7.alloc (.cells #[.int .i64 W, .int .i64 H, .slice Acl N ccl] 24)) := by (repeat (first | exact Below.refl _ _ | assumption | refine Below.drew ?_ | refine below_drewN ?_ _ | refine Below.alloc ?_ (by first | omega | (simp; done) | (simp; omega)) _ | refine Below.setCell ?_ (by first | omega | (simp; done) | (simp; omega)) _ | refine below_setRow ?_ (by first | omega | (simp; done) | (simp; omega)) _ ))
    have K7 := K7a.new 24 #[.int .i64 W, .int .i64 H, .slice Acl N ccl]
    clear K6 b6 K7a b7a hb7 acl hgcl p1 p2 p3 z7 
    obtain ⟨p1, p2, p3⟩ := (K7.b 0 rfl).cells3
    go_wp2_with fail
    generalize v7.alloc (.cells #[.int .i64 W, .int .i64 H, .slice Acl N ccl] 24) = w7 at *
    refine (DI'.out (EQ (DQ p)) (E01.out _) _ _ _ (K7.a 0 rfl)).mono ?_
    rintro e v8 ⟨_, rfl, ⟨Aag, cag, rfl, hgag, aag⟩, hb8⟩
    have K8a := (K7.below hb8).addA aag
    have b8a := below_call b7 b7.size hb8
    have z8 := b8a.size
    have b8 : Below w.heap.size w (v8.alloc (.cells #[.int .i64 W, .int .i64 H, .slice Aag N cag] 24)) := by (repeat (first | exact Below.refl _ _ | assumption | refine Below.drew ?_ | refine below_drewN ?_ _ | refine Below.alloc ?_ (by first | omega | (simp; done) | (simp; omega)) _ | refine Below.setCell ?_ (by first | omega | (simp; done) | (simp; omega)) _ | refine below_setRow ?_ (by first | omega | (simp; done) | (simp; omega)) _ ))
    have K8 := K8a.new 24 #[.int .i64 W, .int .i64 H, .slice Aag N cag]
    clear K7 b7 K8a b8a hb8 aag hgag p1 p2 p3 z8 
    obtain ⟨p1, p2, p3⟩ := (K8.b 2 rfl).cells3
    go_wp2_with fail
    generalize v8.alloc (.cells #[.int .i64 W, .int .i64 H, .slice Aag N cag] 24) = w8 at *
    refine (DI'.out (EQ (DQ p)) (E01.out _) _ _ _ (K8.a 2 rfl)).mono ?_
    rintro e v9 ⟨_, rfl, ⟨Aop, cop, rfl, hgop, aop⟩, hb9⟩
    have K9a := (K8.below hb9).addA aop
    have b9a := below_call b8 b8.size hb9
    have z9 := b9a.size
    have b9 : Below w.heap.size w (v9.alloc (.cells #[.int .i64 W, .int .i64 H, .slice Aop N cop] 24)) := by (repeat (first | exact Below.refl _ _ | assumption | refine Below.drew ?_ | refine below_drewN ?_ _ | refine Below.alloc ?_ (by first | omega | (simp; done) | (simp; omega)) _ | refine Below.setCell ?_ (by first | omega | (simp; done) | (simp; omega)) _ | refine below_setRow ?_ (by first | omega | (simp; done) | (simp; omega)) _ ))
    have K9 := K9a.new 24 #[.int .i64 W, .int .i64 H, .slice Aop N cop]
    clear K8 b8 K9a b9a hb9 aop hgop p1 p2 p3 z9 
    obtain ⟨p1, p2, p3⟩ := (K9.b 0 rfl).cells3
    go_wp2_with fail
    generalize v9.alloc (.cells #[.int .i64 W, .int .i64 H, .slice Aop N cop] 24) = w9 at *
    refine (ER'.out (DQ (EQ (DQ p))) (D01.out _) _ _ _ (K9.a 0 rfl)).mono ?_
    rintro e v10 ⟨_, rfl, ⟨Ale, cle, rfl, hgle, ale⟩, hb10⟩
    have K10a := (K9.below hb10).addA ale
    have b10a := below_call b9 b9.size hb10
    have z10 := b10a.size
    have b10 : Below w.heap.size w (v10.alloc (.cells #[.int .i64 W, .int .i64 H, .slice Ale N cle] 24)) := by (repeat (first | exact Below.refl _ _ | assumption | refine Below.drew ?_ | refine below_drewN ?_ _ | refine Below.alloc ?_ (by first | omega | (simp; done) | (simp; omega)) _ | refine Below.setCell ?_ (by first | omega | (simp; done) | (simp; omega)) _ | refine below_setRow ?_ (by first | omega | (simp; done) | (simp; omega)) _ ))
    have K10 := K10a.new 24 #[.int .i64 W, .int .i64 H, .slice Ale N cle]
    clear K9 b9 K10a b10a hb10 ale hgle p1 p2 p3 z10 
    obtain ⟨p1, p2, p3⟩ := (K10.b 2 rfl).cells3
    obtain ⟨r1, r2, r3⟩ := (K10.b 5 rfl).cells3
    go_wp2_with fail
    generalize v10.alloc (.cells #[.int .i64 W, .int .i64 H, .slice Ale N cle] 24) = w10 at *
    refine (SI.out _ _ EA.out _ _ _ _ _ (K10.a 2 rfl) (K10.a 5 rfl)).mono ?_
    rintro e v11 ⟨rfl, hb11⟩
    have K11 := K10.below hb11
    have b11 := below_call b10 b10.size hb11
    clear K10 b10 hb11 p1 p2 p3 r1 r2 r3 
    obtain ⟨p1, p2, p3⟩ := (K11.b 0 rfl).cells3
    obtain ⟨r1, r2, r3⟩ := (K11.b 4 rfl).cells3
    go_wp2_with fail
    refine (SI.out _ _ (EB.out (DQ p)) _ _ _ _ _ (K11.a 0 rfl) (K11.a 4 rfl)).mono ?_
    rintro e v12 ⟨rfl, hb12⟩
    have K12 := K11.below hb12
    have b12 := below_call b11 b11.size hb12
    clear K11 b11 hb12 p1 p2 p3 r1 r2 r3 
    obtain ⟨p1, p2, p3⟩ := (K12.b 7 rfl).cells3
    obtain ⟨r1, r2, r3⟩ := (K12.b 3 rfl).cells3
    go_wp2_with fail
    refine (WI.out p (EQ (DQ p)) P01.out (E01.out _) true SA.out _ _ _ _ _ (K12.a 7 rfl) (K12.a 3 rfl)).mono ?_
    rintro e v13 ⟨rfl, hb13⟩
    have K13 := K12.below hb13
    have b13 := below_call b12 b12.size hb13
    clear K12 b12 hb13 p1 p2 p3 r1 r2 r3 
    obtain ⟨p1, p2, p3⟩ := (K13.b 1 rfl).cells3
    obtain ⟨r1, r2, r3⟩ := (K13.b 6 rfl).cells3
    go_wp2_with fail
    refine (WI.out (DQ (EQ (DQ p))) (DQ p) (D01.out _) QQ.out true (SB.out (DQ p)) _ _ _ _ _ (K13.a 1 rfl) (K13.a 6 rfl)).mono ?_
    rintro e v14 ⟨rfl, hb14⟩
    have K14 := K13.below hb14
    have b14 := below_call b13 b13.size hb14
    clear K13 b13 hb14 p1 p2 p3 r1 r2 r3 
    go_wp2_with fail
    refine (awake1_any _).mono ?_
    rintro e v15 ⟨rfl, hb15⟩
    have b15 := below_call b14 b14.size hb15
    go_wp2
    go_ret
    exact ⟨rfl, b15⟩
  · have QQ := Lib.hid (fun i => orF_01 (q0 i) (DQ p i))
    obtain ⟨p1, p2, p3⟩ := (K3.b 1 rfl).cells3
    obtain ⟨r1, r2, r3⟩ := (K3.b 0 rfl).cells3
    go_upto_region 9 with fail
    rw [HW3.out]
    go_wp2_with fail
    refine (OR.out q0 (DQ p) Q01.out (D01.out p) _ _ _ _ _ (K3.a 1 rfl) (K3.a 0 rfl)).mono ?_
    rintro e v4 ⟨_, rfl, ⟨gvo, rfl, hgvo, kvo⟩, hb4⟩
    have y4 := b3.size
    have K4 := (K3.below hb4).addA (kvo.arrB kvo.lt)
    have b4 := below_call b3 b3.size hb4
    have y5 : v2.heap.size < gvo := by have := (K3.b 0 rfl).lt; omega
    clear K3 b3 hb4 hgvo kvo p1 p2 p3 r1 r2 r3
    obtain ⟨f1, f2, f3⟩ := (K4.b 1 rfl).frozen3; obtain ⟨r1, r2, r3⟩ := (K4.b 1 rfl).cells3
    go_upto_region 10 with fail
    have e1 := ((((K4.b 0 rfl).far (p := ⟨v2.heap.size, 0, none⟩) (by show _ ≠ v2.heap.size; omega) (.int .i64 W)).far (p := ⟨v2.heap.size, 1, none⟩) (by show _ ≠ v2.heap.size; omega) (.int .i64 H)).far (p := ⟨v2.heap.size, 2, none⟩) (by show _ ≠ v2.heap.size; omega) (.slice (some ⟨gvo, 0, none⟩) N N))
    have e2 := (K4.b 1 rfl).fill3 (a := .int .i64 W) (b := .int .i64 H) (c := .slice (some ⟨gvo, 0, none⟩) N N)
    have e3 := ((((K4.b 2 rfl).far (p := ⟨v2.heap.size, 0, none⟩) (by show _ ≠ v2.heap.size; omega) (.int .i64 W)).far (p := ⟨v2.heap.size, 1, none⟩) (by show _ ≠ v2.heap.size; omega) (.int .i64 H)).far (p := ⟨v2.heap.size, 2, none⟩) (by show _ ≠ v2.heap.size; omega) (.slice (some ⟨gvo, 0, none⟩) N N))
    have a1 := ArrB.fill1 (g := v2.heap.size) (a := .int .i64 W) (b := .int .i64 H) (c := .slice (some ⟨gvo, 0, none⟩) N N) (K4.a 1 rfl) (fun y e => by have := HGX.out y e; omega)
    have a3 := ArrB.fill1 (g := v2.heap.size) (a := .int .i64 W) (b := .int .i64 H) (c := .slice (some ⟨gvo, 0, none⟩) N N) (K4.a 3 rfl) (fun y e => by cases e; show gva ≠ _; omega)
    have a2 := ArrB.fill1 (g := v2.heap.size) (a := .int .i64 W) (b := .int .i64 H) (c := .slice (some ⟨gvo, 0, none⟩) N N) (K4.a 0 rfl) (fun y e => by cases e; show gvo ≠ _; omega)
    have K5 := ((((((Kp.nil (((v4.setCell ⟨v2.heap.size, 0, none⟩ (.int .i64 W)).setCell ⟨v2.heap.size, 1, none⟩ (.int .i64 H)).setCell ⟨v2.heap.size, 2, none⟩ (.slice (some ⟨gvo, 0, none⟩) N N))).addA a3).addA a2).addA a1).addB e3).addB e2).addB e1
    have b5 : Below w.heap.size w (((v4.setCell ⟨v2.heap.size, 0, none⟩ (.int .i64 W)).setCell ⟨v2.heap.size, 1, none⟩ (.int .i64 H)).setCell ⟨v2.heap.size, 2, none⟩ (.slice (some ⟨gvo, 0, none⟩) N N)) := below_fill3 b4 (by omega)
    clear e1 e2 e3 a1 a3 a2 K4 b4 f1 f2 f3 r1 r2 r3
    generalize (((v4.setCell ⟨v2.heap.size, 0, none⟩ (.int .i64 W)).setCell ⟨v2.heap.size, 1, none⟩ (.int .i64 H)).setCell ⟨v2.heap.size, 2, none⟩ (.slice (some ⟨gvo, 0, none⟩) N N)) = w5 at *
    obtain ⟨q, hqq⟩ : ∃ q, q = fun i => orF (q0 i) (DQ p i) := ⟨_, rfl⟩
    obtain ⟨p1, p2, p3⟩ := (K5.b 1 rfl).cells3
    go_wp2_with fail
    refine (ER'.out (fun i => orF (q0 i) (DQ p i)) QQ.out _ _ _ (K5.a 1 rfl)).mono ?_
    rintro e v6 ⟨_, rfl, ⟨Asm, csm, rfl, hgsm, asm⟩, hb6⟩
    have K6a := (K5.below hb6).addA asm
    have b6a := below_call b5 b5.size hb6
    have z6 := b6a.size
    have b6 : Below w.heap.size w (v6.alloc (.cells #[.int .i64 W, .int .i64 H, .slice Asm N csm] 24)) := by (repeat (first | exact Below.refl _ _ | assumption | refine Below.drew ?_ | refine below_drewN ?_ _ | refine Below.alloc ?_ (by first | omega | (simp; done) | (simp; omega)) _ | refine Below.setCell ?_ (by first | omega | (simp; done) | (simp; omega)) _ | refine below_setRow ?_ (by first | omega | (simp; done) | (simp; omega)) _ ))
    have K6 := K6a.new 24 #[.int .i64 W, .int .i64 H, .slice Asm N csm]
    clear K5 b5 K6a b6a hb6 asm hgsm p1 p2 p3 z6 
    obtain ⟨p1, p2, p3⟩ := (K6.b 1 rfl).cells3
    obtain ⟨r1, r2, r3⟩ := (K6.b 2 rfl).cells3
    go_upto_region 11 with fail
    generalize v6.alloc (.cells #[.int .i64 W, .int .i64 H, .slice Asm N csm] 24) = w6 at *
    have KS := Lib.hid fun (w' : World) (h : Below w6.heap.size w6 w') => (⟨((K6.b 1 rfl).below' h).cells3.1, ((K6.b 1 rfl).below' h).cells3.2.1, ((K6.b 1 rfl).below' h).cells3.2.2, ((K6.b 2 rfl).below' h).cells3.1, ((K6.b 2 rfl).below' h).cells3.2.1, ((K6.b 2 rfl).below' h).cells3.2.2, ((K6.b 3 rfl).below' h).cells3.1, ((K6.b 3 rfl).below' h).cells3.2.1, ((K6.b 3 rfl).below' h).cells3.2.2, ((K6.b 0 rfl).below' h).cells3.1, ((K6.b 0 rfl).below' h).cells3.2.1, ((K6.b 0 rfl).below' h).cells3.2.2⟩ : w'.cell? ⟨v3.heap.size, 0, none⟩ = some (.int .i64 W) ∧ w'.cell? ⟨v3.heap.size, 1, none⟩ = some (.int .i64 H) ∧ w'.cell? ⟨v3.heap.size, 2, none⟩ = some (.slice Ax N cx) ∧ w'.cell? ⟨v2.heap.size, 0, none⟩ = some (.int .i64 W) ∧ w'.cell? ⟨v2.heap.size, 1, none⟩ = some (.int .i64 H) ∧ w'.cell? ⟨v2.heap.size, 2, none⟩ = some (.slice (some ⟨gvo, 0, none⟩) N N) ∧ w'.cell? ⟨v1.heap.size, 0, none⟩ = some (.int .i64 W) ∧ w'.cell? ⟨v1.heap.size, 1, none⟩ = some (.int .i64 H) ∧ w'.cell? ⟨v1.heap.size, 2, none⟩ = some (.slice (some ⟨gva, 0, none⟩) N N) ∧ w'.cell? ⟨v6.heap.size, 0, none⟩ = some (.int .i64 W) ∧ w'.cell? ⟨v6.heap.size, 1, none⟩ = some (.int .i64 H) ∧ w'.cell? ⟨v6.heap.size, 2, none⟩ = some (.slice Asm N csm))
    obtain ⟨R, hR⟩ : ∃ R, decide (sumN N (fun i => lessF (DQ p i) ((fun i => orF (q0 i) (DQ p i)) i)) = 0) = R := ⟨_, rfl⟩
    have HR := Lib.hid hR
    clear hR
    have bw : Below w6.heap.size w6 w6.drew := (Below.refl _ _).drew
    refine wp_region_held_drew (S := fun w' => w'.cell? ⟨v3.heap.size, 0, none⟩ = some (.int .i64 W) ∧ w'.cell? ⟨v3.heap.size, 1, none⟩ = some (.int .i64 H) ∧ w'.cell? ⟨v3.heap.size, 2, none⟩ = some (.slice Ax N cx) ∧ w'.cell? ⟨v2.heap.size, 0, none⟩ = some (.int .i64 W) ∧ w'.cell? ⟨v2.heap.size, 1, none⟩ = some (.int .i64 H) ∧ w'.cell? ⟨v2.heap.size, 2, none⟩ = some (.slice (some ⟨gvo, 0, none⟩) N N) ∧ w'.cell? ⟨v1.heap.size, 0, none⟩ = some (.int .i64 W) ∧ w'.cell? ⟨v1.heap.size, 1, none⟩ = some (.int .i64 H) ∧ w'.cell? ⟨v1.heap.size, 2, none⟩ = some (.slice (some ⟨gva, 0, none⟩) N N) ∧ w'.cell? ⟨v6.heap.size, 0, none⟩ = some (.int .i64 W) ∧ w'.cell? ⟨v6.heap.size, 1, none⟩ = some (.int .i64 H) ∧ w'.cell? ⟨v6.heap.size, 2, none⟩ = some (.slice Asm N csm)) (by kernel_rfl) (KS.out _ (Below.refl _ _).drew) (fun hHeld => ?_)
    refine wpAnyH_take (i := 0) (oi := _) (v := ?_) (by simp only [List.getElem?_toArray, List.getElem?_cons_zero]; exact rfl) (by kernel_rfl) (by kernel_rfl) (by kernel_rfl) (by exact fun _ _ _ h => h) (Or.inl ⟨by rfl, ?_⟩) (by assumption) ?_
    rotate_left 1
    · intro w hSw
      (try dsimp only at hSw)
      go_simp
      try with_reducible rfl
    try simp only [Act.put, List.setIfInBounds_toArray, List.set_cons_zero, List.set_cons_succ]
    refine wpAnyH_take (i := 1) (oi := _) (v := ?_) (by simp only [List.getElem?_toArray, List.getElem?_cons_zero, List.getElem?_cons_succ]; exact rfl) (by kernel_rfl) (by kernel_rfl) (by kernel_rfl) (by exact fun _ _ _ h => h) (Or.inl ⟨by rfl, ?_⟩) (by assumption) ?_
    rotate_left 1
    · intro w hSw
      (try dsimp only at hSw)
      go_simp
      try with_reducible rfl
    try simp only [Act.put, List.setIfInBounds_toArray, List.set_cons_zero, List.set_cons_succ]
    refine wpAnyH_take (i := 2) (oi := _) (v := ?_) (by simp only [List.getElem?_toArray, List.getElem?_cons_zero, List.getElem?_cons_succ]; exact rfl) (by kernel_rfl) (by kernel_rfl) (by kernel_rfl) (by exact fun _ _ _ h => h) (Or.inl ⟨by rfl, ?_⟩) (by assumption) ?_
    rotate_left 1
    · intro w hSw
      (try dsimp only at hSw)
      go_simp
      try with_reducible rfl
    try simp only [Act.put, List.setIfInBounds_toArray, List.set_cons_zero, List.set_cons_succ]
    refine wpAnyH_take (i := 3) (oi := _) (v := ?_) (by simp only [List.getElem?_toArray, List.getElem?_cons_zero, List.getElem?_cons_succ]; exact rfl) (by kernel_rfl) (by kernel_rfl) (by kernel_rfl) (by exact fun _ _ _ h => h) (Or.inl ⟨by rfl, ?_⟩) (by assumption) ?_
    rotate_left 1
    · intro w hSw
      (try dsimp only at hSw)
      go_simp
      try with_reducible rfl
    try simp only [Act.put, List.setIfInBounds_toArray, List.set_cons_zero, List.set_cons_succ]
    refine wpAnyH_take (i := 4) (oi := _) (v := ?_) (by simp only [List.getElem?_toArray, List.getElem?_cons_zero, List.getElem?_cons_succ]; exact rfl) (by kernel_rfl) (by kernel_rfl) (by kernel_rfl) (by exact fun _ _ _ h => h) (Or.inl ⟨by rfl, ?_⟩) (by assumption) ?_
    rotate_left 1
    · intro w hSw
      (try dsimp only at hSw)
      go_simp
      try with_reducible rfl
    try simp only [Act.put, List.setIfInBounds_toArray, List.set_cons_zero, List.set_cons_succ]
    refine wpAnyH_take (i := 5) (oi := _) (v := ?_) (by simp only [List.getElem?_toArray, List.getElem?_cons_zero, List.getElem?_cons_succ]; exact rfl) (by kernel_rfl) (by kernel_rfl) (by kernel_rfl) (by exact fun _ _ _ h => h) (Or.inl ⟨by rfl, ?_⟩) (by assumption) ?_
    rotate_left 1
    · intro w hSw
      (try dsimp only at hSw)
      go_simp
      try with_reducible rfl
    try simp only [Act.put, List.setIfInBounds_toArray, List.set_cons_zero, List.set_cons_succ]
    refine wpAnyH_take (i := 6) (oi := _) (v := ?_) (by simp only [List.getElem?_toArray, List.getElem?_cons_zero, List.getElem?_cons_succ]; exact rfl) (by kernel_rfl) (by kernel_rfl) (by kernel_rfl) (by exact fun _ _ _ h => h) (Or.inl ⟨by rfl, ?_⟩) (by assumption) ?_
    rotate_left 1
    · intro w hSw
      (try dsimp only at hSw)
      go_simp
      try with_reducible rfl
    try simp only [Act.put, List.setIfInBounds_toArray, List.set_cons_zero, List.set_cons_succ]
    refine wpAnyH_take (i := 7) (oi := _) (v := ?_) (by simp only [List.getElem?_toArray, List.getElem?_cons_zero, List.getElem?_cons_succ]; exact rfl) (by kernel_rfl) (by kernel_rfl) (by kernel_rfl) (by exact fun _ _ _ h => h) (Or.inl ⟨by rfl, ?_⟩) (by assumption) ?_
    rotate_left 1
    · intro w hSw
      (try dsimp only at hSw)
      go_simp
      try with_reducible rfl
    try simp only [Act.put, List.setIfInBounds_toArray, List.set_cons_zero, List.set_cons_succ]
    refine wpAnyH_take (i := 8) (oi := _) (v := ?_) (by simp only [List.getElem?_toArray, List.getElem?_cons_zero, List.getElem?_cons_succ]; exact rfl) (by kernel_rfl) (by kernel_rfl) (by kernel_rfl) (by exact fun _ _ _ h => h) (Or.inl ⟨by rfl, ?_⟩) (by assumption) ?_
    rotate_left 1
    · intro w hSw
      (try dsimp only at hSw)
      go_simp
      try with_reducible rfl
    try simp only [Act.put, List.setIfInBounds_toArray, List.set_cons_zero, List.set_cons_succ]
    refine wpAnyH_take (i := 10) (oi := _) (v := ?_) (by simp only [List.getElem?_toArray, List.getElem?_cons_zero, List.getElem?_cons_succ]; exact rfl) (by kernel_rfl) (by kernel_rfl) (by kernel_rfl) (by exact fun _ _ _ h => h) (Or.inl ⟨by rfl, ?_⟩) (by assumption) ?_
    rotate_left 1
    · intro w hSw
      (try dsimp only at hSw)
      go_simp
      try with_reducible rfl
    try simp only [Act.put, List.setIfInBounds_toArray, List.set_cons_zero, List.set_cons_succ]
    refine wpAnyH_take (i := 11) (oi := _) (v := ?_) (by simp only [List.getElem?_toArray, List.getElem?_cons_zero, List.getElem?_cons_succ]; exact rfl) (by kernel_rfl) (by kernel_rfl) (by kernel_rfl) (by exact fun _ _ _ h => h) (Or.inl ⟨by rfl, ?_⟩) (by assumption) ?_
    rotate_left 1
    · intro w hSw
      (try dsimp only at hSw)
      go_simp
      try with_reducible rfl
    try simp only [Act.put, List.setIfInBounds_toArray, List.set_cons_zero, List.set_cons_succ]
    refine wpAnyH_ready (rs := [9]) (by kernel_rfl) (by simp) ?_
    refine (AllReadyH.cons (o := _) (by simp only [List.getElem?_toArray, List.getElem?_cons_zero, List.getElem?_cons_succ]; exact rfl) (fun K' hK => ?_) AllReadyH.nil)
    go_simp
    refine (WI.out (DQ p) (fun i => orF (q0 i) (DQ p i)) (D01.out p) QQ.out R HR.out.symm _ _ _ _ _ ((K6.below bw).a 1 rfl) ((K6.below bw).a 2 rfl)).mono ?_
    rintro ee x1 ⟨rfl, hx1⟩
    have c1 := below_call bw bw.size hx1
    refine hK.out _ _ (KS.out _ c1) (fun hHeld => ?_)
    clear hK K'
    try simp only [Act.put, List.setIfInBounds_toArray, List.set_cons_zero, List.set_cons_succ]
    refine wpAnyH_ready (rs := [12]) (by kernel_rfl) (by simp) ?_
    refine (AllReadyH.cons (o := _) (by simp only [List.getElem?_toArray, List.getElem?_cons_zero, List.getElem?_cons_succ]; exact rfl) (fun K' hK => ?_) AllReadyH.nil)
    go_simp
    refine (WI.out p (EQ (fun i => orF (q0 i) (DQ p i))) P01.out (E01.out _) R (HR.out.symm.trans (ADJ.out (fun i => orF (q0 i) (DQ p i))).symm) _ _ _ _ _ ((K6.below c1).a 3 rfl) ((K6.below c1).a 0 rfl)).mono ?_
    rintro ee x2 ⟨rfl, hx2⟩
    have c2 := below_call c1 c1.size hx2
    refine hK.out _ _ (KS.out _ c2) (fun hHeld => ?_)
    clear hK K'
    try simp only [Act.put, List.setIfInBounds_toArray, List.set_cons_zero, List.set_cons_succ]
    refine wpAnyH_take (i := 13) (oi := _) (v := ?_) (by simp only [List.getElem?_toArray, List.getElem?_cons_zero, List.getElem?_cons_succ]; exact rfl) (by kernel_rfl) (by kernel_rfl) (by kernel_rfl) (by exact fun _ _ _ h => h) (Or.inl ⟨by rfl, ?_⟩) (by assumption) ?_
    rotate_left 1
    · intro w hSw
      (try dsimp only at hSw)
      go_simp
      try with_reducible rfl
    try simp only [Act.put, List.setIfInBounds_toArray, List.set_cons_zero, List.set_cons_succ]
    refine wpAnyH_take (i := 14) (oi := _) (v := ?_) (by simp only [List.getElem?_toArray, List.getElem?_cons_zero, List.getElem?_cons_succ]; exact rfl) (by kernel_rfl) (by kernel_rfl) (by kernel_rfl) (by exact fun _ _ _ h => h) (Or.inl ⟨by rfl, ?_⟩) (by assumption) ?_
    rotate_left 1
    · intro w hSw
      (try dsimp only at hSw)
      go_simp
      try with_reducible rfl
    try simp only [Act.put, List.setIfInBounds_toArray, List.set_cons_zero, List.set_cons_succ]
    refine wpAnyH_done (by kernel_rfl) ?_ _
    have K7 := K6.below c2
    have b7 := below_call b6 b6.size c2
    clear K6 b6 KS hx1 hx2 c1 c2 bw hHeld HR ADJ p1 p2 p3 r1 r2 r3
    generalize x2 = w7 at *
    obtain ⟨p1, p2, p3⟩ := (K7.b 1 rfl).cells3
    go_wp2_with fail
    refine (ER'.out (DQ p) (D01.out p) _ _ _ (K7.a 1 rfl)).mono ?_
    rintro e v8 ⟨_, rfl, ⟨Acl, ccl, rfl, hgcl, acl⟩, hb8⟩
    have K8a := (K7.below hb8).addA acl
    have b8a := below_call b7 b7.size hb8
    have z8 := b8a.size
    have b8 : Below w.heap.size w (v8.alloc (.cells #[.int .i64 W, .int .i64 H, .slice Acl N ccl] 24)) := by (repeat (first | exact Below.refl _ _ | assumption | refine Below.drew ?_ | refine below_drewN ?_ _ | refine Below.alloc ?_ (by first | omega | (simp; done) | (simp; omega)) _ | refine Below.setCell ?_ (by first | omega | (simp; done) | (simp; omega)) _ | refine below_setRow ?_ (by first | omega | (simp; done) | (simp; omega)) _ ))
    have K8 := K8a.new 24 #[.int .i64 W, .int .i64 H, .slice Acl N ccl]
    clear K7 b7 K8a b8a hb8 acl hgcl p1 p2 p3 z8 
    obtain ⟨p1, p2, p3⟩ := (K8.b 0 rfl).cells3
    go_wp2_with fail
    generalize v8.alloc (.cells #[.int .i64 W, .int .i64 H, .slice Acl N ccl] 24) = w8 at *
    refine (DI'.out (EQ (DQ p)) (E01.out _) _ _ _ (K8.a 0 rfl)).mono ?_
    rintro e v9 ⟨_, rfl, ⟨Aag, cag, rfl, hgag, aag⟩, hb9⟩
    have K9a := (K8.below hb9).addA aag
    have b9a := below_call b8 b8.size hb9
    have z9 := b9a.size
    have b9 : Below w.heap.size w (v9.alloc (.cells #[.int .i64 W, .int .i64 H, .slice Aag N cag] 24)) := by (repeat (first | exact Below.refl _ _ | assumption | refine Below.drew ?_ | refine below_drewN ?_ _ | refine Below.alloc ?_ (by first | omega | (simp; done) | (simp; omega)) _ | refine Below.setCell ?_ (by first | omega | (simp; done) | (simp; omega)) _ | refine below_setRow ?_ (by first | omega | (simp; done) | (simp; omega)) _ ))
    have K9 := K9a.new 24 #[.int .i64 W, .int .i64 H, .slice Aag N cag]
    clear K8 b8 K9a b9a hb9 aag hgag p1 p2 p3 z9 
    obtain ⟨p1, p2, p3⟩ := (K9.b 2 rfl).cells3
    go_wp2_with fail
    generalize v9.alloc (.cells #[.int .i64 W, .int .i64 H, .slice Aag N cag] 24) = w9 at *
    refine (DI'.out (EQ (fun i => orF (q0 i) (DQ p i))) (E01.out _) _ _ _ (K9.a 2 rfl)).mono ?_
    rintro e v10 ⟨_, rfl, ⟨Aop, cop, rfl, hgop, aop⟩, hb10⟩
    have K10a := (K9.below hb10).addA aop
    have b10a := below_call b9 b9.size hb10
    have z10 := b10a.size
    have b10 : Below w.heap.size w (v10.alloc (.cells #[.int .i64 W, .int .i64 H, .slice Aop N cop] 24)) := by (repeat (first | exact Below.refl _ _ | assumption | refine Below.drew ?_ | refine below_drewN ?_ _ | refine Below.alloc ?_ (by first | omega | (simp; done) | (simp; omega)) _ | refine Below.setCell ?_ (by first | omega | (simp; done) | (simp; omega)) _ | refine below_setRow ?_ (by first | omega | (simp; done) | (simp; omega)) _ ))
    have K10 := K10a.new 24 #[.int .i64 W, .int .i64 H, .slice Aop N cop]
    clear K9 b9 K10a b10a hb10 aop hgop p1 p2 p3 z10 
    obtain ⟨p1, p2, p3⟩ := (K10.b 0 rfl).cells3
    go_wp2_with fail
    generalize v10.alloc (.cells #[.int .i64 W, .int .i64 H, .slice Aop N cop] 24) = w10 at *
    refine (ER'.out (DQ (EQ (fun i => orF (q0 i) (DQ p i)))) (D01.out _) _ _ _ (K10.a 0 rfl)).mono ?_
    rintro e v11 ⟨_, rfl, ⟨Ale, cle, rfl, hgle, ale⟩, hb11⟩
    have K11a := (K10.below hb11).addA ale
    have b11a := below_call b10 b10.size hb11
    have z11 := b11a.size
    have b11 : Below w.heap.size w (v11.alloc (.cells #[.int .i64 W, .int .i64 H, .slice Ale N cle] 24)) := by (repeat (first | exact Below.refl _ _ | assumption | refine Below.drew ?_ | refine below_drewN ?_ _ | refine Below.alloc ?_ (by first | omega | (simp; done) | (simp; omega)) _ | refine Below.setCell ?_ (by first | omega | (simp; done) | (simp; omega)) _ | refine below_setRow ?_ (by first | omega | (simp; done) | (simp; omega)) _ ))
    have K11 := K11a.new 24 #[.int .i64 W, .int .i64 H, .slice Ale N cle]
    clear K10 b10 K11a b11a hb11 ale hgle p1 p2 p3 z11 
    obtain ⟨p1, p2, p3⟩ := (K11.b 2 rfl).cells3
    obtain ⟨r1, r2, r3⟩ := (K11.b 5 rfl).cells3
    go_wp2_with fail
    generalize v11.alloc (.cells #[.int .i64 W, .int .i64 H, .slice Ale N cle] 24) = w11 at *
    refine (SI.out _ _ EA.out _ _ _ _ _ (K11.a 2 rfl) (K11.a 5 rfl)).mono ?_
    rintro e v12 ⟨rfl, hb12⟩
    have K12 := K11.below hb12
    have b12 := below_call b11 b11.size hb12
    clear K11 b11 hb12 p1 p2 p3 r1 r2 r3 
    obtain ⟨p1, p2, p3⟩ := (K12.b 0 rfl).cells3
    obtain ⟨r1, r2, r3⟩ := (K12.b 4 rfl).cells3
    go_wp2_with fail
    refine (SI.out _ _ (EB.out (fun i => orF (q0 i) (DQ p i))) _ _ _ _ _ (K12.a 0 rfl) (K12.a 4 rfl)).mono ?_
    rintro e v13 ⟨rfl, hb13⟩
    have K13 := K12.below hb13
    have b13 := below_call b12 b12.size hb13
    clear K12 b12 hb13 p1 p2 p3 r1 r2 r3 
    obtain ⟨p1, p2, p3⟩ := (K13.b 7 rfl).cells3
    obtain ⟨r1, r2, r3⟩ := (K13.b 3 rfl).cells3
    go_wp2_with fail
    refine (WI.out p (EQ (DQ p)) P01.out (E01.out _) true SA.out _ _ _ _ _ (K13.a 7 rfl) (K13.a 3 rfl)).mono ?_
    rintro e v14 ⟨rfl, hb14⟩
    have K14 := K13.below hb14
    have b14 := below_call b13 b13.size hb14
    clear K13 b13 hb14 p1 p2 p3 r1 r2 r3 
    obtain ⟨p1, p2, p3⟩ := (K14.b 1 rfl).cells3
    obtain ⟨r1, r2, r3⟩ := (K14.b 6 rfl).cells3
    go_wp2_with fail
    refine (WI.out (DQ (EQ (fun i => orF (q0 i) (DQ p i)))) (fun i => orF (q0 i) (DQ p i)) (D01.out _) QQ.out true (SB.out (fun i => orF (q0 i) (DQ p i))) _ _ _ _ _ (K14.a 1 rfl) (K14.a 6 rfl)).mono ?_
    rintro e v15 ⟨rfl, hb15⟩
    have K15 := K14.below hb15
    have b15 := below_call b14 b14.size hb15
    clear K14 b14 hb15 p1 p2 p3 r1 r2 r3 
    go_wp2_with fail
    refine (awake1_any _).mono ?_
    rintro e v16 ⟨rfl, hb16⟩
    have b16 := below_call b15 b15.size hb16
    go_wp2
    go_ret
    exact ⟨rfl, b16⟩
end Go.Proofs.YtoonkpjddfiopaaDoor
