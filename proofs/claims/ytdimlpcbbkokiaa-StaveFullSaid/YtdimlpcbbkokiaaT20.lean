/- Walk: full rows that are far apart are found as lines (StaveFull). -/
import Derived.Test.YtdimlpcbbkokiaaT19
import Derived.Test.YtdimlpcbbkokiaaW6
namespace Go.Proofs.Ytdimlpcbbkokiaa
open Go.RowKit Go.Shelf
set_option linter.unusedVariables false
attribute [local go_sem] Oper.semAt_some

theorem full_iff {W H : Int} {n y : Nat} {p : Int → Int} (hW : 0 < W) (hn : (n : Int) = W * H) (p01 : ∀ i, 0 ≤ p i ∧ p i ≤ 1) (hy : (y : Int) < H) : rowS W n p y = W ↔ FullR W (cst p W) y := by
  rw [rowS_iff hW hn (fun i => by have := p01 i; omega) (fun i _ _ => (p01 i).2) hy]
  unfold rowB
  rw [allN_iff]
  constructor
  · intro h x x0 x1
    have := h x x0 (by omega)
    unfold cst
    rw [if_pos (by simpa using this)]
  · intro h i i0 i1
    have h2 := h i i0 (by omega)
    unfold cst at h2
    split at h2
    · simpa using ‹_›
    · omega
theorem rowS_le {W H : Int} {n y : Nat} {p : Int → Int} (hW : 0 < W) (hn : (n : Int) = W * H) (p01 : ∀ i, 0 ≤ p i ∧ p i ≤ 1) (hy : (y : Int) < H) : 0 ≤ rowS W n p y ∧ rowS W n p y ≤ W := by
  obtain ⟨Wn, rfl⟩ : ∃ Wn : Nat, W = Wn := ⟨W.toNat, by omega⟩
  obtain ⟨Hn, rfl⟩ : ∃ Hn : Nat, H = Hn := ⟨H.toNat, by omega⟩
  have hn' : n = Hn * Wn := by rw [Int.mul_comm, ← Int.natCast_mul] at hn; omega
  rw [rowS_row (by omega) hn' (by omega)]
  have := sumN_bd (n := Wn) (f := fun x => p (y * Wn + x)) (m := 1) (fun i _ _ => p01 _)
  omega
theorem Arr.to {w w' : World} {A : Option Addr} {n : Nat} {f : Int → Value} (h : Arr w w.heap.size A n f) (hb : Below w.heap.size w w') : Arr w' w'.heap.size A n f := Arr.more (Arr.below h hb) hb.size
/-- the last full row; -9 if there was none -/
def lastV (k : Nat) (r : Nat → Int) : Int := if k = 0 then -9 else r (k - 1)
/-- a number of finding has a place in the order of the rows -/
theorem place_in {K k : Nat} {L : List Nat} (hp : L.Perm (List.range K)) (hK : k < K) : ∃ t, t < K ∧ L.getD t 0 = k := by
  have hm : k ∈ L := hp.mem_iff.2 (List.mem_range.2 hK)
  obtain ⟨t, ht, e⟩ := List.getElem_of_mem hm
  refine ⟨t, by rw [hp.length_eq, List.length_range] at ht; exact ht, ?_⟩
  rw [List.getD_eq_getElem?_getD, List.getElem?_eq_getElem ht, e]; rfl

set_option maxRecDepth 100000 in
set_option maxHeartbeats 4000000 in
theorem staveFull_any (s : Int) (A B : Option Addr) (n c m d : Nat) (r r' : Int → Int) (w : World) (hA : ArrB w w.heap.size A n r) (hn : n ≤ maxLen) (hr : IsB r) (hs : 0 ≤ s ∧ s ≤ 65535) (hB : ArrB w w.heap.size B m r') (hm : m ≤ maxLen) (hd : m ≤ d) (hd2 : d ≤ maxLen) (hr' : IsB r') :
    Calls Try.prog 5 #[.int .u16 s, .slice A n c, .slice B m d] w fun e w' => e = .returned (.bool true) ∧ Below w.heap.size w w' := by
  obtain ⟨hs0, hs1⟩ := hs
  obtain ⟨W, hW⟩ : ∃ W, s % 41 = W := ⟨_, rfl⟩
  obtain ⟨H, hH⟩ : ∃ H, s / 41 % 31 = H := ⟨_, rfl⟩
  have W1 : 0 ≤ W ∧ W ≤ 40 := by omega
  have H1 : 0 ≤ H ∧ H ≤ 30 := by omega
  obtain ⟨W1, W2⟩ := W1
  obtain ⟨H1, H2⟩ := H1
  have wh := area_bd (W := W) (H := H) (by omega) (by omega) (by omega) (by omega)
  obtain ⟨N, hN⟩ : ∃ N : Nat, (N : Int) = W * H := ⟨(W * H).toNat, by omega⟩
  have MD := Lib.hid fun w' hA' => made_any s W H A n c r w' hA' hn hr hs0 hs1 hW hH N hN
  obtain ⟨q, hq⟩ : ∃ q, q = bitQ n r := ⟨_, rfl⟩
  rw [← hq] at MD
  have q01 : ∀ i, 0 ≤ q i ∧ q i ≤ 1 := fun i => by rw [hq]; exact bitQ_01 n r i
  have AW := Lib.hid fun w' => awake3_any w'
  have HN := Lib.hid hN
  have NB : (N : Int) ≤ 409600 := by omega
  unfold maxLen at hm hd2
  clear hq hW hH hN hs0 hs1 wh
  go_enter Try.func5, Try.ntmps5
  go_wp2_with fail
  refine (MD.out _ hA).mono ?_
  rintro e w1 ⟨_, rfl, ⟨g, rfl, hg, kg⟩, b1⟩
  have b2 : Below w.heap.size w (w1.alloc (.cells #[.int .i64 W, .int .i64 H, .slice (some ⟨g, 0, none⟩) N N] 24)) := b1.alloc b1.size _
  have kg2 := kg.alloc (.cells #[.int .i64 W, .int .i64 H, .slice (some ⟨g, 0, none⟩) N N] 24)
  have kx2 := Blk.new w1 24 #[.int .i64 W, .int .i64 H, .slice (some ⟨g, 0, none⟩) N N]
  have z1 := b1.size
  have z2 := kg.lt
  obtain ⟨p1, p2, p3⟩ := kx2.cells3
  by_cases hE : W = 0 ∨ H = 0
  · by_cases hw : W = 0
    · have bW : (W == 0) = true := by simp [hw]
      have HW := Lib.hid hw
      clear hw hE
      go_wp2_with fail
      refine (AW.out _).mono ?_
      rintro e w4 ⟨rfl, hb4⟩
      have b4 := below_call b2 b2.size hb4
      go_wp2
      go_ret
      exact ⟨rfl, b4⟩
    · have bW : (W == 0) = false := by simp [hw]
      have bH : (H == 0) = true := by have : H = 0 := by omega
                                      simp [this]
      clear hw hE
      go_wp2_with fail
      refine (AW.out _).mono ?_
      rintro e w4 ⟨rfl, hb4⟩
      have b4 := below_call b2 b2.size hb4
      go_wp2
      go_ret
      exact ⟨rfl, b4⟩
  · have bW : (W == 0) = false := by simp; omega
    have bH : (H == 0) = false := by simp; omega
    have W3 : 1 ≤ W := by omega
    have H3 : 1 ≤ H := by omega
    clear hE
    obtain ⟨M, hM⟩ : ∃ M : Nat, min m 8 = M := ⟨_, rfl⟩
    have M1 : M ≤ m := by omega
    have M2 : M ≤ 8 := by omega
    have hmin : min (m : Int) 8 = (M : Int) := by omega
    have hmax : max (M : Int) 0 = (M : Int) := by omega
    have HB1 := Lib.hid hB
    clear hM
    go_wp2_with fail
    generalize hw2 : w1.alloc (.cells #[.int .i64 W, .int .i64 H, .slice (some ⟨g, 0, none⟩) N N] 24) = w2 at *
    generalize hgx : w1.heap.size = gx at *
    clear hw2 hgx kg b1 p1 p2 p3
    have ngx : g ≠ gx := by omega
    go_loopw [37] (fun s wr => ∃ (i : Nat) (P : Int → Int), i ≤ M ∧ s = .int .i64 i ∧ (∀ j, 0 ≤ P j ∧ P j ≤ 1) ∧ Below w.heap.size w wr ∧ Blk wr gx 24 #[.int .i64 W, .int .i64 H, .slice (some ⟨g, 0, none⟩) N N] ∧ Blk wr g 5 (u8s N P)) (fun s _ => M - (intOf s).toNat)
    case atStart => exact ⟨0, q, by omega, rfl, q01, b2, kx2, kg2⟩
    case round =>
      obtain ⟨i, P, hi, rfl, P01, bx, kxx, kgx⟩ := hrel
      clear b2 kx2 kg2
      obtain ⟨p1, p2, p3⟩ := kxx.cells3
      by_cases hlt : (i : Int) < M
      · obtain ⟨bB, oB, rfl, hbB, hcB⟩ := ArrB.at_ (ArrB.below hB bx) (i := (i : Int)) (by omega) (by omega)
        rw [Int.toNat_natCast] at hcB
        have hf := hr' i
        obtain ⟨f, hf2⟩ : ∃ f, r' i = f := ⟨_, rfl⟩
        rw [hf2] at hf hcB
        obtain ⟨hf0, hf1⟩ := hf
        obtain ⟨Y, hY⟩ : ∃ Y, f % H = Y := ⟨_, rfl⟩
        have Y0 : 0 ≤ Y := by rw [← hY]; exact Int.emod_nonneg _ (by omega)
        have Y1 : Y < H := by rw [← hY]; exact Int.emod_lt_of_pos _ (by omega)
        have u1 : f.tmod H = Y := by rw [← hY]; exact Int.tmod_eq_emod_of_nonneg hf0
        have u2 : IntKind.i64.wrap f = f := IntWalk.i64_in _ (by omega)
        have nH : ¬ H = 0 := by omega
        obtain ⟨-, s2, s3⟩ := idx_lt (x := 0) (y := Y) (W := W) (H := H) (by omega) (by omega) Y0 Y1
        have HBX := Lib.hid bx
        clear hY hf2
        go_wp2_with fail
        go_loopw [43] (fun s wr => ∃ x : Nat, (x : Int) ≤ W ∧ s = .int .i64 x ∧ Below w.heap.size w wr ∧ Blk wr gx 24 #[.int .i64 W, .int .i64 H, .slice (some ⟨g, 0, none⟩) N N] ∧ Blk wr g 5 (u8s N (inkRow P (Y * W) x))) (fun s _ => (W - intOf s).toNat)
        case atStart => exact ⟨0, by omega, rfl, bx, kxx, kgx.u8conv fun i _ _ => by unfold inkRow; rw [if_neg (by omega)]⟩
        case round =>
          obtain ⟨x, hx, rfl, bx, kxx, kgx⟩ := hrel
          clear p1 p2 p3 hcB
          obtain ⟨p1, p2, p3⟩ := kxx.cells3
          by_cases xl : (x : Int) < W
          · obtain ⟨i1, i2, i3⟩ := idx_lt (x := (x : Int)) (y := Y) (W := W) (H := H) (by omega) xl Y0 Y1
            rw [Int.mul_comm H W] at i2
            have i4 : Y * W + x < (N : Int) := by have := HN.out; omega
            have u3 : IntKind.i64.wrap (Y * W) = Y * W := IntWalk.i64_in _ (by omega)
            have u4 : IntKind.i64.wrap (Y * W + x) = Y * W + x := IntWalk.i64_in _ (by omega)
            have cg := kgx.u8at i1 i4
            have fg := kgx.frozen (Y * W + x).toNat
            have KS := Lib.hid (kgx.u8set (Y * W + x) i1 1)
            go_wp2_with fail
            go_still_tail 13, (by kernel_rfl)
            change wpList _ _ _ _ _ wr.drew
            clear u3 u4
            go_wp2
            go_roundw
            case rel => exact ⟨x + 1, by omega, by go_num, by (repeat (first | exact Below.refl _ _ | assumption | refine Below.drew ?_ | refine below_drewN ?_ _ | refine Below.alloc ?_ (by first | omega | (simp; done) | (simp; omega)) _ | refine Below.setCell ?_ (by first | omega | (simp; done) | (simp; omega)) _ | refine below_setRow ?_ (by first | omega | (simp; done) | (simp; omega)) _ )), kxx.drew.far (p := ⟨g, (Y * W + x).toNat, none⟩) (fun e => ngx e.symm) _, Blk.u8conv (by simpa using KS.out.drew) fun j _ _ => by (show (if j = Y * W + x then (1 : Int) else inkRow P (Y * W) x j) = inkRow P (Y * W) (x + 1) j; unfold inkRow; split <;> split <;> (try split) <;> first | rfl | omega)⟩
            case measure => simp [intOf]; omega
          · obtain ⟨P', hP⟩ : ∃ P', P' = inkRow P (Y * W) x := ⟨_, rfl⟩
            have P01' : ∀ i, 0 ≤ P' i ∧ P' i ≤ 1 := fun i => by rw [hP]; unfold inkRow; split; omega; exact P01 i
            rw [← hP] at kgx
            clear hP u1 u2
            go_wp2_with fail
            go_roundw
            case rel => exact ⟨i + 1, P', by omega, by go_num, P01', bx, kxx, kgx⟩
            case measure => simp [intOf]; omega
      · have b2 := bx; have kx2 := kxx; have kg2 := kgx
        clear bx kxx kgx
        go_wp2_with fail
        clear p1 p2 p3
        have PB : IsB P := fun i => by have := P01 i; omega
        have CE := chk_mk (W := W) (H := H) (n := N) (p := P) W1 (by omega) H1 (by omega) HN.out (fun i _ _ => (P01 i).2)
        refine (trace_ok W H (some ⟨g, 0, none⟩) N N P _ (kg2.arrB kg2.lt) (by unfold maxLen; omega) PB CE W3 H3).mono ?_
        rintro e w3 ⟨_, rfl, ⟨vo, rfl, hT⟩, hb3⟩
        obtain ⟨K, L, vs, hK, hp, hso, hr3, hl3⟩ := hT
        have hLK : ∀ i ∈ L, i < K := fun i hi => List.mem_range.1 (hp.mem_iff.1 hi)
        obtain ⟨Av, cv, rfl, hLl, LI⟩ := Lines3 hr3 hl3 hLK (by omega)
        obtain ⟨Av2, cv2, eAv, -, hAr⟩ := own_arr hr3
        cases eAv
        have b3 := below_call b2 b2.size hb3
        have kg3 := kg2.below' hb3
        have kx3 := kx2.below' hb3
        have kb : K ≤ 60 := hK.1
        have PA := Lib.hid fun w' hA' => profile_ok W H (some ⟨g, 0, none⟩) N N P w' hA' (by unfold maxLen; omega) PB CE
        have HKM := Lib.hid hK; have HLI := Lib.hid LI; have HLK := Lib.hid hLK; have HPE := Lib.hid hp
        clear hK LI hLK hso hp hr3 hl3 b2 kg2 kx2 hb3
        obtain ⟨p1, p2, p3⟩ := kx3.cells3
        go_wp2_with fail
        refine (PA.out _ (kg3.arrB kg3.lt)).mono ?_
        rintro e w4 ⟨_, rfl, ⟨g1, g2, rfl, hg1, hg2, hne, kr, kc⟩, hb4⟩
        have b4 := below_call b3 b3.size hb4
        have kx4 := kx3.below' hb4
        have HB4 := Lib.hid hb4
        have VS := Lib.hid (show ∀ t, t < K → ∃ gt ct, (L.map vs).getD t default = .slice (some ⟨gt, 0, none⟩) W.toNat ct ∧ ArrI w3 w3.heap.size (some ⟨gt, 0, none⟩) W.toNat (fun j => LN 1073741824 W H (cst P W) (L.getD t 0) j.toNat) from fun t ht => by
          obtain ⟨b', off, gt, ct, e1, -, e2, e3, -⟩ := HLI.out t ht
          obtain ⟨b'', off', e4, -, e5⟩ := Arr.at_ hAr (i := (t : Int)) (by omega) (by omega)
          rw [e1] at e4
          cases e4
          rw [Int.toNat_natCast, e2] at e5
          exact ⟨gt, ct, (Option.some.inj e5).symm, e3⟩)
        have CL := Lib.hid fun (wx : World) (hb : Below w3.heap.size w3 wx) (b : Nat) (y : Int) (hc : wx.cell? ⟨b, 0, none⟩ = some (.int .i64 y)) =>
          containsL 28 #[.pointer (some ⟨b, 0, none⟩)] (fun t => allAt y W.toNat (fun j => LN 1073741824 W H (cst P W) (L.getD t.toNat 0) j.toNat)) (fun t => (L.map vs).getD t default) wx enterAllAt Av K cv (Arr.to hAr hb) (by unfold maxLen; omega)
            (fun t ht => by obtain ⟨gt, ct, e, -⟩ := VS.out t ht; exact ⟨_, _, _, e⟩)
            (fun t ht => by
              obtain ⟨gt, ct, e, ha⟩ := VS.out t ht
              show Calls _ _ #[_, _] _ _
              rw [e]
              exact allAt_any y b (some ⟨gt, 0, none⟩) W.toNat ct _ wx hc (ha.to hb) (by unfold maxLen; omega))
        clear b3 kg3 kx3 hAr p1 p2 p3 kc VS
        obtain ⟨p1, p2, p3⟩ := kx4.cells3
        obtain ⟨Hn, hHn⟩ : ∃ Hn, H.toNat = Hn := ⟨_, rfl⟩
        obtain ⟨Wn, hWn⟩ : ∃ Wn, W.toNat = Wn := ⟨_, rfl⟩
        rw [hHn] at kr ⊢
        rw [hWn] at CL ⊢
        have HH : (Hn : Int) = H := by omega
        have HW := Lib.hid hWn
        clear hHn hWn
        go_wp2_with fail
        go_loopw [16, 80] (fun lv s wr => ∃ (y k : Nat) (r : Nat → Int), y ≤ Hn ∧ s = .int .i64 y ∧ lv = .int .i64 (lastV k r) ∧ Pre 1073741824 W H (cst P W) y k r ∧ Below w4.heap.size w4 wr) (fun _ s _ => Hn - (intOf s).toNat)
        case atStart => exact ⟨0, 0, fun _ => 0, by omega, rfl, rfl, Pre.zero, Below.refl _ _⟩
        case round =>
          obtain ⟨y, k, r, hy, rfl, rfl, hpre, hbr⟩ := hrel
          have kxr := kx4.below' hbr
          have krr := kr.below' hbr
          have bw := b4.trans (hbr.mono b4.size)
          clear p1 p2 p3
          obtain ⟨p1, p2, p3⟩ := kxr.cells3
          have HPRE := Lib.hid hpre
          have kxa := kxr.alloc (.cells #[.int .i64 y] 3)
          obtain ⟨x1, x2, x3⟩ := kxa.cells3
          have x4 : (wr.alloc (.cells #[.int .i64 y] 3)).cell? ⟨wr.heap.size, 0, none⟩ = some (.int .i64 y) := (Blk.new wr 3 #[.int .i64 y]).cells1
          have hba : Below w4.heap.size w4 (wr.alloc (.cells #[.int .i64 y] 3)) := hbr.alloc hbr.size _
          clear hpre
          by_cases hlt : (y : Int) < Hn
          · have hR := krr.i64at (i := (y : Int)) (by omega) (by omega)
            rw [Int.toNat_natCast] at hR
            have FI := Lib.hid (full_iff (n := N) (p := P) (y := y) (by omega : 0 < W) HN.out P01 (by omega : (y : Int) < H))
            obtain ⟨rb1, rb2⟩ := rowS_le (n := N) (p := P) (y := y) (by omega : 0 < W) HN.out P01 (by omega : (y : Int) < H)
            generalize rowS W N P y = R at *
            have lb : -9 ≤ lastV k r ∧ lastV k r < (y : Int) := by
              unfold lastV
              split
              · omega
              · have := HPRE.out.at_ (k - 1) (by omega); omega
            obtain ⟨lb1, lb2⟩ := lb
            by_cases hRW : R < W
            · have NF : ¬ FullR W (cst P W) y := fun h => by have := FI.out.2 h; omega
              have NX := Lib.hid (HPRE.out.skip NF)
              clear NF
              generalize hlv : lastV k r = lv at *
              have HL := Lib.hid hlv
              clear hlv
              go_wp2_with fail
              go_roundw
              case rel => exact ⟨y + 1, k, r, by omega, by go_num, by rw [HL.out], NX.out, hba⟩
              case measure => simp [intOf]; omega
            · have FU : FullR W (cst P W) y := FI.out.1 (by omega)
              have v1 : IntKind.i64.wrap ((y : Int) - lastV k r) = (y : Int) - lastV k r := IntWalk.i64_in _ (by omega)
              by_cases hfar : (2 : Int) < (y : Int) - lastV k r
              · have NX := Lib.hid (HPRE.out.next (cst_bd P W) (by omega) (by omega) (by omega) (by omega) FU (fun k0 => by unfold lastV at hfar; rw [if_neg (by omega)] at hfar; omega))
                have KK := NX.out.many (by omega) (by omega) HKM.out
                have LV : Hid (lastV (k + 1) (fun j => if j = k then (y : Int) else r j) = y) := by show _ = _; unfold lastV; rw [if_neg (by omega)]; exact if_pos (by omega)
                obtain ⟨t, ht, et⟩ := place_in HPE.out (by omega : k < K)
                have LNk := (NX.out.ln k (by omega)).2
                have e1 : Hid (decide (0 ≤ idxF (fun t => allAt y Wn (fun j => LN 1073741824 W H (cst P W) (L.getD t.toNat 0) j.toNat)) K) = true) := by
                  show _ = _
                  refine decide_eq_true (idxF_iff.2 ⟨t, by omega, by omega, allAt_of fun i i0 i1 => ?_⟩)
                  rw [Int.toNat_natCast, et, LNk i.toNat (by have := HW.out; omega), if_pos rfl]
                clear LNk et ht FU
                generalize hlv : lastV k r = lv at *
                have HL := Lib.hid hlv
                clear hlv
                go_wp2_with fail
                refine (CL.out _ (HB4.out.trans (hba.mono HB4.out.size)) _ _ x4).mono ?_
                rintro e w6 ⟨rfl, rfl⟩
                rw [e1.out]
                go_wp2_with fail
                go_roundw
                case rel => exact ⟨y + 1, k + 1, _, by omega, by go_num, by rw [LV.out], NX.out, hba⟩
                case measure => simp [intOf]; omega
              · generalize hlv : lastV k r = lv at *
                have HL := Lib.hid hlv
                clear hlv
                go_wp2_with fail
                refine (AW.out _).mono ?_
                rintro e w9 ⟨rfl, hb9⟩
                have b8 := below_call b4 b4.size hba
                have b9 := below_call b8 b8.size hb9
                go_wp2
                go_ret
                exact ⟨rfl, b9⟩
          · go_wp2_with fail
            refine (AW.out _).mono ?_
            rintro e w9 ⟨rfl, hb9⟩
            have b9 := below_call bw bw.size hb9
            go_wp2
            go_ret
            exact ⟨rfl, b9⟩
end Go.Proofs.Ytdimlpcbbkokiaa
