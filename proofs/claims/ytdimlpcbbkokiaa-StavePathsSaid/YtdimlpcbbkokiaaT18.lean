/- Walk: no path is cheaper than the lines that are found (StaveLeast). -/
import Derived.Test.YtdimlpcbbkokiaaT16
import Derived.Test.YtdimlpcbbkokiaaT17
import Derived.Test.YtdimlpcbbkokiaaS7
import Derived.StillTailTactics
namespace Go.Proofs.Ytdimlpcbbkokiaa
open Go.RowKit Go.Shelf
set_option linter.unusedVariables false
attribute [local go_sem] Oper.semAt_some

set_option maxHeartbeats 1000000 in
theorem trace_empty (W H : Int) (A : Option Addr) (n c : Nat) (p : Int → Int) (w : World) (hA : ArrB w w.heap.size A n p) (hn : n ≤ maxLen) (hE : chk W H n p = 0) (h : W = 0 ∨ H = 0) :
    Calls Try.prog 19 #[.agg #[.int .i64 W, .int .i64 H, .slice A n c]] w fun e w' => e = .returned (.tuple #[.slice none 0 0, .int .i64 0]) ∧ Below w.heap.size w w' := by
  have CK := Lib.hid fun w' hA' => check_any W H A n c p w' hA' hn
  rw [hE] at CK
  have KI : Blk (w.alloc (.cells #[.int .i64 W, .int .i64 H, .slice A n c] 24)) w.heap.size 24 #[.int .i64 W, .int .i64 H, .slice A n c] := Blk.new _ _ _
  have KA := hA.alloc1 (.cells #[.int .i64 W, .int .i64 H, .slice A n c] 24)
  have B1 : Below w.heap.size w (w.alloc (.cells #[.int .i64 W, .int .i64 H, .slice A n c] 24)) := by (repeat (first | exact Below.refl _ _ | assumption | refine Below.drew ?_ | refine below_drewN ?_ _ | refine Below.alloc ?_ (by first | omega | (simp; done) | (simp; omega)) _ | refine Below.setCell ?_ (by first | omega | (simp; done) | (simp; omega)) _ | refine below_setRow ?_ (by first | omega | (simp; done) | (simp; omega)) _ ))
  go_enter Try.func19, Try.ntmps19
  go_wp2_with fail
  refine (CK.out _ KA).mono ?_
  rintro e w1 ⟨rfl, hb1⟩
  have b1 := below_call B1 B1.size hb1
  have k1 := KI.below' hb1
  clear KI KA B1 hb1
  obtain ⟨q1, q2, q3⟩ := k1.cells3
  by_cases hw : W = 0
  · have bW : (W == 0) = true := by simp [hw]
    have HW := Lib.hid hw
    clear hw h
    go_wp2
    refine bodyPost_ret (results_tmp2 rfl _ _ _) rfl ?_
    exact ⟨rfl, b1⟩
  · have bW : (W == 0) = false := by simp [hw]
    have bH : (H == 0) = true := by have : H = 0 := by omega
                                    simp [this]
    clear hw h
    go_wp2
    refine bodyPost_ret (results_tmp2 rfl _ _ _) rfl ?_
    exact ⟨rfl, b1⟩

theorem cost_of {W H : Int} {N n : Nat} {p l : Int → Int} (hE : chk W H N p = 0) (hI : isPathB W H n l = true) : costE W H N p n l = 0 ∧ costV W H N p n l = costP (cst p W) l n := by
  have h : costE W H N p n l = 0 := by unfold costE; rw [if_neg (by simp [hE]), hI]; rfl
  exact ⟨h, by unfold costV; rw [if_pos h]⟩
theorem IsP.pathB {W H : Int} {l : Nat → Int} (h : IsP W H l W.toNat) (hW : 1 ≤ W) (hH : 1 ≤ H) : isPathB W H W.toNat (fun i => l i.toNat) = true :=
  path_B hW hH (by omega) (fun x x0 x1 => h.1 x.toNat (by omega)) (fun x x0 x1 => by have := h.2 x.toNat (by omega); show l x.toNat - 1 ≤ l (x + 1).toNat ∧ l (x + 1).toNat ≤ l x.toNat + 1; rw [show (x + 1).toNat = x.toNat + 1 by omega]; exact this)
theorem IsP.least {W H : Int} {p : Int → Int} {l : Nat → Int} (h : IsP W H l W.toNat) (hW : 1 ≤ W) (hH : 1 ≤ H) : GC 1073741824 W H (cst p W) 0 ≤ costP (cst p W) (fun i => l i.toNat) W.toNat :=
  least_all (cst_bd p W) (by omega) (by omega) (fun x x0 x1 => h.1 x.toNat (by omega)) (fun x x0 x1 => by have := h.2 x.toNat (by omega); show l x.toNat - 1 ≤ l (x + 1).toNat ∧ l (x + 1).toNat ≤ l x.toNat + 1; rw [show (x + 1).toNat = x.toNat + 1 by omega]; exact this)
theorem sorted_apart {W H : Int} {p : Int → Int} {K : Nat} {L : List Nat} (hW : 1 ≤ W) (hW2 : W ≤ 640) (hH : 1 ≤ H) (hK : Many 1073741824 W H (cst p W) K) (hp : L.Perm (List.range K)) (hs : L.Pairwise (fun i j => LN 1073741824 W H (cst p W) i 0 ≤ LN 1073741824 W H (cst p W) j 0)) {t : Nat} (ht : t + 1 < K) (x : Nat) (hx : (x : Int) < W) :
    LN 1073741824 W H (cst p W) (L.getD t 0) x + 2 < LN 1073741824 W H (cst p W) (L.getD (t + 1) 0) x := by
  have hlen : L.length = K := by rw [hp.length_eq, List.length_range]
  have g1 : L.getD t 0 = L[t]'(by omega) := by rw [List.getD_eq_getElem?_getD, List.getElem?_eq_getElem (by omega)]; rfl
  have g2 : L.getD (t + 1) 0 = L[t + 1]'(by omega) := by rw [List.getD_eq_getElem?_getD, List.getElem?_eq_getElem (by omega)]; rfl
  have hn : L.Nodup := hp.nodup_iff.2 List.nodup_range
  have m1 := List.mem_range.1 (hp.mem_iff.1 (List.getElem_mem (l := L) (n := t) (by omega)))
  have m2 := List.mem_range.1 (hp.mem_iff.1 (List.getElem_mem (l := L) (n := t + 1) (by omega)))
  rw [g1, g2]
  refine ln_apart (cst_bd p W) (by omega) (by omega) (by omega) ?_ (hK.2.1 _ m1).1 (hK.2.1 _ m2).1 (List.pairwise_iff_getElem.1 hs t (t + 1) (by omega) (by omega) (by omega)) x hx
  intro e
  have := (List.pairwise_iff_getElem.1 hn) t (t + 1) (by omega) (by omega) (by omega)
  exact this e
theorem first_in {K : Nat} {L : List Nat} (hp : L.Perm (List.range K)) (hK : 0 < K) : ∃ t, t < K ∧ L.getD t 0 = 0 := by
  have hm : 0 ∈ L := hp.mem_iff.2 (List.mem_range.2 hK)
  obtain ⟨t, ht, e⟩ := List.getElem_of_mem hm
  refine ⟨t, by rw [hp.length_eq, List.length_range] at ht; exact ht, ?_⟩
  rw [List.getD_eq_getElem?_getD, List.getElem?_eq_getElem ht, e]; rfl
theorem ln_pathB {W H : Int} {p : Int → Int} {k : Nat} (hW : 1 ≤ W) (hW2 : W ≤ 640) (hH : 1 ≤ H) (hg : GC 1073741824 W H (cst p W) k < 1073741824) : isPathB W H W.toNat (fun j => LN 1073741824 W H (cst p W) k j.toNat) = true :=
  path_B hW hH (by omega) (fun x x0 x1 => by have := ln_ok (cst_bd p W) (by omega) (by omega) (by omega) hg x.toNat (by omega); exact ⟨this.1, this.2.1⟩)
    (fun x x0 x1 => by have := ln_step (cst_bd p W) (by omega) (by omega) (by omega) hg x.toNat (by omega); show LN _ _ _ _ _ x.toNat - 1 ≤ LN _ _ _ _ _ (x + 1).toNat ∧ LN _ _ _ _ _ (x + 1).toNat ≤ LN _ _ _ _ _ x.toNat + 1; rw [show (x + 1).toNat = x.toNat + 1 by omega]; exact this)
/-- ink in a row of pixels -/
def inkRow (q : Int → Int) (b : Int) (x : Nat) : Int → Int := fun i => if b ≤ i ∧ i < b + x then 1 else q i
theorem Lines3 {w : World} {B K : Nat} {L : List Nat} {W : Int} {ln : Nat → Nat → Int} {vs : Nat → Value} {v : Value} (hr : w.ownsRow B 25 1 v K (L.map vs)) (hl : ∀ i, i < K → w.ownsRow B 3 1 (vs i) W.toNat ((List.range W.toNat).map fun j => Value.int .i64 (ln i j))) (hL : ∀ i ∈ L, i < K) (hW : 0 < W) :
    ∃ A c, v = .slice A K c ∧ L.length = K ∧ ∀ t, t < K → ∃ b off gt ct, A = some ⟨b, off, none⟩ ∧ b < w.heap.size ∧ w.cell? ⟨b, off + t, none⟩ = some (.slice (some ⟨gt, 0, none⟩) W.toNat ct) ∧ ArrI w w.heap.size (some ⟨gt, 0, none⟩) W.toNat (fun j => ln (L.getD t 0) j.toNat) ∧ L.getD t 0 < K := by
  have hlen : L.length = K := by have := hr.1; simpa using this
  obtain ⟨A, c, e, -, ha⟩ := own_arr hr
  refine ⟨A, c, e, hlen, fun t ht => ?_⟩
  obtain ⟨b, off, e1, hb, hc⟩ := Arr.at_ ha (i := (t : Int)) (by omega) (by omega)
  rw [Int.toNat_natCast] at hc
  have hg : L.getD t 0 = L[t]'(by omega) := by rw [List.getD_eq_getElem?_getD, List.getElem?_eq_getElem (by omega)]; rfl
  have hm := hl (L.getD t 0) (hL _ (by rw [hg]; exact List.getElem_mem _))
  obtain ⟨gt, ct, e2⟩ := own_some hm (by omega)
  obtain ⟨A2, c2, e3, ha2⟩ := own_arrI hm
  rw [e2] at e3
  cases e3
  refine ⟨b, off, gt, ct, e1, hb, ?_, ha2, hL _ (by rw [hg]; exact List.getElem_mem _)⟩
  rw [hc, List.getD_eq_getElem?_getD, List.getElem?_map, List.getElem?_eq_getElem (by omega), ← e2, hg]; rfl

set_option maxRecDepth 100000 in
set_option maxHeartbeats 4000000 in
theorem staveLeast_any (s f f1 : Int) (A B : Option Addr) (n c m d : Nat) (r r' : Int → Int) (w : World) (hA : ArrB w w.heap.size A n r) (hn : n ≤ maxLen) (hr : IsB r) (hs : 0 ≤ s ∧ s ≤ 65535) (hf : 0 ≤ f ∧ f ≤ 255) (hf1 : 0 ≤ f1 ∧ f1 ≤ 255) (hB : ArrB w w.heap.size B m r') (hm : m ≤ maxLen) (hr' : IsB r') :
    Calls Try.prog 4 #[.int .u16 s, .slice A n c, .int .u8 f, .int .u8 f1, .slice B m d] w fun e w' => e = .returned (.bool true) ∧ Below w.heap.size w w' := by
  obtain ⟨hs0, hs1⟩ := hs
  obtain ⟨W, hW⟩ : ∃ W, s % 41 = W := ⟨_, rfl⟩
  obtain ⟨H, hH⟩ : ∃ H, s / 41 % 31 = H := ⟨_, rfl⟩
  have W1 : 0 ≤ W ∧ W ≤ 40 := by omega
  have H1 : 0 ≤ H ∧ H ≤ 30 := by omega
  obtain ⟨W1, W2⟩ := W1
  obtain ⟨H1, H2⟩ := H1
  have wh := area_bd (W := W) (H := H) (by omega) (by omega) (by omega) (by omega)
  obtain ⟨N, hN⟩ : ∃ N : Nat, (N : Int) = W * H := ⟨(W * H).toNat, by omega⟩
  have MD := Lib.hid fun w' hA' => made_any s W H A n c r w' hA' hn hr hs0 hs1 hW hH N hN
  obtain ⟨q, hq⟩ : ∃ q, q = bitQ n r := ⟨_, rfl⟩
  rw [← hq] at MD
  have q01 : ∀ i, 0 ≤ q i ∧ q i ≤ 1 := fun i => by rw [hq]; exact bitQ_01 n r i
  have AW := Lib.hid fun w' => awake3_any w'
  have HN := Lib.hid hN
  have NB : (N : Int) ≤ 409600 := by omega
  clear hq hW hH hN hs0 hs1 wh
  go_enter Try.func4, Try.ntmps4
  go_wp2_with fail
  refine (MD.out _ hA).mono ?_
  rintro e w1 ⟨_, rfl, ⟨g, rfl, hg, kg⟩, b1⟩
  have b2 : Below w.heap.size w (w1.alloc (.cells #[.int .i64 W, .int .i64 H, .slice (some ⟨g, 0, none⟩) N N] 24)) := b1.alloc b1.size _
  have kg2 := kg.alloc (.cells #[.int .i64 W, .int .i64 H, .slice (some ⟨g, 0, none⟩) N N] 24)
  have kx2 := Blk.new w1 24 #[.int .i64 W, .int .i64 H, .slice (some ⟨g, 0, none⟩) N N]
  have z1 := b1.size
  have z2 := kg.lt
  obtain ⟨p1, p2, p3⟩ := kx2.cells3
  by_cases hE : W = 0 ∨ H = 0
  · have CE := chk_mk (W := W) (H := H) (n := N) (p := q) W1 (by omega) H1 (by omega) HN.out (fun i _ _ => (q01 i).2)
    have T0 := Lib.hid fun w' hA' => trace_empty W H (some ⟨g, 0, none⟩) N N q w' hA' (by unfold maxLen; omega) CE hE
    clear CE
    by_cases hw : W = 0
    · have bW : (W == 0) = true := by simp [hw]
      have HW := Lib.hid hw
      clear hw hE
      go_wp2_with fail
      refine (T0.out _ (kg2.arrB kg2.lt)).mono ?_
      rintro e w3 ⟨rfl, hb3⟩
      have b3 := below_call b2 b2.size hb3
      clear b2 kg2 kx2 p1 p2 p3 kg b1
      go_wp2_with fail
      refine (AW.out _).mono ?_
      rintro e w4 ⟨rfl, hb4⟩
      have b4 := below_call b3 b3.size hb4
      go_wp2
      go_ret
      exact ⟨rfl, b4⟩
    · have bW : (W == 0) = false := by simp [hw]
      have bH : (H == 0) = true := by have : H = 0 := by omega
                                      simp [this]
      clear hw hE
      go_wp2_with fail
      refine (T0.out _ (kg2.arrB kg2.lt)).mono ?_
      rintro e w3 ⟨rfl, hb3⟩
      have b3 := below_call b2 b2.size hb3
      clear b2 kg2 kx2 p1 p2 p3 kg b1
      go_wp2_with fail
      refine (AW.out _).mono ?_
      rintro e w4 ⟨rfl, hb4⟩
      have b4 := below_call b3 b3.size hb4
      go_wp2
      go_ret
      exact ⟨rfl, b4⟩
  · have bW : (W == 0) = false := by simp; omega
    have bH : (H == 0) = false := by simp; omega
    have W3 : 1 ≤ W := by omega
    have H3 : 1 ≤ H := by omega
    have t1 : f.tmod 3 = f % 3 := Int.tmod_eq_emod_of_nonneg hf.1
    clear hE
    by_cases h3 : f % 3 = 0
    · have b3 : (f % 3 == 0) = true := by simp [h3]
      have HF := Lib.hid h3
      clear h3
      go_wp2_with fail
      generalize hw2 : w1.alloc (.cells #[.int .i64 W, .int .i64 H, .slice (some ⟨g, 0, none⟩) N N] 24) = w2 at *
      generalize hgx : w1.heap.size = gx at *
      clear hw2 hgx kg b1 p1 p2 p3
      have ngx : g ≠ gx := by omega
      obtain ⟨Y, hY⟩ : ∃ Y, f % H = Y := ⟨_, rfl⟩
      have Y0 : 0 ≤ Y := by rw [← hY]; exact Int.emod_nonneg _ (by omega)
      have Y1 : Y < H := by rw [← hY]; exact Int.emod_lt_of_pos _ (by omega)
      have u1 : f.tmod H = Y := by rw [← hY]; exact Int.tmod_eq_emod_of_nonneg hf.1
      have u2 : IntKind.i64.wrap f = f := IntWalk.i64_in _ (by omega)
      have nH : ¬ H = 0 := by omega
      obtain ⟨-, s2, s3⟩ := idx_lt (x := 0) (y := Y) (W := W) (H := H) (by omega) (by omega) Y0 Y1
      clear hY
      go_loopw [56] (fun s wr => ∃ x : Nat, (x : Int) ≤ W ∧ s = .int .i64 x ∧ Below w.heap.size w wr ∧ Blk wr gx 24 #[.int .i64 W, .int .i64 H, .slice (some ⟨g, 0, none⟩) N N] ∧ Blk wr g 5 (u8s N (inkRow q (Y * W) x))) (fun s _ => (W - intOf s).toNat)
      case atStart => exact ⟨0, by omega, rfl, b2, kx2, kg2.u8conv fun i _ _ => by unfold inkRow; rw [if_neg (by omega)]⟩
      case round =>
        obtain ⟨x, hx, rfl, bx, kxx, kgx⟩ := hrel
        clear b2 kx2 kg2
        obtain ⟨p1, p2, p3⟩ := kxx.cells3
        by_cases xl : (x : Int) < W
        · obtain ⟨i1, i2, i3⟩ := idx_lt (x := (x : Int)) (y := Y) (W := W) (H := H) (by omega) xl Y0 Y1
          rw [Int.mul_comm H W] at i2
          have i4 : Y * W + x < (N : Int) := by have := HN.out; omega
          have u3 : IntKind.i64.wrap (Y * W) = Y * W := IntWalk.i64_in _ (by omega)
          have u4 : IntKind.i64.wrap (Y * W + x) = Y * W + x := IntWalk.i64_in _ (by omega)
          have cg := kgx.u8at i1 i4
          have fg := kgx.frozen (Y * W + x).toNat
          have KS := Lib.hid (kgx.u8set (Y * W + x) i1 1)
          go_wp2_with fail
          go_still_tail 13, (by kernel_rfl)
          change wpList _ _ _ _ _ wr.drew
          clear u3 u4
          go_wp2
          go_roundw
          case rel => exact ⟨x + 1, by omega, by go_num, by (repeat (first | exact Below.refl _ _ | assumption | refine Below.drew ?_ | refine below_drewN ?_ _ | refine Below.alloc ?_ (by first | omega | (simp; done) | (simp; omega)) _ | refine Below.setCell ?_ (by first | omega | (simp; done) | (simp; omega)) _ | refine below_setRow ?_ (by first | omega | (simp; done) | (simp; omega)) _ )), kxx.drew.far (p := ⟨g, (Y * W + x).toNat, none⟩) (fun e => ngx e.symm) _, Blk.u8conv (by simpa using KS.out.drew) fun j _ _ => by (show (if j = Y * W + x then (1 : Int) else inkRow q (Y * W) x j) = inkRow q (Y * W) (x + 1) j; unfold inkRow; split <;> split <;> (try split) <;> first | rfl | omega)⟩
          case measure => simp [intOf]; omega
        · obtain ⟨P, hP⟩ : ∃ P, P = inkRow q (Y * W) x := ⟨_, rfl⟩
          have P01 : ∀ i, 0 ≤ P i ∧ P i ≤ 1 := fun i => by rw [hP]; unfold inkRow; split; omega; exact q01 i
          rw [← hP] at kgx
          have b2 := bx; have kx2 := kxx; have kg2 := kgx
          clear hP bx kxx kgx u1 u2
          have b3 : (f % 3 == 0) = true := b3
          go_wp2_with fail
          clear p1 p2 p3
          have PB : IsB P := fun i => by have := P01 i; omega
          have CE := chk_mk (W := W) (H := H) (n := N) (p := P) W1 (by omega) H1 (by omega) HN.out (fun i _ _ => (P01 i).2)
          refine (trace_ok W H (some ⟨g, 0, none⟩) N N P _ (kg2.arrB kg2.lt) (by unfold maxLen; omega) PB CE W3 H3).mono ?_
          rintro e w3 ⟨_, rfl, ⟨vo, rfl, hT⟩, hb3⟩
          obtain ⟨K, L, vs, hK, hp, hso, hr3, hl3⟩ := hT
          have hLK : ∀ i ∈ L, i < K := fun i hi => List.mem_range.1 (hp.mem_iff.1 hi)
          obtain ⟨Av, cv, rfl, hLl, LI⟩ := Lines3 hr3 hl3 hLK (by omega)
          have b3 := below_call b2 b2.size hb3
          have kg3 := kg2.below' hb3
          have kx3 := kx2.below' hb3
          have cb := cst_bd P W
          have KG : ∀ i, i < K → GC 1073741824 W H (cst P W) i < 1073741824 ∧ 8 * GC 1073741824 W H (cst P W) i ≤ W := fun i hi => hK.2.1 i hi
          have CO := Lib.hid fun (l : Int → Int) A' A2 c' d' w' hA' hP' hI => cost_all W H A' A2 N c' W.toNat d' P l 0 (costP (cst P W) l W.toNat) w' hA' (by unfold maxLen; omega) PB hP' (by unfold maxLen; omega) (cost_of CE hI).1 (cost_of CE hI).2
          have WK := Lib.hid fun w' hB' => walk_any W H f1 (some ⟨g, 0, none⟩) B N N m d r' w' hB' hm hr' hf1 ⟨W3, by omega⟩ ⟨H3, by omega⟩
          have HB3 := Lib.hid (hB.to b3)
          have HKM := Lib.hid hK; have HLI := Lib.hid LI; have HKG := Lib.hid KG; have HLK := Lib.hid hLK; have HSO := Lib.hid hso; have HPE := Lib.hid hp
          have kb : K ≤ 60 := hK.1
          clear hK LI KG hLK hso hp hr3 hl3 b2 kg2 kx2 hb3
          obtain ⟨p1, p2, p3⟩ := kx3.cells3
          have y1 := World.new_ne w3 _ p1
          go_wp2_with fail
          go_region_held3 (fun w' => w'.cell? ⟨gx, 0, none⟩ = some (.int .i64 W) ∧ w'.cell? ⟨gx, 1, none⟩ = some (.int .i64 H) ∧ w'.cell? ⟨gx, 2, none⟩ = some (.slice (some ⟨g, 0, none⟩) N N))
            (first | (simp [go_sem, *]; done) | (go_keep; done))
            (first
              | (go_at_call 25
                 refine (WK.out _ (show ArrB w3.drew w3.drew.heap.size _ _ _ from HB3.out)).mono ?_
                 rintro e w5 ⟨_, rfl, ⟨l, hP, own5⟩, hb5⟩
                 obtain ⟨g5, c5, rfl⟩ := own_some own5 (by omega)
                 obtain ⟨A5, c5', e5, ha5⟩ := own_arrI own5
                 cases e5
                 have b5 : Below w3.heap.size w3 w5 := below_call (Below.refl w3.heap.size w3).drew (Nat.le_refl _) hb5
                 have kx5 := kx3.below' b5
                 have kg5 := kg3.below' b5
                 obtain ⟨x1, x2, x3⟩ := kx5.cells3)
              | (go_at_call 16
                 refine (CO.out (fun i => l i.toNat) _ _ _ _ _ (kg5.arrB kg5.lt) ha5 (hP.pathB W3 H3)).mono ?_
                 rintro e w7 ⟨rfl, hb7⟩
                 have b7 := below_call b5 b5.size hb7
                 have kx7 := kx5.below' hb7
                 obtain ⟨x1, x2, x3⟩ := kx7.cells3))
          have LM := hP.least (p := P) W3 H3
          obtain ⟨M, hM⟩ : ∃ M, costP (cst P W) (fun i => l i.toNat) W.toNat = M := ⟨_, rfl⟩
          have Mb := costP_bd cb (fun i => l i.toNat) W.toNat
          rw [hM] at LM Mb ⊢
          obtain ⟨M1, M2⟩ := Mb
          have LM := Lib.hid LM
          have b8 := below_call b3 b3.size b7
          have kg7 := kg3.below' b7
          have v8 : IntKind.i64.wrap (8 * M) = 8 * M := IntWalk.i64_in _ (by omega)
          clear hM hb5 hb7 own5 ha5 hP kx5 kg5 b5 p1 p2 p3 x1 x2 x3 cb
          obtain ⟨p1, p2, p3⟩ := kx7.cells3
          have zk : K = 0 → ¬ 8 * M ≤ W := fun k0 => by
            have hk := HKM.out
            have h1 := hk.2.2 (by omega)
            have h2 := LM.out
            intro h3
            exact h1 (by rw [k0]; exact ⟨by omega, by omega⟩)
          by_cases k0 : K = 0
          · have hz := zk k0
            have k0' : ((K : Int) == 0) = true := by simp [k0]
            have d1 : decide (8 * M ≤ W) = false := decide_eq_false hz
            go_wp2_with fail
            go_loopw [107] (fun s wr => s = .int .i64 0 ∧ wr = w7) (fun s _ => 0)
            case atStart => exact ⟨rfl, rfl⟩
            case round =>
              obtain ⟨rfl, rfl⟩ := hrel
              have kk : ¬ ((0 : Int) < (K : Int)) := by omega
              go_wp2_with fail
              refine (AW.out _).mono ?_
              rintro e w9 ⟨rfl, hb9⟩
              have b9 := below_call b8 b8.size hb9
              go_wp2
              go_ret
              exact ⟨rfl, b9⟩
          · have k0' : ((K : Int) == 0) = false := by simp; omega
            go_wp2_with fail
            have AP := Lib.hid fun (t : Nat) (ht : t + 1 < K) (x : Nat) (hx : (x : Int) < W) => sorted_apart (p := P) W3 (by omega) H3 HKM.out HPE.out HSO.out ht x hx
            obtain ⟨t0, ht0, et0⟩ := first_in HPE.out (by omega : 0 < K)
            have PBL := Lib.hid fun k (hg : GC 1073741824 W H (cst P W) k < 1073741824) => ln_pathB (p := P) W3 (by omega) H3 hg
            have LC := Lib.hid fun k (hg : GC 1073741824 W H (cst P W) k < 1073741824) => ln_cost (N := 1073741824) (W := W) (H := H) (c := cst P W) (k := k) (cst_bd P W) (by omega) (by omega) (by omega) hg
            obtain ⟨b0, off0, -, -, eA, hb0, -, -, -⟩ := HLI.out t0 ht0
            subst eA
            have LNB := Lib.hid fun k (hg : GC 1073741824 W H (cst P W) k < 1073741824) (x : Nat) (hx : (x : Int) < W) => ln_ok (cst_bd P W) (by omega) (by omega) (by omega) hg x hx
            have GC0 := Lib.hid fun k (hg : GC 1073741824 W H (cst P W) k < 1073741824) => (by
              have := ln_cost (N := 1073741824) (W := W) (H := H) (c := cst P W) (k := k) (cst_bd P W) (by omega) (by omega) (by omega) hg
              have := costP_bd (cst_bd P W) (fun i => LN 1073741824 W H (cst P W) k i.toNat) W.toNat
              omega : 0 ≤ GC 1073741824 W H (cst P W) k)
            have T0 := Lib.hid et0
            generalize hgc : GC 1073741824 W H (cst P W) = G at *
            generalize hln : LN 1073741824 W H (cst P W) = ln at *
            clear hgc hln et0 zk
            have Wn0 : (W.toNat : Int) = W := by omega
            generalize W.toNat = Wn at *
            have HWn := Lib.hid Wn0
            clear Wn0 M2
            go_loopw [19, 107] (fun Lv s w8 => ∃ (i : Nat) (Lm : Int), i ≤ K ∧ s = .int .i64 i ∧ Lv = .int .i64 Lm ∧ 0 ≤ Lm ∧ Lm ≤ 1073741824 ∧ (∀ t, t < i → Lm ≤ G (L.getD t 0)) ∧ Below w7.heap.size w7 w8) (fun _ s _ => K - (intOf s).toNat)
            case atStart => exact ⟨0, 1073741824, by omega, rfl, rfl, by omega, by omega, fun t ht => by omega, Below.refl _ _⟩
            case round =>
              obtain ⟨i, Lm, hi, rfl, rfl, l0, l1, hlm, hbr⟩ := hrel
              have kxr := kx7.below' hbr
              have kgr := kg7.below' hbr
              have bw := b7.trans (hbr.mono b7.size)
              have b9 := below_call b8 b8.size hbr
              have HLM := Lib.hid hlm
              clear p1 p2 p3 hlm
              obtain ⟨p1, p2, p3⟩ := kxr.cells3
              by_cases hlt : (i : Int) < K
              · obtain ⟨b1', off1, gt, ct, e1, hb1', hc1, ha1, hii⟩ := HLI.out i (by omega)
                cases e1
                obtain ⟨gd1, gd2⟩ := HKG.out _ hii
                have gd0 := GC0.out _ gd1
                have hc := (bw.cell (p := ⟨b0, off0 + i, none⟩) hb0).trans hc1
                have ha := ha1.to bw
                go_wp2_with fail
                refine (CO.out (fun j => ln (L.getD i 0) j.toNat) _ _ _ _ _ (kgr.arrB kgr.lt) ha (PBL.out _ gd1)).mono ?_
                rintro e w10 ⟨rfl, hb10⟩
                rw [LC.out _ gd1]
                have b10 := below_call b9 b9.size hb10
                have bw10 := below_call bw bw.size hb10
                have kx10 := kxr.below' hb10
                have hbr10 := below_call hbr hbr.size hb10
                have HGI : Hid (∃ C, G (L.getD i 0) = C) := by show ∃ _, _; exact ⟨_, rfl⟩
                obtain ⟨C, hC⟩ := HGI.out
                rw [hC] at gd0 gd1 gd2 ⊢
                have HC := Lib.hid hC
                have v9 : IntKind.i64.wrap (8 * C) = 8 * C := IntWalk.i64_in _ (by omega)
                clear HGI hC hb10 p1 p2 p3 hc ha kxr kgr
                obtain ⟨p1, p2, p3⟩ := kx10.cells3
                have ND : ¬ (8 * C > W) := by omega
                go_wp2_with fail
                go_loopw [132] (fun s w9 => ∃ x : Nat, x ≤ Wn ∧ s = .int .i64 x ∧ Below w10.heap.size w10 w9) (fun s _ => Wn - (intOf s).toNat)
                case atStart => exact ⟨0, by omega, rfl, Below.refl _ _⟩
                case round =>
                  obtain ⟨x, hx, rfl, hbx⟩ := hrel
                  clear p1 p2 p3
                  have bwx := below_call bw10 bw10.size hbx
                  by_cases xl : (x : Int) < Wn
                  · have xW : (x : Int) < W := by have := HWn.out; omega
                    obtain ⟨b3', o3, e3, -, hcx⟩ := ArrI.at_ (ha1.to bwx) (i := (x : Int)) (by omega) (by omega)
                    cases e3
                    rw [Int.toNat_natCast, Nat.zero_add] at hcx
                    obtain ⟨a0, a1, -⟩ := LNB.out _ (HKG.out _ hii).1 x xW
                    by_cases i0 : i = 0
                    · have d0 : decide ((0 : Int) < (i : Int)) = false := decide_eq_false (by omega)
                      have d0' : decide (0 < i) = false := decide_eq_false (by omega)
                      clear i0
                      go_wp2_with fail
                      go_quiet (fail)
                      go_wp2
                      go_roundw
                      case rel => exact ⟨x + 1, by omega, by go_num, below_drewN hbx nq⟩
                      case measure => simp [intOf]; omega
                    · obtain ⟨k, rfl⟩ : ∃ k, i = k + 1 := ⟨i - 1, by omega⟩
                      obtain ⟨b2', off2, gt2, ct2, e2, hb2', hc2, ha2, hkk⟩ := HLI.out k (by omega)
                      cases e2
                      have hck := (bwx.cell (p := ⟨b0, off0 + k, none⟩) hb0).trans hc2
                      obtain ⟨b4', o4, e4, -, hcy⟩ := ArrI.at_ (ha2.to bwx) (i := (x : Int)) (by omega) (by omega)
                      cases e4
                      rw [Int.toNat_natCast, Nat.zero_add] at hcy
                      obtain ⟨a2, a3, -⟩ := LNB.out _ (HKG.out _ hkk).1 x xW
                      have ap := AP.out k (by omega) x xW
                      generalize ln (L.getD (k + 1) 0) x = va at *
                      generalize ln (L.getD k 0) x = vb at *
                      have k1 : (((k + 1 : Nat) : Int)) = (k : Int) + 1 := by omega
                      have d1 : decide (va - vb ≤ 2) = false := decide_eq_false (by omega)
                      have v10 : IntKind.i64.wrap (va - vb) = va - vb := IntWalk.i64_in _ (by omega)
                      have d2 : decide ((0 : Int) < (k : Int) + 1) = true := decide_eq_true (by omega)
                      have d3 : (0 : Int) < (k : Int) + 1 := by omega
                      have kK : (k : Int) < (K : Int) := by omega
                      rw [k1]
                      go_wp2_with fail
                      go_quiet (fail)
                      go_wp2
                      go_roundw
                      case rel => exact ⟨x + 1, by omega, by go_num, below_drewN hbx nq⟩
                      case measure => simp [intOf]; omega
                  · obtain rfl : x = Wn := by omega
                    go_wp2_with fail
                    go_roundw
                    case rel =>
                      refine ⟨i + 1, _, by omega, by go_num, rfl, by omega, by omega, fun t ht => ?_, below_call hbr10 hbr10.size hbx⟩
                      rcases Nat.lt_succ_iff_lt_or_eq.1 ht with h | rfl
                      · have := HLM.out t h; omega
                      · rw [HC.out]; omega
                    case measure => simp [intOf]; omega
              · obtain rfl : i = K := by omega
                have ll : Lm ≤ M := by
                  have h1 := HLM.out t0 ht0
                  rw [T0.out] at h1
                  have := LM.out
                  omega
                go_wp2_with fail
                refine (AW.out _).mono ?_
                rintro e w11 ⟨rfl, hb11⟩
                have b11 := below_call b9 b9.size hb11
                go_wp2
                go_ret
                exact ⟨rfl, b11⟩
    · have b3 : (f % 3 == 0) = false := by simp; omega
      go_wp2_with fail
      generalize hw2 : w1.alloc (.cells #[.int .i64 W, .int .i64 H, .slice (some ⟨g, 0, none⟩) N N] 24) = w2 at *
      generalize hgx : w1.heap.size = gx at *
      clear hw2 hgx kg b1 p1 p2 p3
      obtain ⟨P, hP⟩ : ∃ P, P = q := ⟨_, rfl⟩
      rw [← hP] at kg2 q01
      have P01 := q01
      clear hP
      have PB : IsB P := fun i => by have := P01 i; omega
      have CE := chk_mk (W := W) (H := H) (n := N) (p := P) W1 (by omega) H1 (by omega) HN.out (fun i _ _ => (P01 i).2)
      refine (trace_ok W H (some ⟨g, 0, none⟩) N N P _ (kg2.arrB kg2.lt) (by unfold maxLen; omega) PB CE W3 H3).mono ?_
      rintro e w3 ⟨_, rfl, ⟨vo, rfl, hT⟩, hb3⟩
      obtain ⟨K, L, vs, hK, hp, hso, hr3, hl3⟩ := hT
      have hLK : ∀ i ∈ L, i < K := fun i hi => List.mem_range.1 (hp.mem_iff.1 hi)
      obtain ⟨Av, cv, rfl, hLl, LI⟩ := Lines3 hr3 hl3 hLK (by omega)
      have b3 := below_call b2 b2.size hb3
      have kg3 := kg2.below' hb3
      have kx3 := kx2.below' hb3
      have cb := cst_bd P W
      have KG : ∀ i, i < K → GC 1073741824 W H (cst P W) i < 1073741824 ∧ 8 * GC 1073741824 W H (cst P W) i ≤ W := fun i hi => hK.2.1 i hi
      have CO := Lib.hid fun (l : Int → Int) A' A2 c' d' w' hA' hP' hI => cost_all W H A' A2 N c' W.toNat d' P l 0 (costP (cst P W) l W.toNat) w' hA' (by unfold maxLen; omega) PB hP' (by unfold maxLen; omega) (cost_of CE hI).1 (cost_of CE hI).2
      have WK := Lib.hid fun w' hB' => walk_any W H f1 (some ⟨g, 0, none⟩) B N N m d r' w' hB' hm hr' hf1 ⟨W3, by omega⟩ ⟨H3, by omega⟩
      have HB3 := Lib.hid (hB.to b3)
      have HKM := Lib.hid hK; have HLI := Lib.hid LI; have HKG := Lib.hid KG; have HLK := Lib.hid hLK; have HSO := Lib.hid hso; have HPE := Lib.hid hp
      have kb : K ≤ 60 := hK.1
      clear hK LI KG hLK hso hp hr3 hl3 b2 kg2 kx2 hb3
      obtain ⟨p1, p2, p3⟩ := kx3.cells3
      have y1 := World.new_ne w3 _ p1
      go_wp2_with fail
      go_region_held3 (fun w' => w'.cell? ⟨gx, 0, none⟩ = some (.int .i64 W) ∧ w'.cell? ⟨gx, 1, none⟩ = some (.int .i64 H) ∧ w'.cell? ⟨gx, 2, none⟩ = some (.slice (some ⟨g, 0, none⟩) N N))
        (first | (simp [go_sem, *]; done) | (go_keep; done))
        (first
          | (go_at_call 25
             refine (WK.out _ (show ArrB w3.drew w3.drew.heap.size _ _ _ from HB3.out)).mono ?_
             rintro e w5 ⟨_, rfl, ⟨l, hP, own5⟩, hb5⟩
             obtain ⟨g5, c5, rfl⟩ := own_some own5 (by omega)
             obtain ⟨A5, c5', e5, ha5⟩ := own_arrI own5
             cases e5
             have b5 : Below w3.heap.size w3 w5 := below_call (Below.refl w3.heap.size w3).drew (Nat.le_refl _) hb5
             have kx5 := kx3.below' b5
             have kg5 := kg3.below' b5
             obtain ⟨x1, x2, x3⟩ := kx5.cells3)
          | (go_at_call 16
             refine (CO.out (fun i => l i.toNat) _ _ _ _ _ (kg5.arrB kg5.lt) ha5 (hP.pathB W3 H3)).mono ?_
             rintro e w7 ⟨rfl, hb7⟩
             have b7 := below_call b5 b5.size hb7
             have kx7 := kx5.below' hb7
             obtain ⟨x1, x2, x3⟩ := kx7.cells3))
      have LM := hP.least (p := P) W3 H3
      obtain ⟨M, hM⟩ : ∃ M, costP (cst P W) (fun i => l i.toNat) W.toNat = M := ⟨_, rfl⟩
      have Mb := costP_bd cb (fun i => l i.toNat) W.toNat
      rw [hM] at LM Mb ⊢
      obtain ⟨M1, M2⟩ := Mb
      have LM := Lib.hid LM
      have b8 := below_call b3 b3.size b7
      have kg7 := kg3.below' b7
      have v8 : IntKind.i64.wrap (8 * M) = 8 * M := IntWalk.i64_in _ (by omega)
      clear hM hb5 hb7 own5 ha5 hP kx5 kg5 b5 p1 p2 p3 x1 x2 x3 cb
      obtain ⟨p1, p2, p3⟩ := kx7.cells3
      have zk : K = 0 → ¬ 8 * M ≤ W := fun k0 => by
        have hk := HKM.out
        have h1 := hk.2.2 (by omega)
        have h2 := LM.out
        intro h3
        exact h1 (by rw [k0]; exact ⟨by omega, by omega⟩)
      by_cases k0 : K = 0
      · have hz := zk k0
        have k0' : ((K : Int) == 0) = true := by simp [k0]
        have d1 : decide (8 * M ≤ W) = false := decide_eq_false hz
        go_wp2_with fail
        go_loopw [107] (fun s wr => s = .int .i64 0 ∧ wr = w7) (fun s _ => 0)
        case atStart => exact ⟨rfl, rfl⟩
        case round =>
          obtain ⟨rfl, rfl⟩ := hrel
          have kk : ¬ ((0 : Int) < (K : Int)) := by omega
          go_wp2_with fail
          refine (AW.out _).mono ?_
          rintro e w9 ⟨rfl, hb9⟩
          have b9 := below_call b8 b8.size hb9
          go_wp2
          go_ret
          exact ⟨rfl, b9⟩
      · have k0' : ((K : Int) == 0) = false := by simp; omega
        go_wp2_with fail
        have AP := Lib.hid fun (t : Nat) (ht : t + 1 < K) (x : Nat) (hx : (x : Int) < W) => sorted_apart (p := P) W3 (by omega) H3 HKM.out HPE.out HSO.out ht x hx
        obtain ⟨t0, ht0, et0⟩ := first_in HPE.out (by omega : 0 < K)
        have PBL := Lib.hid fun k (hg : GC 1073741824 W H (cst P W) k < 1073741824) => ln_pathB (p := P) W3 (by omega) H3 hg
        have LC := Lib.hid fun k (hg : GC 1073741824 W H (cst P W) k < 1073741824) => ln_cost (N := 1073741824) (W := W) (H := H) (c := cst P W) (k := k) (cst_bd P W) (by omega) (by omega) (by omega) hg
        obtain ⟨b0, off0, -, -, eA, hb0, -, -, -⟩ := HLI.out t0 ht0
        subst eA
        have LNB := Lib.hid fun k (hg : GC 1073741824 W H (cst P W) k < 1073741824) (x : Nat) (hx : (x : Int) < W) => ln_ok (cst_bd P W) (by omega) (by omega) (by omega) hg x hx
        have GC0 := Lib.hid fun k (hg : GC 1073741824 W H (cst P W) k < 1073741824) => (by
          have := ln_cost (N := 1073741824) (W := W) (H := H) (c := cst P W) (k := k) (cst_bd P W) (by omega) (by omega) (by omega) hg
          have := costP_bd (cst_bd P W) (fun i => LN 1073741824 W H (cst P W) k i.toNat) W.toNat
          omega : 0 ≤ GC 1073741824 W H (cst P W) k)
        have T0 := Lib.hid et0
        generalize hgc : GC 1073741824 W H (cst P W) = G at *
        generalize hln : LN 1073741824 W H (cst P W) = ln at *
        clear hgc hln et0 zk
        have Wn0 : (W.toNat : Int) = W := by omega
        generalize W.toNat = Wn at *
        have HWn := Lib.hid Wn0
        clear Wn0 M2
        go_loopw [19, 107] (fun Lv s w8 => ∃ (i : Nat) (Lm : Int), i ≤ K ∧ s = .int .i64 i ∧ Lv = .int .i64 Lm ∧ 0 ≤ Lm ∧ Lm ≤ 1073741824 ∧ (∀ t, t < i → Lm ≤ G (L.getD t 0)) ∧ Below w7.heap.size w7 w8) (fun _ s _ => K - (intOf s).toNat)
        case atStart => exact ⟨0, 1073741824, by omega, rfl, rfl, by omega, by omega, fun t ht => by omega, Below.refl _ _⟩
        case round =>
          obtain ⟨i, Lm, hi, rfl, rfl, l0, l1, hlm, hbr⟩ := hrel
          have kxr := kx7.below' hbr
          have kgr := kg7.below' hbr
          have bw := b7.trans (hbr.mono b7.size)
          have b9 := below_call b8 b8.size hbr
          have HLM := Lib.hid hlm
          clear p1 p2 p3 hlm
          obtain ⟨p1, p2, p3⟩ := kxr.cells3
          by_cases hlt : (i : Int) < K
          · obtain ⟨b1', off1, gt, ct, e1, hb1', hc1, ha1, hii⟩ := HLI.out i (by omega)
            cases e1
            obtain ⟨gd1, gd2⟩ := HKG.out _ hii
            have gd0 := GC0.out _ gd1
            have hc := (bw.cell (p := ⟨b0, off0 + i, none⟩) hb0).trans hc1
            have ha := ha1.to bw
            go_wp2_with fail
            refine (CO.out (fun j => ln (L.getD i 0) j.toNat) _ _ _ _ _ (kgr.arrB kgr.lt) ha (PBL.out _ gd1)).mono ?_
            rintro e w10 ⟨rfl, hb10⟩
            rw [LC.out _ gd1]
            have b10 := below_call b9 b9.size hb10
            have bw10 := below_call bw bw.size hb10
            have kx10 := kxr.below' hb10
            have hbr10 := below_call hbr hbr.size hb10
            have HGI : Hid (∃ C, G (L.getD i 0) = C) := by show ∃ _, _; exact ⟨_, rfl⟩
            obtain ⟨C, hC⟩ := HGI.out
            rw [hC] at gd0 gd1 gd2 ⊢
            have HC := Lib.hid hC
            have v9 : IntKind.i64.wrap (8 * C) = 8 * C := IntWalk.i64_in _ (by omega)
            clear HGI hC hb10 p1 p2 p3 hc ha kxr kgr
            obtain ⟨p1, p2, p3⟩ := kx10.cells3
            have ND : ¬ (8 * C > W) := by omega
            go_wp2_with fail
            go_loopw [132] (fun s w9 => ∃ x : Nat, x ≤ Wn ∧ s = .int .i64 x ∧ Below w10.heap.size w10 w9) (fun s _ => Wn - (intOf s).toNat)
            case atStart => exact ⟨0, by omega, rfl, Below.refl _ _⟩
            case round =>
              obtain ⟨x, hx, rfl, hbx⟩ := hrel
              clear p1 p2 p3
              have bwx := below_call bw10 bw10.size hbx
              by_cases xl : (x : Int) < Wn
              · have xW : (x : Int) < W := by have := HWn.out; omega
                obtain ⟨b3', o3, e3, -, hcx⟩ := ArrI.at_ (ha1.to bwx) (i := (x : Int)) (by omega) (by omega)
                cases e3
                rw [Int.toNat_natCast, Nat.zero_add] at hcx
                obtain ⟨a0, a1, -⟩ := LNB.out _ (HKG.out _ hii).1 x xW
                by_cases i0 : i = 0
                · have d0 : decide ((0 : Int) < (i : Int)) = false := decide_eq_false (by omega)
                  have d0' : decide (0 < i) = false := decide_eq_false (by omega)
                  clear i0
                  go_wp2_with fail
                  go_quiet (fail)
                  go_wp2
                  go_roundw
                  case rel => exact ⟨x + 1, by omega, by go_num, below_drewN hbx nq⟩
                  case measure => simp [intOf]; omega
                · obtain ⟨k, rfl⟩ : ∃ k, i = k + 1 := ⟨i - 1, by omega⟩
                  obtain ⟨b2', off2, gt2, ct2, e2, hb2', hc2, ha2, hkk⟩ := HLI.out k (by omega)
                  cases e2
                  have hck := (bwx.cell (p := ⟨b0, off0 + k, none⟩) hb0).trans hc2
                  obtain ⟨b4', o4, e4, -, hcy⟩ := ArrI.at_ (ha2.to bwx) (i := (x : Int)) (by omega) (by omega)
                  cases e4
                  rw [Int.toNat_natCast, Nat.zero_add] at hcy
                  obtain ⟨a2, a3, -⟩ := LNB.out _ (HKG.out _ hkk).1 x xW
                  have ap := AP.out k (by omega) x xW
                  generalize ln (L.getD (k + 1) 0) x = va at *
                  generalize ln (L.getD k 0) x = vb at *
                  have k1 : (((k + 1 : Nat) : Int)) = (k : Int) + 1 := by omega
                  have d1 : decide (va - vb ≤ 2) = false := decide_eq_false (by omega)
                  have v10 : IntKind.i64.wrap (va - vb) = va - vb := IntWalk.i64_in _ (by omega)
                  have d2 : decide ((0 : Int) < (k : Int) + 1) = true := decide_eq_true (by omega)
                  have d3 : (0 : Int) < (k : Int) + 1 := by omega
                  have kK : (k : Int) < (K : Int) := by omega
                  rw [k1]
                  go_wp2_with fail
                  go_quiet (fail)
                  go_wp2
                  go_roundw
                  case rel => exact ⟨x + 1, by omega, by go_num, below_drewN hbx nq⟩
                  case measure => simp [intOf]; omega
              · obtain rfl : x = Wn := by omega
                go_wp2_with fail
                go_roundw
                case rel =>
                  refine ⟨i + 1, _, by omega, by go_num, rfl, by omega, by omega, fun t ht => ?_, below_call hbr10 hbr10.size hbx⟩
                  rcases Nat.lt_succ_iff_lt_or_eq.1 ht with h | rfl
                  · have := HLM.out t h; omega
                  · rw [HC.out]; omega
                case measure => simp [intOf]; omega
          · obtain rfl : i = K := by omega
            have ll : Lm ≤ M := by
              have h1 := HLM.out t0 ht0
              rw [T0.out] at h1
              have := LM.out
              omega
            go_wp2_with fail
            refine (AW.out _).mono ?_
            rintro e w11 ⟨rfl, hb11⟩
            have b11 := below_call b9 b9.size hb11
            go_wp2
            go_ret
            exact ⟨rfl, b11⟩
end Go.Proofs.Ytdimlpcbbkokiaa
