/- Texts of mine in build order: T54, T62, T68, T69, Open3. Conditions: each theorem's own. -/
import Derived.Test.YtdimlpcbbkokiaaMStaveRunsx12
/- Walk: StaveHarm. The start is turned from T46. -/
namespace Go.Proofs.Ytdimlpcbbkokiaa
open Go.RowKit Go.Shelf
set_option linter.unusedVariables false
attribute [local go_sem] Oper.semAt_some
theorem StavesIn.belowB {w w' : World} {B : Nat} {A : Option Addr} {k : Nat} {K : Nat → Nat} {m : Nat → Nat → Nat} {ln : Nat → Nat → Nat → Int} (h : StavesIn w B A k K m ln) (hb : Below B w w') : StavesIn w' B A k K m ln := fun i hi => by
  obtain ⟨b, off, AL, cL, rfl, h1, h2, h3⟩ := h i hi
  exact ⟨b, off, AL, cL, rfl, h1, (hb.cell (p := ⟨b, off + i, none⟩) h1).trans h2, h3.belowB hb⟩
/-- the pixels that lines go through, marked -/
def lnB (W : Int) (L : Nat → Nat → Int) (t : Nat) (x : Int) : Int → Bool := fun j => decide (wvQ W L t x j = 1)
section
variable {W : Int} {L : Nat → Nat → Int} {t : Nat} {x i : Int}
theorem lnB_start (hW : 0 < W) : lnB W L (5 * 0) 0 i = false := by unfold lnB; rw [show 5 * 0 = 0 from rfl, wvQ_start hW]; rfl
theorem lnB_line (hW : 0 < W) : lnB W L t W i = lnB W L (t + 1) 0 i := by unfold lnB; rw [wvQ_line hW]
theorem lnB_set (x0 : 0 ≤ x) (x1 : x < W) : (if i = L t x.toNat * W + x then true else lnB W L t x i) = lnB W L t (x + 1) i := by
  have h := wvQ_set (L := L) (t := t) (i := i) x0 x1
  unfold upd at h
  unfold lnB
  rw [← h]
  split
  · rfl
  · rfl
end
theorem lnB_on {W : Int} {L : Nat → Nat → Int} {ns K1 : Nat} {e : Int} (hK : W = K1) (hW : 0 < W) (he : 0 ≤ e) : lnB W L (5 * ns) 0 e = true ↔ OnLine (fun i j => L (5 * i + j)) ns K1 W e := by
  have m0 := Int.emod_nonneg e (show W ≠ 0 by omega)
  have m1 := Int.emod_lt_of_pos e hW
  have hd := Int.emod_add_mul_ediv e W
  have key : lnB W L (5 * ns) 0 e = true ↔ ∃ s, s < 5 * ns ∧ L s (e % W).toNat = e / W := by
    unfold lnB
    rw [decide_eq_true_iff]
    unfold wvQ
    constructor
    · intro h
      split at h
      · rename_i c
        rcases c with c | c
        · obtain ⟨s, h1, h2⟩ := List.any_eq_true.1 c
          exact ⟨s, List.mem_range.1 h1, of_decide_eq_true h2⟩
        · omega
      · omega
    · rintro ⟨s, h1, h2⟩
      rw [if_pos (.inl (List.any_eq_true.2 ⟨s, List.mem_range.2 h1, decide_eq_true h2⟩))]
  rw [key]
  constructor
  · rintro ⟨s, h1, h2⟩
    refine ⟨s / 5, s % 5, (e % W).toNat, by omega, by omega, by omega, ?_⟩
    show L (5 * (s / 5) + s % 5) (e % W).toNat * W + ((e % W).toNat : Int) = e
    rw [show 5 * (s / 5) + s % 5 = s by omega, h2, Int.toNat_of_nonneg m0, Int.mul_comm]
    omega
  · rintro ⟨i, j, x, h1, h2, h3, h4⟩
    have h4' : L (5 * i + j) x * W + (x : Int) = e := h4
    have q1 := idx_mod (y := L (5 * i + j) x) (x := x) (W := W) (by omega) (by omega)
    have q2 := idx_div (y := L (5 * i + j) x) (x := x) (W := W) (by omega) (by omega)
    rw [h4'] at q1 q2
    refine ⟨5 * i + j, by omega, ?_⟩
    rw [q1, q2, Int.toNat_natCast]
/-- one of the first d places from y on is marked -/
def metB (f : Nat → Bool) (y : Nat) : Nat → Bool
  | 0 => false
  | d + 1 => metB f y d || f (y + d)
theorem metB_iff {f : Nat → Bool} {y : Nat} : ∀ {d : Nat}, metB f y d = true ↔ ∃ j, y ≤ j ∧ j < y + d ∧ f j = true
  | 0 => by simp [metB]; intro j h1 h2; omega
  | d + 1 => by
    rw [metB, Bool.or_eq_true, metB_iff]
    constructor
    · rintro (⟨j, h1, h2, h3⟩ | h)
      · exact ⟨j, h1, by omega, h3⟩
      · exact ⟨y + d, by omega, by omega, h⟩
    · rintro ⟨j, h1, h2, h3⟩
      by_cases c : j = y + d
      · subst c; exact .inr h3
      · exact .inl ⟨j, h1, by omega, h3⟩
theorem StavesIn.moreB {w : World} {B B' : Nat} {A : Option Addr} {k : Nat} {K : Nat → Nat} {m : Nat → Nat → Nat} {ln : Nat → Nat → Nat → Int} (h : StavesIn w B A k K m ln) (hB : B ≤ B') : StavesIn w B' A k K m ln := fun i hi => by
  obtain ⟨b, off, AL, cL, rfl, h1, h2, h3⟩ := h i hi
  exact ⟨b, off, AL, cL, rfl, Nat.lt_of_lt_of_le h1 hB, h2, h3.more hB⟩
theorem or01 {a b : Int} (ha : a = 0 ∨ a = 1) (hb : b = 0 ∨ b = 1) : ∃ v, bits BinOp.or IntKind.u8 a b = v ∧ (v = 0 ∨ v = 1) := by
  rcases ha with rfl | rfl <;> rcases hb with rfl | rfl
  · exact ⟨0, rfl, .inl rfl⟩
  · exact ⟨1, rfl, .inr rfl⟩
  · exact ⟨1, rfl, .inr rfl⟩
  · exact ⟨1, rfl, .inr rfl⟩
theorem StOut.stavesIn {Bs M n : Nat} {w : World} {L : Nat → Nat → Int} {v : Value} {vs : Nat → Value} (h : StOut Bs w (fun _ => M) L ((List.range n).map (5 * ·)) v vs) : ∃ A c, v = .slice A n c ∧ StavesIn w w.heap.size A n (fun _ => 5) (fun _ _ => M) (fun i j => L (5 * i + j)) := by
  have hrow := h.row
  rw [List.length_map, List.length_range] at hrow
  by_cases hn : 0 < n
  · obtain ⟨gv, cv, csv, ev, -, hbv, hcv⟩ := own_blk hrow hn
    refine ⟨_, _, ev, fun i hi => ?_⟩
    obtain ⟨lv, hFv⟩ := h.each i (by simpa using hi)
    obtain ⟨A5, c5, e5, -, -, LC⟩ := hFv.toLines
    have hst : (((List.range n).map (5 * ·)).getD i 0) = 5 * i := by simp [List.getD_eq_getElem?_getD, hi]
    rw [hst] at LC
    have hc5 := hcv i hi
    rw [List.getElem?_map, List.getElem?_range hi, Option.map_some, e5] at hc5
    exact ⟨gv, 0, A5, c5, rfl, hbv.lt, by rw [Nat.zero_add, hbv.cell]; exact hc5, LC⟩
  · obtain ⟨A, c, e, -, -⟩ := own_arr hrow
    exact ⟨A, c, e, fun i hi => by omega⟩

set_option maxRecDepth 100000 in
set_option maxHeartbeats 8000000 in
theorem staveHarm_any (wd sv mo : Int) (A AB : Option Addr) (n c nb cb : Nat) (p pb : Int → Int) (w : World) (hA : ArrB w w.heap.size A n p) (hn : n ≤ maxLen) (hnc : n ≤ c) (hB : IsB p) (hAB : ArrB w w.heap.size AB nb pb) (hnb : nb ≤ maxLen) (hBB : IsB pb)
    (hwd : 0 ≤ wd ∧ wd ≤ 255) (hsv : 0 ≤ sv ∧ sv ≤ 255) (hmo : 0 ≤ mo ∧ mo ≤ 255) :
    Calls Try.prog 7 #[.int .u8 wd, .int .u8 sv, .slice A n c, .slice AB nb cb, .int .u8 mo] w fun e w' => e = .returned (.bool true) ∧ Below w.heap.size w w' := by
  have AW := Lib.hid fun w' => awake3_any w'
  obtain ⟨W, hW⟩ : ∃ W, 40 + wd % 120 = W := ⟨_, rfl⟩
  obtain ⟨k, hk⟩ : ∃ k : Nat, W = (k : Int) + 1 := ⟨(W - 1).toNat, by omega⟩
  obtain ⟨M, hM⟩ : ∃ M : Nat, (M : Int) = min (n : Int) 14 := ⟨min n 14, by omega⟩
  obtain ⟨low, hlow⟩ : ∃ l, minA (rsF p M) k = l := ⟨_, rfl⟩
  obtain ⟨high, hhigh⟩ : ∃ l, maxA (rsF p M) k = l := ⟨_, rfl⟩
  obtain ⟨ns, hns⟩ : ∃ ns : Nat, 1 + sv % 3 = (ns : Int) := ⟨(1 + sv % 3).toNat, by omega⟩
  obtain ⟨H, hH⟩ : ∃ H, H = 5 + (high - low) + (ns : Int) * 24 + ((ns : Int) - 1) * 12 + 6 := ⟨_, rfl⟩
  have hW0 : 40 ≤ W ∧ W ≤ 159 := by omega
  have hn3 : ns ≤ 3 ∧ 1 ≤ ns := by omega
  have hM14 : M ≤ 14 := by omega
  have hR0 : ∀ x : Int, 0 ≤ x → x < W → low ≤ rsF p M x ∧ rsF p M x ≤ high := by
    intro x x0 x1
    have h2 := (minAq_le (q := rsF p M) (minA := minA) (fun _ => rfl) (fun _ _ => rfl) k).1 x x0 (by omega)
    have h3 := (maxAq_ge (q := rsF p M) (maxA := maxA) (fun _ => rfl) (fun _ _ => rfl) k).1 x x0 (by omega)
    rw [hlow] at h2
    rw [hhigh] at h3
    exact ⟨h2, h3⟩
  have hlo : -14 ≤ low ∧ low ≤ 14 := by
    obtain ⟨-, j, -, -, e⟩ := minAq_le (q := rsF p M) (minA := minA) (fun _ => rfl) (fun _ _ => rfl) k
    have := rsF_bd (p := p) M j
    rw [← hlow, e]; omega
  have hhi : low ≤ high ∧ high ≤ 14 := by
    obtain ⟨-, j, -, -, e⟩ := maxAq_ge (q := rsF p M) (maxA := maxA) (fun _ => rfl) (fun _ _ => rfl) k
    have h1 := rsF_bd (p := p) M j
    have h2 := hR0 0 (by omega) (by omega)
    rw [hhigh] at e
    omega
  have hH0 : 1 ≤ H ∧ H ≤ 640 := by omega
  have nbd := area_bd (W := W) (H := H) (by omega) (by omega) (by omega) hH0.2
  obtain ⟨N, hN⟩ : ∃ N : Nat, (N : Int) = W * H := ⟨(W * H).toNat, Int.toNat_of_nonneg nbd.1⟩
  obtain ⟨MO, hMO⟩ : ∃ MO, mo % 41 = MO := ⟨_, rfl⟩
  have hMOb : 0 ≤ MO ∧ MO ≤ 40 := by omega
  have WV := Lib.hid fun w' hA' => wavy_any wd sv W low high H A n c k M ns N p w' hA' hn hnc hB hwd hsv hW hk hM hlow hhigh hns hH hN
  have FITS := Lib.hid fun (t : Nat) (ht : t < ns) => wavy_fits (t := t) (R := rsF p M) hk hH ht hW0.1 hR0 (fun i => (rsF_near (p := p) M i).1)
  obtain ⟨L, hL⟩ : ∃ L, L = wvL low (rsF p M) := ⟨_, rfl⟩
  rw [← hL] at WV FITS
  obtain ⟨K1, hK1⟩ : ∃ K1, k + 1 = K1 := ⟨_, rfl⟩
  rw [hK1] at FITS
  have hkK : W = (K1 : Int) := by omega
  have HK := Lib.hid hkK; have HMO := Lib.hid hMO; have HN := Lib.hid hN
  have hWn : W.toNat = K1 := by omega
  have HWN := Lib.hid hWn
  have NB : (N : Int) ≤ 409600 := by omega
  clear hW hM hlow hhigh hns hH hR0 hL hMO hk hkK hK1 hWn hB hN nbd
  obtain ⟨hmo1, hmo2⟩ := hmo
  obtain ⟨hMO1, hMO2⟩ := hMOb
  obtain ⟨Hn, hHn⟩ : ∃ Hn : Nat, H = Hn := ⟨H.toNat, by omega⟩
  subst hHn
  go_enter Try.func7, Try.ntmps7
  go_wp2_with fail
  refine (WV.out _ hA).mono ?_
  rintro e w1 ⟨_, rfl, ⟨gp, Bs, vo, vs, rfl, hgp, hgB, kp, hS⟩, hb1⟩
  rw [HWN.out] at hS
  obtain ⟨Ao, co, eo, -, -⟩ := own_arr hS.row
  rw [List.length_map, List.length_range] at eo
  subst eo
  have zz1 := hb1.size
  have kx := Blk.new w1 24 #[.int .i64 W, .int .i64 (Hn : Int), .slice (some ⟨gp, 0, none⟩) N N]
  have kp2 := kp.alloc (.cells #[.int .i64 W, .int .i64 (Hn : Int), .slice (some ⟨gp, 0, none⟩) N N] 24)
  have S2 := hS.below ((Below.refl _ _).alloc (Nat.le_refl _) (.cells #[.int .i64 W, .int .i64 (Hn : Int), .slice (some ⟨gp, 0, none⟩) N N] 24))
  have b2 : Below w.heap.size w (w1.alloc (.cells #[.int .i64 W, .int .i64 (Hn : Int), .slice (some ⟨gp, 0, none⟩) N N] 24)) := hb1.alloc zz1 _
  have hgx : gp ≠ w1.heap.size := by have := kp.lt; omega
  clear hS kp hb1 WV hA
  go_wp2_with fail
  generalize w1.alloc (.cells #[.int .i64 W, .int .i64 (Hn : Int), .slice (some ⟨gp, 0, none⟩) N N] 24) = w2 at *
  generalize w1.heap.size = bx at *
  obtain ⟨q0, hq0⟩ : ∃ q0, wvQ W L (5 * ns) 0 = q0 := ⟨_, rfl⟩
  have hq01 : Is01 q0 := by rw [← hq0]; exact wvQ_is01
  rw [hq0] at kp2
  clear hq0
  have hxB := kx.lt
  generalize hB2 : w2.heap.size = B2 at *
  go_loopw [41] (fun s wr => ∃ i : Nat, i ≤ N ∧ s = .int .i64 i ∧ But B2 gp w2 wr ∧ ∃ q, Is01 q ∧ Blk wr gp 5 (u8s N q)) (fun s _ => N - (intOf s).toNat)
  case atStart => exact ⟨0, by omega, rfl, But.refl _ (by omega), q0, hq01, kp2⟩
  case round =>
    obtain ⟨i, hi, rfl, bu, q, hq, ap⟩ := hrel
    clear kp2 hq01
    have ax := kx.but bu hxB (fun e => hgx e.symm)
    obtain ⟨x1, x2, x3⟩ := ax.cells3
    by_cases il : (i : Int) < N
    · have i0 : (0 : Int) ≤ i := by omega
      have t1 : (i : Int).tmod 1201 = (i : Int) % 1201 := Int.tmod_eq_emod_of_nonneg i0
      have e0 : 0 ≤ (i : Int) % 1201 ∧ (i : Int) % 1201 ≤ 1200 := by omega
      obtain ⟨K, hK⟩ : ∃ K, (i : Int) % 1201 = K := ⟨_, rfl⟩
      rw [hK] at t1 e0
      have HK1 := Lib.hid hK
      obtain ⟨e1, e2⟩ := e0
      have t3 : IntKind.i64.wrap (K.tdiv 8) = K / 8 := by rw [Int.tdiv_eq_ediv_of_nonneg e1]; exact IntWalk.i64_in _ (by omega)
      have d0 : 0 ≤ K / 8 := by omega
      by_cases hb : K / 8 < nb
      · have d1 : 0 ≤ K % 8 := by omega
        have d2 : K % 8 < 8 := by omega
        have d3 : K % 8 ≤ 8 := by omega
        have t4 : K.tmod 8 = K % 8 := Int.tmod_eq_emod_of_nonneg e1
        obtain ⟨bA, off, rfl, hbA, hcell⟩ := ArrB.at_ (ArrB.below hAB (b2.trans (bu.to hB2 (show w.heap.size ≤ gp by omega) (by have := b2.size; omega)))) d0 hb
        obtain ⟨hr2, hr3⟩ := hBB (K / 8)
        generalize pb (K / 8) = r at *
        have hv : 0 ≤ r / 2 ^ (K % 8).toNat ∧ r / 2 ^ (K % 8).toNat ≤ 255 := by
          have h1 : (0 : Int) < 2 ^ (K % 8).toNat := Int.pow_pos (by omega)
          exact ⟨Int.ediv_nonneg hr2 (by omega), Int.le_trans (Int.ediv_le_self _ hr2) hr3⟩
        obtain ⟨hv1, hv2⟩ := hv
        have bv := and_one_u8 _ hv1 hv2
        obtain ⟨v, hxv, hv01⟩ := or01 (hq (i : Int)) (bit01 hv1)
        have ho := ap.u8at i0 il
        have hf := ap.frozen i
        have UQ := Lib.hid (ap.u8set i i0 v)
        rw [Int.toNat_natCast] at ho
        have HV := Lib.hid hv01
        clear hv01
        go_wp2_with fail
        go_still_tail 16, (by kernel_rfl)
        change wpList _ _ _ _ _ wr.drew
        clear t1 t3 t4 bv hxv hK
        go_wp2
        go_roundw
        case rel => exact ⟨i + 1, by omega, by go_num, (bu.then (Below.refl B2 wr).drew).set _ _, _, upd01 hq HV.out, by simpa using UQ.out.drew⟩
        case measure => simp [intOf]; omega
      · go_wp2_with fail
        go_roundw
        case rel => exact ⟨i + 1, by omega, by go_num, bu, q, hq, ap⟩
        case measure => simp [intOf]; omega
    · obtain rfl : N = i := by omega
      have S5 := S2.but bu hB2 hgB
      have b3 : Below w.heap.size w wr := b2.trans (bu.to hB2 (show w.heap.size ≤ gp by omega) (by have := b2.size; omega))
      obtain ⟨As, cs, es, SI⟩ := S5.stavesIn
      injection es with es1 es2 es3
      subst es1 es3
      have hSI := Lib.hid SI
      have hq2 := hq
      clear S5 S2 SI es2 hq
      go_upto_region 9 with fail
      go_cut [15] (fun a wx => a = .int .i64 MO ∧ wx = wr)
      case first =>
        go_wp2_with fail
        go_meet
        exact ⟨by rw [← HMO.out], rfl⟩
      case rest =>
      obtain ⟨rfl, hwc⟩ := hcut
      obtain rfl : wr = wc := hwc.symm
      clear hwc
      obtain ⟨LN, hLN⟩ : ∃ LN : Nat → Nat → Nat → Int, LN = fun i j => L (5 * i + j) := ⟨_, rfl⟩
      rw [← hLN] at hSI
      have HLN := Lib.hid hLN
      have HFT := Lib.hid fun i (hi : i < ns) => (show stFits W Hn 5 (fun _ => K1) (LN i) = true from by rw [hLN]; exact stFits_iff.2 (FITS.out i hi))
      have hWk := HK.out
      have BDS := Lib.hid fun (a j x : Nat) (ha : a < ns) (hj : j < 5) (hx : x < K1) => (show 0 ≤ LN a j x ∧ LN a j x < Hn from by
        obtain ⟨-, g4⟩ := isPathB_iff.1 ((stFits_iff.1 (HFT.out a ha)).2.1 j hj)
        have h9 := stepB_iff.1 (g4 x (by omega) (show (x : Int) < (K1 : Int) by omega))
        simp only [Int.toNat_natCast] at h9
        exact ⟨h9.1, h9.2.1⟩)
      have hNk : N = K1 * Hn := by
        have h1 := HN.out
        rw [hWk] at h1
        exact_mod_cast h1
      obtain ⟨Q1, hQ1⟩ : ∃ Q1, Q1 = strike (colI q W Hn MO LN K1 ns) W q := ⟨_, rfl⟩
      have hq1 : Is01 Q1 := by rw [hQ1]; exact strike_01 hq2
      have hW1 := hWk
      have RUNS := Lib.hid fun (x f t : Nat) (hx : x < K1) (hr : RunOf q W Hn x f t) (y : Nat) (h1 : f ≤ y) (h2 : y < t) => (show Q1 ((y : Int) * W + x) = 0 ↔ (∃ j : Nat, f ≤ j ∧ j < t ∧ OnLine LN ns K1 W ((j : Int) * W + x)) ∧ (t : Int) - f ≤ MO from by
        rw [hQ1]; exact strike_run (l := colI q W Hn MO LN K1 ns) hW1 (fun _ => Iff.rfl) BDS.out hx hr h1 h2)
      have PAPER := Lib.hid fun (i : Int) (hi : q i = 0) => (show Q1 i = 0 from by rw [hQ1]; exact strike_paper hi)
      have AGAIN := Lib.hid (show colI Q1 W Hn MO LN K1 ns = [] from by
        rw [hQ1]; exact strike_again (l := colI q W Hn MO LN K1 ns) hW1 hq2 (fun _ => Iff.rfl) BDS.out)
      have RM := Lib.hid fun (f : Int → Int) (hf : Is01 f) (A' : Option Addr) (c' : Nat) w' hA' hS' => remove_ok W MO Hn K1 A' Ao N c' ns co f (fun _ => 5) (fun _ _ => K1) LN w' hW1 (by omega) (by omega) hA' hNk (fun i _ _ => hf i) (by omega) hS' (fun _ _ _ _ => by unfold maxLen; omega) HFT.out
      have RM1 := Lib.hid fun w' hA' hS' => RM.out q hq2 (some ⟨gp, 0, none⟩) N w' hA' hS'
      rw [← hQ1] at RM1
      have hWp : 0 < W := by omega
      clear hLN hQ1 hW1 hNk hWk
      obtain ⟨B0, hB0⟩ : ∃ B0, wr.heap.size = B0 := ⟨_, rfl⟩
      have HB0 := Lib.hid hB0
      have SI0 := Lib.hid (show StavesIn wr B0 Ao ns (fun _ => 5) (fun _ _ => K1) LN from hB0 ▸ hSI.out)
      go_wp2_with fail
      refine (RM1.out wr (ap.arrB ap.lt) hSI.out).mono ?_
      rintro e w7 ⟨_, rfl, ⟨A2, c2, rfl, hg2, ha2⟩, hb7⟩
      have b7 := below_call b3 b3.size hb7
      have z7 := hb7.size
      have hmk := makeO (N : Int) (by omega) (by omega)
      simp only [Int.toNat_natCast] at hmk
      have ax7 := (ax.below' hb7).alloc (.cells #[.int .i64 W, .int .i64 (Hn : Int), .slice A2 N c2] 24)
      have ap7 := (ap.below' hb7).alloc (.cells #[.int .i64 W, .int .i64 (Hn : Int), .slice A2 N c2] 24)
      have l7 := Blk.new w7 24 #[.int .i64 W, .int .i64 (Hn : Int), .slice A2 N c2]
      have bA7 : Below w7.heap.size w7 (w7.alloc (.cells #[.int .i64 W, .int .i64 (Hn : Int), .slice A2 N c2] 24)) := (Below.refl _ _).alloc (Nat.le_refl _) _
      have zA7 := bA7.size
      have bb7 := b7.trans (bA7.mono b7.size)
      rw [hB0] at z7
      have SI7 := Lib.hid ((SI0.out.belowB (hB0 ▸ hb7)).belowB (bA7.mono z7))
      have ha7 := ArrB.below ha2 bA7
      obtain ⟨b16, hb16⟩ : ∃ g, w7.heap.size = g := ⟨_, rfl⟩
      have zs : (w7.alloc (.cells #[.int .i64 W, .int .i64 (Hn : Int), .slice A2 N c2] 24)).heap.size = b16 + 1 := by simp [hb16]
      obtain ⟨p1, p2, p3⟩ := ax7.cells3
      obtain ⟨l1, l2, l3⟩ := l7.cells3
      rw [hb16] at l1 l2 l3 z7 l7 ha7
      clear x1 x2 x3 bu ax ap ha2 bA7 b7 b3 hSI RM1 hb7 zA7
      go_upto_region 11 with fail
      generalize w7.alloc (.cells #[.int .i64 W, .int .i64 (Hn : Int), .slice A2 N c2] 24) = w8 at *
      have HB16 := Lib.hid hb16
      go_wp2_with fail
      have bA8 : Below w8.heap.size w8 (w8.alloc (.cells (bools N (fun _ => false)) 4)) := (Below.refl _ _).alloc (Nat.le_refl _) _
      have ax9 := ax7.alloc (.cells (bools N (fun _ => false)) 4)
      have ap9 := ap7.alloc (.cells (bools N (fun _ => false)) 4)
      have l9 := l7.alloc (.cells (bools N (fun _ => false)) 4)
      have kl9 := Blk.new w8 4 (bools N (fun _ => false))
      have ha9 := ArrB.below ha7 (bA8.mono (show b16 ≤ w8.heap.size by omega))
      have bb9 := bb7.trans (bA8.mono bb7.size)
      have SI9 := Lib.hid (SI7.out.belowB (bA8.mono (by omega)))
      have zs9 : (w8.alloc (.cells (bools N (fun _ => false)) 4)).heap.size = b16 + 1 + 1 := by simp [zs]
      have zap := ap7.lt
      have zax := ax7.lt
      rw [zs] at kl9 zap zax
      clear hmk p1 p2 p3 l1 l2 l3 ax7 ap7 l7 ha7 bb7 SI7 bA8
      generalize w8.alloc (.cells (bools N (fun _ => false)) 4) = w9 at *
      go_loopw [109] (fun s wr => ∃ i : Nat, i ≤ ns ∧ s = .int .i64 i ∧ But (b16 + 1 + 1) (b16 + 1) w9 wr ∧ Blk wr (b16 + 1) 4 (bools N (lnB W L (5 * i) 0))) (fun s _ => ns - (intOf s).toNat)
      case atStart => exact ⟨0, by omega, rfl, But.refl _ (by omega), kl9.bconv fun j _ _ => (lnB_start hWp).symm⟩
      case round =>
        obtain ⟨i, hi, rfl, bu, kl⟩ := hrel
        clear kl9
        by_cases il : (i : Int) < ns
        · obtain ⟨bS, oS, AL, cL, eS, hbS, hcS, hLS⟩ := (SI9.out.belowB (bu.to zs9 (by omega) (by omega))) i (by omega)
          cases eS
          obtain ⟨gs, hgs⟩ : ∃ g, wr.heap.size = g := ⟨_, rfl⟩
          have zg := bu.size
          go_upto_region 17 with fail
          have bA := (Below.refl wr.heap.size wr).alloc (Nat.le_refl _) (.cells #[.slice AL 5 cL] 54)
          have ks := Blk.new wr 54 #[.slice AL 5 cL]
          have bu1 := bu.then ((Below.refl _ wr).alloc zg (.cells #[.slice AL 5 cL] 54))
          have kl1 := kl.alloc (.cells #[.slice AL 5 cL] 54)
          have zs1 : (wr.alloc (.cells #[.slice AL 5 cL] 54)).heap.size = gs + 1 := by simp [hgs]
          have hL1 := hLS.belowB (bA.mono (by omega))
          generalize wr.alloc (.cells #[.slice AL 5 cL] 54) = w10 at *
          rw [hgs] at ks zg
          have s1 := ks.cells0
          have ax1 := ax9.but bu1 (by omega) (by omega)
          clear bu kl hcS hLS hgs bA
          go_wp2_with fail
          clear s1
          go_loopw [116] (fun s wr => ∃ j : Nat, j ≤ 5 ∧ s = .int .i64 j ∧ But (gs + 1) (b16 + 1) w10 wr ∧ Blk wr (b16 + 1) 4 (bools N (lnB W L (5 * i + j) 0))) (fun s _ => 5 - (intOf s).toNat)
          case atStart => exact ⟨0, by omega, rfl, But.refl _ (by omega), kl1⟩
          case round =>
            obtain ⟨j, hj, rfl, bv, km⟩ := hrel
            clear kl1
            by_cases jl : (j : Int) < 5
            · obtain ⟨bA, oA, A1, c1, eA, hbA, hcA, haA⟩ := hL1.at_ (i := j) (by omega)
              cases eA
              have hcA' := ((bv.to zs1 (show B0 ≤ b16 + 1 by omega) (by omega)).cell (p := ⟨bA, oA + j, none⟩) hbA).trans hcA
              clear hcA
              go_wp2_with fail
              clear hcA'
              go_loopw [122] (fun s wr => ∃ x : Nat, x ≤ K1 ∧ s = .int .i64 x ∧ But (gs + 1) (b16 + 1) w10 wr ∧ Blk wr (b16 + 1) 4 (bools N (lnB W L (5 * i + j) x))) (fun s _ => K1 - (intOf s).toNat)
              case atStart => exact ⟨0, by omega, rfl, bv, km⟩
              case round =>
                obtain ⟨x, hx, rfl, bw, kn⟩ := hrel
                clear bv km
                by_cases xl : (x : Int) < K1
                · obtain ⟨b', o', eX, hbX, hcX⟩ := ArrI.at_ haA (i := (x : Int)) (by omega) xl
                  cases eX
                  obtain ⟨y0, y1⟩ := BDS.out i j x (by omega) (by omega) (by omega)
                  obtain ⟨y, hy⟩ : ∃ y : Nat, LN i j x = y := ⟨(LN i j x).toNat, by omega⟩
                  have hcX' := ((bw.to zs1 (show B0 ≤ b16 + 1 by omega) (by omega)).cell (p := ⟨b', o' + (x : Int).toNat, none⟩) hbX).trans hcX
                  rw [Int.toNat_natCast, hy] at hcX'
                  rw [hy] at y0 y1
                  have HYL := Lib.hid (show L (5 * i + j) x = y from by have h := hy; rw [HLN.out] at h; exact h)
                  have hxW : (x : Int) < W := by have := HK.out; omega
                  obtain ⟨e, he⟩ : ∃ e : Nat, (y : Int) * W + x = e := ⟨((y : Int) * W + x).toNat, by have := (idx_lt (x := x) (y := y) (W := W) (H := Hn) (by omega) hxW (by omega) (by omega)).1; omega⟩
                  have hen : (e : Int) < N := by
                    have h8 := (idx_lt (x := x) (y := y) (W := W) (H := Hn) (by omega) hxW (by omega) (by omega)).2.1
                    rw [he, Int.mul_comm, ← HN.out] at h8
                    exact h8
                  have v1 : IntKind.i64.wrap ((y : Int) * W) = (y : Int) * W := IntWalk.i64_in _ (by have := Int.mul_nonneg (show (0 : Int) ≤ y by omega) (show (0 : Int) ≤ W by omega); omega)
                  have v2 : IntKind.i64.wrap ((y : Int) * W + x) = (e : Int) := (IntWalk.i64_in _ (by omega)).trans he
                  have cg : wr.cell? ⟨b16 + 1, e, none⟩ = some (.bool (lnB W L (5 * i + j) x e)) := by
                    rw [kn.cell]
                    have h := cellsF_at (n := N) (f := fun j' => Value.bool (lnB W L (5 * i + j) x j')) (i := (e : Int)) (by omega) hen
                    rw [Int.toNat_natCast] at h
                    exact h
                  have fg := kn.frozen e
                  have KS := Lib.hid (kn.bset (e : Int) (by omega) true)
                  have ax2 := ax1.but bw (by omega) (by omega)
                  obtain ⟨p1, p2, p3⟩ := ax2.cells3
                  have HE := Lib.hid he
                  generalize lnB W L (5 * i + j) x e = old at *
                  clear he hy hcX
                  go_wp2_with fail
                  go_round
                  case rel => exact ⟨x + 1, by omega, by go_num, bw.set _ _, by
                    have h := KS.out
                    rw [Int.toNat_natCast] at h
                    refine h.bconv fun jj _ _ => ?_
                    have h2 := lnB_set (L := L) (t := 5 * i + j) (i := jj) (x := (x : Int)) (W := W) (by omega) hxW
                    rw [Int.toNat_natCast, HYL.out, HE.out] at h2
                    push_cast
                    exact h2⟩
                  case measure => simp [intOf]; omega
                · have hxK : x = K1 := by omega
                  have kn2 : Blk wr (b16 + 1) 4 (bools N (lnB W L (5 * i + (j + 1)) 0)) := kn.bconv fun jj _ _ => by
                    rw [show 5 * i + (j + 1) = 5 * i + j + 1 from rfl, ← lnB_line hWp, hxK, HK.out]
                  clear kn hxK
                  go_wp2_with fail
                  go_round
                  case rel => exact ⟨j + 1, by omega, by go_num, bw, kn2⟩
                  case measure => simp [intOf]; omega
            · have hj5 : j = 5 := by omega
              have km2 : Blk wr (b16 + 1) 4 (bools N (lnB W L (5 * (i + 1)) 0)) := by rw [hj5] at km; exact km
              have bz : But (b16 + 1 + 1) (b16 + 1) w9 wr := bu1.trans bv (by omega)
              clear km hj5
              go_wp2_with fail
              go_round
              case rel => exact ⟨i + 1, by omega, by go_num, bz, km2⟩
              case measure => simp [intOf]; omega
        · have hin : i = ns := by omega
          rw [hin] at kl
          have ax := ax9.but bu (by omega) (by omega)
          have ap := ap9.but bu (by omega) (by omega)
          have l := l9.but bu (by omega) (by omega)
          have hN1 : 0 < N := by
            have h1 := HN.out
            have h2 : 0 < W * (Hn : Int) := Int.mul_pos hWp (by omega)
            omega
          have haB := ArrB.below ha9 (bu.to zs9 (show b16 ≤ b16 + 1 by omega) (by omega))
          have HAB := Lib.hid haB
          obtain ⟨b2, o2, eA2, hb2, hc2⟩ := ArrB.fn haB (by omega)
          cases eA2
          have PIX := Lib.hid fun (e : Nat) (he : (e : Int) < N) => (show wr.cell? ⟨gp, e, none⟩ = some (.int .u8 (q e)) from by
            have h := ap.u8at (i := (e : Int)) (by omega) he
            rwa [Int.toNat_natCast] at h)
          have LEFT := Lib.hid fun (e : Nat) (he : (e : Int) < N) => (show wr.cell? ⟨b2, o2 + e, none⟩ = some (.int .u8 (Q1 e)) from by
            have h := hc2 (e : Int) (by omega) he
            rwa [Int.toNat_natCast] at h)
          have LIN := Lib.hid fun (e : Nat) (he : (e : Int) < N) => (show wr.cell? ⟨b16 + 1, e, none⟩ = some (.bool (lnB W L (5 * ns) 0 e)) from by
            have h := cellsF_at (n := N) (f := fun j' => Value.bool (lnB W L (5 * ns) 0 j')) (i := (e : Int)) (by omega) he
            rw [Int.toNat_natCast] at h
            rw [kl.cell]; exact h)
          have ONL := Lib.hid fun (e : Int) (he : 0 ≤ e) => (show lnB W L (5 * ns) 0 e = true ↔ OnLine LN ns K1 W e from by rw [HLN.out]; exact lnB_on HK.out hWp he)
          have SI11 := Lib.hid (SI9.out.belowB (bu.to zs9 (show B0 ≤ b16 + 1 by omega) (by omega)))
          have bb11 := bb9.trans (bu.to zs9 (show w.heap.size ≤ b16 + 1 by have := bb9.size; omega) (by have := bb9.size; omega))
          have IDX := Lib.hid fun (x y : Nat) (hx : x < K1) (hy : y < Hn) => (show ∃ e : Nat, (y : Int) * W + x = e ∧ (e : Int) < N ∧ IntKind.i64.wrap ((y : Int) * W) = (y : Int) * W ∧ IntKind.i64.wrap ((y : Int) * W + x) = (e : Int) from by
            have hxW : (x : Int) < W := by have := HK.out; omega
            have h8 := idx_lt (x := x) (y := y) (W := W) (H := Hn) (by omega) hxW (by omega) (by omega)
            have hyW := Int.mul_nonneg (show (0 : Int) ≤ y by omega) (show (0 : Int) ≤ W by omega)
            have h9 := h8.2.1
            rw [Int.mul_comm (Hn : Int) W, ← HN.out] at h9
            exact ⟨((y : Int) * W + x).toNat, by omega, by omega, IntWalk.i64_in _ (by omega), (IntWalk.i64_in _ (by omega)).trans (by omega)⟩)
          obtain ⟨lf, hlf⟩ : ∃ lf, lnB W L (5 * ns) 0 = lf := ⟨_, rfl⟩
          rw [hlf] at LIN ONL
          obtain ⟨p1, p2, p3⟩ := ax.cells3
          obtain ⟨l1, l2, l3⟩ := l.cells3
          have zb := bu.size
          have zgp := gp
          clear ax9 ap9 l9 ha9 bb9 SI9 kl hc2 haB hlf bu SI0 HB0 FITS HFT zgp
          generalize hw11 : wr = w11 at *
          clear hw11
          go_wp2_with fail
          go_loopw [140] (fun s wr => ∃ x : Nat, x ≤ K1 ∧ s = .int .i64 x ∧ w11 = wr) (fun s _ => K1 - (intOf s).toNat)
          case atStart => exact ⟨0, by omega, rfl, rfl⟩
          case round =>
            obtain ⟨x, hx, rfl, rfl⟩ := hrel
            by_cases xl : (x : Int) < W
            · have hxK : x < K1 := by have := HK.out; omega
              go_wp2_with fail
              go_loopw [26] (fun s wr => ∃ y : Nat, y ≤ Hn ∧ s = .int .i64 y ∧ Hid (∀ g : Nat, y = g + 1 → y < Hn → q ((g : Int) * W + x) = 1 → q ((y : Int) * W + x) ≠ 1) ∧ w11 = wr) (fun s _ => Hn - (intOf s).toNat)
              case atStart => exact ⟨0, by omega, rfl, Lib.hid (fun g h => by omega), rfl⟩
              case round =>
                obtain ⟨y, hy, rfl, INV, rfl⟩ := hrel
                by_cases yl : (y : Int) < Hn
                · obtain ⟨e, he, hen, v1, v2⟩ := IDX.out x y hxK (by omega)
                  have cp := PIX.out e hen
                  have HE := Lib.hid he
                  clear he
                  rcases hq2 e with hv | hv
                  · have cl := LEFT.out e hen
                    rw [PAPER.out e hv] at cl
                    rw [hv] at cp
                    have HV := Lib.hid hv
                    clear hv
                    go_wp2_with fail
                    go_round
                    case rel => exact ⟨y + 1, by omega, by go_num, Lib.hid (fun g h _ h1 => by
                      obtain rfl : g = y := by omega
                      rw [HE.out, HV.out] at h1; omega), trivial⟩
                    case measure => simp [intOf]; omega
                  · rw [hv] at cp
                    have HV := Lib.hid hv
                    clear hv
                    have UP : Hid (∀ g : Nat, y = g + 1 → q ((g : Int) * W + x) ≠ 1) := Lib.hid (fun g h h1 => INV.out g h (by omega) h1 (by rw [HE.out]; exact HV.out))
                    obtain ⟨mf, hmf⟩ : ∃ mf : Nat → Bool, mf = fun j : Nat => lf ((j : Int) * W + x) := ⟨_, rfl⟩
                    have HMF := Lib.hid hmf
                    clear hmf
                    go_upto_block 12 with fail
                    clear cp v1 v2
                    go_cut [27, 28] from 172 to 202 (fun a b wx => ∃ t : Nat, RunOf q W Hn x y t ∧ a = .int .i64 t ∧ b = .bool (metB mf y (t - y)) ∧ w11 = wx)
                    case first =>
                      go_wp2_with fail
                      go_loopw [27, 28] (fun a b wr => ∃ t : Nat, y ≤ t ∧ t ≤ Hn ∧ a = .int .i64 t ∧ b = .bool (metB mf y (t - y)) ∧ Hid (∀ j : Nat, y ≤ j → j < t → q ((j : Int) * W + x) = 1) ∧ w11 = wr) (fun a _ _ => Hn - (intOf a).toNat)
                      case atStart => exact ⟨y, by omega, by omega, rfl, by rw [Nat.sub_self]; rfl, Lib.hid (fun j h1 h2 => by omega), rfl⟩
                      case round =>
                        obtain ⟨t, hyt, ht, rfl, rfl, INK, rfl⟩ := hrel
                        by_cases tl : (t : Int) < Hn
                        · obtain ⟨e2, he2, hen2, v3, v4⟩ := IDX.out x t hxK (by omega)
                          have cp2 := PIX.out e2 hen2
                          have HE2 := Lib.hid he2
                          clear he2
                          obtain ⟨mb, hmb⟩ : ∃ mb, metB mf y (t - y) = mb := ⟨_, rfl⟩
                          rw [hmb]
                          have HMB := Lib.hid hmb
                          clear hmb
                          rcases hq2 e2 with hv | hv
                          · rw [hv] at cp2
                            have HV2 := Lib.hid hv
                            clear hv
                            have hyt2 : y < t := by
                              rcases Nat.lt_or_ge y t with h | h
                              · exact h
                              · exfalso
                                obtain rfl : t = y := by omega
                                have a := HE.out
                                rw [HE2.out] at a
                                have c := HV.out
                                rw [← a, HV2.out] at c
                                omega
                            go_wp2_with fail
                            go_meet
                            exact ⟨t, ⟨hyt2, ht, UP.out, INK.out, fun _ => by rw [HE2.out, HV2.out]; omega⟩, rfl, by rw [HMB.out], by first | rfl | trivial⟩
                          · rw [hv] at cp2
                            have HV2 := Lib.hid hv
                            have cl2 := LIN.out e2 hen2
                            have MET := Lib.hid (show metB mf y (t + 1 - y) = (mb || lf e2) from by
                              rw [show t + 1 - y = (t - y) + 1 by omega, show metB mf y ((t - y) + 1) = (metB mf y (t - y) || mf (y + (t - y))) from rfl, HMB.out, show y + (t - y) = t by omega, HMF.out]
                              show (mb || lf ((t : Int) * W + x)) = _
                              rw [HE2.out])
                            have INK2 := Lib.hid (show ∀ j : Nat, y ≤ j → j < t + 1 → q ((j : Int) * W + x) = 1 from fun j h1 h2 => by
                              by_cases c : j = t
                              · rw [c, HE2.out]; exact HV2.out
                              · exact INK.out j h1 (by omega))
                            generalize lf e2 = lb at *
                            clear hv INK
                            cases mb
                            · go_wp2_with fail
                              go_round
                              case rel => exact ⟨t + 1, by omega, by omega, by go_num, by rw [MET.out]; rfl, INK2, trivial⟩
                              case measure => simp [intOf]; omega
                            · go_wp2_with fail
                              go_round
                              case rel => exact ⟨t + 1, by omega, by omega, by go_num, by rw [MET.out]; rfl, INK2, trivial⟩
                              case measure => simp [intOf]; omega
                        · have htH : t = Hn := by omega
                          have RO : RunOf q W Hn x y t := ⟨by omega, ht, UP.out, INK.out, fun h => by omega⟩
                          clear htH
                          go_wp2_with fail
                          go_meet
                          exact ⟨t, RO, rfl, rfl, by first | rfl | trivial⟩
                    case rest =>
                      obtain ⟨t, RO, rfl, hb28, rfl⟩ := hcut
                      obtain ⟨mb, hmb⟩ : ∃ mb, metB mf y (t - y) = mb := ⟨_, rfl⟩
                      rw [hmb] at hb28
                      subst hb28
                      have hyt := RO.lt
                      have htH := RO.le
                      obtain ⟨gb, hgb⟩ : ∃ gb, (mb && decide ((t : Int) - y ≤ MO)) = gb := ⟨_, rfl⟩
                      have HGB := Lib.hid hgb
                      have GO := Lib.hid fun (z : Nat) (h1 : y ≤ z) (h2 : z < t) => (show Q1 ((z : Int) * W + x) = 0 ↔ gb = true from by
                        rw [RUNS.out x y t hxK RO z h1 h2, ← hgb, Bool.and_eq_true, decide_eq_true_iff, ← hmb, metB_iff]
                        refine and_congr_left fun _ => ?_
                        constructor
                        · rintro ⟨j, a, b, c⟩
                          refine ⟨j, a, by omega, ?_⟩
                          rw [HMF.out]
                          exact (ONL.out _ (Int.add_nonneg (Int.mul_nonneg (by omega) (by omega)) (by omega))).2 c
                        · rintro ⟨j, a, b, c⟩
                          refine ⟨j, a, by omega, ?_⟩
                          rw [HMF.out] at c
                          exact (ONL.out _ (Int.add_nonneg (Int.mul_nonneg (by omega) (by omega)) (by omega))).1 c)
                      have INV2 := Lib.hid (show ∀ g : Nat, t = g + 1 → t < Hn → q ((g : Int) * W + x) = 1 → q ((t : Int) * W + x) ≠ 1 from fun g _ h _ => RO.down h)
                      have vS : IntKind.i64.wrap ((t : Int) - y) = (t : Int) - y := IntWalk.i64_in _ (by omega)
                      clear RO hmb hgb INV HMF
                      go_upto_region 40 with fail
                      go_cut [29] (fun v wx => v = .bool gb ∧ w11 = wx)
                      case first =>
                        cases mb
                        · go_wp2_with fail
                          go_meet
                          exact ⟨by rw [← HGB.out]; rfl, by first | rfl | trivial⟩
                        · by_cases hle : (t : Int) - y ≤ MO
                          · have HLE := Lib.hid hle
                            go_wp2_with fail
                            go_meet
                            exact ⟨by rw [← HGB.out]; simp [HLE.out], by first | rfl | trivial⟩
                          · have HLE := Lib.hid hle
                            go_wp2_with fail
                            go_meet
                            exact ⟨by rw [← HGB.out]; simp [HLE.out], by first | rfl | trivial⟩
                      case rest =>
                        obtain ⟨rfl, rfl⟩ := hcut
                        clear vS HGB
                        go_wp2_with fail
                        go_loopw [26] (fun s wr => ∃ z : Nat, y ≤ z ∧ z ≤ t ∧ s = .int .i64 z ∧ w11 = wr) (fun s _ => t - (intOf s).toNat)
                        case atStart => exact ⟨y, by omega, by omega, rfl, rfl⟩
                        case round =>
                          obtain ⟨z, hz1, hz2, rfl, rfl⟩ := hrel
                          by_cases zl : (z : Int) < t
                          · obtain ⟨e3, he3, hen3, v5, v6⟩ := IDX.out x z hxK (by omega)
                            have cl3 := LEFT.out e3 hen3
                            have G := GO.out z hz1 (by omega)
                            rw [he3] at G
                            clear he3
                            rcases hq1 e3 with hv | hv
                            · rw [hv] at cl3
                              obtain rfl : gb = true := G.1 hv
                              clear G hv
                              go_wp2_with fail
                              go_round
                              case rel => exact ⟨z + 1, by omega, by omega, by go_num, trivial⟩
                              case measure => simp [intOf]; omega
                            · rw [hv] at cl3
                              obtain rfl : gb = false := Bool.eq_false_iff.2 fun h => by
                                have := G.2 h
                                omega
                              clear G hv
                              go_wp2_with fail
                              go_round
                              case rel => exact ⟨z + 1, by omega, by omega, by go_num, trivial⟩
                              case measure => simp [intOf]; omega
                          · obtain rfl : z = t := by omega
                            obtain ⟨t', ht'⟩ : ∃ t', z = t' + 1 := ⟨z - 1, by omega⟩
                            have u1 : IntKind.i64.wrap ((z : Int) - 1) = (t' : Int) := (IntWalk.i64_in _ (by omega)).trans (by omega)
                            have u2 : IntKind.i64.wrap ((t' : Int) + 1) = (z : Int) := (IntWalk.i64_in _ (by omega)).trans (by omega)
                            clear ht'
                            go_wp2_with fail
                            go_round
                            case rel => exact ⟨z, by omega, by first | rfl | go_num, INV2, trivial⟩
                            case measure => simp [intOf]; omega
                · go_wp2_with fail
                  go_round
                  case rel => exact ⟨x + 1, by omega, by go_num, trivial⟩
                  case measure => simp [intOf]; omega
            · have RM2 := Lib.hid fun w' hA' hS' => RM.out Q1 hq1 (some ⟨b2, o2, none⟩) c2 w' hA' hS'
              rw [AGAIN.out] at RM2
              have hAA : ArrB w11 w11.heap.size (some ⟨b2, o2, none⟩) N Q1 := HAB.out.more (by omega)
              have hSS : StavesIn w11 w11.heap.size Ao ns (fun _ => 5) (fun _ _ => K1) LN := SI11.out.moreB (by omega)
              clear RM PIX LEFT LIN ONL IDX RUNS PAPER
              go_wp2_with fail
              refine (RM2.out w11 hAA hSS).mono ?_
              rintro e w12 ⟨_, rfl, ⟨A3, c3, rfl, hg3, ha3⟩, hb12⟩
              have b12 := below_call bb11 bb11.size hb12
              have bA12 : Below w12.heap.size w12 (w12.alloc (.cells #[.int .i64 W, .int .i64 (Hn : Int), .slice A3 N c3] 24)) := (Below.refl _ _).alloc (Nat.le_refl _) _
              have kz := Blk.new w12 24 #[.int .i64 W, .int .i64 (Hn : Int), .slice A3 N c3]
              have l13 := (l.below' hb12).alloc (.cells #[.int .i64 W, .int .i64 (Hn : Int), .slice A3 N c3] 24)
              have ha13 := ha3.to bA12
              have hb13 := (hAA.to hb12).to bA12
              have b13 := b12.trans (bA12.mono b12.size)
              have SAME := Lib.hid fun w' h1 h2 => sameInk_true W Hn A3 (some ⟨b2, o2, none⟩) N c3 c2 (strike [] W Q1) Q1 w' h1 h2 (by unfold maxLen; omega) (fun i _ _ => strike_nil)
              clear p1 p2 p3 l1 l2 l3 RM2 hSS hAA
              obtain ⟨l1, l2, l3⟩ := l13.cells3
              obtain ⟨k1, k2, k3⟩ := kz.cells3
              go_upto_region 48 with fail
              generalize w12.alloc (.cells #[.int .i64 W, .int .i64 (Hn : Int), .slice A3 N c3] 24) = w13 at *
              go_wp2_with fail
              refine (SAME.out w13 ha13 hb13).mono ?_
              rintro e w14 ⟨rfl, hb14⟩
              have b14 := below_call b13 b13.size hb14
              go_wp2_with fail
              refine (AW.out _).mono ?_
              rintro e w20 ⟨rfl, hb20⟩
              have b20 := below_call b14 b14.size hb20
              go_wp2
              go_ret
              exact ⟨rfl, b20⟩
end Go.Proofs.Ytdimlpcbbkokiaa

/- Walks: lists of runs compared; staves copied and compared. -/
namespace Go.Proofs.Ytdimlpcbbkokiaa
open Go.RowKit Go.Shelf
set_option linter.unusedVariables false
attribute [local go_sem] Oper.semAt_some

set_option maxRecDepth 100000 in
set_option maxHeartbeats 2000000 in
theorem equalRuns_true (l : List Rn) (A1 A2 : Option Addr) (c1 c2 : Nat) (w : World) (h1 : RunArr w A1 l) (h2 : RunArr w A2 l) (hl : l.length ≤ 1000000000) :
    Calls Try.prog 53 #[.slice A1 l.length c1, .slice A2 l.length c2] w fun e w' => e = .returned (.bool true) ∧ Below w.heap.size w w' := by
  have H1 := Lib.hid h1; have H2 := Lib.hid h2
  obtain ⟨n, hn⟩ : ∃ n, l.length = n := ⟨_, rfl⟩
  have HN := Lib.hid hn
  rw [hn] at hl ⊢
  clear h1 h2 hn
  go_enter Try.func53, Try.ntmps53
  go_wp2
  go_loopw [13] (fun s wr => ∃ i : Nat, i ≤ n ∧ s = .int .i64 i ∧ Below w.heap.size w wr) (fun s _ => n - (intOf s).toNat)
  case atStart => exact ⟨0, by omega, rfl, Below.refl _ _⟩
  case round =>
    obtain ⟨i, hi, rfl, b1⟩ := hrel
    by_cases il : (i : Int) < n
    · obtain ⟨r, hr⟩ : ∃ r, l[i]? = some r := ⟨l[i]'(by rw [HN.out]; omega), List.getElem?_eq_getElem _⟩
      have hne : l ≠ [] := by intro h; rw [h] at hr; simp at hr
      obtain ⟨g1, rfl, -, q1⟩ := (H1.out.to b1) hne
      obtain ⟨g2, rfl, -, q2⟩ := (H2.out.to b1) hne
      obtain ⟨x1, x2, x3⟩ := q1 i r hr
      obtain ⟨y1, y2, y3⟩ := q2 i r hr
      have NE : ∀ W, (binOp .neq 84 (.agg #[.int .i64 r.1, .int .i64 r.2.1, .int .i64 r.2.2]) (.agg #[.int .i64 r.1, .int .i64 r.2.1, .int .i64 r.2.2])).run Try.prog W = .ok (.bool false) W := fun W => by rw [neRun]; simp
      clear q1 q2 hr hne
      generalize r.1 = a at *
      generalize r.2.1 = b at *
      generalize r.2.2 = d at *
      go_wp2_with fail
      go_quiet (fail)
      have b2 := below_drewN b1 nq
      clear x1 x2 x3 y1 y2 y3
      generalize wr.drewN nq = w2 at *
      go_wp2_with fail
      go_round
      case rel => exact ⟨i + 1, by omega, by go_num, b2⟩
      case measure => simp [intOf]; omega
    · go_wp2
      go_ret
      exact ⟨rfl, b1⟩

/-- staves that came in, with what is known of empty ones -/
def StavesZ (w : World) (B : Nat) (A : Option Addr) (k : Nat) (K : Nat → Nat) (m : Nat → Nat → Nat) (ln : Nat → Nat → Nat → Int) : Prop :=
  ∀ i, i < k → ∃ b off AL cL, A = some ⟨b, off, none⟩ ∧ b < B ∧ w.cell? ⟨b, off + i, none⟩ = some (.slice AL (K i) cL) ∧ LinesZ w B AL (K i) (m i) (ln i)
section
variable {w w' : World} {A : Option Addr} {k : Nat} {K : Nat → Nat} {m : Nat → Nat → Nat} {ln : Nat → Nat → Nat → Int}
theorem LinesZ.lines' {B Kc : Nat} {mc : Nat → Nat} {lc : Nat → Nat → Int} (h : LinesZ w B A Kc mc lc) : Lines w B A Kc mc lc := by
  obtain ⟨vs, h1, h2⟩ := h
  exact ⟨vs, h1, fun i hi => by obtain ⟨A', c', e, -, ha⟩ := h2 i hi; exact ⟨A', c', e, ha⟩⟩
theorem StavesZ.staves {B : Nat} (h : StavesZ w B A k K m ln) : StavesIn w B A k K m ln := fun i hi => by
  obtain ⟨b, off, AL, cL, e, h1, h2, h3⟩ := h i hi
  exact ⟨b, off, AL, cL, e, h1, h2, h3.lines'⟩
theorem StavesZ.to (h : StavesZ w w.heap.size A k K m ln) (hb : Below w.heap.size w w') : StavesZ w' w'.heap.size A k K m ln := fun i hi => by
  obtain ⟨b, off, AL, cL, rfl, h1, h2, h3⟩ := h i hi
  exact ⟨b, off, AL, cL, rfl, Nat.lt_of_lt_of_le h1 hb.size, (hb.cell (p := ⟨b, off + i, none⟩) h1).trans h2, h3.below hb⟩
end
/-- staves over fresh memory, each with lines of its own -/
structure StF (B : Nat) (w : World) (k : Nat) (K : Nat → Nat) (m : Nat → Nat → Nat) (ln : Nat → Nat → Nat → Int) (vo : Value) (vs : Nat → Value) : Prop where
  row : w.ownsRow B 54 1 vo k ((List.range k).map vs)
  each : ∀ i, i < k → ∃ v, FoundM B w (m i) (ln i) (K i) (vs i) v
theorem StF.stavesIn {B k : Nat} {w : World} {K : Nat → Nat} {m : Nat → Nat → Nat} {ln : Nat → Nat → Nat → Int} {v : Value} {vs : Nat → Value} (h : StF B w k K m ln v vs) : ∃ A c, v = .slice A k c ∧ StavesIn w w.heap.size A k K m ln := by
  by_cases hn : 0 < k
  · obtain ⟨gv, cv, csv, ev, -, hbv, hcv⟩ := own_blk h.row hn
    refine ⟨_, _, ev, fun i hi => ?_⟩
    obtain ⟨lv, hFv⟩ := h.each i hi
    obtain ⟨A5, c5, e5, -, -, LC⟩ := hFv.toLines
    have hc5 := hcv i hi
    rw [List.getElem?_map, List.getElem?_range hi, Option.map_some, e5] at hc5
    exact ⟨gv, 0, A5, c5, rfl, hbv.lt, by rw [Nat.zero_add, hbv.cell]; exact hc5, LC⟩
  · obtain ⟨A, c, e, -, -⟩ := own_arr h.row
    exact ⟨A, c, e, fun i hi => by omega⟩

set_option maxRecDepth 100000 in
set_option maxHeartbeats 4000000 in
theorem copyStaves_any (A : Option Addr) (k c : Nat) (K : Nat → Nat) (m : Nat → Nat → Nat) (ln : Nat → Nat → Nat → Int) (w : World) (hS : StavesZ w w.heap.size A k K m ln) (hk : k ≤ 1000) (hK : ∀ i, i < k → K i ≤ 5864062014634) (hm : ∀ i j, i < k → j < K i → m i j ≤ 17592186044416) :
    Calls Try.prog 47 #[.slice A k c] w (New w fun v w' => ∃ vs, StF w.heap.size w' k K m ln v vs) := by
  have CS := Lib.hid fun i (hi : i < k) A' c' w' hL' => copyStave_any A' (K i) c' (m i) (ln i) w' hL' (hK i hi) (fun j hj => hm i j hi hj)
  obtain ⟨s0, hs0, hsz0, hsz1, hsz2⟩ := info_parts infoLines
  have HS := Lib.hid hS
  clear hS hK hm
  go_enter Try.func47, Try.ntmps47
  go_wp2
  go_loopw [4, 3] (fun s vo wr => ∃ (i : Nat) (vs : Nat → Value), i ≤ k ∧ s = .int .i64 i ∧ StF w.heap.size wr i K m ln vo vs ∧ Below w.heap.size w wr) (fun s _ _ => k - (intOf s).toNat)
  case atStart => exact ⟨0, fun _ => .slice none 0 0, by omega, rfl, ⟨World.ownsRow_nil _ _ _ _, fun i hi => by omega⟩, Below.refl _ _⟩
  case round =>
    obtain ⟨i, vs, hi, rfl, hF, b1⟩ := hrel
    obtain ⟨Ao, co, rfl, -, -⟩ := own_arr hF.row
    by_cases il : (i : Int) < k
    · obtain ⟨b, off, AL, cL, eA, hb, hc, hL⟩ := HS.out.to b1 i (by omega)
      cases eA
      have CSi := Lib.hid (CS.out i (by omega) AL cL wr hL)
      clear hL
      go_wp2_with fail
      refine CSi.out.mono ?_
      rintro e w2 ⟨_, rfl, ⟨v2, vs2, rfl, hF2⟩, hb2⟩
      have b2 := below_call b1 b1.size hb2
      have z1 := b1.size
      have z2 := b2.size
      have F1 : StF w.heap.size w2 i K m ln (.slice Ao i co) vs := ⟨own_below hF.row hb2, fun j hj => by obtain ⟨v, hv⟩ := hF.each j hj; exact ⟨v, hv.below hb2⟩⟩
      have F2 := hF2.base z1
      obtain ⟨A2, c2, rfl, -, -⟩ := own_arr hF2.row
      clear hF hF2 hb2 hc CSi
      go_wp2_with (at_builtin; refine wpList_append_own _ rfl (.tmp 11) (.tmp 17) 56 rfl w.heap.size 54 s0 (.agg #[.slice none 0 0]) 1 24 Try.underlying56 hs0 hsz0 hsz1 hsz2 rfl (by decide) _ _ _ rfl (F1.row.alloc _) ⟨w2.heap.size, 0, none⟩ 1 1 [.slice A2 (K i) c2] rfl rfl ?c1 ?c2 ?c3 ?c4 ?c5 ?_)
      case c1 => exact cell_one_new _ _ _
      case c2 => simp [Value.oneCell']
      case c3 => unfold maxLen; omega
      case c4 => omega
      case c5 => simp; omega
      intro v' w7 own7 hg7 _
      have b7 : Below w.heap.size w w7 := (b2.alloc z2 (.cells #[.slice A2 (K i) c2] 54)).grown hg7 (by simp; omega) (fun j hj => (own_ge F1.row hj).1)
      have F7 : StF w.heap.size w7 (i + 1) K m ln v' (fun j => if j = i then .slice A2 (K i) c2 else vs j) := by
        refine ⟨?_, fun j hj => ?_⟩
        · rw [range_snoc]
          simp only [if_true]
          rw [show (List.range i).map (fun j => if j = i then Value.slice A2 (K i) c2 else vs j) = (List.range i).map vs from List.map_congr_left fun j hj => by rw [if_neg]; have := List.mem_range.1 hj; omega]
          exact own7
        · show ∃ v, FoundM _ _ _ _ _ (if j = i then _ else vs j) v
          by_cases e : j = i
          · subst e
            rw [if_pos rfl]
            exact ⟨vs2, (F2.alloc _).grownBlk (F1.row.alloc _) hg7⟩
          · rw [if_neg e]
            obtain ⟨v, hv⟩ := F1.each j (by omega)
            exact ⟨v, (hv.alloc _).grownBlk (F1.row.alloc _) hg7⟩
      clear own7 hg7 F1 F2
      go_wp2
      go_round
      case rel => exact ⟨i + 1, _, by omega, by go_num, F7, b7⟩
      case measure => simp [intOf]; omega
    · obtain rfl : i = k := by omega
      go_wp2
      go_ret
      exact ⟨_, rfl, ⟨_, hF⟩, b1⟩

set_option maxRecDepth 100000 in
set_option maxHeartbeats 2000000 in
theorem sameStavesI_true (A1 A2 : Option Addr) (n c1 c2 : Nat) (K : Nat → Nat) (m : Nat → Nat → Nat) (ln : Nat → Nat → Nat → Int) (w : World) (h1 : StavesIn w w.heap.size A1 n K m ln) (h2 : StavesIn w w.heap.size A2 n K m ln) (hn : n ≤ 1000) (hK : ∀ i, i < n → K i ≤ maxLen) (hm : ∀ i j, i < n → j < K i → m i j ≤ maxLen) :
    Calls Try.prog 35 #[.slice A1 n c1, .slice A2 n c2] w fun e w' => e = .returned (.bool true) ∧ Below w.heap.size w w' := by
  have SS := Lib.hid fun i (hi : i < n) A B c d w' hA hB => sameStave_any A B (K i) (K i) c d (m i) (m i) (ln i) (ln i) w' hA hB (hK i hi) (hK i hi) (fun j hj => hm i j hi hj) (fun j hj => hm i j hi hj)
  have S1 := Lib.hid h1; have S2 := Lib.hid h2
  clear h1 h2 hm hK
  go_enter Try.func35, Try.ntmps35
  go_wp2
  go_loopw [5] (fun s wr => ∃ i : Nat, i ≤ n ∧ s = .int .i64 i ∧ Below w.heap.size w wr) (fun s _ => n - (intOf s).toNat)
  case atStart => exact ⟨0, by omega, rfl, Below.refl _ _⟩
  case round =>
    obtain ⟨i, hi, rfl, b1⟩ := hrel
    by_cases hlt : (i : Int) < n
    · obtain ⟨g1, o1, A5, c5, e1, hb1, hc1, L1⟩ := S1.out i (by omega)
      obtain ⟨g2, o2, A6, c6, e2, hb2, hc2, L2⟩ := S2.out i (by omega)
      cases e1
      cases e2
      have SSi := Lib.hid fun c d w' hA hB => SS.out i (by omega) A5 A6 c d w' hA hB
      rw [sameL_self] at SSi
      have q1 := (b1.cell (p := ⟨g1, o1 + i, none⟩) hb1).trans hc1
      have q2 := (b1.cell (p := ⟨g2, o2 + i, none⟩) hb2).trans hc2
      have M1 := Lib.hid (L1.below b1); have M2 := Lib.hid (L2.below b1)
      have B1 := Lib.hid b1
      have z1 := b1.size
      clear L1 L2 hc1 hc2 b1
      go_wp2_with fail
      go_region_held3 (fun w' => w'.cell? ⟨g1, o1 + i, none⟩ = some (.slice A5 (K i) c5) ∧ w'.cell? ⟨g2, o2 + i, none⟩ = some (.slice A6 (K i) c6))
        (simp [go_sem, *])
        ((go_at_call 40
          refine (SSi.out _ _ _ (show Lines wr.drew wr.drew.heap.size _ _ _ _ from M1.out) (show Lines wr.drew wr.drew.heap.size _ _ _ _ from M2.out)).mono ?_
          rintro e w2 ⟨rfl, hb2'⟩
          have b2 := below_call B1.out.drew B1.out.drew.size hb2'
          have x1 : w2.cell? ⟨g1, o1 + i, none⟩ = some (.slice A5 (K i) c5) := (hb2'.cell (p := ⟨g1, o1 + i, none⟩) (by show g1 < _; have := B1.out.drew.size; omega)).trans q1
          have x2 : w2.cell? ⟨g2, o2 + i, none⟩ = some (.slice A6 (K i) c6) := (hb2'.cell (p := ⟨g2, o2 + i, none⟩) (by show g2 < _; have := B1.out.drew.size; omega)).trans q2))
      go_wp2_with fail
      go_roundw
      case rel => exact ⟨i + 1, by omega, by go_num, b2⟩
      case measure => simp [intOf]; omega
    · obtain rfl : n = i := by omega
      go_wp2
      go_ret
      exact ⟨rfl, b1⟩
end Go.Proofs.Ytdimlpcbbkokiaa

/- Walk: StaveRuns, by the contracts of what it calls. -/
namespace Go.Proofs.Ytdimlpcbbkokiaa
open Go.RowKit Go.Shelf
set_option linter.unusedVariables false
attribute [local go_sem] Oper.semAt_some

/-- what the caller keeps: two images in boxes, their pixels, two lists of staves -/
structure PackR (w : World) (gi g7 : Nat) (x y : Array Value) (A A' : Option Addr) (n : Nat) (p : Int → Int) (AS As : Option Addr) (kS : Nat) (K : Nat → Nat) (m : Nat → Nat → Nat) (ln : Nat → Nat → Nat → Int) : Prop where
  gi : Blk w gi 24 x
  g7 : Blk w g7 24 y
  a : ArrB w w.heap.size A n p
  c : ArrB w w.heap.size A' n p
  s : StavesIn w w.heap.size AS kS K m ln
  t : StavesIn w w.heap.size As kS K m ln
theorem PackR.to {w w' : World} {gi g7 : Nat} {x y : Array Value} {A A' : Option Addr} {n : Nat} {p : Int → Int} {AS As : Option Addr} {kS : Nat} {K : Nat → Nat} {m : Nat → Nat → Nat} {ln : Nat → Nat → Nat → Int}
    (h : PackR w gi g7 x y A A' n p AS As kS K m ln) (hb : Below w.heap.size w w') : PackR w' gi g7 x y A A' n p AS As kS K m ln :=
  ⟨h.gi.below' hb, h.g7.below' hb, h.a.to hb, h.c.to hb, h.s.to hb, h.t.to hb⟩

set_option maxRecDepth 100000 in
set_option maxHeartbeats 4000000 in
theorem staveRuns_gen (W H most z E W2 H2 : Int) (A AS : Option Addr) (n c kS cS N2 : Nat) (p q : Int → Int) (K : Nat → Nat) (m : Nat → Nat → Nat) (ln : Nat → Nat → Nat → Int) (L : List Rn) (GP : Int → Int → Prop) (w : World)
    (hA : ArrB w w.heap.size A n p) (hB : IsB p) (hcA : A = none → c = 0) (hn : n ≤ 6000) (hS : StavesZ w w.heap.size AS kS K m ln) (hk : kS ≤ 5) (hK : ∀ i, i < kS → K i ≤ 5864062014634) (hm : ∀ i j, i < kS → j < K i → m i j ≤ 17592186044416)
    (hz : chk W H n p = z) (hLl : L.length ≤ 1000000000) (hN2 : N2 ≤ maxLen)
    (RU : ∀ w' A' c' AS' cS', ArrB w' w'.heap.size A' n p → StavesIn w' w'.heap.size AS' kS K m ln → Calls Try.prog 48 #[.agg #[.int .i64 W, .int .i64 H, .slice A' n c'], .slice AS' kS cS', .int .i64 most] w' fun e w'' => ∃ v, e = .returned (.tuple #[v, .int .i64 E]) ∧ RunRow w'' w'.heap.size v L ∧ Below w'.heap.size w' w'')
    (RR : ∀ w' A' c' AS' cS', ArrB w' w'.heap.size A' n p → StavesIn w' w'.heap.size AS' kS K m ln → Calls Try.prog 49 #[.agg #[.int .i64 W, .int .i64 H, .slice A' n c'], .slice AS' kS cS', .int .i64 most] w' fun e w'' => ∃ v, e = .returned (.tuple #[v, .int .i64 E]) ∧ RunRow w'' w'.heap.size v L ∧ Below w'.heap.size w' w'')
    (RM : ∀ w' A' c' AS' cS', ArrB w' w'.heap.size A' n p → StavesIn w' w'.heap.size AS' kS K m ln → Calls Try.prog 42 #[.agg #[.int .i64 W, .int .i64 H, .slice A' n c'], .slice AS' kS cS', .int .i64 most] w' (New w' fun v w'' => OutT w' w'' E W2 H2 N2 q v))
    (RN : ∀ w' A' c' AS' cS', ArrB w' w'.heap.size A' n p → StavesIn w' w'.heap.size AS' kS K m ln → Calls Try.prog 50 #[.agg #[.int .i64 W, .int .i64 H, .slice A' n c'], .slice AS' kS cS', .int .i64 most] w' (New w' fun v w'' => OutT w' w'' E W2 H2 N2 q v))
    (GA : ∀ w' A' c', ArrB w' w'.heap.size A' n p → Calls Try.prog 51 #[.agg #[.int .i64 W, .int .i64 H, .slice A' n c']] w' fun e w'' => ∃ b g, e = .returned (.tuple #[.int .i64 b, .int .i64 g, .int .i64 z]) ∧ GP b g ∧ Below w'.heap.size w' w'')
    (GU : ∀ b g b' g', GP b g → GP b' g' → b = b' ∧ g = g') (GZ : z ≠ 0 → ∀ b g, GP b g → b = 0 ∧ g = 0)
    (GB : z = 0 → ∀ w' A' c', ArrB w' w'.heap.size A' n p → Calls Try.prog 52 #[.agg #[.int .i64 W, .int .i64 H, .slice A' n c']] w' fun e w'' => ∃ b g, e = .returned (.tuple #[.int .i64 b, .int .i64 g]) ∧ GP b g ∧ Below w'.heap.size w' w'') :
    Calls Try.prog 10 #[.agg #[.int .i64 W, .int .i64 H, .slice A n c], .slice AS kS cS, .int .i64 most] w fun e w' => e = .returned (.bool true) ∧ Below w.heap.size w w' := by
  have AW := Lib.hid fun w' => awake3_any w'
  have FW := Lib.hid fun w' => few_any W H A n c w'
  rw [decide_eq_true (by omega : (n : Int) ≤ 6000)] at FW
  have CI := Lib.hid fun w' h' => copyInk_any W H A n c p w' h' hcA (by omega)
  have CS := Lib.hid fun w' h' => copyStaves_any AS kS cS K m ln w' h' (by omega) hK hm
  have CK := Lib.hid fun w' h' => rcheck_any W H A n c p w' h' (by unfold maxLen; omega) hB
  rw [hz] at CK
  have EQ := Lib.hid fun A1 A2 c1 c2 w' h1 h2 => equalRuns_true L A1 A2 c1 c2 w' h1 h2 hLl
  have SI := Lib.hid fun A1 B1 c1 d1 w' h1 h2 => sameInk_true W2 H2 A1 B1 N2 c1 d1 q q w' h1 h2 hN2 (fun _ _ _ => rfl)
  have SG := Lib.hid fun A1 B1 c1 d1 w' h1 h2 => sameInk_true W H A1 B1 n c1 d1 p p w' h1 h2 (by unfold maxLen; omega) (fun _ _ _ => rfl)
  have SS := Lib.hid fun A1 A2 c1 c2 w' h1 h2 => sameStavesI_true A1 A2 kS c1 c2 K m ln w' h1 h2 (by omega) (fun i hi => by have := hK i hi; unfold maxLen; omega) (fun i j hi hj => by have := hm i j hi hj; unfold maxLen; omega)
  have RUh := Lib.hid RU; have RRh := Lib.hid RR; have RMh := Lib.hid RM; have RNh := Lib.hid RN; have GAh := Lib.hid GA; have GUh := Lib.hid GU; have GZh := Lib.hid GZ; have GBh := Lib.hid GB
  have HA := Lib.hid hA; have HS := Lib.hid hS
  have k5 : decide ((5 : Int) < (kS : Int)) = false := decide_eq_false (by omega)
  have k5' : ¬ (5 : Int) < (kS : Int) := by omega
  have k5n : ¬ 5 < kS := by omega
  clear RU RR RM RN GA GU GZ GB hA hS hB hcA hK hm hz hLl hn
  go_enter Try.func10, Try.ntmps10
  go_wp2_with fail
  have b1 : Below w.heap.size w (w.alloc (.cells #[.int .i64 W, .int .i64 H, .slice A n c] 24)) := by (repeat (first | exact Below.refl _ _ | assumption | refine Below.drew ?_ | refine below_drewN ?_ _ | refine Below.alloc ?_ (by first | omega | (simp; done) | (simp; omega)) _ | refine Below.setCell ?_ (by first | omega | (simp; done) | (simp; omega)) _ | refine below_setRow ?_ (by first | omega | (simp; done) | (simp; omega)) _ ))
  have k1 := Blk.new w 24 #[.int .i64 W, .int .i64 H, .slice A n c]
  generalize w.alloc (.cells #[.int .i64 W, .int .i64 H, .slice A n c] 24) = w1 at *
  refine (FW.out _).mono ?_
  rintro e w2 ⟨rfl, d2⟩
  have b2 := below_call b1 b1.size d2
  replace k1 := k1.below' d2
  clear d2 b1 FW
  obtain ⟨p1, p2, p3⟩ := k1.cells3
  go_wp2_with fail
  refine (CI.out w2 (HA.out.to b2)).mono ?_
  rintro e w3 ⟨_, rfl, ⟨_, rfl, A', c', rfl, -, -, hgA, hA'⟩, d3⟩
  have b3 := below_call b2 b2.size d3
  replace k1 := k1.below' d3
  have HA' := Lib.hid hA'
  clear d3 b2 p1 p2 p3 hgA hA' CI
  go_wp2_with fail
  refine (CS.out w3 (HS.out.to b3)).mono ?_
  rintro e w4 ⟨vS, rfl, ⟨vs, hF⟩, d4⟩
  have b4 := below_call b3 b3.size d4
  replace k1 := k1.below' d4
  obtain ⟨As, cs, rfl, hSI⟩ := hF.stavesIn
  have a4 := HA'.out.to d4
  have b5 : Below w.heap.size w (w4.alloc (.cells #[.int .i64 W, .int .i64 H, .slice A' n c'] 24)) := b4.alloc b4.size _
  have d5 : Below w4.heap.size w4 (w4.alloc (.cells #[.int .i64 W, .int .i64 H, .slice A' n c'] 24)) := (Below.refl _ _).alloc (Nat.le_refl _) _
  obtain ⟨g7, hg7⟩ : ∃ g, w4.heap.size = g := ⟨_, rfl⟩
  have k7 := Blk.new w4 24 #[.int .i64 W, .int .i64 H, .slice A' n c']
  rw [hg7] at k7
  have PK : PackR (w4.alloc (.cells #[.int .i64 W, .int .i64 H, .slice A' n c'] 24)) w.heap.size g7 #[.int .i64 W, .int .i64 H, .slice A n c] #[.int .i64 W, .int .i64 H, .slice A' n c'] A A' n p AS As kS K m ln :=
    ⟨k1.below' d5, k7, HA.out.to b5, a4.to d5, HS.out.staves.to b5, hSI.to d5⟩
  have HP := Lib.hid PK
  obtain ⟨p1, p2, p3⟩ := PK.gi.cells3
  obtain ⟨q1, q2, q3⟩ := PK.g7.cells3
  clear d4 d5 b3 b4 a4 HA HA' HS hF hSI k1 k7 PK CS
  go_wp2_with fail
  generalize w4.alloc (.cells #[.int .i64 W, .int .i64 H, .slice A' n c'] 24) = w5 at *
  clear hg7
  -- stave.Runs
  refine (RUh.out w5 A' c' As cs HP.out.c HP.out.t).mono ?_
  rintro e w6 ⟨vL, rfl, hL6, d6⟩
  obtain ⟨Al, cl, rfl, rl⟩ := hL6.arr
  have b6 := below_call b5 b5.size d6
  replace HP := Lib.hid (HP.out.to d6)
  have RL := Lib.hid rl
  clear d6 b5 p1 p2 p3 q1 q2 q3 hL6 rl RUh
  obtain ⟨p1, p2, p3⟩ := HP.out.gi.cells3
  obtain ⟨q1, q2, q3⟩ := HP.out.g7.cells3
  go_wp2_with fail
  -- the reference's Runs
  refine (RRh.out w6 A c AS cS HP.out.a HP.out.s).mono ?_
  rintro e w7 ⟨vW, rfl, hL7, d7⟩
  obtain ⟨Aw, cw, rfl, rw_⟩ := hL7.arr
  have b7 := below_call b6 b6.size d7
  replace HP := Lib.hid (HP.out.to d7)
  replace RL := Lib.hid (RunArr.to RL.out d7)
  have RW := Lib.hid rw_
  clear d7 b6 p1 p2 p3 q1 q2 q3 hL7 rw_ RRh
  obtain ⟨p1, p2, p3⟩ := HP.out.gi.cells3
  obtain ⟨q1, q2, q3⟩ := HP.out.g7.cells3
  go_wp2_with fail
  -- stave.Remove
  refine (RMh.out w7 A' c' As cs HP.out.c HP.out.t).mono ?_
  rintro e w8 ⟨_, rfl, ⟨Ax, cx, rfl, hgx, ax⟩, d8⟩
  have b8 := below_call b7 b7.size d8
  have a8 : Below w8.heap.size w8 (w8.alloc (.cells #[.int .i64 W2, .int .i64 H2, .slice Ax N2 cx] 24)) := (Below.refl _ _).alloc (Nat.le_refl _) _
  have b9 : Below w.heap.size w (w8.alloc (.cells #[.int .i64 W2, .int .i64 H2, .slice Ax N2 cx] 24)) := b8.alloc b8.size _
  obtain ⟨gx, hgX⟩ : ∃ g, w8.heap.size = g := ⟨_, rfl⟩
  have kx := Blk.new w8 24 #[.int .i64 W2, .int .i64 H2, .slice Ax N2 cx]
  rw [hgX] at kx
  replace HP := Lib.hid ((HP.out.to d8).to a8)
  replace RL := Lib.hid (RunArr.to (RunArr.to RL.out d8) a8)
  replace RW := Lib.hid (RunArr.to (RunArr.to RW.out d8) a8)
  have KX := Lib.hid kx
  have AX := Lib.hid (ax.to a8)
  clear d8 b7 a8 b8 p1 p2 p3 q1 q2 q3 hgx ax kx RMh
  obtain ⟨p1, p2, p3⟩ := HP.out.gi.cells3
  obtain ⟨q1, q2, q3⟩ := HP.out.g7.cells3
  go_wp2_with fail
  generalize w8.alloc (.cells #[.int .i64 W2, .int .i64 H2, .slice Ax N2 cx] 24) = w9 at *
  clear hgX
  -- the reference's Remove
  refine (RNh.out w9 A c AS cS HP.out.a HP.out.s).mono ?_
  rintro e w10 ⟨_, rfl, ⟨Ay, cy, rfl, hgy, ay⟩, d10⟩
  have b10 := below_call b9 b9.size d10
  have a10 : Below w10.heap.size w10 (w10.alloc (.cells #[.int .i64 W2, .int .i64 H2, .slice Ay N2 cy] 24)) := (Below.refl _ _).alloc (Nat.le_refl _) _
  have b11 : Below w.heap.size w (w10.alloc (.cells #[.int .i64 W2, .int .i64 H2, .slice Ay N2 cy] 24)) := b10.alloc b10.size _
  obtain ⟨gy, hgY⟩ : ∃ g, w10.heap.size = g := ⟨_, rfl⟩
  have ky := Blk.new w10 24 #[.int .i64 W2, .int .i64 H2, .slice Ay N2 cy]
  rw [hgY] at ky
  replace HP := Lib.hid ((HP.out.to d10).to a10)
  replace RL := Lib.hid (RunArr.to (RunArr.to RL.out d10) a10)
  replace RW := Lib.hid (RunArr.to (RunArr.to RW.out d10) a10)
  replace KX := Lib.hid ((KX.out.below' d10).below' a10)
  replace AX := Lib.hid ((AX.out.to d10).to a10)
  have KY := Lib.hid ky
  have AY := Lib.hid (ay.to a10)
  clear d10 b9 a10 b10 p1 p2 p3 q1 q2 q3 hgy ay ky RNh
  obtain ⟨p1, p2, p3⟩ := HP.out.gi.cells3
  obtain ⟨q1, q2, q3⟩ := HP.out.g7.cells3
  go_wp2_with fail
  generalize w10.alloc (.cells #[.int .i64 W2, .int .i64 H2, .slice Ay N2 cy] 24) = w11 at *
  clear hgY
  -- stave.Gauge
  refine (GAh.out w11 A' c' HP.out.c).mono ?_
  rintro e w12 ⟨gb, gg, rfl, gp1, d12⟩
  have b12 := below_call b11 b11.size d12
  replace HP := Lib.hid (HP.out.to d12)
  replace RL := Lib.hid (RunArr.to RL.out d12)
  replace RW := Lib.hid (RunArr.to RW.out d12)
  replace KX := Lib.hid (KX.out.below' d12)
  replace AX := Lib.hid (AX.out.to d12)
  replace KY := Lib.hid (KY.out.below' d12)
  replace AY := Lib.hid (AY.out.to d12)
  have GP1 := Lib.hid gp1
  clear d12 b11 p1 p2 p3 q1 q2 q3 gp1 GAh
  obtain ⟨p1, p2, p3⟩ := HP.out.gi.cells3
  obtain ⟨q1, q2, q3⟩ := HP.out.g7.cells3
  go_wp2_with fail
  -- the reference's Check
  refine (CK.out w12 HP.out.a).mono ?_
  rintro e w13 ⟨rfl, d13⟩
  have b13 := below_call b12 b12.size d13
  replace HP := Lib.hid (HP.out.to d13)
  replace RL := Lib.hid (RunArr.to RL.out d13)
  replace RW := Lib.hid (RunArr.to RW.out d13)
  replace KX := Lib.hid (KX.out.below' d13)
  replace AX := Lib.hid (AX.out.to d13)
  replace KY := Lib.hid (KY.out.below' d13)
  replace AY := Lib.hid (AY.out.to d13)
  clear d13 b12 p1 p2 p3 q1 q2 q3 CK
  obtain ⟨p1, p2, p3⟩ := HP.out.gi.cells3
  obtain ⟨q1, q2, q3⟩ := HP.out.g7.cells3
  by_cases hz0 : z = 0
  · subst hz0
    have GBz := Lib.hid (GBh.out rfl)
    clear GBh GZh
    go_wp2_with fail
    refine (GBz.out w13 A c HP.out.a).mono ?_
    rintro e w14 ⟨gb2, gg2, rfl, gp2, d14⟩
    obtain ⟨rfl, rfl⟩ := GUh.out _ _ _ _ GP1.out gp2
    have b14 := below_call b13 b13.size d14
    replace HP := Lib.hid (HP.out.to d14)
    replace RL := Lib.hid (RunArr.to RL.out d14)
    replace RW := Lib.hid (RunArr.to RW.out d14)
    replace KX := Lib.hid (KX.out.below' d14)
    replace AX := Lib.hid (AX.out.to d14)
    replace KY := Lib.hid (KY.out.below' d14)
    replace AY := Lib.hid (AY.out.to d14)
    clear d14 b13 p1 p2 p3 q1 q2 q3 gp2 GBz GP1 GUh
    go_wp2_with fail
    -- the rest
    refine (EQ.out Al Aw cl cw w14 RL.out RW.out).mono ?_
    rintro e v1 ⟨rfl, d1⟩
    have t1 := below_call b14 b14.size d1
    replace HP := Lib.hid (HP.out.to d1)
    replace KX := Lib.hid (KX.out.below' d1)
    replace AX := Lib.hid (AX.out.to d1)
    replace KY := Lib.hid (KY.out.below' d1)
    replace AY := Lib.hid (AY.out.to d1)
    obtain ⟨p1, p2, p3⟩ := KX.out.cells3
    obtain ⟨q1, q2, q3⟩ := KY.out.cells3
    clear d1 b14
    go_wp2_with fail
    refine (SI.out Ax Ay cx cy v1 AX.out AY.out).mono ?_
    rintro e v2 ⟨rfl, d2⟩
    have t2 := below_call t1 t1.size d2
    replace HP := Lib.hid (HP.out.to d2)
    clear d2 t1 p1 p2 p3 q1 q2 q3 KX KY AX AY
    obtain ⟨p1, p2, p3⟩ := HP.out.gi.cells3
    obtain ⟨q1, q2, q3⟩ := HP.out.g7.cells3
    go_wp2_with fail
    refine (SG.out A' A c' c v2 HP.out.c HP.out.a).mono ?_
    rintro e v3 ⟨rfl, d3⟩
    have t3 := below_call t2 t2.size d3
    replace HP := Lib.hid (HP.out.to d3)
    clear d3 t2 p1 p2 p3 q1 q2 q3
    go_wp2_with fail
    refine (SS.out As AS cs cS v3 HP.out.t HP.out.s).mono ?_
    rintro e v4 ⟨rfl, d4⟩
    have t4 := below_call t3 t3.size d4
    clear d4 t3
    go_wp2_with fail
    refine (AW.out v4).mono ?_
    rintro e v5 ⟨rfl, d5⟩
    have t5 := below_call t4 t4.size d5
    go_wp2
    go_ret
    exact ⟨rfl, t5⟩
  · obtain ⟨rfl, rfl⟩ := GZh.out hz0 _ _ GP1.out
    have hz1 : (z == 0) = false := by simp [hz0]
    have HZ := Lib.hid hz0
    clear GBh GZh GUh GP1 p1 p2 p3 q1 q2 q3
    go_wp2_with fail
    -- the rest
    refine (EQ.out Al Aw cl cw w13 RL.out RW.out).mono ?_
    rintro e v1 ⟨rfl, d1⟩
    have t1 := below_call b13 b13.size d1
    replace HP := Lib.hid (HP.out.to d1)
    replace KX := Lib.hid (KX.out.below' d1)
    replace AX := Lib.hid (AX.out.to d1)
    replace KY := Lib.hid (KY.out.below' d1)
    replace AY := Lib.hid (AY.out.to d1)
    obtain ⟨p1, p2, p3⟩ := KX.out.cells3
    obtain ⟨q1, q2, q3⟩ := KY.out.cells3
    clear d1 b13
    go_wp2_with fail
    refine (SI.out Ax Ay cx cy v1 AX.out AY.out).mono ?_
    rintro e v2 ⟨rfl, d2⟩
    have t2 := below_call t1 t1.size d2
    replace HP := Lib.hid (HP.out.to d2)
    clear d2 t1 p1 p2 p3 q1 q2 q3 KX KY AX AY
    obtain ⟨p1, p2, p3⟩ := HP.out.gi.cells3
    obtain ⟨q1, q2, q3⟩ := HP.out.g7.cells3
    go_wp2_with fail
    refine (SG.out A' A c' c v2 HP.out.c HP.out.a).mono ?_
    rintro e v3 ⟨rfl, d3⟩
    have t3 := below_call t2 t2.size d3
    replace HP := Lib.hid (HP.out.to d3)
    clear d3 t2 p1 p2 p3 q1 q2 q3
    go_wp2_with fail
    refine (SS.out As AS cs cS v3 HP.out.t HP.out.s).mono ?_
    rintro e v4 ⟨rfl, d4⟩
    have t4 := below_call t3 t3.size d4
    clear d4 t3
    go_wp2_with fail
    refine (AW.out v4).mono ?_
    rintro e v5 ⟨rfl, d5⟩
    have t5 := below_call t4 t4.size d5
    go_wp2
    go_ret
    exact ⟨rfl, t5⟩
end Go.Proofs.Ytdimlpcbbkokiaa

/- Walk: StaveRuns for every input. -/
namespace Go.Proofs.Ytdimlpcbbkokiaa
open Go.RowKit Go.Shelf
set_option linter.unusedVariables false
attribute [local go_sem] Oper.semAt_some

theorem first_no {f : Nat → Bool} : ∀ {k : Nat}, (∀ i, i < k → f i = true) ∨ ∃ j, j < k ∧ (∀ i, i < j → f i = true) ∧ f j = false
  | 0 => .inl fun i h => by omega
  | k + 1 => by
    rcases first_no (f := f) (k := k) with h | ⟨j, h1, h2, h3⟩
    · by_cases e : f k = true
      · exact .inl fun i hi => by
          by_cases c : i = k
          · subst c; exact e
          · exact h i (by omega)
      · exact .inr ⟨k, by omega, h, by simpa using e⟩
    · exact .inr ⟨j, by omega, h2, h3⟩

set_option maxRecDepth 100000 in
set_option maxHeartbeats 1000000 in
theorem staveRuns_few (W H most : Int) (A AS : Option Addr) (n c kS cS : Nat) (w : World) (h : 6000 < n ∨ 5 < kS) :
    Calls Try.prog 10 #[.agg #[.int .i64 W, .int .i64 H, .slice A n c], .slice AS kS cS, .int .i64 most] w fun e w' => e = .returned (.bool true) ∧ Below w.heap.size w w' := by
  have AW := Lib.hid fun w' => awake3_any w'
  have FW := Lib.hid fun w' => few_any W H A n c w'
  obtain ⟨fb, hfb⟩ : ∃ fb, decide ((n : Int) ≤ 6000) = fb := ⟨_, rfl⟩
  rw [hfb] at FW
  have hfk : fb = true → decide ((5 : Int) < (kS : Int)) = true := fun e => by
    rw [e] at hfb
    have := of_decide_eq_true hfb
    exact decide_eq_true (by omega)
  clear hfb h
  cases fb with
  | true =>
    have hk := hfk rfl
    have hk2 := of_decide_eq_true hk
    have hk3 : 5 < kS := by omega
    clear hfk
    go_enter Try.func10, Try.ntmps10
    go_wp2_with fail
    refine (FW.out _).mono ?_
    rintro e w2 ⟨rfl, d2⟩
    have b2 : Below w.heap.size w w2 := below_call (by (repeat (first | exact Below.refl _ _ | assumption | refine Below.drew ?_ | refine below_drewN ?_ _ | refine Below.alloc ?_ (by first | omega | (simp; done) | (simp; omega)) _ | refine Below.setCell ?_ (by first | omega | (simp; done) | (simp; omega)) _ | refine below_setRow ?_ (by first | omega | (simp; done) | (simp; omega)) _ ))) (by simp; try omega) d2
    go_wp2_with fail
    refine (AW.out w2).mono ?_
    rintro e w3 ⟨rfl, d3⟩
    have b3 := below_call b2 b2.size d3
    go_wp2
    go_ret
    exact ⟨rfl, b3⟩
  | false =>
    clear hfk
    go_enter Try.func10, Try.ntmps10
    go_wp2_with fail
    refine (FW.out _).mono ?_
    rintro e w2 ⟨rfl, d2⟩
    have b2 : Below w.heap.size w w2 := below_call (by (repeat (first | exact Below.refl _ _ | assumption | refine Below.drew ?_ | refine below_drewN ?_ _ | refine Below.alloc ?_ (by first | omega | (simp; done) | (simp; omega)) _ | refine Below.setCell ?_ (by first | omega | (simp; done) | (simp; omega)) _ | refine below_setRow ?_ (by first | omega | (simp; done) | (simp; omega)) _ ))) (by simp; try omega) d2
    go_wp2_with fail
    refine (AW.out w2).mono ?_
    rintro e w3 ⟨rfl, d3⟩
    have b3 := below_call b2 b2.size d3
    go_wp2
    go_ret
    exact ⟨rfl, b3⟩

theorem staveRuns_any (W H most : Int) (A AS : Option Addr) (n c kS cS : Nat) (p : Int → Int) (K : Nat → Nat) (m : Nat → Nat → Nat) (ln : Nat → Nat → Nat → Int) (w : World)
    (hA : ArrB w w.heap.size A n p) (hB : IsB p) (hcA : A = none → c = 0) (hS : StavesZ w w.heap.size AS kS K m ln) (hK : ∀ i, i < kS → K i ≤ 5864062014634) (hm : ∀ i j, i < kS → j < K i → m i j ≤ 17592186044416) :
    Calls Try.prog 10 #[.agg #[.int .i64 W, .int .i64 H, .slice A n c], .slice AS kS cS, .int .i64 most] w fun e w' => e = .returned (.bool true) ∧ Below w.heap.size w w' := by
  by_cases hf : 6000 < n ∨ 5 < kS
  · exact staveRuns_few W H most A AS n c kS cS w hf
  have hn : n ≤ 6000 := by omega
  have hk : kS ≤ 5 := by omega
  clear hf
  have hmx : ∀ i j, i < kS → j < K i → m i j ≤ maxLen := fun i j a b => by have := hm i j a b; unfold maxLen; omega
  have hnm : n ≤ maxLen := by unfold maxLen; omega
  have zero0 : ∀ i : Int, (0 : Int) = 0 := fun _ => rfl
  by_cases hz : chk W H n p = 0
  · obtain ⟨hW1, hW2, hH1, hH2, hnn, hp1⟩ := chk_ok hz
    have hp : ∀ i : Int, 0 ≤ i → i < n → p i = 0 ∨ p i = 1 := fun i a b => by have := hp1 i a b; have := (hB i).1; omega
    obtain ⟨N, hN⟩ : ∃ N : Nat, W = N := ⟨W.toNat, by omega⟩
    obtain ⟨M, hM⟩ : ∃ M : Nat, H = M := ⟨H.toNat, by omega⟩
    subst hN hM
    have hnN : n = N * M := by
      have h9 : ((N * M : Nat) : Int) = (N : Int) * M := by push_cast; rfl
      omega
    have gU : ∀ b g b' g', (Mode (cntA ((rLs (fun x y => inkB N M p x y) M N).map dkA)) b ∧ Mode (cntA (ltL (rLs (fun x y => inkB N M p x y) M N) (rLs (fun x y => inkB N M p x y) M N).length)) g) → (Mode (cntA ((rLs (fun x y => inkB N M p x y) M N).map dkA)) b' ∧ Mode (cntA (ltL (rLs (fun x y => inkB N M p x y) M N) (rLs (fun x y => inkB N M p x y) M N).length)) g') → b = b' ∧ g = g' :=
      fun b g b' g' h h' => ⟨h.1.uniq h'.1, h.2.uniq h'.2⟩
    have gA : ∀ w' A' c', ArrB w' w'.heap.size A' n p → Calls Try.prog 51 #[.agg #[.int .i64 N, .int .i64 M, .slice A' n c']] w' fun e w'' => ∃ b g, e = .returned (.tuple #[.int .i64 b, .int .i64 g, .int .i64 0]) ∧ (Mode (cntA ((rLs (fun x y => inkB N M p x y) M N).map dkA)) b ∧ Mode (cntA (ltL (rLs (fun x y => inkB N M p x y) M N) (rLs (fun x y => inkB N M p x y) M N).length)) g) ∧ Below w'.heap.size w' w'' :=
      fun w' A' c' h' => (gauge_ok N M A' n c' p w' h' (by omega) (by omega) hnn hp).mono fun e w'' ⟨b, q, h1, h2, h3, h4⟩ => ⟨b, q, h1, ⟨h2, h3⟩, h4⟩
    have gB : (0 : Int) = 0 → ∀ w' A' c', ArrB w' w'.heap.size A' n p → Calls Try.prog 52 #[.agg #[.int .i64 N, .int .i64 M, .slice A' n c']] w' fun e w'' => ∃ b g, e = .returned (.tuple #[.int .i64 b, .int .i64 g]) ∧ (Mode (cntA ((rLs (fun x y => inkB N M p x y) M N).map dkA)) b ∧ Mode (cntA (ltL (rLs (fun x y => inkB N M p x y) M N) (rLs (fun x y => inkB N M p x y) M N).length)) g) ∧ Below w'.heap.size w' w'' :=
      fun _ w' A' c' h' => (rgauge_ok N M A' n c' p w' h' (by omega) (by omega) hnn).mono fun e w'' ⟨v, h0, ⟨b, q, h1, h2, h3⟩, h4⟩ => ⟨b, q, by rw [h0, h1], ⟨h2, h3⟩, h4⟩
    rcases first_no (f := fun i => stFits N M (K i) (m i) (ln i)) (k := kS) with hfit | ⟨kF, hkF, hfit, hend⟩
    · have hb : ∀ a j x : Nat, a < kS → j < 5 → x < N → 0 ≤ ln a j x ∧ ln a j x < M := fun a j x ha hj hx => by
        obtain ⟨f5, fp, -⟩ := stFits_iff.1 (hfit a ha)
        obtain ⟨⟨-, -, g3⟩, g4⟩ := isPathB_iff.1 (fp j (by omega))
        have h9 := stepB_iff.1 (g4 x (by omega) (by omega))
        simp only [Int.toNat_natCast] at h9
        exact ⟨h9.1, h9.2.1⟩
      have hLlen : ((rLs (fun x y => inkB N M p x y) M N).filter (keepR ln kS most)).length ≤ 1000000000 := by
        have h1 := List.length_filter_le (keepR ln kS most) (rLs (fun x y => inkB N M p x y) M N)
        have h2 := rLs_len (fun x y => inkB N M p x y) M N
        omega
      refine staveRuns_gen N M most 0 0 N M A AS n c kS cS n p (strike ((rLs (fun x y => inkB N M p x y) M N).filter (keepR ln kS most)) N p) K m ln _ _ w hA hB hcA hn hS hk hK hm hz hLlen hnm ?_ ?_ ?_ ?_ gA gU (fun h => absurd rfl h) gB
      · intro w' A' c' AS' cS' h1 h2
        refine (runs_okA N most M N A' AS' n c' kS cS' p K m ln w' rfl (by omega) (by omega) h1 hnN hp (by omega) h2 hmx hfit).mono ?_
        rintro e w'' ⟨v, l, rfl, hr, hpm, hs, hbl⟩
        rw [runs_same hb hpm hs] at hr
        exact ⟨v, rfl, hr, hbl⟩
      · intro w' A' c' AS' cS' h1 h2
        refine (rruns_ok N most M N A' AS' n c' kS cS' p K m ln w' rfl (by omega) (by omega) h1 hnN hB hp (by omega) h2 hmx hfit).mono ?_
        rintro e w'' ⟨_, rfl, ⟨u, rfl, hr⟩, hbl⟩
        exact ⟨u, rfl, hr, hbl⟩
      · intro w' A' c' AS' cS' h1 h2
        refine (remove_ok N most M N A' AS' n c' kS cS' p K m ln w' rfl (by omega) (by omega) h1 hnN hp (by omega) h2 hmx hfit).mono ?_
        rintro e w'' ⟨v, rfl, hO, hbl⟩
        refine ⟨v, rfl, hO.conv fun i i0 i1 => strike_congr (fun r => ?_) i, hbl⟩
        have hN0 : 0 < N := by
          rcases Nat.eq_zero_or_pos N with h | h
          · rw [h, Nat.zero_mul] at hnN; omega
          · exact h
        rw [mem_colI_run hb, mem_keep hN0]
      · intro w' A' c' AS' cS' h1 h2
        exact rremove_ok N most M N A' AS' n c' kS cS' p K m ln w' rfl (by omega) (by omega) h1 hnN hB hp (by omega) h2 hmx hfit
    · have RU : ∀ w' A' c' AS' cS', ArrB w' w'.heap.size A' n p → StavesIn w' w'.heap.size AS' kS K m ln → Calls Try.prog 48 #[.agg #[.int .i64 N, .int .i64 M, .slice A' n c'], .slice AS' kS cS', .int .i64 most] w' fun e w'' => e = .returned (.tuple #[.slice none 0 0, .int .i64 10]) ∧ Below w'.heap.size w' w'' :=
        fun w' A' c' AS' cS' h1 h2 => runs_unfit N most M N A' AS' n c' kS cS' kF p K m ln w' rfl (by omega) (by omega) h1 hnN hp (by omega) h2 hmx hkF hfit hend
      have RV : ∀ w' A' c' AS' cS', ArrB w' w'.heap.size A' n p → StavesIn w' w'.heap.size AS' kS K m ln → Calls Try.prog 49 #[.agg #[.int .i64 N, .int .i64 M, .slice A' n c'], .slice AS' kS cS', .int .i64 most] w' fun e w'' => e = .returned (.tuple #[.slice none 0 0, .int .i64 10]) ∧ Below w'.heap.size w' w'' :=
        fun w' A' c' AS' cS' h1 h2 => rruns_unfit N most M N A' AS' n c' kS cS' kF p K m ln w' rfl (by omega) (by omega) h1 hnN hB hp (by omega) h2 hmx hkF hfit hend
      refine staveRuns_gen N M most 0 10 0 0 A AS n c kS cS 0 p (fun _ => 0) K m ln [] _ w hA hB hcA hn hS hk hK hm hz (by simp) (Nat.zero_le _) ?_ ?_ ?_ ?_ gA gU (fun h => absurd rfl h) gB
      · exact fun w' A' c' AS' cS' h1 h2 => (RU w' A' c' AS' cS' h1 h2).mono fun e w'' ⟨h, hbl⟩ => ⟨_, h, RunRow.nil _ _, hbl⟩
      · exact fun w' A' c' AS' cS' h1 h2 => (RV w' A' c' AS' cS' h1 h2).mono fun e w'' ⟨h, hbl⟩ => ⟨_, h, RunRow.nil _ _, hbl⟩
      · exact fun w' A' c' AS' cS' h1 h2 => (remove_err N M most 10 A' AS' n c' kS cS' w' (by decide) fun w1 hb1 => RU w1 A' c' AS' cS' (h1.to hb1) (h2.to hb1)).mono fun e w'' ⟨h, hbl⟩ => ⟨_, h, outT_bad (W := 0) (h := 0) ⟨fun h => absurd h (by decide), fun _ => ⟨rfl, rfl, rfl⟩⟩ (by decide), hbl⟩
      · exact fun w' A' c' AS' cS' h1 h2 => (rremove_err N M most 10 A' AS' n c' kS cS' w' (by decide) fun w1 hb1 => RV w1 A' c' AS' cS' (h1.to hb1) (h2.to hb1)).mono fun e w'' ⟨h, hbl⟩ => ⟨_, h, outT_bad (W := 0) (h := 0) ⟨fun h => absurd h (by decide), fun _ => ⟨rfl, rfl, rfl⟩⟩ (by decide), hbl⟩
  · obtain ⟨z, hzz⟩ : ∃ z, chk W H n p = z := ⟨_, rfl⟩
    have hz0 : z ≠ 0 := fun e => hz (hzz.trans e)
    have RU : ∀ w' A' c' AS' cS', ArrB w' w'.heap.size A' n p → StavesIn w' w'.heap.size AS' kS K m ln → Calls Try.prog 48 #[.agg #[.int .i64 W, .int .i64 H, .slice A' n c'], .slice AS' kS cS', .int .i64 most] w' fun e w'' => e = .returned (.tuple #[.slice none 0 0, .int .i64 z]) ∧ Below w'.heap.size w' w'' :=
      fun w' A' c' AS' cS' h1 _ => runs_bad W H most z A' AS' n c' kS cS' p w' h1 hnm hzz hz0
    have RV : ∀ w' A' c' AS' cS', ArrB w' w'.heap.size A' n p → StavesIn w' w'.heap.size AS' kS K m ln → Calls Try.prog 49 #[.agg #[.int .i64 W, .int .i64 H, .slice A' n c'], .slice AS' kS cS', .int .i64 most] w' fun e w'' => e = .returned (.tuple #[.slice none 0 0, .int .i64 z]) ∧ Below w'.heap.size w' w'' :=
      fun w' A' c' AS' cS' h1 _ => rruns_bad W H most z A' AS' n c' kS cS' p w' h1 hnm hB hzz hz0
    refine staveRuns_gen W H most z z 0 0 A AS n c kS cS 0 p (fun _ => 0) K m ln [] (fun b g => b = 0 ∧ g = 0) w hA hB hcA hn hS hk hK hm hzz (by simp) (Nat.zero_le _) ?_ ?_ ?_ ?_ ?_ ?_ ?_ (fun h => absurd h hz0)
    · exact fun w' A' c' AS' cS' h1 h2 => (RU w' A' c' AS' cS' h1 h2).mono fun e w'' ⟨h, hbl⟩ => ⟨_, h, RunRow.nil _ _, hbl⟩
    · exact fun w' A' c' AS' cS' h1 h2 => (RV w' A' c' AS' cS' h1 h2).mono fun e w'' ⟨h, hbl⟩ => ⟨_, h, RunRow.nil _ _, hbl⟩
    · exact fun w' A' c' AS' cS' h1 h2 => (remove_err W H most z A' AS' n c' kS cS' w' hz0 fun w1 hb1 => RU w1 A' c' AS' cS' (h1.to hb1) (h2.to hb1)).mono fun e w'' ⟨h, hbl⟩ => ⟨_, h, outT_bad (W := 0) (h := 0) ⟨fun h => absurd h hz0, fun _ => ⟨rfl, rfl, rfl⟩⟩ hz0, hbl⟩
    · exact fun w' A' c' AS' cS' h1 h2 => (rremove_err W H most z A' AS' n c' kS cS' w' hz0 fun w1 hb1 => RV w1 A' c' AS' cS' (h1.to hb1) (h2.to hb1)).mono fun e w'' ⟨h, hbl⟩ => ⟨_, h, outT_bad (W := 0) (h := 0) ⟨fun h => absurd h hz0, fun _ => ⟨rfl, rfl, rfl⟩⟩ hz0, hbl⟩
    · exact fun w' A' c' h' => (gauge_bad W H A' n c' p z w' h' hnm hzz hz0).mono fun e w'' ⟨h, hbl⟩ => ⟨0, 0, h, ⟨rfl, rfl⟩, hbl⟩
    · rintro b g b' g' ⟨rfl, rfl⟩ ⟨rfl, rfl⟩; exact ⟨rfl, rfl⟩
    · exact fun _ b g h => h
end Go.Proofs.Ytdimlpcbbkokiaa

/- How an argument that is a list of structs of one list of lines is opened ([]api.Stave). -/
namespace Go.Proofs.Ytdimlpcbbkokiaa
open Go.ChangeShapes Go.WideShapes Go.ChangeAt Go.RowKit Go.Deep
set_option linter.unusedVariables false
section
variable {H : Type} {enc : TypeId × Value → H} {P : Program} {w : World}
theorem open_staves {t s tL e q : TypeId} {f0 : Field} {v : Value} {d : DataW H} {p : List MemPlace} {base : Nat} (hts : P.underlying t = some (.slice s)) (hs : P.underlying s = some (.struct #[f0])) (e0 : f0.type = tL) (o0 : f0.offset = 0) (hC : P.cellsOf s = 1) (hCL : P.cellsOf tL = 1)
    (ht : P.underlying tL = some (.slice e)) (he : P.underlying e = some (.slice q)) (hq : P.underlying q = some (.int .i64)) (ce : P.cellsOf e = 1) (cq : P.cellsOf q = 1) (be : 24 ≤ P.bytesOf e) (bq : P.bytesOf q = 8)
    (hv : Value.okWide P w .any base t v) (h : DataW.Trod enc P w 0 (fun _ => true) true t v d p) (hw : ∀ n ∈ d.weights P t, n ≤ reachBytes) :
    ∃ A k c K m ln, v = .slice A k c ∧ StavesZ w w.heap.size A k K m ln ∧ (∀ i, i < k → K i ≤ 5864062014634) ∧ ∀ i j, i < k → j < K i → m i j ≤ 17592186044416 := by
  obtain ⟨a0, l0, c0, rfl⟩ := okWide_slice hts hv
  obtain ⟨fuel, hf⟩ := h
  have hf' : DataW.trod enc P w 0 (fun _ => true) true fuel t [.slice a0 l0 c0] = some (d, p) := by simpa [Value.cells] using hf
  rcases open_slice1 hts hC hf' with ⟨hcs, _⟩ | ⟨a, len, cap, m, n, V, D, Pl, hcs, _, hl, hm, hmm, hx, hrow⟩
  · simp only [List.cons.injEq, and_true] at hcs
    exact ⟨none, 0, 0, fun _ => 0, fun _ _ => 0, fun _ _ _ => 0, hcs, fun i hi => by omega, fun i hi => by omega, fun i j hi => by omega⟩
  · simp only [List.cons.injEq, and_true] at hcs
    simp only [if_true] at hmm
    have hmm' := hmm.symm
    subst hmm'
    simp only [Prod.mk.injEq] at hx
    obtain ⟨hd, -⟩ := hx
    have each : ∀ r, r < len → ∃ y : Option Addr × Nat × Nat × (Nat → Nat) × (Nat → Nat → Int), V r = .slice y.1 y.2.1 y.2.2.1 ∧ LinesIn w y.1 y.2.1 y.2.2.1 y.2.2.2.1 y.2.2.2.2 := fun r hr => by
      obtain ⟨hc, htr⟩ := hrow r (by omega)
      obtain ⟨y0, n', hx', _, h0⟩ := trod_struct1 hs htr
      simp only [Prod.mk.injEq] at hx'
      have hwr : ∀ k ∈ (D r).weights P s, k ≤ reachBytes := fun k hk => hw k (by
        rw [hd]
        simp only [DataW.weights, hts, List.mem_cons, List.mem_append]
        right; left
        exact weightsAll_mem (d := D r) (List.mem_map.2 ⟨r, List.mem_range.2 hr, rfl⟩) _ hk)
      obtain ⟨A, K, c, m, ln, e1, hl⟩ := lines_of (v := V r) (x := y0) ht he hq ce cq be bq (by rw [← e0]; simpa [o0, e0, hCL] using h0) (fun k hk => hwr k (by
        rw [hx'.1]
        simp only [DataW.weights, hs, DataW.weightsEach, List.map_cons, List.map_nil, List.mem_append]
        left
        rw [e0]; exact hk))
      exact ⟨(A, K, c, m, ln), e1, hl⟩
    obtain ⟨y, hy⟩ := choose_lt each
    refine ⟨some a, len, cap, fun r => (y r).2.1, fun r => (y r).2.2.2.1, fun r => (y r).2.2.2.2, hcs, fun i hi => ?_, fun i hi => ?_, fun i j hi hj => (hy i hi).2.lens j hj⟩
    · obtain ⟨e1, hL⟩ := hy i hi
      obtain ⟨hc, -⟩ := hrow i (by omega)
      obtain ⟨c00, -⟩ := hrow 0 (by omega)
      obtain ⟨b, off, ea⟩ := addr_plain c00
      have ha : a = ⟨b, off, none⟩ := by simpa [Addr.add] using ea
      subst ha
      rw [add_plain, e1] at hc
      exact ⟨b, off, _, _, rfl, block_lt_of_cell c00, hc, hL.lines⟩
    · have h1 := (hy i hi).2.le
      have h2 := (hy i hi).2.outer
      show (y i).2.1 ≤ _
      omega
end
end Go.Proofs.Ytdimlpcbbkokiaa
