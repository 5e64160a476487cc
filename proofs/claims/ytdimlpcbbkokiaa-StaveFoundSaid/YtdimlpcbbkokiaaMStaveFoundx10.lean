/- Texts of mine in build order: B3, T46, T54, T55, S7, S19, S9. Conditions: each theorem's own. -/
import Derived.Test.YtdimlpcbbkokiaaMStaveFoundx9
import Derived.Shelf.Bytes.SlCountOne
/- Walk: image.Not. -/
namespace Go.Proofs.Ytdimlpcbbkokiaa
open Go.RowKit
set_option linter.unusedVariables false
attribute [local go_sem] Oper.semAt_some
theorem enterNot1 (args : Array Value) (w : World) : (callFunc 88 args).run Try.prog w = .ok (.enter 88 args) w := by kernel_rfl
set_option maxHeartbeats 1000000 in
theorem not1_any (W H x y : Int) (A : Option Addr) (n c bx : Nat) (p : Int → Int) (w : World) (hk : Blk w bx 24 #[.int .i64 W, .int .i64 H, .slice A n c]) (hA : ArrB w w.heap.size A n p) (hB : IsB p) (hE : chk W H n p = 0) (x0 : 0 ≤ x) (x1 : x < W) (y0 : 0 ≤ y) (y1 : y < H) :
    Calls Try.prog 88 #[.int .i64 x, .int .i64 y, .pointer (some ⟨bx, 0, none⟩)] w fun e w' => e = .returned (.int .u8 (1 - p (y * W + x))) ∧ Below w.heap.size w w' := by
  obtain ⟨hW1, hW2, hH1, hH2, hnn, hp⟩ := chk_ok hE
  obtain ⟨p1, p2, p3⟩ := hk.cells3
  obtain ⟨j1, j2, j3⟩ := idx_lt x0 x1 y0 y1
  rw [Int.mul_comm H W] at j2
  have j4 : y * W + x < (n : Int) := by omega
  have nb := (area_bd hW1 hW2 hH1 hH2).2
  obtain ⟨b, off, rfl, hb, hc⟩ := ArrB.at_ hA j1 j4
  have q1 := hp _ j1 j4
  have q2 := (hB (y * W + x)).1
  have hw : IntKind.u8.wrap (1 - p (y * W + x)) = 1 - p (y * W + x) := by
    rcases (show p (y * W + x) = 0 ∨ p (y * W + x) = 1 by omega) with h | h <;> rw [h] <;> rfl
  generalize p (y * W + x) = v at *
  clear hE hnn hp hA
  go_enter Try.func88, Try.ntmps88
  go_wp2_with fail
  go_ret
  exact ⟨rfl, Below.refl _ _⟩
set_option maxRecDepth 100000 in
set_option maxHeartbeats 1000000 in
theorem not_all (W H : Int) (A : Option Addr) (n c : Nat) (p : Int → Int) (E W2 H2 : Int) (N : Nat) (w : World) (hA : ArrB w w.heap.size A n p) (hn : n ≤ maxLen) (hB : IsB p) (hE : chk W H n p = E) (hs : RSize E W H W2 H2 N) :
    Calls Try.prog 46 #[.agg #[.int .i64 W, .int .i64 H, .slice A n c]] w (New w fun v w' => OutT w w' E W2 H2 N (fun i => 1 - p i) v) := by
  have CK := Lib.hid fun w' hA' => check_any W H A n c p w' hA' hn
  rw [hE] at CK
  have b1 : Below w.heap.size w ((w.alloc (.cells #[.int .i64 W, .int .i64 H, .slice A n c] 24)).alloc (.cells #[.int .i64 0, .int .i64 0, .slice none 0 0] 24)) := by (repeat (first | exact Below.refl _ _ | assumption | refine Below.drew ?_ | refine below_drewN ?_ _ | refine Below.alloc ?_ (by first | omega | (simp; done) | (simp; omega)) _ | refine Below.setCell ?_ (by first | omega | (simp; done) | (simp; omega)) _ | refine below_setRow ?_ (by first | omega | (simp; done) | (simp; omega)) _ ))
  have k1 : Blk ((w.alloc (.cells #[.int .i64 W, .int .i64 H, .slice A n c] 24)).alloc (.cells #[.int .i64 0, .int .i64 0, .slice none 0 0] 24)) w.heap.size 24 #[.int .i64 W, .int .i64 H, .slice A n c] := (Blk.new _ _ _).alloc _
  have k2 : Blk ((w.alloc (.cells #[.int .i64 W, .int .i64 H, .slice A n c] 24)).alloc (.cells #[.int .i64 0, .int .i64 0, .slice none 0 0] 24)) (w.heap.size + 1) 24 #[.int .i64 0, .int .i64 0, .slice none 0 0] := Blk.new' (by simp) _ _
  have HS := Lib.hid hs
  by_cases h0 : E = 0
  · subst h0
    obtain ⟨hW1, hW2, hH1, hH2, hnn, hp⟩ := chk_ok hE
    obtain ⟨rfl, rfl, hN⟩ := hs.1 rfl
    obtain rfl : N = n := by omega
    have N1 := Lib.hid fun x y bx w' hk hA' => not1_any W2 H2 x y A N c bx p w' hk hA' hB hE
    have MD := Lib.hid fun (w' : World) (hk : Blk w' w.heap.size 24 #[.int .i64 W2, .int .i64 H2, .slice A N c]) (hA' : ArrB w' w'.heap.size A N p) => pixmade_any W2 H2 N 88 #[.pointer (some ⟨w.heap.size, 0, none⟩)] (fun x y => 1 - p (y * W2 + x)) w' enterNot1 hW1 hW2 hH1 hH2 hN
      (fun x y v x0 x1 y0 y1 hb => by
        show Calls _ _ #[_, _, _] _ _
        exact N1.out x y w.heap.size v (hk.below' hb) (hA'.to hb) x0 x1 y0 y1)
    clear hs hE hnn hp hB hN
    go_enter Try.func46, Try.ntmps46
    go_wp2_with fail
    generalize (w.alloc (.cells #[.int .i64 W2, .int .i64 H2, .slice A N c] 24)).alloc (.cells #[.int .i64 0, .int .i64 0, .slice none 0 0] 24) = w1 at *
    refine (CK.out _ (hA.to b1)).mono ?_
    rintro e w2 ⟨rfl, hb2⟩
    have b2 := below_call b1 b1.size hb2
    have k3 := k1.below' hb2
    have k4 := k2.below' hb2
    have hA2 := Lib.hid (hA.to b2)
    have K3 := Lib.hid k3
    obtain ⟨p1, p2, p3⟩ := k3.cells3
    have hmf : ∀ (fn : Fn) (first cap : Array Value) (w : World), (Instr.makeFunc fn first cap).run Try.prog w = .ok (.func fn first cap) w := fun _ _ _ _ => rfl
    clear b1 k1 k2 hb2 CK k3
    go_wp2_with fail
    refine (MD.out _ K3.out hA2.out).mono ?_
    rintro e w3 ⟨_, rfl, ⟨gp, rfl, hgp, kp⟩, hb3⟩
    have b3 := below_call b2 b2.size hb3
    have k5 := k4.below' hb3
    have zz := k4.lt
    obtain ⟨r1, r2, r3⟩ := k5.cells3
    obtain ⟨f1, f2, f3⟩ := k5.frozen3
    have k6 := ((k5.set_ 0 (.int .i64 W2)).set_ 1 (.int .i64 H2)).set_ 2 (.slice (some ⟨gp, 0, none⟩) N N)
    obtain ⟨s1, s2, s3⟩ := Blk.cells3 (a := .int .i64 W2) (b := .int .i64 H2) (c := .slice (some ⟨gp, 0, none⟩) N N) k6
    have zb := b2.size
    clear p1 p2 p3
    go_wp2_with fail
    refine bodyPost_ret (v := .tuple #[.agg #[.int .i64 W2, .int .i64 H2, .slice (some ⟨gp, 0, none⟩) N N], .int .i64 0]) (by simp [results, Try.results46, go_sem, s1, s2, s3]) rfl ?_
    have g1 : gp ≠ w.heap.size + 1 := by omega
    refine ⟨_, rfl, ⟨_, _, rfl, (fun a e => by cases e; show w.heap.size ≤ gp; omega), ?_⟩, by (repeat (first | exact Below.refl _ _ | assumption | refine Below.drew ?_ | refine below_drewN ?_ _ | refine Below.alloc ?_ (by first | omega | (simp; done) | (simp; omega)) _ | refine Below.setCell ?_ (by first | omega | (simp; done) | (simp; omega)) _ | refine below_setRow ?_ (by first | omega | (simp; done) | (simp; omega)) _ ))⟩
    have KE := Blk.far (Blk.far (Blk.far kp (p := ⟨w.heap.size + 1, 0, none⟩) g1 (.int .i64 W2)) (p := ⟨w.heap.size + 1, 1, none⟩) g1 (.int .i64 H2)) (p := ⟨w.heap.size + 1, 2, none⟩) g1 (.slice (some ⟨gp, 0, none⟩) N N)
    refine (KE.arrB KE.lt).congr fun i i0 i1 => ?_
    unfold byPix
    have := Int.emod_add_mul_ediv i W2
    rw [Int.mul_comm] at this
    show 1 - p (i / W2 * W2 + i % W2) = 1 - p i
    rw [show i / W2 * W2 + i % W2 = i by omega]
  · have hz : (E != 0) = true := by simp [h0]
    have HH := Lib.hid h0
    clear hs hE h0
    go_enter Try.func46, Try.ntmps46
    go_wp2_with fail
    generalize (w.alloc (.cells #[.int .i64 W, .int .i64 H, .slice A n c] 24)).alloc (.cells #[.int .i64 0, .int .i64 0, .slice none 0 0] 24) = w1 at *
    refine (CK.out _ (hA.to b1)).mono ?_
    rintro e w2 ⟨rfl, hb2⟩
    have b2 := below_call b1 b1.size hb2
    have k4 := k2.below' hb2
    obtain ⟨r1, r2, r3⟩ := k4.cells3
    obtain ⟨f1, f2, f3⟩ := k4.frozen3
    have k9 := ((k4.set_ 0 (.int .i64 0)).set_ 1 (.int .i64 0)).set_ 2 (.slice none 0 0)
    obtain ⟨s1, s2, s3⟩ := Blk.cells3 (a := .int .i64 0) (b := .int .i64 0) (c := .slice none 0 0) k9
    go_wp2_with fail
    refine bodyPost_ret (v := .tuple #[noImg, .int .i64 E]) (by simp [results, Try.results46, go_sem, noImg, s1, s2, s3]) rfl ?_
    exact ⟨_, rfl, outT_bad HS.out HH.out, by (repeat (first | with_reducible exact Below.refl _ _ | with_reducible assumption | with_reducible refine Below.drew ?_ | (with_reducible refine below_alloc' ?_ ?_; focus (first | omega | (simp; done) | (simp; omega))) | (with_reducible refine below_fill3' ?_ ?_; focus omega) | (with_reducible refine below_setCell' ?_ ?_; focus (first | omega | (simp; done) | (simp; omega))) | (with_reducible apply below_call'; (focus (with_reducible assumption)); (focus (first | omega | (simp; done) | (simp; omega))))))⟩
end Go.Proofs.Ytdimlpcbbkokiaa

/- Walk: StaveBack. Written by gen/t46.py. -/
namespace Go.Proofs.Ytdimlpcbbkokiaa
open Go.RowKit Go.Shelf
set_option linter.unusedVariables false
attribute [local go_sem] Oper.semAt_some
theorem xor01 {a b : Int} (ha : a = 0 ∨ a = 1) (hb : b = 0 ∨ b = 1) : ∃ v, bits BinOp.xor IntKind.u8 a b = v ∧ (v = 0 ∨ v = 1) := by
  rcases ha with rfl | rfl <;> rcases hb with rfl | rfl
  · exact ⟨0, rfl, .inl rfl⟩
  · exact ⟨1, rfl, .inr rfl⟩
  · exact ⟨1, rfl, .inr rfl⟩
  · exact ⟨0, rfl, .inl rfl⟩
theorem upd01 {q : Int → Int} (h : Is01 q) {i v : Int} (hv : v = 0 ∨ v = 1) : Is01 (upd q i v) := fun j => by
  unfold upd; split
  · exact hv
  · exact h j
theorem stChk_mk {W H : Int} {n : Nat} {p : Int → Int} {K : Nat} {m : Nat → Nat} {ln : Nat → Nat → Int} (h1 : chk W H n p = 0) (h2 : StP W H K m ln) : stChk W H n p K m ln = 0 := by
  unfold stChk
  rw [if_neg (show ¬ chk W H n p ≠ 0 from fun h => h h1), if_pos (stFits_iff.2 h2)]
theorem recE_mk {W H : Int} {n : Nat} {p : Int → Int} {K : Nat} {m : Nat → Nat} {ln : Nat → Nat → Int} {up down : Int} (h1 : stChk W H n p K m ln = 0) (h2 : 0 ≤ up) (h3 : 0 ≤ down) (h4 : up + down + 1 ≤ 640) : recE W H n p K m ln up down = 0 := by
  unfold recE
  rw [if_neg (show ¬ stChk W H n p K m ln ≠ 0 from fun h => h h1), if_neg (by omega), if_neg (by omega)]
theorem resE_mk {W H h : Int} {n sn : Nat} {p sp : Int → Int} {K : Nat} {m : Nat → Nat} {ln : Nat → Nat → Int} {up : Int} (h1 : chk W H n p = 0) (h2 : chk W h sn sp = 0) (h3 : StP W H K m ln) (h4 : 0 ≤ up) (h5 : up < h) : resE W H n p W h sn sp K m ln up = 0 := by
  unfold resE
  rw [if_neg (show ¬ orE _ _ ≠ 0 from fun h => h (orE_zero.2 ⟨h1, h2⟩)), if_neg (by rw [stFits_iff.2 h3]; simp), if_neg (by omega), if_neg (by simp)]
theorem bit01 {r : Int} (h0 : 0 ≤ r) : (r % 2 = 0 ∨ r % 2 = 1) := by omega
theorem wavy_fits {W H low high : Int} {k nn t : Nat} {R : Int → Int} (hk : W = (k : Int) + 1) (hH : H = 5 + (high - low) + (nn : Int) * 24 + ((nn : Int) - 1) * 12 + 6) (ht : t < nn) (hW : 40 ≤ W)
    (hR : ∀ x : Int, 0 ≤ x → x < W → low ≤ R x ∧ R x ≤ high) (hN : ∀ i : Int, -1 ≤ R (i + 1) - R i ∧ R (i + 1) - R i ≤ 1) : StP W H 5 (fun _ => k + 1) (fun j => wvL low R (5 * t + j)) := by
  refine ⟨rfl, fun i hi => ?_, fun i hi x hx => ?_⟩
  · have h0 := hR 0 (by omega) (by omega)
    show isPathB W H (k + 1) (fun j => wvL low R (5 * t + i) j.toNat) = true
    rw [isPathB_iff]
    refine ⟨⟨by omega, by omega, by omega⟩, fun x x0 x1 => ?_⟩
    rw [stepB_iff]
    have hx := hR x x0 (by omega)
    rw [wvL_at low R t i _ hi, Int.toNat_of_nonneg x0]
    refine ⟨by omega, by omega, ?_⟩
    by_cases c : x ≤ 0
    · exact .inl c
    · right
      rw [wvL_at low R t i _ hi, Int.toNat_of_nonneg (by omega : 0 ≤ x - 1)]
      have := hN (x - 1)
      rw [show x - 1 + 1 = x by omega] at this
      omega
  · show wvL low R (5 * t + i) x < wvL low R (5 * t + (i + 1)) x
    rw [wvL_at low R t i _ (by omega), wvL_at low R t (i + 1) _ hi]
    omega

set_option maxRecDepth 100000 in
set_option maxHeartbeats 8000000 in
theorem staveBack_any (wd sv up dn : Int) (A AB : Option Addr) (n c nb cb : Nat) (p pb : Int → Int) (w : World) (hA : ArrB w w.heap.size A n p) (hn : n ≤ maxLen) (hnc : n ≤ c) (hB : IsB p) (hAB : ArrB w w.heap.size AB nb pb) (hnb : nb ≤ maxLen) (hBB : IsB pb)
    (hwd : 0 ≤ wd ∧ wd ≤ 255) (hsv : 0 ≤ sv ∧ sv ≤ 255) (hup : 0 ≤ up ∧ up ≤ 255) (hdn : 0 ≤ dn ∧ dn ≤ 255) :
    Calls Try.prog 9 #[.int .u8 wd, .int .u8 sv, .slice A n c, .slice AB nb cb, .int .u8 up, .int .u8 dn] w fun e w' => e = .returned (.bool true) ∧ Below w.heap.size w w' := by
  have AW := Lib.hid fun w' => awake3_any w'
  obtain ⟨W, hW⟩ : ∃ W, 40 + wd % 120 = W := ⟨_, rfl⟩
  obtain ⟨k, hk⟩ : ∃ k : Nat, W = (k : Int) + 1 := ⟨(W - 1).toNat, by omega⟩
  obtain ⟨M, hM⟩ : ∃ M : Nat, (M : Int) = min (n : Int) 14 := ⟨min n 14, by omega⟩
  obtain ⟨low, hlow⟩ : ∃ l, minA (rsF p M) k = l := ⟨_, rfl⟩
  obtain ⟨high, hhigh⟩ : ∃ l, maxA (rsF p M) k = l := ⟨_, rfl⟩
  obtain ⟨n1, hn1⟩ : ∃ n1 : Nat, 1 + sv % 3 = ((n1 + 1 : Nat) : Int) := ⟨(sv % 3).toNat, by omega⟩
  obtain ⟨H, hH⟩ : ∃ H, H = 5 + (high - low) + ((n1 + 1 : Nat) : Int) * 24 + (((n1 + 1 : Nat) : Int) - 1) * 12 + 6 := ⟨_, rfl⟩
  have hW0 : 40 ≤ W ∧ W ≤ 159 := by omega
  have hn3 : n1 ≤ 2 := by omega
  have hM14 : M ≤ 14 := by omega
  have hR0 : ∀ x : Int, 0 ≤ x → x < W → low ≤ rsF p M x ∧ rsF p M x ≤ high := by
    intro x x0 x1
    have h2 := (minAq_le (q := rsF p M) (minA := minA) (fun _ => rfl) (fun _ _ => rfl) k).1 x x0 (by omega)
    have h3 := (maxAq_ge (q := rsF p M) (maxA := maxA) (fun _ => rfl) (fun _ _ => rfl) k).1 x x0 (by omega)
    rw [hlow] at h2
    rw [hhigh] at h3
    exact ⟨h2, h3⟩
  have hlo : -14 ≤ low ∧ low ≤ 14 := by
    obtain ⟨-, j, -, -, e⟩ := minAq_le (q := rsF p M) (minA := minA) (fun _ => rfl) (fun _ _ => rfl) k
    have := rsF_bd (p := p) M j
    rw [← hlow, e]; omega
  have hhi : low ≤ high ∧ high ≤ 14 := by
    obtain ⟨-, j, -, -, e⟩ := maxAq_ge (q := rsF p M) (maxA := maxA) (fun _ => rfl) (fun _ _ => rfl) k
    have h1 := rsF_bd (p := p) M j
    have h2 := hR0 0 (by omega) (by omega)
    rw [hhigh] at e
    omega
  have hH0 : 1 ≤ H ∧ H ≤ 640 := by omega
  have nbd := area_bd (W := W) (H := H) (by omega) (by omega) (by omega) hH0.2
  obtain ⟨N, hN⟩ : ∃ N : Nat, (N : Int) = W * H := ⟨(W * H).toNat, Int.toNat_of_nonneg nbd.1⟩
  obtain ⟨U, hU⟩ : ∃ U, up % 60 = U := ⟨_, rfl⟩
  obtain ⟨D, hD⟩ : ∃ D, dn % 60 = D := ⟨_, rfl⟩
  have hUb : 0 ≤ U ∧ U ≤ 59 := by omega
  have hDb : 0 ≤ D ∧ D ≤ 59 := by omega
  obtain ⟨h, hh⟩ : ∃ h, h = U + D + 1 := ⟨_, rfl⟩
  have nbd2 := area_bd (W := W) (H := h) (by omega) (by omega) (by omega) (by omega)
  obtain ⟨N2, hN2⟩ : ∃ N2 : Nat, (N2 : Int) = W * h := ⟨(W * h).toNat, Int.toNat_of_nonneg nbd2.1⟩
  have WV := Lib.hid fun w' hA' => wavy_any wd sv W low high H A n c k M (n1 + 1) N p w' hA' hn hnc hB hwd hsv hW hk hM hlow hhigh hn1 hH hN
  have FITS := Lib.hid (wavy_fits (t := n1) (R := rsF p M) hk hH (by omega) hW0.1 hR0 (fun i => (rsF_near (p := p) M i).1))
  obtain ⟨L, hL⟩ : ∃ L, L = wvL low (rsF p M) := ⟨_, rfl⟩
  rw [← hL] at WV FITS
  have HK := Lib.hid hk; have HU := Lib.hid hU; have HD := Lib.hid hD; have HN := Lib.hid hN; have HN2 := Lib.hid hN2; have HHH := Lib.hid hh
  have hWn : W.toNat = k + 1 := by omega
  have HWN := Lib.hid hWn
  have NB : (N : Int) ≤ 409600 := by omega
  clear hW hM hlow hhigh hn1 hH hR0 hL hU hD hh hk hWn hB hN hN2 nbd nbd2
  obtain ⟨hup1, hup2⟩ := hup
  obtain ⟨hdn1, hdn2⟩ := hdn
  go_enter Try.func9, Try.ntmps9
  go_wp2_with fail
  refine (WV.out _ hA).mono ?_
  rintro e w1 ⟨_, rfl, ⟨gp, Bs, vo, vs, rfl, hgp, hgB, kp, hS⟩, hb1⟩
  rw [HWN.out] at hS
  obtain ⟨Ao, co, eo, -, -⟩ := own_arr hS.row
  rw [List.length_map, List.length_range] at eo
  subst eo
  have zz1 := hb1.size
  have kx := Blk.new w1 24 #[.int .i64 W, .int .i64 H, .slice (some ⟨gp, 0, none⟩) N N]
  have kp2 := kp.alloc (.cells #[.int .i64 W, .int .i64 H, .slice (some ⟨gp, 0, none⟩) N N] 24)
  have S2 := hS.below ((Below.refl _ _).alloc (Nat.le_refl _) (.cells #[.int .i64 W, .int .i64 H, .slice (some ⟨gp, 0, none⟩) N N] 24))
  have b2 : Below w.heap.size w (w1.alloc (.cells #[.int .i64 W, .int .i64 H, .slice (some ⟨gp, 0, none⟩) N N] 24)) := hb1.alloc zz1 _
  have hgx : gp ≠ w1.heap.size := by have := kp.lt; omega
  clear hS kp hb1 WV hA
  go_wp2_with fail
  generalize w1.alloc (.cells #[.int .i64 W, .int .i64 H, .slice (some ⟨gp, 0, none⟩) N N] 24) = w2 at *
  generalize w1.heap.size = bx at *
  obtain ⟨q0, hq0⟩ : ∃ q0, wvQ W L (5 * (n1 + 1)) 0 = q0 := ⟨_, rfl⟩
  have hq01 : Is01 q0 := by rw [← hq0]; exact wvQ_is01
  rw [hq0] at kp2
  clear hq0
  have hxB := kx.lt
  generalize hB2 : w2.heap.size = B2 at *
  go_loopw [42] (fun s wr => ∃ i : Nat, i ≤ N ∧ s = .int .i64 i ∧ But B2 gp w2 wr ∧ ∃ q, Is01 q ∧ Blk wr gp 5 (u8s N q)) (fun s _ => N - (intOf s).toNat)
  case atStart => exact ⟨0, by omega, rfl, But.refl _ (by omega), q0, hq01, kp2⟩
  case round =>
    obtain ⟨i, hi, rfl, bu, q, hq, ap⟩ := hrel
    clear kp2 hq01
    have ax := kx.but bu hxB (fun e => hgx e.symm)
    obtain ⟨x1, x2, x3⟩ := ax.cells3
    by_cases il : (i : Int) < N
    · have i0 : (0 : Int) ≤ i := by omega
      have t1 : (i : Int).tmod 1201 = (i : Int) % 1201 := Int.tmod_eq_emod_of_nonneg i0
      have e0 : 0 ≤ (i : Int) % 1201 ∧ (i : Int) % 1201 ≤ 1200 := by omega
      obtain ⟨K, hK⟩ : ∃ K, (i : Int) % 1201 = K := ⟨_, rfl⟩
      rw [hK] at t1 e0
      have HK1 := Lib.hid hK
      obtain ⟨e1, e2⟩ := e0
      have t3 : IntKind.i64.wrap (K.tdiv 8) = K / 8 := by rw [Int.tdiv_eq_ediv_of_nonneg e1]; exact IntWalk.i64_in _ (by omega)
      have d0 : 0 ≤ K / 8 := by omega
      by_cases hb : K / 8 < nb
      · have d1 : 0 ≤ K % 8 := by omega
        have d2 : K % 8 < 8 := by omega
        have d3 : K % 8 ≤ 8 := by omega
        have t4 : K.tmod 8 = K % 8 := Int.tmod_eq_emod_of_nonneg e1
        obtain ⟨bA, off, rfl, hbA, hcell⟩ := ArrB.at_ (ArrB.below hAB (b2.trans (bu.to hB2 (show w.heap.size ≤ gp by omega) (by have := b2.size; omega)))) d0 hb
        obtain ⟨hr2, hr3⟩ := hBB (K / 8)
        generalize pb (K / 8) = r at *
        have hv : 0 ≤ r / 2 ^ (K % 8).toNat ∧ r / 2 ^ (K % 8).toNat ≤ 255 := by
          have h1 : (0 : Int) < 2 ^ (K % 8).toNat := Int.pow_pos (by omega)
          exact ⟨Int.ediv_nonneg hr2 (by omega), Int.le_trans (Int.ediv_le_self _ hr2) hr3⟩
        obtain ⟨hv1, hv2⟩ := hv
        have bv := and_one_u8 _ hv1 hv2
        obtain ⟨v, hxv, hv01⟩ := xor01 (hq (i : Int)) (bit01 hv1)
        have ho := ap.u8at i0 il
        have hf := ap.frozen i
        have UQ := Lib.hid (ap.u8set i i0 v)
        rw [Int.toNat_natCast] at ho
        have HV := Lib.hid hv01
        clear hv01
        go_wp2_with fail
        go_still_tail 16, (by kernel_rfl)
        change wpList _ _ _ _ _ wr.drew
        clear t1 t3 t4 bv hxv hK
        go_wp2
        go_roundw
        case rel => exact ⟨i + 1, by omega, by go_num, (bu.then (Below.refl B2 wr).drew).set _ _, _, upd01 hq HV.out, by simpa using UQ.out.drew⟩
        case measure => simp [intOf]; omega
      · go_wp2_with fail
        go_roundw
        case rel => exact ⟨i + 1, by omega, by go_num, bu, q, hq, ap⟩
        case measure => simp [intOf]; omega
    · obtain rfl : N = i := by omega
      have S5 := S2.but bu hB2 hgB
      have b3 : Below w.heap.size w wr := b2.trans (bu.to hB2 (show w.heap.size ≤ gp by omega) (by have := b2.size; omega))
      obtain ⟨gv, cv, csv, ev, -, hbv, hcv⟩ := own_blk (show wr.ownsRow Bs 54 1 (.slice Ao (n1 + 1) co) (n1 + 1) ((List.range (n1 + 1)).map vs) from by have := S5.row; rwa [List.length_map, List.length_range] at this) (by omega)
      obtain ⟨lv, hFv⟩ := S5.each n1 (by simp)
      obtain ⟨A5, c5, e5, -, -, LC⟩ := hFv.toLines
      have hst : (((List.range (n1 + 1)).map (5 * ·)).getD n1 0) = 5 * n1 := by simp [List.getD_eq_getElem?_getD]
      rw [hst] at LC
      have hc5 := hcv n1 (by omega)
      rw [List.getElem?_map, List.getElem?_range (by omega), Option.map_some, e5] at hc5
      injection ev with ev1 ev2 ev3
      subst ev1 ev3
      have p9 : wr.cell? ⟨gv, n1, none⟩ = some (.slice A5 5 c5) := by rw [hbv.cell]; exact hc5
      have hq2 : Is01 q := hq
      have HST := FITS.out
      clear hcv hFv e5 hc5 S5 S2 hst FITS hbv ev2
      have k9 := (Blk.new wr 54 #[.slice A5 5 c5])
      have bn : Below wr.heap.size wr (wr.alloc (.cells #[.slice A5 5 c5] 54)) := (Below.refl _ _).alloc (Nat.le_refl _) _
      replace LC := LC.below bn
      have K0 : Kp (wr.alloc (.cells #[.slice A5 5 c5] 54)) [(wr.heap.size, 54, #[.slice A5 5 c5]), (bx, 24, #[.int .i64 W, .int .i64 H, .slice (some ⟨gp, 0, none⟩) N N])] [(some ⟨gp, 0, none⟩, N, q)] :=
        (((Kp.nil _).addA ((ap.alloc _).arrB (ap.alloc _).lt)).addB (ax.alloc _)).addB k9
      have b5 := b3.alloc b3.size (.cells #[.slice A5 5 c5] 54)
      clear ap ax k9 bn b3 x1 x2 x3 bu
      go_upto_region 10 with fail
      generalize wr.alloc (.cells #[.slice A5 5 c5] 54) = w6 at *
      generalize wr.heap.size = sx at *
      go_cut [18, 19] (fun a b wx => a = .int .i64 U ∧ b = .int .i64 D ∧ wx = w6)
      case first =>
        go_wp2_with fail
        go_meet
        exact ⟨by rw [← HU.out], by rw [← HD.out], rfl⟩
      case rest =>
      obtain ⟨rfl, rfl, hwc⟩ := hcut
      obtain rfl : w6 = wc := hwc.symm
      clear hwc p9 kx hxB
      obtain ⟨LL, hLL⟩ : ∃ LL : Nat → Nat → Int, LL = fun j => L (5 * n1 + j) := ⟨_, rfl⟩
      rw [← hLL] at LC HST
      clear hLL
      have hNm : N ≤ maxLen := by unfold maxLen; omega
      have hhb : 1 ≤ h ∧ h ≤ 640 := by have := HHH.out; omega
      have nbh := (area_bd (W := W) (H := h) (by omega) (by omega) (by omega) hhb.2).2
      have hN2b : (N2 : Int) ≤ 409600 := by have := HN2.out; omega
      have hN2m : N2 ≤ maxLen := by unfold maxLen; omega
      have hmm : ∀ j, j < 5 → (fun _ => k + 1) j ≤ maxLen := fun j _ => by show k + 1 ≤ maxLen; have := HK.out; unfold maxLen; omega
      have ckg : ∀ f : Int → Int, Is01 f → chk W H N f = 0 := fun f hf => chk_01 (by omega) (by omega) (by omega) hH0.2 HN.out fun i _ _ => is01_le hf i
      have cks : ∀ f : Int → Int, Is01 f → chk W h N2 f = 0 := fun f hf => chk_01 (by omega) (by omega) (by omega) hhb.2 HN2.out fun i _ _ => is01_le hf i
      have hrec : ∀ f : Int → Int, Is01 f → recE W H N f 5 (fun _ => k + 1) LL U D = 0 := fun f hf => recE_mk (stChk_mk (ckg f hf) HST) hUb.1 hDb.1 (by have := HHH.out; omega)
      have hres : ∀ f g : Int → Int, Is01 f → Is01 g → resE W H N f W h N2 g 5 (fun _ => k + 1) LL U = 0 := fun f g hf hg => resE_mk (ckg f hf) (cks g hg) HST hUb.1 (by have := HHH.out; omega)
      have sz1 : RSize 0 W H W H N := ⟨fun _ => ⟨rfl, rfl, HN.out⟩, fun h => absurd rfl h⟩
      have sz2 : RSize 0 W (U + D + 1) W h N2 := ⟨fun _ => ⟨rfl, HHH.out, by rw [← HHH.out]; exact HN2.out⟩, fun h => absurd rfl h⟩
      have sz3 : RSize 0 W h W h N2 := ⟨fun _ => ⟨rfl, rfl, HN2.out⟩, fun h => absurd rfl h⟩
      obtain ⟨Q1, hQ1⟩ : ∃ Q, Q = recQ W H q (LL 4) U := ⟨_, rfl⟩
      obtain ⟨Q2, hQ2⟩ : ∃ Q, Q = resQ W H h q Q1 (LL 4) U := ⟨_, rfl⟩
      obtain ⟨Q3, hQ3⟩ : ∃ Q : Int → Int, Q = fun i => 1 - Q1 i := ⟨_, rfl⟩
      obtain ⟨Q4, hQ4⟩ : ∃ Q, Q = resQ W H h q Q3 (LL 4) U := ⟨_, rfl⟩
      obtain ⟨Q5, hQ5⟩ : ∃ Q, Q = recQ W H Q4 (LL 4) U := ⟨_, rfl⟩
      have h1 : Is01 Q1 := by rw [hQ1]; exact recQ_01 hq2
      have h3 : Is01 Q3 := by rw [hQ3]; exact not_01 h1
      have h4 : Is01 Q4 := by rw [hQ4]; exact resQ_01 hq2 h3
      have BH : Hid (∀ i : Int, 0 ≤ i → i < N → Q2 i = q i) := by
        show ∀ _, _
        intro i i0 i1
        rw [hQ2, hQ1]; exact back_home (by omega) i0 (by have := HN.out; omega)
      have BK : Hid (∀ x y : Int, 0 ≤ x → x < W → 0 ≤ y → y < h → Q5 (y * W + x) = if 0 ≤ LL 4 x.toNat - U + y ∧ LL 4 x.toNat - U + y < H then 1 - q ((LL 4 x.toNat - U + y) * W + x) else 0) := by
        show ∀ _, _
        intro x y x0 x1 y0 y1
        rw [hQ5, hQ4, hQ3, hQ1]; exact back_strip x0 x1 y0 y1
      have D1 := Lib.hid fun w' h' hl => rectify_all W H (some ⟨gp, 0, none⟩) A5 N N 5 c5 q (fun _ => k + 1) LL U D 0 W h N2 w' h' hNm (is01_B hq2) hl hmm (hrec q hq2) sz2
      have D2 := Lib.hid fun As cs w' h' hs hl => restore_all W H W h (some ⟨gp, 0, none⟩) As A5 N N N2 cs 5 c5 q Q1 (fun _ => k + 1) LL U 0 W H N w' h' (by omega) hs hN2m hl hmm (hres q Q1 hq2 h1) sz1
      have D3 := Lib.hid fun As cs w' h' => not_all W h As N2 cs Q1 0 W h N2 w' h' hN2m (is01_B h1) (cks Q1 h1) sz3
      have D4 := Lib.hid fun As cs w' h' hs hl => restore_all W H W h (some ⟨gp, 0, none⟩) As A5 N N N2 cs 5 c5 q Q3 (fun _ => k + 1) LL U 0 W H N w' h' (by omega) hs hN2m hl hmm (hres q Q3 hq2 h3) sz1
      have D5 := Lib.hid fun As cs w' h' hl => rectify_all W H As A5 N cs 5 c5 Q4 (fun _ => k + 1) LL U D 0 W h N2 w' h' hNm (is01_B h4) hl hmm (hrec Q4 h4) sz2
      rw [← hQ1] at D1
      rw [← hQ2] at D2
      rw [← hQ3] at D3
      rw [← hQ4] at D4
      rw [← hQ5] at D5
      have hne : (h != U + D + 1) = false := by have := HHH.out; simp [this]
      have hUV := hUb.1; have hUV2 := hUb.2; have hDV := hDb.1; have hDV2 := hDb.2
      have PT := Lib.hid ((isPathB_iff.1 (HST.2.1 4 (by omega))).2)
      clear hQ1 hQ2 hQ3 hQ4 hQ5 hrec hres ckg cks sz1 sz2 sz3 hmm HST
      obtain ⟨p1, p2, p3⟩ := (K0.b 1 rfl).cells3
      have u1 := (K0.b 0 rfl).cells0
      go_wp2_with fail
      refine (D1.out _ (K0.a 0 rfl) LC).mono ?_
      rintro e v6 ⟨_, rfl, ⟨Astrip, cstrip, rfl, hgstrip, astrip⟩, hb6⟩
      have K6a := (K0.below hb6).addA astrip
      have b6a := below_call b5 b5.size hb6
      have z6 := b6a.size
      have b6 : Below w.heap.size w (v6.alloc (.cells #[.int .i64 W, .int .i64 h, .slice Astrip N2 cstrip] 24)) := by (repeat (first | exact Below.refl _ _ | assumption | refine Below.drew ?_ | refine below_drewN ?_ _ | refine Below.alloc ?_ (by first | omega | (simp; done) | (simp; omega)) _ | refine Below.setCell ?_ (by first | omega | (simp; done) | (simp; omega)) _ | refine below_setRow ?_ (by first | omega | (simp; done) | (simp; omega)) _ ))
      have K6 := K6a.new 24 #[.int .i64 W, .int .i64 h, .slice Astrip N2 cstrip]
      replace LC := (LC.below hb6).below ((Below.refl _ _).alloc (Nat.le_refl _) (.cells #[.int .i64 W, .int .i64 h, .slice Astrip N2 cstrip] 24))
      clear K0 b5 K6a b6a hb6 astrip hgstrip p1 p2 p3 u1 z6 D1
      obtain ⟨p1, p2, p3⟩ := (K6.b 2 rfl).cells3
      obtain ⟨r1, r2, r3⟩ := (K6.b 0 rfl).cells3
      have u1 := (K6.b 1 rfl).cells0
      go_wp2_with fail
      generalize v6.alloc (.cells #[.int .i64 W, .int .i64 h, .slice Astrip N2 cstrip] 24) = w6 at *
      refine (D2.out _ _ _ (K6.a 1 rfl) (K6.a 0 rfl) LC).mono ?_
      rintro e v7 ⟨_, rfl, ⟨Ahome, chome, rfl, hghome, ahome⟩, hb7⟩
      have K7a := (K6.below hb7).addA ahome
      have b7a := below_call b6 b6.size hb7
      have z7 := b7a.size
      have b7 : Below w.heap.size w (v7.alloc (.cells #[.int .i64 W, .int .i64 H, .slice Ahome N chome] 24)) := by (repeat (first | exact Below.refl _ _ | assumption | refine Below.drew ?_ | refine below_drewN ?_ _ | refine Below.alloc ?_ (by first | omega | (simp; done) | (simp; omega)) _ | refine Below.setCell ?_ (by first | omega | (simp; done) | (simp; omega)) _ | refine below_setRow ?_ (by first | omega | (simp; done) | (simp; omega)) _ ))
      have K7 := K7a.new 24 #[.int .i64 W, .int .i64 H, .slice Ahome N chome]
      replace LC := (LC.below hb7).below ((Below.refl _ _).alloc (Nat.le_refl _) (.cells #[.int .i64 W, .int .i64 H, .slice Ahome N chome] 24))
      clear K6 b6 K7a b7a hb7 ahome hghome p1 p2 p3 r1 r2 r3 u1 z7 D2
      obtain ⟨p1, p2, p3⟩ := (K7.b 1 rfl).cells3
      obtain ⟨r1, r2, r3⟩ := (K7.b 3 rfl).cells3
      obtain ⟨s1, s2, s3⟩ := (K7.b 0 rfl).cells3
      go_wp2_with fail
      generalize v7.alloc (.cells #[.int .i64 W, .int .i64 H, .slice Ahome N chome] 24) = w7 at *
      refine (sameInk_true W H Ahome (some ⟨gp, 0, none⟩) N chome N _ q _ (K7.a 0 rfl) (K7.a 2 rfl) hNm BH.out).mono ?_
      rintro e v8 ⟨rfl, hb8⟩
      replace LC := LC.below hb8
      have K8 := K7.below hb8
      have b8 := below_call b7 b7.size hb8
      clear K7 b7 hb8 p1 p2 p3 r1 r2 r3 s1 s2 s3 
      obtain ⟨p1, p2, p3⟩ := (K8.b 1 rfl).cells3
      go_wp2_with fail
      refine (D3.out _ _ _ (K8.a 1 rfl)).mono ?_
      rintro e v9 ⟨_, rfl, ⟨Anot, cnot, rfl, hgnot, anot⟩, hb9⟩
      have K9a := (K8.below hb9).addA anot
      have b9a := below_call b8 b8.size hb9
      have z9 := b9a.size
      have b9 : Below w.heap.size w (v9.alloc (.cells #[.int .i64 W, .int .i64 h, .slice Anot N2 cnot] 24)) := by (repeat (first | exact Below.refl _ _ | assumption | refine Below.drew ?_ | refine below_drewN ?_ _ | refine Below.alloc ?_ (by first | omega | (simp; done) | (simp; omega)) _ | refine Below.setCell ?_ (by first | omega | (simp; done) | (simp; omega)) _ | refine below_setRow ?_ (by first | omega | (simp; done) | (simp; omega)) _ ))
      have K9 := K9a.new 24 #[.int .i64 W, .int .i64 h, .slice Anot N2 cnot]
      replace LC := (LC.below hb9).below ((Below.refl _ _).alloc (Nat.le_refl _) (.cells #[.int .i64 W, .int .i64 h, .slice Anot N2 cnot] 24))
      clear K8 b8 K9a b9a hb9 anot hgnot p1 p2 p3 z9 D3
      obtain ⟨p1, p2, p3⟩ := (K9.b 4 rfl).cells3
      obtain ⟨r1, r2, r3⟩ := (K9.b 0 rfl).cells3
      have u1 := (K9.b 3 rfl).cells0
      go_wp2_with fail
      generalize v9.alloc (.cells #[.int .i64 W, .int .i64 h, .slice Anot N2 cnot] 24) = w9 at *
      refine (D4.out _ _ _ (K9.a 3 rfl) (K9.a 0 rfl) LC).mono ?_
      rintro e v10 ⟨_, rfl, ⟨Aother, cother, rfl, hgother, aother⟩, hb10⟩
      have K10a := (K9.below hb10).addA aother
      have b10a := below_call b9 b9.size hb10
      have z10 := b10a.size
      have b10 : Below w.heap.size w (v10.alloc (.cells #[.int .i64 W, .int .i64 H, .slice Aother N cother] 24)) := by (repeat (first | exact Below.refl _ _ | assumption | refine Below.drew ?_ | refine below_drewN ?_ _ | refine Below.alloc ?_ (by first | omega | (simp; done) | (simp; omega)) _ | refine Below.setCell ?_ (by first | omega | (simp; done) | (simp; omega)) _ | refine below_setRow ?_ (by first | omega | (simp; done) | (simp; omega)) _ ))
      have K10 := K10a.new 24 #[.int .i64 W, .int .i64 H, .slice Aother N cother]
      replace LC := (LC.below hb10).below ((Below.refl _ _).alloc (Nat.le_refl _) (.cells #[.int .i64 W, .int .i64 H, .slice Aother N cother] 24))
      clear K9 b9 K10a b10a hb10 aother hgother p1 p2 p3 r1 r2 r3 u1 z10 D4
      obtain ⟨p1, p2, p3⟩ := (K10.b 0 rfl).cells3
      have u1 := (K10.b 4 rfl).cells0
      go_wp2_with fail
      generalize v10.alloc (.cells #[.int .i64 W, .int .i64 H, .slice Aother N cother] 24) = w10 at *
      refine (D5.out _ _ _ (K10.a 0 rfl) LC).mono ?_
      rintro e v11 ⟨_, rfl, ⟨Aback, cback, rfl, hgback, aback⟩, hb11⟩
      have K11a := (K10.below hb11).addA aback
      have b11a := below_call b10 b10.size hb11
      have z11 := b11a.size
      have b11 : Below w.heap.size w (v11.alloc (.cells #[.int .i64 W, .int .i64 h, .slice Aback N2 cback] 24)) := by (repeat (first | exact Below.refl _ _ | assumption | refine Below.drew ?_ | refine below_drewN ?_ _ | refine Below.alloc ?_ (by first | omega | (simp; done) | (simp; omega)) _ | refine Below.setCell ?_ (by first | omega | (simp; done) | (simp; omega)) _ | refine below_setRow ?_ (by first | omega | (simp; done) | (simp; omega)) _ ))
      have K11 := K11a.new 24 #[.int .i64 W, .int .i64 h, .slice Aback N2 cback]
      replace LC := (LC.below hb11).below ((Below.refl _ _).alloc (Nat.le_refl _) (.cells #[.int .i64 W, .int .i64 h, .slice Aback N2 cback] 24))
      clear K10 b10 K11a b11a hb11 aback hgback p1 p2 p3 u1 z11 D5
      obtain ⟨p1, p2, p3⟩ := (K11.b 4 rfl).cells3
      obtain ⟨r1, r2, r3⟩ := (K11.b 6 rfl).cells3
      obtain ⟨s1, s2, s3⟩ := (K11.b 0 rfl).cells3
      have u1 := (K11.b 5 rfl).cells0
      go_wp2_with fail
      generalize v11.alloc (.cells #[.int .i64 W, .int .i64 h, .slice Aback N2 cback] 24) = w11 at *
      have AKb := Lib.hid (K11.a 0 rfl)
      have AKg := Lib.hid (K11.a 5 rfl)
      obtain ⟨bA, oA, A4, c4, rfl, hbA, hcA, haA⟩ := LC.at_ (i := 4) (by omega)
      obtain ⟨b5', o5, rfl, hb5', hcl⟩ := ArrI.fn haA (by show 0 < k + 1; omega)
      have HCL := Lib.hid hcl
      clear hcl LC K11
      go_loop [158] (fun s => ∃ y : Nat, (y : Int) ≤ h ∧ s = .int .i64 y) (fun s => (h - intOf s).toNat)
      case atStart => exact ⟨0, by omega, rfl⟩
      case round =>
        obtain ⟨y, hy, rfl⟩ := hrel
        by_cases yl : (y : Int) < h
        · go_wp2_with fail
          go_loop [163] (fun s => ∃ x : Nat, (x : Int) ≤ W ∧ s = .int .i64 x) (fun s => (W - intOf s).toNat)
          case atStart => exact ⟨0, by omega, rfl⟩
          case round =>
            obtain ⟨x, hx, rfl⟩ := hrel
            by_cases xl : (x : Int) < W
            · have xk : (x : Int) < ((k + 1 : Nat) : Int) := by have := HK.out; omega
              have xk2 : (x : Int) < (k : Int) + 1 := by have := HK.out; omega
              have lx := HCL.out x (by omega) xk
              rw [Int.toNat_natCast] at lx
              obtain ⟨pb1, pb2, -⟩ := stepB_iff.1 (PT.out x (by omega) xk)
              rw [Int.toNat_natCast] at pb1 pb2
              have BX := BK.out x y (by omega) xl (by omega) yl
              rw [Int.toNat_natCast] at BX
              generalize LL 4 x = l at *
              obtain ⟨j1, j2, j3⟩ := idx_lt (x := (x : Int)) (y := (y : Int)) (W := W) (H := h) (by omega) xl (by omega) yl
              rw [Int.mul_comm h W] at j2
              have j4 : (y : Int) * W + x < (N2 : Int) := by have := HN2.out; omega
              obtain ⟨bb, ob, rfl, hbb, hcb⟩ := ArrB.at_ AKb.out j1 j4
              by_cases hin : 0 ≤ l - U + (y : Int) ∧ l - U + (y : Int) < H
              · rw [if_pos hin] at BX
                obtain ⟨hi1, hi2⟩ := hin
                have d1 : decide (0 ≤ l - U + (y : Int)) = true := decide_eq_true hi1
                have d2 : decide (l - U + (y : Int) < H) = true := decide_eq_true hi2
                obtain ⟨i1, i2, i3⟩ := idx_lt (x := (x : Int)) (y := l - U + (y : Int)) (W := W) (H := H) (by omega) xl hi1 hi2
                rw [Int.mul_comm H W] at i2
                have i4 : (l - U + (y : Int)) * W + x < (N : Int) := by have := HN.out; omega
                obtain ⟨bg, og, eg, hbg, hcg⟩ := ArrB.at_ AKg.out i1 i4
                injection eg with eg
                injection eg with eg1 eg2
                subst eg1 eg2
                rw [Nat.zero_add] at hcg
                rw [BX] at hcb
                have hv := hq2 ((l - U + (y : Int)) * W + x)
                generalize q ((l - U + (y : Int)) * W + x) = v at *
                have hw : IntKind.u8.wrap (1 - v) = 1 - v := by rcases hv with rfl | rfl <;> rfl
                have HV := Lib.hid hv
                clear hv BX
                go_wp2_with fail
                go_round
                case rel => exact ⟨x + 1, by omega, by go_num⟩
                case measure => simp [intOf]; omega
              · rw [if_neg hin] at BX
                rw [BX] at hcb
                clear BX
                by_cases h0 : 0 ≤ l - U + (y : Int)
                · have hh2 : ¬ l - U + (y : Int) < H := fun h3 => hin ⟨h0, h3⟩
                  have d1 : decide (0 ≤ l - U + (y : Int)) = true := decide_eq_true h0
                  have d2 : decide (l - U + (y : Int) < H) = false := decide_eq_false hh2
                  clear hin
                  go_wp2_with fail
                  go_round
                  case rel => exact ⟨x + 1, by omega, by go_num⟩
                  case measure => simp [intOf]; omega
                · have d1 : decide (0 ≤ l - U + (y : Int)) = false := decide_eq_false h0
                  clear hin
                  go_wp2_with fail
                  go_round
                  case rel => exact ⟨x + 1, by omega, by go_num⟩
                  case measure => simp [intOf]; omega
            · go_wp2_with fail
              go_round
              case rel => exact ⟨y + 1, by omega, by go_num⟩
              case measure => simp [intOf]; omega
        · go_wp2_with fail
          refine (AW.out _).mono ?_
          rintro e w20 ⟨rfl, hb20⟩
          have b20 := below_call b11 b11.size hb20
          go_wp2
          go_ret
          exact ⟨rfl, b20⟩
end Go.Proofs.Ytdimlpcbbkokiaa

/- Walk: StaveHarm. The start is turned from T46. -/
namespace Go.Proofs.Ytdimlpcbbkokiaa
open Go.RowKit Go.Shelf
set_option linter.unusedVariables false
attribute [local go_sem] Oper.semAt_some
theorem StavesIn.belowB {w w' : World} {B : Nat} {A : Option Addr} {k : Nat} {K : Nat → Nat} {m : Nat → Nat → Nat} {ln : Nat → Nat → Nat → Int} (h : StavesIn w B A k K m ln) (hb : Below B w w') : StavesIn w' B A k K m ln := fun i hi => by
  obtain ⟨b, off, AL, cL, rfl, h1, h2, h3⟩ := h i hi
  exact ⟨b, off, AL, cL, rfl, h1, (hb.cell (p := ⟨b, off + i, none⟩) h1).trans h2, h3.belowB hb⟩
/-- the pixels that lines go through, marked -/
def lnB (W : Int) (L : Nat → Nat → Int) (t : Nat) (x : Int) : Int → Bool := fun j => decide (wvQ W L t x j = 1)
section
variable {W : Int} {L : Nat → Nat → Int} {t : Nat} {x i : Int}
theorem lnB_start (hW : 0 < W) : lnB W L (5 * 0) 0 i = false := by unfold lnB; rw [show 5 * 0 = 0 from rfl, wvQ_start hW]; rfl
theorem lnB_line (hW : 0 < W) : lnB W L t W i = lnB W L (t + 1) 0 i := by unfold lnB; rw [wvQ_line hW]
theorem lnB_set (x0 : 0 ≤ x) (x1 : x < W) : (if i = L t x.toNat * W + x then true else lnB W L t x i) = lnB W L t (x + 1) i := by
  have h := wvQ_set (L := L) (t := t) (i := i) x0 x1
  unfold upd at h
  unfold lnB
  rw [← h]
  split
  · rfl
  · rfl
end
theorem lnB_on {W : Int} {L : Nat → Nat → Int} {ns K1 : Nat} {e : Int} (hK : W = K1) (hW : 0 < W) (he : 0 ≤ e) : lnB W L (5 * ns) 0 e = true ↔ OnLine (fun i j => L (5 * i + j)) ns K1 W e := by
  have m0 := Int.emod_nonneg e (show W ≠ 0 by omega)
  have m1 := Int.emod_lt_of_pos e hW
  have hd := Int.emod_add_mul_ediv e W
  have key : lnB W L (5 * ns) 0 e = true ↔ ∃ s, s < 5 * ns ∧ L s (e % W).toNat = e / W := by
    unfold lnB
    rw [decide_eq_true_iff]
    unfold wvQ
    constructor
    · intro h
      split at h
      · rename_i c
        rcases c with c | c
        · obtain ⟨s, h1, h2⟩ := List.any_eq_true.1 c
          exact ⟨s, List.mem_range.1 h1, of_decide_eq_true h2⟩
        · omega
      · omega
    · rintro ⟨s, h1, h2⟩
      rw [if_pos (.inl (List.any_eq_true.2 ⟨s, List.mem_range.2 h1, decide_eq_true h2⟩))]
  rw [key]
  constructor
  · rintro ⟨s, h1, h2⟩
    refine ⟨s / 5, s % 5, (e % W).toNat, by omega, by omega, by omega, ?_⟩
    show L (5 * (s / 5) + s % 5) (e % W).toNat * W + ((e % W).toNat : Int) = e
    rw [show 5 * (s / 5) + s % 5 = s by omega, h2, Int.toNat_of_nonneg m0, Int.mul_comm]
    omega
  · rintro ⟨i, j, x, h1, h2, h3, h4⟩
    have h4' : L (5 * i + j) x * W + (x : Int) = e := h4
    have q1 := idx_mod (y := L (5 * i + j) x) (x := x) (W := W) (by omega) (by omega)
    have q2 := idx_div (y := L (5 * i + j) x) (x := x) (W := W) (by omega) (by omega)
    rw [h4'] at q1 q2
    refine ⟨5 * i + j, by omega, ?_⟩
    rw [q1, q2, Int.toNat_natCast]
/-- one of the first d places from y on is marked -/
def metB (f : Nat → Bool) (y : Nat) : Nat → Bool
  | 0 => false
  | d + 1 => metB f y d || f (y + d)
theorem metB_iff {f : Nat → Bool} {y : Nat} : ∀ {d : Nat}, metB f y d = true ↔ ∃ j, y ≤ j ∧ j < y + d ∧ f j = true
  | 0 => by simp [metB]; intro j h1 h2; omega
  | d + 1 => by
    rw [metB, Bool.or_eq_true, metB_iff]
    constructor
    · rintro (⟨j, h1, h2, h3⟩ | h)
      · exact ⟨j, h1, by omega, h3⟩
      · exact ⟨y + d, by omega, by omega, h⟩
    · rintro ⟨j, h1, h2, h3⟩
      by_cases c : j = y + d
      · subst c; exact .inr h3
      · exact .inl ⟨j, h1, by omega, h3⟩
theorem StavesIn.moreB {w : World} {B B' : Nat} {A : Option Addr} {k : Nat} {K : Nat → Nat} {m : Nat → Nat → Nat} {ln : Nat → Nat → Nat → Int} (h : StavesIn w B A k K m ln) (hB : B ≤ B') : StavesIn w B' A k K m ln := fun i hi => by
  obtain ⟨b, off, AL, cL, rfl, h1, h2, h3⟩ := h i hi
  exact ⟨b, off, AL, cL, rfl, Nat.lt_of_lt_of_le h1 hB, h2, h3.more hB⟩
theorem or01 {a b : Int} (ha : a = 0 ∨ a = 1) (hb : b = 0 ∨ b = 1) : ∃ v, bits BinOp.or IntKind.u8 a b = v ∧ (v = 0 ∨ v = 1) := by
  rcases ha with rfl | rfl <;> rcases hb with rfl | rfl
  · exact ⟨0, rfl, .inl rfl⟩
  · exact ⟨1, rfl, .inr rfl⟩
  · exact ⟨1, rfl, .inr rfl⟩
  · exact ⟨1, rfl, .inr rfl⟩
theorem StOut.stavesIn {Bs M n : Nat} {w : World} {L : Nat → Nat → Int} {v : Value} {vs : Nat → Value} (h : StOut Bs w (fun _ => M) L ((List.range n).map (5 * ·)) v vs) : ∃ A c, v = .slice A n c ∧ StavesIn w w.heap.size A n (fun _ => 5) (fun _ _ => M) (fun i j => L (5 * i + j)) := by
  have hrow := h.row
  rw [List.length_map, List.length_range] at hrow
  by_cases hn : 0 < n
  · obtain ⟨gv, cv, csv, ev, -, hbv, hcv⟩ := own_blk hrow hn
    refine ⟨_, _, ev, fun i hi => ?_⟩
    obtain ⟨lv, hFv⟩ := h.each i (by simpa using hi)
    obtain ⟨A5, c5, e5, -, -, LC⟩ := hFv.toLines
    have hst : (((List.range n).map (5 * ·)).getD i 0) = 5 * i := by simp [List.getD_eq_getElem?_getD, hi]
    rw [hst] at LC
    have hc5 := hcv i hi
    rw [List.getElem?_map, List.getElem?_range hi, Option.map_some, e5] at hc5
    exact ⟨gv, 0, A5, c5, rfl, hbv.lt, by rw [Nat.zero_add, hbv.cell]; exact hc5, LC⟩
  · obtain ⟨A, c, e, -, -⟩ := own_arr hrow
    exact ⟨A, c, e, fun i hi => by omega⟩

set_option maxRecDepth 100000 in
set_option maxHeartbeats 8000000 in
theorem staveHarm_any (wd sv mo : Int) (A AB : Option Addr) (n c nb cb : Nat) (p pb : Int → Int) (w : World) (hA : ArrB w w.heap.size A n p) (hn : n ≤ maxLen) (hnc : n ≤ c) (hB : IsB p) (hAB : ArrB w w.heap.size AB nb pb) (hnb : nb ≤ maxLen) (hBB : IsB pb)
    (hwd : 0 ≤ wd ∧ wd ≤ 255) (hsv : 0 ≤ sv ∧ sv ≤ 255) (hmo : 0 ≤ mo ∧ mo ≤ 255) :
    Calls Try.prog 7 #[.int .u8 wd, .int .u8 sv, .slice A n c, .slice AB nb cb, .int .u8 mo] w fun e w' => e = .returned (.bool true) ∧ Below w.heap.size w w' := by
  have AW := Lib.hid fun w' => awake3_any w'
  obtain ⟨W, hW⟩ : ∃ W, 40 + wd % 120 = W := ⟨_, rfl⟩
  obtain ⟨k, hk⟩ : ∃ k : Nat, W = (k : Int) + 1 := ⟨(W - 1).toNat, by omega⟩
  obtain ⟨M, hM⟩ : ∃ M : Nat, (M : Int) = min (n : Int) 14 := ⟨min n 14, by omega⟩
  obtain ⟨low, hlow⟩ : ∃ l, minA (rsF p M) k = l := ⟨_, rfl⟩
  obtain ⟨high, hhigh⟩ : ∃ l, maxA (rsF p M) k = l := ⟨_, rfl⟩
  obtain ⟨ns, hns⟩ : ∃ ns : Nat, 1 + sv % 3 = (ns : Int) := ⟨(1 + sv % 3).toNat, by omega⟩
  obtain ⟨H, hH⟩ : ∃ H, H = 5 + (high - low) + (ns : Int) * 24 + ((ns : Int) - 1) * 12 + 6 := ⟨_, rfl⟩
  have hW0 : 40 ≤ W ∧ W ≤ 159 := by omega
  have hn3 : ns ≤ 3 ∧ 1 ≤ ns := by omega
  have hM14 : M ≤ 14 := by omega
  have hR0 : ∀ x : Int, 0 ≤ x → x < W → low ≤ rsF p M x ∧ rsF p M x ≤ high := by
    intro x x0 x1
    have h2 := (minAq_le (q := rsF p M) (minA := minA) (fun _ => rfl) (fun _ _ => rfl) k).1 x x0 (by omega)
    have h3 := (maxAq_ge (q := rsF p M) (maxA := maxA) (fun _ => rfl) (fun _ _ => rfl) k).1 x x0 (by omega)
    rw [hlow] at h2
    rw [hhigh] at h3
    exact ⟨h2, h3⟩
  have hlo : -14 ≤ low ∧ low ≤ 14 := by
    obtain ⟨-, j, -, -, e⟩ := minAq_le (q := rsF p M) (minA := minA) (fun _ => rfl) (fun _ _ => rfl) k
    have := rsF_bd (p := p) M j
    rw [← hlow, e]; omega
  have hhi : low ≤ high ∧ high ≤ 14 := by
    obtain ⟨-, j, -, -, e⟩ := maxAq_ge (q := rsF p M) (maxA := maxA) (fun _ => rfl) (fun _ _ => rfl) k
    have h1 := rsF_bd (p := p) M j
    have h2 := hR0 0 (by omega) (by omega)
    rw [hhigh] at e
    omega
  have hH0 : 1 ≤ H ∧ H ≤ 640 := by omega
  have nbd := area_bd (W := W) (H := H) (by omega) (by omega) (by omega) hH0.2
  obtain ⟨N, hN⟩ : ∃ N : Nat, (N : Int) = W * H := ⟨(W * H).toNat, Int.toNat_of_nonneg nbd.1⟩
  obtain ⟨MO, hMO⟩ : ∃ MO, mo % 41 = MO := ⟨_, rfl⟩
  have hMOb : 0 ≤ MO ∧ MO ≤ 40 := by omega
  have WV := Lib.hid fun w' hA' => wavy_any wd sv W low high H A n c k M ns N p w' hA' hn hnc hB hwd hsv hW hk hM hlow hhigh hns hH hN
  have FITS := Lib.hid fun (t : Nat) (ht : t < ns) => wavy_fits (t := t) (R := rsF p M) hk hH ht hW0.1 hR0 (fun i => (rsF_near (p := p) M i).1)
  obtain ⟨L, hL⟩ : ∃ L, L = wvL low (rsF p M) := ⟨_, rfl⟩
  rw [← hL] at WV FITS
  obtain ⟨K1, hK1⟩ : ∃ K1, k + 1 = K1 := ⟨_, rfl⟩
  rw [hK1] at FITS
  have hkK : W = (K1 : Int) := by omega
  have HK := Lib.hid hkK; have HMO := Lib.hid hMO; have HN := Lib.hid hN
  have hWn : W.toNat = K1 := by omega
  have HWN := Lib.hid hWn
  have NB : (N : Int) ≤ 409600 := by omega
  clear hW hM hlow hhigh hns hH hR0 hL hMO hk hkK hK1 hWn hB hN nbd
  obtain ⟨hmo1, hmo2⟩ := hmo
  obtain ⟨hMO1, hMO2⟩ := hMOb
  obtain ⟨Hn, hHn⟩ : ∃ Hn : Nat, H = Hn := ⟨H.toNat, by omega⟩
  subst hHn
  go_enter Try.func7, Try.ntmps7
  go_wp2_with fail
  refine (WV.out _ hA).mono ?_
  rintro e w1 ⟨_, rfl, ⟨gp, Bs, vo, vs, rfl, hgp, hgB, kp, hS⟩, hb1⟩
  rw [HWN.out] at hS
  obtain ⟨Ao, co, eo, -, -⟩ := own_arr hS.row
  rw [List.length_map, List.length_range] at eo
  subst eo
  have zz1 := hb1.size
  have kx := Blk.new w1 24 #[.int .i64 W, .int .i64 (Hn : Int), .slice (some ⟨gp, 0, none⟩) N N]
  have kp2 := kp.alloc (.cells #[.int .i64 W, .int .i64 (Hn : Int), .slice (some ⟨gp, 0, none⟩) N N] 24)
  have S2 := hS.below ((Below.refl _ _).alloc (Nat.le_refl _) (.cells #[.int .i64 W, .int .i64 (Hn : Int), .slice (some ⟨gp, 0, none⟩) N N] 24))
  have b2 : Below w.heap.size w (w1.alloc (.cells #[.int .i64 W, .int .i64 (Hn : Int), .slice (some ⟨gp, 0, none⟩) N N] 24)) := hb1.alloc zz1 _
  have hgx : gp ≠ w1.heap.size := by have := kp.lt; omega
  clear hS kp hb1 WV hA
  go_wp2_with fail
  generalize w1.alloc (.cells #[.int .i64 W, .int .i64 (Hn : Int), .slice (some ⟨gp, 0, none⟩) N N] 24) = w2 at *
  generalize w1.heap.size = bx at *
  obtain ⟨q0, hq0⟩ : ∃ q0, wvQ W L (5 * ns) 0 = q0 := ⟨_, rfl⟩
  have hq01 : Is01 q0 := by rw [← hq0]; exact wvQ_is01
  rw [hq0] at kp2
  clear hq0
  have hxB := kx.lt
  generalize hB2 : w2.heap.size = B2 at *
  go_loopw [41] (fun s wr => ∃ i : Nat, i ≤ N ∧ s = .int .i64 i ∧ But B2 gp w2 wr ∧ ∃ q, Is01 q ∧ Blk wr gp 5 (u8s N q)) (fun s _ => N - (intOf s).toNat)
  case atStart => exact ⟨0, by omega, rfl, But.refl _ (by omega), q0, hq01, kp2⟩
  case round =>
    obtain ⟨i, hi, rfl, bu, q, hq, ap⟩ := hrel
    clear kp2 hq01
    have ax := kx.but bu hxB (fun e => hgx e.symm)
    obtain ⟨x1, x2, x3⟩ := ax.cells3
    by_cases il : (i : Int) < N
    · have i0 : (0 : Int) ≤ i := by omega
      have t1 : (i : Int).tmod 1201 = (i : Int) % 1201 := Int.tmod_eq_emod_of_nonneg i0
      have e0 : 0 ≤ (i : Int) % 1201 ∧ (i : Int) % 1201 ≤ 1200 := by omega
      obtain ⟨K, hK⟩ : ∃ K, (i : Int) % 1201 = K := ⟨_, rfl⟩
      rw [hK] at t1 e0
      have HK1 := Lib.hid hK
      obtain ⟨e1, e2⟩ := e0
      have t3 : IntKind.i64.wrap (K.tdiv 8) = K / 8 := by rw [Int.tdiv_eq_ediv_of_nonneg e1]; exact IntWalk.i64_in _ (by omega)
      have d0 : 0 ≤ K / 8 := by omega
      by_cases hb : K / 8 < nb
      · have d1 : 0 ≤ K % 8 := by omega
        have d2 : K % 8 < 8 := by omega
        have d3 : K % 8 ≤ 8 := by omega
        have t4 : K.tmod 8 = K % 8 := Int.tmod_eq_emod_of_nonneg e1
        obtain ⟨bA, off, rfl, hbA, hcell⟩ := ArrB.at_ (ArrB.below hAB (b2.trans (bu.to hB2 (show w.heap.size ≤ gp by omega) (by have := b2.size; omega)))) d0 hb
        obtain ⟨hr2, hr3⟩ := hBB (K / 8)
        generalize pb (K / 8) = r at *
        have hv : 0 ≤ r / 2 ^ (K % 8).toNat ∧ r / 2 ^ (K % 8).toNat ≤ 255 := by
          have h1 : (0 : Int) < 2 ^ (K % 8).toNat := Int.pow_pos (by omega)
          exact ⟨Int.ediv_nonneg hr2 (by omega), Int.le_trans (Int.ediv_le_self _ hr2) hr3⟩
        obtain ⟨hv1, hv2⟩ := hv
        have bv := and_one_u8 _ hv1 hv2
        obtain ⟨v, hxv, hv01⟩ := or01 (hq (i : Int)) (bit01 hv1)
        have ho := ap.u8at i0 il
        have hf := ap.frozen i
        have UQ := Lib.hid (ap.u8set i i0 v)
        rw [Int.toNat_natCast] at ho
        have HV := Lib.hid hv01
        clear hv01
        go_wp2_with fail
        go_still_tail 16, (by kernel_rfl)
        change wpList _ _ _ _ _ wr.drew
        clear t1 t3 t4 bv hxv hK
        go_wp2
        go_roundw
        case rel => exact ⟨i + 1, by omega, by go_num, (bu.then (Below.refl B2 wr).drew).set _ _, _, upd01 hq HV.out, by simpa using UQ.out.drew⟩
        case measure => simp [intOf]; omega
      · go_wp2_with fail
        go_roundw
        case rel => exact ⟨i + 1, by omega, by go_num, bu, q, hq, ap⟩
        case measure => simp [intOf]; omega
    · obtain rfl : N = i := by omega
      have S5 := S2.but bu hB2 hgB
      have b3 : Below w.heap.size w wr := b2.trans (bu.to hB2 (show w.heap.size ≤ gp by omega) (by have := b2.size; omega))
      obtain ⟨As, cs, es, SI⟩ := S5.stavesIn
      injection es with es1 es2 es3
      subst es1 es3
      have hSI := Lib.hid SI
      have hq2 := hq
      clear S5 S2 SI es2 hq
      go_upto_region 9 with fail
      go_cut [15] (fun a wx => a = .int .i64 MO ∧ wx = wr)
      case first =>
        go_wp2_with fail
        go_meet
        exact ⟨by rw [← HMO.out], rfl⟩
      case rest =>
      obtain ⟨rfl, hwc⟩ := hcut
      obtain rfl : wr = wc := hwc.symm
      clear hwc
      obtain ⟨LN, hLN⟩ : ∃ LN : Nat → Nat → Nat → Int, LN = fun i j => L (5 * i + j) := ⟨_, rfl⟩
      rw [← hLN] at hSI
      have HLN := Lib.hid hLN
      have HFT := Lib.hid fun i (hi : i < ns) => (show stFits W Hn 5 (fun _ => K1) (LN i) = true from by rw [hLN]; exact stFits_iff.2 (FITS.out i hi))
      have hWk := HK.out
      have BDS := Lib.hid fun (a j x : Nat) (ha : a < ns) (hj : j < 5) (hx : x < K1) => (show 0 ≤ LN a j x ∧ LN a j x < Hn from by
        obtain ⟨-, g4⟩ := isPathB_iff.1 ((stFits_iff.1 (HFT.out a ha)).2.1 j hj)
        have h9 := stepB_iff.1 (g4 x (by omega) (show (x : Int) < (K1 : Int) by omega))
        simp only [Int.toNat_natCast] at h9
        exact ⟨h9.1, h9.2.1⟩)
      have hNk : N = K1 * Hn := by
        have h1 := HN.out
        rw [hWk] at h1
        exact_mod_cast h1
      obtain ⟨Q1, hQ1⟩ : ∃ Q1, Q1 = strike (colI q W Hn MO LN K1 ns) W q := ⟨_, rfl⟩
      have hq1 : Is01 Q1 := by rw [hQ1]; exact strike_01 hq2
      have hW1 := hWk
      have RUNS := Lib.hid fun (x f t : Nat) (hx : x < K1) (hr : RunOf q W Hn x f t) (y : Nat) (h1 : f ≤ y) (h2 : y < t) => (show Q1 ((y : Int) * W + x) = 0 ↔ (∃ j : Nat, f ≤ j ∧ j < t ∧ OnLine LN ns K1 W ((j : Int) * W + x)) ∧ (t : Int) - f ≤ MO from by
        rw [hQ1]; exact strike_run (l := colI q W Hn MO LN K1 ns) hW1 (fun _ => Iff.rfl) BDS.out hx hr h1 h2)
      have PAPER := Lib.hid fun (i : Int) (hi : q i = 0) => (show Q1 i = 0 from by rw [hQ1]; exact strike_paper hi)
      have AGAIN := Lib.hid (show colI Q1 W Hn MO LN K1 ns = [] from by
        rw [hQ1]; exact strike_again (l := colI q W Hn MO LN K1 ns) hW1 hq2 (fun _ => Iff.rfl) BDS.out)
      have RM := Lib.hid fun (f : Int → Int) (hf : Is01 f) (A' : Option Addr) (c' : Nat) w' hA' hS' => remove_ok W MO Hn K1 A' Ao N c' ns co f (fun _ => 5) (fun _ _ => K1) LN w' hW1 (by omega) (by omega) hA' hNk (fun i _ _ => hf i) (by omega) ⟨by omega, by omega⟩ hS' (fun _ _ _ _ => by unfold maxLen; omega) HFT.out
      have RM1 := Lib.hid fun w' hA' hS' => RM.out q hq2 (some ⟨gp, 0, none⟩) N w' hA' hS'
      rw [← hQ1] at RM1
      have hWp : 0 < W := by omega
      clear hLN hQ1 hW1 hNk hWk
      obtain ⟨B0, hB0⟩ : ∃ B0, wr.heap.size = B0 := ⟨_, rfl⟩
      have HB0 := Lib.hid hB0
      have SI0 := Lib.hid (show StavesIn wr B0 Ao ns (fun _ => 5) (fun _ _ => K1) LN from hB0 ▸ hSI.out)
      go_wp2_with fail
      refine (RM1.out wr (ap.arrB ap.lt) hSI.out).mono ?_
      rintro e w7 ⟨_, rfl, ⟨A2, c2, rfl, hg2, ha2⟩, hb7⟩
      have b7 := below_call b3 b3.size hb7
      have z7 := hb7.size
      have hmk := makeO (N : Int) (by omega) (by omega)
      simp only [Int.toNat_natCast] at hmk
      have ax7 := (ax.below' hb7).alloc (.cells #[.int .i64 W, .int .i64 (Hn : Int), .slice A2 N c2] 24)
      have ap7 := (ap.below' hb7).alloc (.cells #[.int .i64 W, .int .i64 (Hn : Int), .slice A2 N c2] 24)
      have l7 := Blk.new w7 24 #[.int .i64 W, .int .i64 (Hn : Int), .slice A2 N c2]
      have bA7 : Below w7.heap.size w7 (w7.alloc (.cells #[.int .i64 W, .int .i64 (Hn : Int), .slice A2 N c2] 24)) := (Below.refl _ _).alloc (Nat.le_refl _) _
      have zA7 := bA7.size
      have bb7 := b7.trans (bA7.mono b7.size)
      rw [hB0] at z7
      have SI7 := Lib.hid ((SI0.out.belowB (hB0 ▸ hb7)).belowB (bA7.mono z7))
      have ha7 := ArrB.below ha2 bA7
      obtain ⟨b16, hb16⟩ : ∃ g, w7.heap.size = g := ⟨_, rfl⟩
      have zs : (w7.alloc (.cells #[.int .i64 W, .int .i64 (Hn : Int), .slice A2 N c2] 24)).heap.size = b16 + 1 := by simp [hb16]
      obtain ⟨p1, p2, p3⟩ := ax7.cells3
      obtain ⟨l1, l2, l3⟩ := l7.cells3
      rw [hb16] at l1 l2 l3 z7 l7 ha7
      clear x1 x2 x3 bu ax ap ha2 bA7 b7 b3 hSI RM1 hb7 zA7
      go_upto_region 11 with fail
      generalize w7.alloc (.cells #[.int .i64 W, .int .i64 (Hn : Int), .slice A2 N c2] 24) = w8 at *
      have HB16 := Lib.hid hb16
      go_wp2_with fail
      have bA8 : Below w8.heap.size w8 (w8.alloc (.cells (bools N (fun _ => false)) 4)) := (Below.refl _ _).alloc (Nat.le_refl _) _
      have ax9 := ax7.alloc (.cells (bools N (fun _ => false)) 4)
      have ap9 := ap7.alloc (.cells (bools N (fun _ => false)) 4)
      have l9 := l7.alloc (.cells (bools N (fun _ => false)) 4)
      have kl9 := Blk.new w8 4 (bools N (fun _ => false))
      have ha9 := ArrB.below ha7 (bA8.mono (show b16 ≤ w8.heap.size by omega))
      have bb9 := bb7.trans (bA8.mono bb7.size)
      have SI9 := Lib.hid (SI7.out.belowB (bA8.mono (by omega)))
      have zs9 : (w8.alloc (.cells (bools N (fun _ => false)) 4)).heap.size = b16 + 1 + 1 := by simp [zs]
      have zap := ap7.lt
      have zax := ax7.lt
      rw [zs] at kl9 zap zax
      clear hmk p1 p2 p3 l1 l2 l3 ax7 ap7 l7 ha7 bb7 SI7 bA8
      generalize w8.alloc (.cells (bools N (fun _ => false)) 4) = w9 at *
      go_loopw [109] (fun s wr => ∃ i : Nat, i ≤ ns ∧ s = .int .i64 i ∧ But (b16 + 1 + 1) (b16 + 1) w9 wr ∧ Blk wr (b16 + 1) 4 (bools N (lnB W L (5 * i) 0))) (fun s _ => ns - (intOf s).toNat)
      case atStart => exact ⟨0, by omega, rfl, But.refl _ (by omega), kl9.bconv fun j _ _ => (lnB_start hWp).symm⟩
      case round =>
        obtain ⟨i, hi, rfl, bu, kl⟩ := hrel
        clear kl9
        by_cases il : (i : Int) < ns
        · obtain ⟨bS, oS, AL, cL, eS, hbS, hcS, hLS⟩ := (SI9.out.belowB (bu.to zs9 (by omega) (by omega))) i (by omega)
          cases eS
          obtain ⟨gs, hgs⟩ : ∃ g, wr.heap.size = g := ⟨_, rfl⟩
          have zg := bu.size
          go_upto_region 17 with fail
          have bA := (Below.refl wr.heap.size wr).alloc (Nat.le_refl _) (.cells #[.slice AL 5 cL] 54)
          have ks := Blk.new wr 54 #[.slice AL 5 cL]
          have bu1 := bu.then ((Below.refl _ wr).alloc zg (.cells #[.slice AL 5 cL] 54))
          have kl1 := kl.alloc (.cells #[.slice AL 5 cL] 54)
          have zs1 : (wr.alloc (.cells #[.slice AL 5 cL] 54)).heap.size = gs + 1 := by simp [hgs]
          have hL1 := hLS.belowB (bA.mono (by omega))
          generalize wr.alloc (.cells #[.slice AL 5 cL] 54) = w10 at *
          rw [hgs] at ks zg
          have s1 := ks.cells0
          have ax1 := ax9.but bu1 (by omega) (by omega)
          clear bu kl hcS hLS hgs bA
          go_wp2_with fail
          clear s1
          go_loopw [116] (fun s wr => ∃ j : Nat, j ≤ 5 ∧ s = .int .i64 j ∧ But (gs + 1) (b16 + 1) w10 wr ∧ Blk wr (b16 + 1) 4 (bools N (lnB W L (5 * i + j) 0))) (fun s _ => 5 - (intOf s).toNat)
          case atStart => exact ⟨0, by omega, rfl, But.refl _ (by omega), kl1⟩
          case round =>
            obtain ⟨j, hj, rfl, bv, km⟩ := hrel
            clear kl1
            by_cases jl : (j : Int) < 5
            · obtain ⟨bA, oA, A1, c1, eA, hbA, hcA, haA⟩ := hL1.at_ (i := j) (by omega)
              cases eA
              have hcA' := ((bv.to zs1 (show B0 ≤ b16 + 1 by omega) (by omega)).cell (p := ⟨bA, oA + j, none⟩) hbA).trans hcA
              clear hcA
              go_wp2_with fail
              clear hcA'
              go_loopw [122] (fun s wr => ∃ x : Nat, x ≤ K1 ∧ s = .int .i64 x ∧ But (gs + 1) (b16 + 1) w10 wr ∧ Blk wr (b16 + 1) 4 (bools N (lnB W L (5 * i + j) x))) (fun s _ => K1 - (intOf s).toNat)
              case atStart => exact ⟨0, by omega, rfl, bv, km⟩
              case round =>
                obtain ⟨x, hx, rfl, bw, kn⟩ := hrel
                clear bv km
                by_cases xl : (x : Int) < K1
                · obtain ⟨b', o', eX, hbX, hcX⟩ := ArrI.at_ haA (i := (x : Int)) (by omega) xl
                  cases eX
                  obtain ⟨y0, y1⟩ := BDS.out i j x (by omega) (by omega) (by omega)
                  obtain ⟨y, hy⟩ : ∃ y : Nat, LN i j x = y := ⟨(LN i j x).toNat, by omega⟩
                  have hcX' := ((bw.to zs1 (show B0 ≤ b16 + 1 by omega) (by omega)).cell (p := ⟨b', o' + (x : Int).toNat, none⟩) hbX).trans hcX
                  rw [Int.toNat_natCast, hy] at hcX'
                  rw [hy] at y0 y1
                  have HYL := Lib.hid (show L (5 * i + j) x = y from by have h := hy; rw [HLN.out] at h; exact h)
                  have hxW : (x : Int) < W := by have := HK.out; omega
                  obtain ⟨e, he⟩ : ∃ e : Nat, (y : Int) * W + x = e := ⟨((y : Int) * W + x).toNat, by have := (idx_lt (x := x) (y := y) (W := W) (H := Hn) (by omega) hxW (by omega) (by omega)).1; omega⟩
                  have hen : (e : Int) < N := by
                    have h8 := (idx_lt (x := x) (y := y) (W := W) (H := Hn) (by omega) hxW (by omega) (by omega)).2.1
                    rw [he, Int.mul_comm, ← HN.out] at h8
                    exact h8
                  have v1 : IntKind.i64.wrap ((y : Int) * W) = (y : Int) * W := IntWalk.i64_in _ (by have := Int.mul_nonneg (show (0 : Int) ≤ y by omega) (show (0 : Int) ≤ W by omega); omega)
                  have v2 : IntKind.i64.wrap ((y : Int) * W + x) = (e : Int) := (IntWalk.i64_in _ (by omega)).trans he
                  have cg : wr.cell? ⟨b16 + 1, e, none⟩ = some (.bool (lnB W L (5 * i + j) x e)) := by
                    rw [kn.cell]
                    have h := cellsF_at (n := N) (f := fun j' => Value.bool (lnB W L (5 * i + j) x j')) (i := (e : Int)) (by omega) hen
                    rw [Int.toNat_natCast] at h
                    exact h
                  have fg := kn.frozen e
                  have KS := Lib.hid (kn.bset (e : Int) (by omega) true)
                  have ax2 := ax1.but bw (by omega) (by omega)
                  obtain ⟨p1, p2, p3⟩ := ax2.cells3
                  have HE := Lib.hid he
                  generalize lnB W L (5 * i + j) x e = old at *
                  clear he hy hcX
                  go_wp2_with fail
                  go_round
                  case rel => exact ⟨x + 1, by omega, by go_num, bw.set _ _, by
                    have h := KS.out
                    rw [Int.toNat_natCast] at h
                    refine h.bconv fun jj _ _ => ?_
                    have h2 := lnB_set (L := L) (t := 5 * i + j) (i := jj) (x := (x : Int)) (W := W) (by omega) hxW
                    rw [Int.toNat_natCast, HYL.out, HE.out] at h2
                    push_cast
                    exact h2⟩
                  case measure => simp [intOf]; omega
                · have hxK : x = K1 := by omega
                  have kn2 : Blk wr (b16 + 1) 4 (bools N (lnB W L (5 * i + (j + 1)) 0)) := kn.bconv fun jj _ _ => by
                    rw [show 5 * i + (j + 1) = 5 * i + j + 1 from rfl, ← lnB_line hWp, hxK, HK.out]
                  clear kn hxK
                  go_wp2_with fail
                  go_round
                  case rel => exact ⟨j + 1, by omega, by go_num, bw, kn2⟩
                  case measure => simp [intOf]; omega
            · have hj5 : j = 5 := by omega
              have km2 : Blk wr (b16 + 1) 4 (bools N (lnB W L (5 * (i + 1)) 0)) := by rw [hj5] at km; exact km
              have bz : But (b16 + 1 + 1) (b16 + 1) w9 wr := bu1.trans bv (by omega)
              clear km hj5
              go_wp2_with fail
              go_round
              case rel => exact ⟨i + 1, by omega, by go_num, bz, km2⟩
              case measure => simp [intOf]; omega
        · have hin : i = ns := by omega
          rw [hin] at kl
          have ax := ax9.but bu (by omega) (by omega)
          have ap := ap9.but bu (by omega) (by omega)
          have l := l9.but bu (by omega) (by omega)
          have hN1 : 0 < N := by
            have h1 := HN.out
            have h2 : 0 < W * (Hn : Int) := Int.mul_pos hWp (by omega)
            omega
          have haB := ArrB.below ha9 (bu.to zs9 (show b16 ≤ b16 + 1 by omega) (by omega))
          have HAB := Lib.hid haB
          obtain ⟨b2, o2, eA2, hb2, hc2⟩ := ArrB.fn haB (by omega)
          cases eA2
          have PIX := Lib.hid fun (e : Nat) (he : (e : Int) < N) => (show wr.cell? ⟨gp, e, none⟩ = some (.int .u8 (q e)) from by
            have h := ap.u8at (i := (e : Int)) (by omega) he
            rwa [Int.toNat_natCast] at h)
          have LEFT := Lib.hid fun (e : Nat) (he : (e : Int) < N) => (show wr.cell? ⟨b2, o2 + e, none⟩ = some (.int .u8 (Q1 e)) from by
            have h := hc2 (e : Int) (by omega) he
            rwa [Int.toNat_natCast] at h)
          have LIN := Lib.hid fun (e : Nat) (he : (e : Int) < N) => (show wr.cell? ⟨b16 + 1, e, none⟩ = some (.bool (lnB W L (5 * ns) 0 e)) from by
            have h := cellsF_at (n := N) (f := fun j' => Value.bool (lnB W L (5 * ns) 0 j')) (i := (e : Int)) (by omega) he
            rw [Int.toNat_natCast] at h
            rw [kl.cell]; exact h)
          have ONL := Lib.hid fun (e : Int) (he : 0 ≤ e) => (show lnB W L (5 * ns) 0 e = true ↔ OnLine LN ns K1 W e from by rw [HLN.out]; exact lnB_on HK.out hWp he)
          have SI11 := Lib.hid (SI9.out.belowB (bu.to zs9 (show B0 ≤ b16 + 1 by omega) (by omega)))
          have bb11 := bb9.trans (bu.to zs9 (show w.heap.size ≤ b16 + 1 by have := bb9.size; omega) (by have := bb9.size; omega))
          have IDX := Lib.hid fun (x y : Nat) (hx : x < K1) (hy : y < Hn) => (show ∃ e : Nat, (y : Int) * W + x = e ∧ (e : Int) < N ∧ IntKind.i64.wrap ((y : Int) * W) = (y : Int) * W ∧ IntKind.i64.wrap ((y : Int) * W + x) = (e : Int) from by
            have hxW : (x : Int) < W := by have := HK.out; omega
            have h8 := idx_lt (x := x) (y := y) (W := W) (H := Hn) (by omega) hxW (by omega) (by omega)
            have hyW := Int.mul_nonneg (show (0 : Int) ≤ y by omega) (show (0 : Int) ≤ W by omega)
            have h9 := h8.2.1
            rw [Int.mul_comm (Hn : Int) W, ← HN.out] at h9
            exact ⟨((y : Int) * W + x).toNat, by omega, by omega, IntWalk.i64_in _ (by omega), (IntWalk.i64_in _ (by omega)).trans (by omega)⟩)
          obtain ⟨lf, hlf⟩ : ∃ lf, lnB W L (5 * ns) 0 = lf := ⟨_, rfl⟩
          rw [hlf] at LIN ONL
          obtain ⟨p1, p2, p3⟩ := ax.cells3
          obtain ⟨l1, l2, l3⟩ := l.cells3
          have zb := bu.size
          have zgp := gp
          clear ax9 ap9 l9 ha9 bb9 SI9 kl hc2 haB hlf bu SI0 HB0 FITS HFT zgp
          generalize hw11 : wr = w11 at *
          clear hw11
          go_wp2_with fail
          go_loopw [140] (fun s wr => ∃ x : Nat, x ≤ K1 ∧ s = .int .i64 x ∧ w11 = wr) (fun s _ => K1 - (intOf s).toNat)
          case atStart => exact ⟨0, by omega, rfl, rfl⟩
          case round =>
            obtain ⟨x, hx, rfl, rfl⟩ := hrel
            by_cases xl : (x : Int) < W
            · have hxK : x < K1 := by have := HK.out; omega
              go_wp2_with fail
              go_loopw [26] (fun s wr => ∃ y : Nat, y ≤ Hn ∧ s = .int .i64 y ∧ Hid (∀ g : Nat, y = g + 1 → y < Hn → q ((g : Int) * W + x) = 1 → q ((y : Int) * W + x) ≠ 1) ∧ w11 = wr) (fun s _ => Hn - (intOf s).toNat)
              case atStart => exact ⟨0, by omega, rfl, Lib.hid (fun g h => by omega), rfl⟩
              case round =>
                obtain ⟨y, hy, rfl, INV, rfl⟩ := hrel
                by_cases yl : (y : Int) < Hn
                · obtain ⟨e, he, hen, v1, v2⟩ := IDX.out x y hxK (by omega)
                  have cp := PIX.out e hen
                  have HE := Lib.hid he
                  clear he
                  rcases hq2 e with hv | hv
                  · have cl := LEFT.out e hen
                    rw [PAPER.out e hv] at cl
                    rw [hv] at cp
                    have HV := Lib.hid hv
                    clear hv
                    go_wp2_with fail
                    go_round
                    case rel => exact ⟨y + 1, by omega, by go_num, Lib.hid (fun g h _ h1 => by
                      obtain rfl : g = y := by omega
                      rw [HE.out, HV.out] at h1; omega), trivial⟩
                    case measure => simp [intOf]; omega
                  · rw [hv] at cp
                    have HV := Lib.hid hv
                    clear hv
                    have UP : Hid (∀ g : Nat, y = g + 1 → q ((g : Int) * W + x) ≠ 1) := Lib.hid (fun g h h1 => INV.out g h (by omega) h1 (by rw [HE.out]; exact HV.out))
                    obtain ⟨mf, hmf⟩ : ∃ mf : Nat → Bool, mf = fun j : Nat => lf ((j : Int) * W + x) := ⟨_, rfl⟩
                    have HMF := Lib.hid hmf
                    clear hmf
                    go_upto_block 12 with fail
                    clear cp v1 v2
                    go_cut [27, 28] from 172 to 202 (fun a b wx => ∃ t : Nat, RunOf q W Hn x y t ∧ a = .int .i64 t ∧ b = .bool (metB mf y (t - y)) ∧ w11 = wx)
                    case first =>
                      go_wp2_with fail
                      go_loopw [27, 28] (fun a b wr => ∃ t : Nat, y ≤ t ∧ t ≤ Hn ∧ a = .int .i64 t ∧ b = .bool (metB mf y (t - y)) ∧ Hid (∀ j : Nat, y ≤ j → j < t → q ((j : Int) * W + x) = 1) ∧ w11 = wr) (fun a _ _ => Hn - (intOf a).toNat)
                      case atStart => exact ⟨y, by omega, by omega, rfl, by rw [Nat.sub_self]; rfl, Lib.hid (fun j h1 h2 => by omega), rfl⟩
                      case round =>
                        obtain ⟨t, hyt, ht, rfl, rfl, INK, rfl⟩ := hrel
                        by_cases tl : (t : Int) < Hn
                        · obtain ⟨e2, he2, hen2, v3, v4⟩ := IDX.out x t hxK (by omega)
                          have cp2 := PIX.out e2 hen2
                          have HE2 := Lib.hid he2
                          clear he2
                          obtain ⟨mb, hmb⟩ : ∃ mb, metB mf y (t - y) = mb := ⟨_, rfl⟩
                          rw [hmb]
                          have HMB := Lib.hid hmb
                          clear hmb
                          rcases hq2 e2 with hv | hv
                          · rw [hv] at cp2
                            have HV2 := Lib.hid hv
                            clear hv
                            have hyt2 : y < t := by
                              rcases Nat.lt_or_ge y t with h | h
                              · exact h
                              · exfalso
                                obtain rfl : t = y := by omega
                                have a := HE.out
                                rw [HE2.out] at a
                                have c := HV.out
                                rw [← a, HV2.out] at c
                                omega
                            go_wp2_with fail
                            go_meet
                            exact ⟨t, ⟨hyt2, ht, UP.out, INK.out, fun _ => by rw [HE2.out, HV2.out]; omega⟩, rfl, by rw [HMB.out], by first | rfl | trivial⟩
                          · rw [hv] at cp2
                            have HV2 := Lib.hid hv
                            have cl2 := LIN.out e2 hen2
                            have MET := Lib.hid (show metB mf y (t + 1 - y) = (mb || lf e2) from by
                              rw [show t + 1 - y = (t - y) + 1 by omega, show metB mf y ((t - y) + 1) = (metB mf y (t - y) || mf (y + (t - y))) from rfl, HMB.out, show y + (t - y) = t by omega, HMF.out]
                              show (mb || lf ((t : Int) * W + x)) = _
                              rw [HE2.out])
                            have INK2 := Lib.hid (show ∀ j : Nat, y ≤ j → j < t + 1 → q ((j : Int) * W + x) = 1 from fun j h1 h2 => by
                              by_cases c : j = t
                              · rw [c, HE2.out]; exact HV2.out
                              · exact INK.out j h1 (by omega))
                            generalize lf e2 = lb at *
                            clear hv INK
                            cases mb
                            · go_wp2_with fail
                              go_round
                              case rel => exact ⟨t + 1, by omega, by omega, by go_num, by rw [MET.out]; rfl, INK2, trivial⟩
                              case measure => simp [intOf]; omega
                            · go_wp2_with fail
                              go_round
                              case rel => exact ⟨t + 1, by omega, by omega, by go_num, by rw [MET.out]; rfl, INK2, trivial⟩
                              case measure => simp [intOf]; omega
                        · have htH : t = Hn := by omega
                          have RO : RunOf q W Hn x y t := ⟨by omega, ht, UP.out, INK.out, fun h => by omega⟩
                          clear htH
                          go_wp2_with fail
                          go_meet
                          exact ⟨t, RO, rfl, rfl, by first | rfl | trivial⟩
                    case rest =>
                      obtain ⟨t, RO, rfl, hb28, rfl⟩ := hcut
                      obtain ⟨mb, hmb⟩ : ∃ mb, metB mf y (t - y) = mb := ⟨_, rfl⟩
                      rw [hmb] at hb28
                      subst hb28
                      have hyt := RO.lt
                      have htH := RO.le
                      obtain ⟨gb, hgb⟩ : ∃ gb, (mb && decide ((t : Int) - y ≤ MO)) = gb := ⟨_, rfl⟩
                      have HGB := Lib.hid hgb
                      have GO := Lib.hid fun (z : Nat) (h1 : y ≤ z) (h2 : z < t) => (show Q1 ((z : Int) * W + x) = 0 ↔ gb = true from by
                        rw [RUNS.out x y t hxK RO z h1 h2, ← hgb, Bool.and_eq_true, decide_eq_true_iff, ← hmb, metB_iff]
                        refine and_congr_left fun _ => ?_
                        constructor
                        · rintro ⟨j, a, b, c⟩
                          refine ⟨j, a, by omega, ?_⟩
                          rw [HMF.out]
                          exact (ONL.out _ (Int.add_nonneg (Int.mul_nonneg (by omega) (by omega)) (by omega))).2 c
                        · rintro ⟨j, a, b, c⟩
                          refine ⟨j, a, by omega, ?_⟩
                          rw [HMF.out] at c
                          exact (ONL.out _ (Int.add_nonneg (Int.mul_nonneg (by omega) (by omega)) (by omega))).1 c)
                      have INV2 := Lib.hid (show ∀ g : Nat, t = g + 1 → t < Hn → q ((g : Int) * W + x) = 1 → q ((t : Int) * W + x) ≠ 1 from fun g _ h _ => RO.down h)
                      have vS : IntKind.i64.wrap ((t : Int) - y) = (t : Int) - y := IntWalk.i64_in _ (by omega)
                      clear RO hmb hgb INV HMF
                      go_upto_region 40 with fail
                      go_cut [29] (fun v wx => v = .bool gb ∧ w11 = wx)
                      case first =>
                        cases mb
                        · go_wp2_with fail
                          go_meet
                          exact ⟨by rw [← HGB.out]; rfl, by first | rfl | trivial⟩
                        · by_cases hle : (t : Int) - y ≤ MO
                          · have HLE := Lib.hid hle
                            go_wp2_with fail
                            go_meet
                            exact ⟨by rw [← HGB.out]; simp [HLE.out], by first | rfl | trivial⟩
                          · have HLE := Lib.hid hle
                            go_wp2_with fail
                            go_meet
                            exact ⟨by rw [← HGB.out]; simp [HLE.out], by first | rfl | trivial⟩
                      case rest =>
                        obtain ⟨rfl, rfl⟩ := hcut
                        clear vS HGB
                        go_wp2_with fail
                        go_loopw [26] (fun s wr => ∃ z : Nat, y ≤ z ∧ z ≤ t ∧ s = .int .i64 z ∧ w11 = wr) (fun s _ => t - (intOf s).toNat)
                        case atStart => exact ⟨y, by omega, by omega, rfl, rfl⟩
                        case round =>
                          obtain ⟨z, hz1, hz2, rfl, rfl⟩ := hrel
                          by_cases zl : (z : Int) < t
                          · obtain ⟨e3, he3, hen3, v5, v6⟩ := IDX.out x z hxK (by omega)
                            have cl3 := LEFT.out e3 hen3
                            have G := GO.out z hz1 (by omega)
                            rw [he3] at G
                            clear he3
                            rcases hq1 e3 with hv | hv
                            · rw [hv] at cl3
                              obtain rfl : gb = true := G.1 hv
                              clear G hv
                              go_wp2_with fail
                              go_round
                              case rel => exact ⟨z + 1, by omega, by omega, by go_num, trivial⟩
                              case measure => simp [intOf]; omega
                            · rw [hv] at cl3
                              obtain rfl : gb = false := Bool.eq_false_iff.2 fun h => by
                                have := G.2 h
                                omega
                              clear G hv
                              go_wp2_with fail
                              go_round
                              case rel => exact ⟨z + 1, by omega, by omega, by go_num, trivial⟩
                              case measure => simp [intOf]; omega
                          · obtain rfl : z = t := by omega
                            obtain ⟨t', ht'⟩ : ∃ t', z = t' + 1 := ⟨z - 1, by omega⟩
                            have u1 : IntKind.i64.wrap ((z : Int) - 1) = (t' : Int) := (IntWalk.i64_in _ (by omega)).trans (by omega)
                            have u2 : IntKind.i64.wrap ((t' : Int) + 1) = (z : Int) := (IntWalk.i64_in _ (by omega)).trans (by omega)
                            clear ht'
                            go_wp2_with fail
                            go_round
                            case rel => exact ⟨z, by omega, by first | rfl | go_num, INV2, trivial⟩
                            case measure => simp [intOf]; omega
                · go_wp2_with fail
                  go_round
                  case rel => exact ⟨x + 1, by omega, by go_num, trivial⟩
                  case measure => simp [intOf]; omega
            · have RM2 := Lib.hid fun w' hA' hS' => RM.out Q1 hq1 (some ⟨b2, o2, none⟩) c2 w' hA' hS'
              rw [AGAIN.out] at RM2
              have hAA : ArrB w11 w11.heap.size (some ⟨b2, o2, none⟩) N Q1 := HAB.out.more (by omega)
              have hSS : StavesIn w11 w11.heap.size Ao ns (fun _ => 5) (fun _ _ => K1) LN := SI11.out.moreB (by omega)
              clear RM PIX LEFT LIN ONL IDX RUNS PAPER
              go_wp2_with fail
              refine (RM2.out w11 hAA hSS).mono ?_
              rintro e w12 ⟨_, rfl, ⟨A3, c3, rfl, hg3, ha3⟩, hb12⟩
              have b12 := below_call bb11 bb11.size hb12
              have bA12 : Below w12.heap.size w12 (w12.alloc (.cells #[.int .i64 W, .int .i64 (Hn : Int), .slice A3 N c3] 24)) := (Below.refl _ _).alloc (Nat.le_refl _) _
              have kz := Blk.new w12 24 #[.int .i64 W, .int .i64 (Hn : Int), .slice A3 N c3]
              have l13 := (l.below' hb12).alloc (.cells #[.int .i64 W, .int .i64 (Hn : Int), .slice A3 N c3] 24)
              have ha13 := ha3.to bA12
              have hb13 := (hAA.to hb12).to bA12
              have b13 := b12.trans (bA12.mono b12.size)
              have SAME := Lib.hid fun w' h1 h2 => sameInk_true W Hn A3 (some ⟨b2, o2, none⟩) N c3 c2 (strike [] W Q1) Q1 w' h1 h2 (by unfold maxLen; omega) (fun i _ _ => strike_nil)
              clear p1 p2 p3 l1 l2 l3 RM2 hSS hAA
              obtain ⟨l1, l2, l3⟩ := l13.cells3
              obtain ⟨k1, k2, k3⟩ := kz.cells3
              go_upto_region 48 with fail
              generalize w12.alloc (.cells #[.int .i64 W, .int .i64 (Hn : Int), .slice A3 N c3] 24) = w13 at *
              go_wp2_with fail
              refine (SAME.out w13 ha13 hb13).mono ?_
              rintro e w14 ⟨rfl, hb14⟩
              have b14 := below_call b13 b13.size hb14
              go_wp2_with fail
              refine (AW.out _).mono ?_
              rintro e w20 ⟨rfl, hb20⟩
              have b20 := below_call b14 b14.size hb20
              go_wp2
              go_ret
              exact ⟨rfl, b20⟩
end Go.Proofs.Ytdimlpcbbkokiaa

/- Walk: how many pixels are ink (image.Count), of an image without any. -/
namespace Go.Proofs.Ytdimlpcbbkokiaa
open Go.RowKit Go.Shelf
set_option linter.unusedVariables false

set_option maxHeartbeats 2000000 in
set_option maxRecDepth 1000000 in
theorem bcount_any (A : Option Addr) (B n c b2 o2 d : Nat) (q : Int → Int) (cv : Int) (w : World) (hn : 0 < n) (hA : ArrB w B A n q) (hc2 : w.cell? ⟨b2, o2, none⟩ = some (.int .u8 cv)) :
    Calls Try.prog 98 #[.slice A n c, .slice (some ⟨b2, o2, none⟩) 1 d] w fun e w' => e = .returned (.int .i64 (Lib.countByte (Lib.bytesOf ((List.range n).map fun (j : Nat) => q j)) cv.toNat.toUInt8)) ∧ w' = w := by
  obtain ⟨b, off, rfl, hb, hc⟩ := hA.fn hn
  have hx : ((List.range n).map fun (j : Nat) => q j).length = n := by simp
  have hcs : ∀ i, i < n → w.cell? ⟨b, off + i, none⟩ = some (.int .u8 (((List.range n).map fun (j : Nat) => q j).getD i 0)) := fun i hi => by
    have h := hc (i : Int) (by omega) (by omega)
    rw [Int.toNat_natCast] at h
    rw [h, List.getD_eq_getElem?_getD, List.getElem?_map, List.getElem?_range hi]
    rfl
  have RC := Lib.hid (Lib.run_countSlice (P := Try.prog) w b off n c _ hx hcs cv)
  clear hx hcs hc hA hb
  generalize Lib.countByte (Lib.bytesOf ((List.range n).map fun (j : Nat) => q j)) cv.toNat.toUInt8 = r at *
  go_enter Try.func98, Try.ntmps98
  go_wp2
  rw [run_callFunc_extern Try.func118 (by kernel_rfl) (by kernel_rfl) (by kernel_rfl) (e := Extern.BytealgCount.count) (by kernel_rfl), RC.out]
  simp only [Result.andThen]
  rw [Oper.upon_value]
  go_wp2
  go_ret
  exact ⟨rfl, rfl⟩
theorem count_none {n : Nat} {q : Int → Int} (h : ∀ i : Int, 0 ≤ i → i < n → q i = 0) : Lib.countByte (Lib.bytesOf ((List.range n).map fun (j : Nat) => q j)) (1 : Int).toNat.toUInt8 = 0 := by
  unfold Lib.countByte
  rw [List.count_eq_zero]
  intro hm
  unfold Lib.bytesOf at hm
  rw [List.mem_map] at hm
  obtain ⟨x, hx, e⟩ := hm
  rw [List.mem_map] at hx
  obtain ⟨j, hj, rfl⟩ := hx
  rw [h j (by omega) (by have := List.mem_range.1 hj; omega)] at e
  exact absurd e (by decide)
set_option maxHeartbeats 2000000 in
theorem count_zero (W H : Int) (A : Option Addr) (n c : Nat) (q : Int → Int) (w : World) (hA : ArrB w w.heap.size A n q) (hn : 0 < n) (hnm : n ≤ maxLen) (hE : chk W H n q = 0) (hz : ∀ i : Int, 0 ≤ i → i < n → q i = 0) :
    Calls Try.prog 54 #[.agg #[.int .i64 W, .int .i64 H, .slice A n c]] w fun e w' => e = .returned (.tuple #[.int .i64 0, .int .i64 0]) ∧ Below w.heap.size w w' := by
  have CK := Lib.hid fun w' hA' => check_any W H A n c q w' hA' hnm
  rw [hE] at CK
  have HA := Lib.hid hA
  have CZ := Lib.hid (count_none hz)
  clear hE hz hA
  go_enter Try.func54, Try.ntmps54
  go_wp2_with fail
  have k1 := Blk.new w 24 #[.int .i64 W, .int .i64 H, .slice A n c]
  have b1 : Below w.heap.size w (w.alloc (.cells #[.int .i64 W, .int .i64 H, .slice A n c] 24)) := (Below.refl _ _).alloc (Nat.le_refl _) _
  generalize w.alloc (.cells #[.int .i64 W, .int .i64 H, .slice A n c] 24) = w1 at *
  refine (CK.out w1 (HA.out.to b1)).mono ?_
  rintro e w2 ⟨rfl, hb2⟩
  have k2 := k1.below' hb2
  have b2 := below_call b1 b1.size hb2
  obtain ⟨p1, p2, p3⟩ := k2.cells3
  have kn := Blk.new w2 5 #[.int .u8 1]
  have bn : Below w2.heap.size w2 (w2.alloc (.cells #[.int .u8 1] 5)) := (Below.refl _ _).alloc (Nat.le_refl _) _
  have hA3 := (HA.out.to b2).to bn
  have b3 := b2.trans (bn.mono b2.size)
  clear k1 b1 hb2
  go_wp2_with fail
  refine (bcount_any A _ n c w2.heap.size 0 1 q 1 _ hn hA3 (kn.cell 0)).mono ?_
  rintro e w4 ⟨rfl, rfl⟩
  rw [CZ.out]
  go_wp2
  refine bodyPost_ret (results_tmp2 rfl _ _ _) rfl ?_
  exact ⟨rfl, b3⟩
end Go.Proofs.Ytdimlpcbbkokiaa

/- Plain: the first line is a cheapest path; lines keep their distance. No program in sight. -/
namespace Go.Proofs.Ytdimlpcbbkokiaa
open Go.RowKit
set_option linter.unusedVariables false
section
variable {N W H : Int} {c : Int → Int → Int}
/-- from every pixel on no path is cheaper -/
theorem least_rest {F : Int → Int → Bool} {l : Int → Int} (hc : ∀ x y, 0 ≤ c x y ∧ c x y ≤ 2) (hF : ∀ x y, F x y = false) (hl : ∀ x : Int, 0 ≤ x → x < W → 0 ≤ l x ∧ l x < H) (hs : ∀ x : Int, 0 ≤ x → x + 1 < W → l x - 1 ≤ l (x + 1) ∧ l (x + 1) ≤ l x + 1) (k x : Nat) (hk : (x : Int) + k + 1 = W) :
    gAt N W H c F x (l x) ≤ c x (l x) + (costP c l W.toNat - costP c l (x + 1)) := by
  induction k generalizing x with
  | zero =>
    have e : (x : Int) = W - 1 := by omega
    rw [show W.toNat = x + 1 by omega]
    have h1 := gAt_last (N := N) (W := W) (H := H) (c := c) (F := F) (l x)
    rw [← e, hF, if_neg (by simp)] at h1
    rw [h1]
    omega
  | succ k ih =>
    have ih := ih (x + 1) (by omega)
    have hx := hl x (by omega) (by omega)
    have hx' := hl ((x : Int) + 1) (by omega) (by omega)
    have hst := hs x (by omega) (by omega)
    rw [gAt_step (by omega) (by omega), if_neg (by rw [hF]; simp)]
    have lo : nxLo (l x) = if l x - 1 < 0 then 0 else l x - 1 := rfl
    obtain ⟨i, hi⟩ : ∃ i : Nat, nxLo (l x) + i = l ((x : Int) + 1) := ⟨(l ((x : Int) + 1) - nxLo (l x)).toNat, by rw [lo]; split <;> omega⟩
    have hin := (nx_in hx.1 hx.2 i).2 (by rw [hi]; omega)
    have hm := mfold_at (N := N) (f := goTo (gAt N W H c F ((x : Int) + 1)) (l x)) (lo := nxLo (l x)) hin
    rw [hi] at hm
    rw [show ((x + 1 : Nat) : Int) = (x : Int) + 1 by omega] at ih
    have hcost : costP c l (x + 1 + 1) = costP c l (x + 1) + c ((x : Int) + 1) (l ((x : Int) + 1)) + if l ((x : Int) + 1) ≠ l x then 1 else 0 := by
      rw [costP]
      simp only [show ((x + 1 : Nat) : Int) = (x : Int) + 1 by omega, show (x : Int) + 1 - 1 = x by omega]
      congr 1
      by_cases h : l ((x : Int) + 1) ≠ l x
      · rw [if_pos ⟨by omega, h⟩, if_pos h]
      · rw [if_neg (fun h2 => h h2.2), if_neg h]
    rw [hcost] at ih
    have hgo : goTo (gAt N W H c F ((x : Int) + 1)) (l x) (l ((x : Int) + 1)) = gAt N W H c F ((x : Int) + 1) (l ((x : Int) + 1)) + if l ((x : Int) + 1) = l x then 0 else 1 := rfl
    rw [hgo] at hm
    clear hgo
    by_cases h : l ((x : Int) + 1) = l x
    · rw [if_pos h] at hm
      rw [if_neg (by simp [h])] at ih
      omega
    · rw [if_neg h] at hm
      rw [if_pos h] at ih
      omega
theorem least_all {l : Int → Int} (hc : ∀ x y, 0 ≤ c x y ∧ c x y ≤ 2) (hW : 0 < W) (hH : 0 < H) (hl : ∀ x : Int, 0 ≤ x → x < W → 0 ≤ l x ∧ l x < H) (hs : ∀ x : Int, 0 ≤ x → x + 1 < W → l x - 1 ≤ l (x + 1) ∧ l (x + 1) ≤ l x + 1) :
    GC N W H c 0 ≤ costP c l W.toNat := by
  have h1 := least_rest (N := N) (F := fun x y => FB N W H c 0 (y * W + x)) hc (fun _ _ => rfl) hl hs (W.toNat - 1) 0 (by omega)
  have h0 := hl 0 (by omega) hW
  have h2 := fmin_le (g := gAt N W H c (fun x y => FB N W H c 0 (y * W + x)) 0) (n := H.toNat) (i := l 0) h0.1 (by omega)
  have e : GC N W H c 0 = gAt N W H c (fun x y => FB N W H c 0 (y * W + x)) 0 (fmin (gAt N W H c (fun x y => FB N W H c 0 (y * W + x)) 0) H.toNat) := rfl
  rw [e]
  have h3 : costP c l (0 + 1) = c 0 (l 0) := by simp [costP]
  rw [h3] at h1
  simp only [Int.natCast_zero] at h1
  omega
/-- what a line costs -/
theorem ln_cost {k : Nat} (hc : ∀ x y, 0 ≤ c x y ∧ c x y ≤ 2) (hN : 3 * W < N) (hW : 0 < W) (hH : 0 < H) (hg : GC N W H c k < N) : costP c (fun i => LN N W H c k i.toNat) W.toNat = GC N W H c k :=
  path_total (F := fun x y => FB N W H c k (y * W + x)) hc hN hH hW hg
theorem ln_step {k : Nat} (hc : ∀ x y, 0 ≤ c x y ∧ c x y ≤ 2) (hN : 3 * W < N) (hW : 0 < W) (hH : 0 < H) (hg : GC N W H c k < N) (x : Nat) (hx : (x : Int) + 1 < W) :
    LN N W H c k x - 1 ≤ LN N W H c k (x + 1) ∧ LN N W H c k (x + 1) ≤ LN N W H c k x + 1 := by
  obtain ⟨h1, h2, h3⟩ := path_ok (F := fun x y => FB N W H c k (y * W + x)) hc hN hH hW hg x (by omega)
  obtain ⟨-, -, -, h4, h5, -⟩ := nxt_spec hc (by omega) (by omega : (x : Int) < W - 1) h1 h2 h3
  exact ⟨h4, h5⟩
theorem FB_mono {i j : Nat} (h : i ≤ j) {t : Int} (ht : FB N W H c i t = true) : FB N W H c j t = true := by
  induction j with
  | zero => obtain rfl : i = 0 := by omega
            exact ht
  | succ j ih =>
    by_cases e : i = j + 1
    · subst e; exact ht
    · rw [FB]; unfold mkF
      rw [ih (by omega), Bool.true_or]
/-- a later line stays off the marks of an earlier one -/
theorem ln_off {i j : Nat} (hc : ∀ x y, 0 ≤ c x y ∧ c x y ≤ 2) (hN : 3 * W < N) (hW : 0 < W) (hH : 0 < H) (hij : i < j) (hg : GC N W H c j < N) (x : Nat) (hx : (x : Int) < W) :
    LN N W H c j x < LN N W H c i x - 2 ∨ LN N W H c i x + 2 < LN N W H c j x := by
  obtain ⟨h1, h2, h3⟩ := ln_ok hc hN hW hH hg x hx
  have hn : FB N W H c (i + 1) (LN N W H c j x * W + x) = false := by
    cases h : FB N W H c (i + 1) (LN N W H c j x * W + x) with
    | false => rfl
    | true => rw [FB_mono (by omega) h] at h3; cases h3
  rw [FB] at hn
  unfold mkF at hn
  rw [idx_mod (by omega) hx, idx_div (by omega) hx, Int.toNat_natCast, Bool.or_eq_false_iff] at hn
  have h4 := of_decide_eq_false hn.2
  have e : pathP N W H c (fun x y => FB N W H c i (y * W + x)) x = LN N W H c i x := rfl
  rw [e] at h4
  omega
theorem ln_apart {a b : Nat} (hc : ∀ x y, 0 ≤ c x y ∧ c x y ≤ 2) (hN : 3 * W < N) (hW : 0 < W) (hH : 0 < H) (hab : a ≠ b) (ha : GC N W H c a < N) (hb : GC N W H c b < N) (h0 : LN N W H c a 0 ≤ LN N W H c b 0) (x : Nat) (hx : (x : Int) < W) :
    LN N W H c a x + 2 < LN N W H c b x := by
  have off : ∀ x : Nat, (x : Int) < W → LN N W H c b x < LN N W H c a x - 2 ∨ LN N W H c a x + 2 < LN N W H c b x := fun x hx => by
    rcases Nat.lt_or_gt_of_ne hab with h | h
    · exact ln_off hc hN hW hH h hb x hx
    · have := ln_off hc hN hW hH h ha x hx; omega
  induction x with
  | zero => have := off 0 (by omega); omega
  | succ x ih =>
    have ih := ih (by omega)
    have h1 := off (x + 1) hx
    have h2 := ln_step hc hN hW hH ha x (by omega)
    have h3 := ln_step hc hN hW hH hb x (by omega)
    omega
theorem path_B {n : Nat} {l : Int → Int} (hW : 1 ≤ W) (hH : 1 ≤ H) (hn : (n : Int) = W) (hl : ∀ x : Int, 0 ≤ x → x < W → 0 ≤ l x ∧ l x < H) (hs : ∀ x : Int, 0 ≤ x → x + 1 < W → l x - 1 ≤ l (x + 1) ∧ l (x + 1) ≤ l x + 1) : isPathB W H n l = true := by
  refine isPathB_iff.2 ⟨⟨hW, hH, hn⟩, fun i i0 i1 => ?_⟩
  have h1 := hl i i0 (by omega)
  unfold stepB
  by_cases h : 0 < i
  · have h2 := hs (i - 1) (by omega) (by omega)
    rw [show i - 1 + 1 = i by omega] at h2
    simp
    omega
  · simp
    omega
end
end Go.Proofs.Ytdimlpcbbkokiaa

/- Plain: a path that is no dearer than the lines that bend together is one of these lines. No program in sight. -/
namespace Go.Proofs.Ytdimlpcbbkokiaa
open Go.RowKit
set_option linter.unusedVariables false
/-- lines that bend together: line t is C t + R; they alone are ink; bends are rare -/
structure Lns (c : Int → Int → Int) (W : Int) (T : Nat) (C : Nat → Int) (R : Int → Int) : Prop where
  ink : ∀ t (x : Int), t < T → 0 ≤ x → x < W → c x (C t + R x) = 0
  paper : ∀ x y : Int, 0 ≤ x → x < W → (∀ t, t < T → y ≠ C t + R x) → c x y = 2
  far : ∀ t, t + 1 < T → C t + 6 ≤ C (t + 1)
  near : ∀ x : Int, 0 ≤ x → x + 1 < W → -1 ≤ R (x + 1) - R x ∧ R (x + 1) - R x ≤ 1
  rare : ∀ x : Int, 0 ≤ x → x + 2 < W → R (x + 1) ≠ R x → R (x + 2) = R (x + 1)
section
variable {c : Int → Int → Int} {W : Int} {T : Nat} {C : Nat → Int} {R : Int → Int}
theorem Lns.lt (h : Lns c W T C R) {t s : Nat} (hts : t < s) (hs : s < T) : C t + 6 ≤ C s := by
  induction s with
  | zero => omega
  | succ s ih =>
    have h1 := h.far s hs
    by_cases e : t = s
    · subst e; exact h1
    · have := ih (by omega) (by omega); omega
theorem Lns.one (h : Lns c W T C R) {t s : Nat} (ht : t < T) (hs : s < T) (h1 : -5 ≤ C t - C s) (h2 : C t - C s ≤ 5) : t = s := by
  rcases Nat.lt_trichotomy t s with g | g | g
  · have := h.lt g hs; omega
  · exact g
  · have := h.lt g ht; omega
/-- the bends of the first n columns -/
def bnd (R : Int → Int) (n : Nat) : Int := costP (fun _ _ => 0) R n
theorem costP_step (c : Int → Int → Int) (l : Int → Int) (n : Nat) (hn : 0 < n) : costP c l (n + 1) = costP c l n + c n (l n) + if l n ≠ l ((n : Int) - 1) then 1 else 0 := by
  rw [costP]
  congr 1
  by_cases h : l (n : Int) ≠ l ((n : Int) - 1)
  · rw [if_pos ⟨hn, h⟩, if_pos h]
  · rw [if_neg (fun h2 => h h2.2), if_neg h]
theorem bnd_step (R : Int → Int) (n : Nat) (hn : 0 < n) : bnd R (n + 1) = bnd R n + if R n ≠ R ((n : Int) - 1) then 1 else 0 := by
  unfold bnd
  rw [costP_step _ _ _ hn]
  omega
theorem costP_one (c : Int → Int → Int) (l : Int → Int) : costP c l 1 = c 0 (l 0) := by simp [costP]
theorem Lns.pot (h : Lns c W T C R) {l : Int → Int} (hs : ∀ x : Int, 0 ≤ x → x + 1 < W → -1 ≤ l (x + 1) - l x ∧ l (x + 1) - l x ≤ 1) : ∀ n : Nat, 0 < n → (n : Int) ≤ W →
    ((∃ t, t < T ∧ ∀ j : Nat, j < n → l j = C t + R j) ∧ costP c l n = bnd R n) ∨
    ((∃ t, t < T ∧ l ((n : Int) - 1) = C t + R ((n : Int) - 1)) ∧ bnd R n + 1 ≤ costP c l n) ∨
    ((∀ t, t < T → l ((n : Int) - 1) ≠ C t + R ((n : Int) - 1)) ∧ (bnd R n + 2 ≤ costP c l n ∨ (bnd R n + 1 = costP c l n ∧ 2 ≤ n ∧ R ((n : Int) - 1) ≠ R ((n : Int) - 2)))) := by
  intro n
  induction n with
  | zero => intro h0; omega
  | succ n ih =>
    intro _ hW
    by_cases hn : n = 0
    · subst hn
      have e1 : bnd R (0 + 1) = 0 := by unfold bnd; rw [costP_one]
      rw [e1, costP_one]
      simp only [Nat.zero_add, Int.natCast_one, Int.sub_self]
      by_cases on : ∃ t, t < T ∧ l 0 = C t + R 0
      · obtain ⟨t, ht, e⟩ := on
        refine .inl ⟨⟨t, ht, fun j hj => ?_⟩, by rw [e]; exact h.ink t 0 ht (by omega) (by omega)⟩
        obtain rfl : j = 0 := by omega
        exact e
      · have hno : ∀ t, t < T → l 0 ≠ C t + R 0 := fun t ht e => on ⟨t, ht, e⟩
        exact .inr (.inr ⟨hno, .inl (by rw [h.paper 0 (l 0) (by omega) (by omega) hno]; omega)⟩)
    · have hs1 := hs ((n : Int) - 1) (by omega) (by omega)
      have hn1 := h.near ((n : Int) - 1) (by omega) (by omega)
      have en : (n : Int) - 1 + 1 = n := by omega
      rw [en] at hs1 hn1
      have e1 : ((n + 1 : Nat) : Int) - 1 = n := by omega
      have e2 : ((n + 1 : Nat) : Int) - 2 = (n : Int) - 1 := by omega
      have hn0 : 0 < n := by omega
      have hnW : (n : Int) ≤ W := by omega
      have hb := bnd_step R n hn0
      have hcs := costP_step c l n hn0
      have ih := ih hn0 hnW
      rw [e1, e2]
      by_cases on : ∃ t, t < T ∧ l n = C t + R n
      · obtain ⟨t, ht, e⟩ := on
        have hc0 := h.ink t n ht (by omega) (by omega)
        rw [← e] at hc0
        rcases ih with ⟨⟨s, hs2, a1⟩, a2⟩ | ⟨⟨s, hs2, a1⟩, a2⟩ | ⟨a1, a2⟩
        · have p := a1 (n - 1) (by omega)
          rw [show ((n - 1 : Nat) : Int) = (n : Int) - 1 by omega] at p
          obtain rfl : t = s := h.one ht hs2 (by omega) (by omega)
          refine .inl ⟨⟨t, ht, fun j hj => ?_⟩, ?_⟩
          · by_cases q : j = n
            · subst q; exact e
            · exact a1 j (by omega)
          · rw [hb, hcs, hc0, a2]
            by_cases q : R n ≠ R ((n : Int) - 1)
            · rw [if_pos q, if_pos (by omega)]; omega
            · rw [if_neg q, if_neg (by omega)]; omega
        · obtain rfl : t = s := h.one ht hs2 (by omega) (by omega)
          refine .inr (.inl ⟨⟨t, ht, e⟩, ?_⟩)
          rw [hb, hcs, hc0]
          by_cases q : R n ≠ R ((n : Int) - 1)
          · rw [if_pos q, if_pos (by omega)]; omega
          · rw [if_neg q, if_neg (by omega)]; omega
        · refine .inr (.inl ⟨⟨t, ht, e⟩, ?_⟩)
          rw [hb, hcs, hc0]
          rcases a2 with a2 | ⟨a2, a3, a4⟩
          · split <;> split <;> omega
          · have hr := h.rare ((n : Int) - 2) (by omega) (by omega)
            rw [show (n : Int) - 2 + 1 = (n : Int) - 1 by omega, show (n : Int) - 2 + 2 = (n : Int) by omega] at hr
            rw [if_neg (not_not_intro (hr a4))]
            split <;> omega
      · have hno : ∀ t, t < T → l n ≠ C t + R n := fun t ht e => on ⟨t, ht, e⟩
        have hc2 := h.paper n (l n) (by omega) (by omega) hno
        refine .inr (.inr ⟨hno, ?_⟩)
        rw [hb, hcs, hc2]
        rcases ih with ⟨⟨s, hs2, a1⟩, a2⟩ | ⟨⟨s, hs2, a1⟩, a2⟩ | ⟨a1, a2⟩
        · by_cases q : R n ≠ R ((n : Int) - 1)
          · rw [if_pos q]
            by_cases q2 : l n ≠ l ((n : Int) - 1)
            · rw [if_pos q2]; left; omega
            · rw [if_neg q2]; right; exact ⟨by omega, by omega, q⟩
          · rw [if_neg q]; left; split <;> omega
        · left; split <;> split <;> omega
        · left
          rcases a2 with a2 | ⟨a2, -, -⟩ <;> (split <;> split <;> omega)
/-- every path costs at least the bends, and one that costs no more is a line -/
theorem Lns.least (h : Lns c W T C R) {l : Int → Int} {n : Nat} (hn : 0 < n) (hW : (n : Int) = W) (hs : ∀ x : Int, 0 ≤ x → x + 1 < W → -1 ≤ l (x + 1) - l x ∧ l (x + 1) - l x ≤ 1) (hle : costP c l n ≤ bnd R n) : ∃ t, t < T ∧ ∀ j : Nat, j < n → l j = C t + R j := by
  rcases h.pot hs n hn (by omega) with ⟨h1, -⟩ | ⟨-, h2⟩ | ⟨-, h2⟩
  · exact h1
  · omega
  · rcases h2 with h2 | ⟨h2, -⟩ <;> omega
/-- what a line costs -/
theorem Lns.cost (h : Lns c W T C R) {t : Nat} (ht : t < T) : ∀ n : Nat, (n : Int) ≤ W → costP c (fun x => C t + R x) n = bnd R n
  | 0, _ => rfl
  | n + 1, hn => by
    by_cases h0 : n = 0
    · subst h0
      unfold bnd
      rw [costP_one, costP_one]
      exact h.ink t 0 ht (by omega) (by omega)
    · rw [costP_step _ _ _ (by omega), bnd_step _ _ (by omega), h.cost ht n (by omega), h.ink t n ht (by omega) (by omega)]
      by_cases q : R n ≠ R ((n : Int) - 1)
      · rw [if_pos q, if_pos (by omega)]; omega
      · rw [if_neg q, if_neg (by omega)]; omega
/-- a path off all lines is dear -/
theorem Lns.off (h : Lns c W T C R) {l : Int → Int} : ∀ n : Nat, (n : Int) ≤ W → (∀ j : Nat, j < n → ∀ t, t < T → l j ≠ C t + R j) → 2 * (n : Int) ≤ costP c l n
  | 0, _, _ => by simp [costP]
  | n + 1, hn, ho => by
    have ih := h.off n (by omega) fun j hj => ho j (by omega)
    have h2 := h.paper n (l n) (by omega) (by omega) (ho n (by omega))
    rw [costP, h2]
    split <;> omega
end
/-! ### bends are rare -/
section
variable {p : Int → Int}
theorem bxF_far {k m : Nat} (h : k < m) : bxF p k + 8 ≤ bxF p m := by
  have := (bxF_step (p := p) k).1
  have := bxF_mono (p := p) (show k + 1 ≤ m from h)
  omega
theorem bend_at : ∀ (M : Nat) (x : Int), rsF p M (x + 1) ≠ rsF p M x → ∃ k, k < M ∧ bxF p (k + 1) = x + 1
  | 0, x, h => by simp [rsF] at h
  | M + 1, x, h => by
    by_cases c : bxF p (M + 1) = x + 1
    · exact ⟨M, by omega, c⟩
    · have e1 : rsF p (M + 1) (x + 1) = rsF p M (x + 1) + if bxF p (M + 1) ≤ x + 1 then bdF p M else 0 := rfl
      have e2 : rsF p (M + 1) x = rsF p M x + if bxF p (M + 1) ≤ x then bdF p M else 0 := rfl
      have e3 : (if bxF p (M + 1) ≤ x + 1 then bdF p M else 0) = if bxF p (M + 1) ≤ x then bdF p M else 0 := by
        by_cases d : bxF p (M + 1) ≤ x
        · rw [if_pos d, if_pos (by omega)]
        · rw [if_neg d, if_neg (by omega)]
      rw [e1, e2, e3] at h
      obtain ⟨k, hk, e⟩ := bend_at M x (fun g => h (by rw [g]))
      exact ⟨k, by omega, e⟩
theorem bend_rare (M : Nat) (x : Int) (h : rsF p M (x + 1) ≠ rsF p M x) : rsF p M (x + 2) = rsF p M (x + 1) := by
  apply Classical.byContradiction
  intro h2
  obtain ⟨k, -, e1⟩ := bend_at M x h
  obtain ⟨m, -, e2⟩ := bend_at M (x + 1) (by rw [show x + 1 + 1 = x + 2 by omega]; exact h2)
  rcases Nat.lt_trichotomy k m with g | g | g
  · have := bxF_far (p := p) (show k + 1 < m + 1 by omega); omega
  · subst g; omega
  · have := bxF_far (p := p) (show m + 1 < k + 1 by omega); omega
theorem bend_few (M : Nat) : ∀ n : Nat, 0 < n → ∃ k : Nat, bnd (rsF p M) n ≤ k ∧ bxF p k ≤ (n : Int) - 1 ∧ (n : Int) - 1 < bxF p (k + 1)
  | 0, h => by omega
  | n + 1, _ => by
    by_cases h0 : n = 0
    · subst h0
      refine ⟨0, ?_, ?_, ?_⟩
      · unfold bnd; rw [costP_one]; simp
      · simp [bxF]
      · have := bxF_lo (p := p) (0 + 1); omega
    · obtain ⟨k, h1, h2, h3⟩ := bend_few M n (by omega)
      rw [bnd_step _ _ (by omega)]
      by_cases c : (n : Int) < bxF p (k + 1)
      · refine ⟨k, ?_, by omega, by omega⟩
        rw [if_neg]
        · omega
        · intro h4
          obtain ⟨m, -, e⟩ := bend_at M ((n : Int) - 1) (by rw [show (n : Int) - 1 + 1 = n by omega]; exact h4)
          rcases Nat.lt_trichotomy m k with g | g | g
          · have := bxF_mono (p := p) (show m + 1 ≤ k from g); omega
          · subst g; omega
          · have := bxF_mono (p := p) (show k + 1 ≤ m + 1 by omega); omega
      · refine ⟨k + 1, ?_, by omega, ?_⟩
        · split <;> omega
        · have := (bxF_step (p := p) (k + 1)).1; omega
/-- there is at most one bend to eight columns -/
theorem bend_8 (M n : Nat) (hn : 0 < n) : 8 * bnd (rsF p M) n ≤ n := by
  obtain ⟨k, h1, h2, -⟩ := bend_few (p := p) M n hn
  have := bxF_lo (p := p) k
  omega
end
end Go.Proofs.Ytdimlpcbbkokiaa

/- Plain: marks of a line as the reference makes them; the order of the lines by their first rows. No program in sight. -/
namespace Go.Proofs.Ytdimlpcbbkokiaa
open Go.RowKit
set_option linter.unusedVariables false
/-- what is forbidden while the reference marks a line: the columns before x, and column x up to row y -/
def mkS (W : Int) (f : Int → Bool) (P : Nat → Int) (x y : Int) : Int → Bool := fun i =>
  f i || decide ((i % W < x ∨ (i % W = x ∧ i / W < y)) ∧ P (i % W).toNat - 2 ≤ i / W ∧ i / W ≤ P (i % W).toNat + 2)
section
variable {W H : Int} {f : Int → Bool} {P : Nat → Int}
theorem mkS_zero (hW : 0 < W) {i : Int} (h0 : 0 ≤ i) : mkS W f P 0 0 i = f i := by
  unfold mkS
  have h1 : 0 ≤ i % W := Int.emod_nonneg _ (by omega)
  have h2 : 0 ≤ i / W := Int.ediv_nonneg h0 (by omega)
  rw [show decide _ = false from decide_eq_false ?_, Bool.or_false]
  rintro ⟨h, -, -⟩
  omega
theorem mkS_set {x : Nat} {y : Int} (hx : (x : Int) < W) (h1 : P x - 2 ≤ y) (h2 : y ≤ P x + 2) (i : Int) : (if i = y * W + x then true else mkS W f P x y i) = mkS W f P x (y + 1) i := by
  have a := idx_mod (x := (x : Int)) (y := y) (W := W) (by omega) hx
  have b := idx_div (x := (x : Int)) (y := y) (W := W) (by omega) hx
  by_cases e : i = y * W + x
  · rw [if_pos e]
    subst e
    unfold mkS
    rw [a, b, Int.toNat_natCast, show decide _ = true from decide_eq_true ⟨.inr ⟨rfl, by omega⟩, h1, h2⟩, Bool.or_true]
  · rw [if_neg e]
    unfold mkS
    refine bool_or_congr (and_congr_left fun h => or_congr Iff.rfl (and_congr_right fun h3 => ?_))
    have : i / W ≠ y := fun h4 => e (by
      have := Int.emod_add_mul_ediv i W
      rw [h3, h4, Int.mul_comm] at this; omega)
    omega
theorem mkS_skip {x : Nat} {y : Int} (h : ¬ (P x - 2 ≤ y ∧ y ≤ P x + 2)) (i : Int) : mkS W f P x y i = mkS W f P x (y + 1) i := by
  unfold mkS
  refine bool_or_congr (and_congr_left fun h2 => or_congr Iff.rfl (and_congr_right fun h3 => ?_))
  rw [h3, Int.toNat_natCast] at h2
  omega
theorem mkS_col {x : Int} {i : Int} (h0 : 0 ≤ i) (hi : i < W * H) (hW : 0 < W) : mkS W f P x H i = mkS W f P (x + 1) 0 i := by
  have h1 : i / W < H := Int.ediv_lt_of_lt_mul hW (by rw [Int.mul_comm]; exact hi)
  have h2 : 0 ≤ i / W := Int.ediv_nonneg h0 (by omega)
  unfold mkS
  refine bool_or_congr (and_congr_left fun _ => ?_)
  omega
theorem mkS_end {x : Int} {i : Int} (hW : 0 < W) (hx : x = W) : mkS W f P x 0 i = mkF W f P i := by
  unfold mkS mkF
  have h1 : i % W < W := Int.emod_lt_of_pos _ hW
  refine bool_or_congr ?_
  constructor
  · rintro ⟨-, h⟩; exact h
  · intro h; exact ⟨.inl (by omega), h⟩
end
/-- the numbers below i whose key is y -/
def atKey (key : Nat → Int) (i : Nat) (y : Int) : List Nat := (List.range i).filter fun j => decide (key j = y)
/-- the numbers below k, by their keys, those with keys below y -/
def byKey (key : Nat → Int) (k : Nat) : Nat → List Nat
  | 0 => []
  | y + 1 => byKey key k y ++ atKey key k y
theorem atKey_mem {key : Nat → Int} {i : Nat} {y : Int} {j : Nat} : j ∈ atKey key i y ↔ j < i ∧ key j = y := by
  unfold atKey; rw [List.mem_filter, List.mem_range, decide_eq_true_iff]
theorem byKey_mem {key : Nat → Int} {k y : Nat} {j : Nat} : j ∈ byKey key k y ↔ j < k ∧ 0 ≤ key j ∧ key j < y := by
  induction y with
  | zero => constructor
            · intro h; simp [byKey] at h
            · rintro ⟨-, h1, h2⟩; omega
  | succ y ih =>
    rw [byKey, List.mem_append, ih, atKey_mem]
    omega
theorem atKey_yes {key : Nat → Int} {i : Nat} {y : Int} (h : key i = y) : atKey key (i + 1) y = atKey key i y ++ [i] := by
  unfold atKey; rw [List.range_succ, List.filter_append]; simp [h]
theorem atKey_no {key : Nat → Int} {i : Nat} {y : Int} (h : key i ≠ y) : atKey key (i + 1) y = atKey key i y := by
  unfold atKey; rw [List.range_succ, List.filter_append]; simp [h]
theorem atKey_nodup (key : Nat → Int) (i : Nat) (y : Int) : (atKey key i y).Nodup := List.nodup_range.filter _
theorem byKey_nodup (key : Nat → Int) (k y : Nat) : (byKey key k y).Nodup := by
  induction y with
  | zero => exact List.nodup_nil
  | succ y ih =>
    rw [byKey]
    refine List.nodup_append.2 ⟨ih, atKey_nodup _ _ _, fun a ha b hb e => ?_⟩
    subst e
    have := byKey_mem.1 ha
    have := atKey_mem.1 hb
    omega
theorem byKey_sorted (key : Nat → Int) (k y : Nat) : (byKey key k y).Pairwise fun i j => key i ≤ key j := by
  induction y with
  | zero => exact List.Pairwise.nil
  | succ y ih =>
    rw [byKey]
    refine List.pairwise_append.2 ⟨ih, ?_, fun a ha b hb => ?_⟩
    · refine List.Pairwise.imp_of_mem (R := fun _ _ => True) (fun {a b} ha hb _ => ?_) (List.pairwise_of_forall (fun _ _ => trivial))
      have := atKey_mem.1 ha
      have := atKey_mem.1 hb
      omega
    · have := byKey_mem.1 ha
      have := atKey_mem.1 hb
      omega
theorem byKey_perm {key : Nat → Int} {k y : Nat} (h : ∀ j, j < k → 0 ≤ key j ∧ key j < y) : (byKey key k y).Perm (List.range k) := by
  refine (List.perm_ext_iff_of_nodup (byKey_nodup _ _ _) List.nodup_range).2 fun j => ?_
  rw [byKey_mem, List.mem_range]
  constructor
  · exact fun h => h.1
  · exact fun hj => ⟨hj, h j hj⟩
theorem byKey_len (key : Nat → Int) (k y : Nat) : (byKey key k y).length ≤ k := by
  have h : (byKey key k y).Perm ((List.range k).filter fun j => decide (0 ≤ key j ∧ key j < y)) := (List.perm_ext_iff_of_nodup (byKey_nodup _ _ _) (List.nodup_range.filter _)).2 fun j => by
    rw [byKey_mem, List.mem_filter, List.mem_range, decide_eq_true_iff]
  rw [h.length_eq]
  have := List.length_filter_le (fun j => decide (0 ≤ key j ∧ key j < (y : Int))) (List.range k)
  rw [List.length_range] at this
  exact this
theorem part_len {key : Nat → Int} {k y i : Nat} (hi : i ≤ k) : (byKey key k y ++ atKey key i y).length ≤ k := by
  have h1 := byKey_len key k (y + 1)
  rw [byKey, List.length_append] at h1
  rw [List.length_append]
  have h2 : (atKey key i y).length ≤ (atKey key k y).length := ((List.range_sublist.2 hi).filter _).length_le
  omega
/-- there is one order only, if no two keys are the same -/
theorem sorted_uniq {key : Nat → Int} : ∀ {l l' : List Nat}, l.Perm l' → l.Pairwise (fun i j => key i ≤ key j) → l'.Pairwise (fun i j => key i ≤ key j) → (∀ i j, i ∈ l → j ∈ l → key i = key j → i = j) → l = l'
  | [], l', hp, _, _, _ => by rw [List.nil_perm.1 hp]
  | a :: l, [], hp, _, _, _ => by have := hp.length_eq; simp at this
  | a :: l, b :: l', hp, h1, h2, hk => by
    have hb : b ∈ a :: l := hp.mem_iff.2 (List.mem_cons_self)
    have ha : a ∈ b :: l' := hp.mem_iff.1 (List.mem_cons_self)
    have e1 : key a ≤ key b := by
      rcases List.mem_cons.1 hb with rfl | hb
      · exact Int.le_refl _
      · exact (List.pairwise_cons.1 h1).1 b hb
    have e2 : key b ≤ key a := by
      rcases List.mem_cons.1 ha with rfl | ha
      · exact Int.le_refl _
      · exact (List.pairwise_cons.1 h2).1 a ha
    have e : a = b := hk a b (List.mem_cons_self) hb (by omega)
    subst e
    rw [sorted_uniq (List.perm_cons a |>.1 hp) (List.pairwise_cons.1 h1).2 (List.pairwise_cons.1 h2).2 (fun i j hi hj => hk i j (List.mem_cons_of_mem _ hi) (List.mem_cons_of_mem _ hj))]
theorem ln_pathB2 {W H : Int} {p : Int → Int} {k : Nat} (hW : 1 ≤ W) (hW2 : W ≤ 640) (hH : 1 ≤ H) (hg : GC 1073741824 W H (cst p W) k < 1073741824) : isPathB W H W.toNat (fun j => LN 1073741824 W H (cst p W) k j.toNat) = true :=
  path_B hW hH (by omega) (fun x x0 x1 => by have := ln_ok (cst_bd p W) (by omega) (by omega) (by omega) hg x.toNat (by omega); exact ⟨this.1, this.2.1⟩)
    (fun x x0 x1 => by have := ln_step (cst_bd p W) (by omega) (by omega) (by omega) hg x.toNat (by omega); show LN _ _ _ _ _ x.toNat - 1 ≤ LN _ _ _ _ _ (x + 1).toNat ∧ LN _ _ _ _ _ (x + 1).toNat ≤ LN _ _ _ _ _ x.toNat + 1; rw [show (x + 1).toNat = x.toNat + 1 by omega]; exact this)
end Go.Proofs.Ytdimlpcbbkokiaa
