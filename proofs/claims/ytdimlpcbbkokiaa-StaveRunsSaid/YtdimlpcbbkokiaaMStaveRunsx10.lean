/- Texts of mine in build order: T58, T59, T60, S23, S15, T61, S26. Conditions: each theorem's own. -/
import Derived.Test.YtdimlpcbbkokiaaMStaveRunsx9
/- Walks: the reference's Columns; runs painted (FromRows, FromColumns), where they are in order. -/
namespace Go.Proofs.Ytdimlpcbbkokiaa
open Go.RowKit Go.Shelf
set_option linter.unusedVariables false
attribute [local go_sem] Oper.semAt_some

set_option maxHeartbeats 1000000 in
theorem rcolumns_any (W H : Nat) (A : Option Addr) (n c : Nat) (p : Int → Int) (w : World) (hA : ArrB w w.heap.size A n p) (hW : W ≤ 640) (hH : H ≤ 640) (hn : (n : Int) = (W : Int) * H) :
    Calls Try.prog 93 #[.agg #[.int .i64 W, .int .i64 H, .slice A n c]] w (New w fun v w' => RunRow w' w.heap.size v (rLs (fun x y => inkB W H p x y) H W)) := by
  have hn2 : (n : Int) = (H : Int) * W := by rw [hn]; exact Int.mul_comm _ _
  have FL := Lib.hid fun w' hA' => rflip_any W H A n c p w' hA' hW hH hn
  have RW := Lib.hid fun A' c' w' hA' => rrows_any H W A' n c' (fillB (fun x y => inkB W H p y x) H) w' hA' hH hW hn2
  rw [show rLs (fun y x => inkB H W (fillB (fun x y => inkB W H p y x) H) x y) H W = rLs (fun x y => inkB W H p x y) H W from rLs_congr fun x j hx hj => by
    rw [inkB_in (by omega) (by omega) (by omega) (by omega), fillB_at (by omega) (by omega)]
    cases inkB W H p x j <;> simp] at RW
  have HA := Lib.hid hA
  clear hn hn2 hA
  go_enter Try.func93, Try.ntmps93
  go_wp2_with fail
  have b1 : Below w.heap.size w (w.alloc (.cells #[.int .i64 W, .int .i64 H, .slice A n c] 24)) := (Below.refl _ _).alloc (Nat.le_refl _) _
  generalize w.alloc (.cells #[.int .i64 W, .int .i64 H, .slice A n c] 24) = w1 at *
  refine (FL.out w1 (HA.out.to b1)).mono ?_
  rintro e w2 ⟨_, rfl, ⟨g, rfl, hg, kg⟩, hb2⟩
  have b2 := below_call b1 b1.size hb2
  go_wp2_with fail
  refine (RW.out (some ⟨g, 0, none⟩) n w2 (kg.arrB kg.lt)).mono ?_
  rintro e w3 ⟨v, rfl, hR, hb3⟩
  have b3 := below_call b2 b2.size hb3
  have z := b2.size
  go_wp2
  go_ret
  exact ⟨_, rfl, hR.base z, b3⟩

/-- a pixel of some runs of rows -/
def hitR (W : Int) (r : Rn) (i : Int) : Bool := decide (r.1 = i / W ∧ r.2.1 ≤ i % W ∧ i % W ≤ r.2.2)
def paintR (W : Int) (l : List Rn) : Int → Int := fun i => if l.any (fun r => hitR W r i) = true then 1 else 0
/-- and of one run more the columns before x -/
def paintX (W : Int) (r : Rn) (x : Int) (q : Int → Int) : Int → Int := fun i => if r.1 = i / W ∧ r.2.1 ≤ i % W ∧ i % W < x then 1 else q i
section
variable {W x i : Int} {r : Rn} {l : List Rn} {q : Int → Int}
theorem paintX_start : paintX W r r.2.1 q i = q i := by unfold paintX; rw [if_neg (by omega)]
theorem paintX_set (h0 : 0 ≤ x) (x1 : x < W) (y0 : r.2.1 ≤ x) : upd (paintX W r x q) (r.1 * W + x) 1 i = paintX W r (x + 1) q i := by
  have a := idx_mod (y := r.1) h0 x1
  have b := idx_div (y := r.1) h0 x1
  unfold upd paintX
  by_cases e : i = r.1 * W + x
  · subst e
    rw [if_pos rfl, a, b, if_pos ⟨rfl, y0, by omega⟩]
  · rw [if_neg e]
    have hne : r.1 = i / W → i % W ≠ x := fun h3 h4 => e (by
      have := Int.emod_add_mul_ediv i W
      rw [← h3, h4, Int.mul_comm] at this; omega)
    by_cases c : r.1 = i / W ∧ r.2.1 ≤ i % W ∧ i % W < x
    · rw [if_pos c, if_pos (by omega)]
    · rw [if_neg c, if_neg (by omega)]
theorem paintR_nil : paintR W [] i = 0 := by simp [paintR]
theorem paintR_snoc : paintX W r (r.2.2 + 1) (paintR W l) i = paintR W (l ++ [r]) i := by
  unfold paintX paintR
  rw [List.any_append]
  by_cases c : r.1 = i / W ∧ r.2.1 ≤ i % W ∧ i % W ≤ r.2.2
  · have e : hitR W r i = true := decide_eq_true c
    rw [if_pos (by omega), if_pos (by rw [List.any_cons, e]; simp)]
  · have e : hitR W r i = false := decide_eq_false c
    rw [if_neg (by omega), show [r].any (fun r => hitR W r i) = false by rw [List.any_cons, e]; rfl, Bool.or_false]
theorem paintR_01 : Is01 (paintR W l) := fun i => by unfold paintR; split <;> simp
end
/-- runs in order and apart, within a grid of h rows of w places -/
structure RunsOk (w h : Nat) (l : List Rn) : Prop where
  in_ : ∀ (i : Nat) (r : Rn), l[i]? = some r → 0 ≤ r.1 ∧ r.1 < h ∧ 0 ≤ r.2.1 ∧ r.2.1 ≤ r.2.2 ∧ r.2.2 < w
  apart : ∀ (i : Nat) (p r : Rn), l[i]? = some p → l[i + 1]? = some r → p.1 < r.1 ∨ (p.1 = r.1 ∧ p.2.2 + 1 < r.2.1)
theorem RunRow.arr {w : World} {B : Nat} {v : Value} {l : List Rn} (h : RunRow w B v l) : ∃ A c, v = .slice A l.length c ∧ RunArr w A l := by
  obtain ⟨A, c, e, -, h⟩ := h.cells
  exact ⟨A, c, e, h⟩

theorem But.row {B g : Nat} {w w' w'' : World} (h : But B g w w') (hg : w'.grownBy w'' (some g)) : But B g w w'' :=
  ⟨hg.os.trans h.os, hg.tape.trans h.tape, hg.output.trans h.output, Nat.le_trans h.size hg.size, fun j hj hk => (hg.block j (Nat.lt_of_lt_of_le hj h.size) (fun e => hk (by cases e; rfl))).trans (h.block j hj hk)⟩

set_option maxRecDepth 100000 in
set_option maxHeartbeats 4000000 in
theorem rfromrows_ok (W H n : Nat) (l : List Rn) (A : Option Addr) (c : Nat) (w : World) (hW : W ≤ 640) (hH : H ≤ 640) (hn : (n : Int) = (W : Int) * H) (hA : RunArr w A l) (hl : RunsOk W H l) (hll : l.length ≤ 1000000000) :
    Calls Try.prog 113 #[.int .i64 W, .int .i64 H, .slice A l.length c] w (New w fun v w' => ∃ u, v = .tuple #[u, .int .i64 0] ∧ OutN w w' W H n (paintR W l) u) := by
  have NW := Lib.hid fun w' => rnew_any W H n w' (by omega) (by omega) (by omega) (by omega) hn
  have FI := Lib.hid fun w' => fits_any W H w'
  have hfit : fitsB W H = true := by unfold fitsB; simp; omega
  rw [hfit] at FI
  have HNN := Lib.hid hn; have HA := Lib.hid hA; have HL := Lib.hid hl
  clear hn hA hl hfit
  go_enter Try.func113, Try.ntmps113
  go_wp2_with fail
  have k0 := Blk.new w 24 #[.int .i64 0, .int .i64 0, .slice none 0 0]
  have b1 : Below w.heap.size w (w.alloc (.cells #[.int .i64 0, .int .i64 0, .slice none 0 0] 24)) := (Below.refl _ _).alloc (Nat.le_refl _) _
  generalize w.alloc (.cells #[.int .i64 0, .int .i64 0, .slice none 0 0] 24) = w1 at *
  refine (FI.out w1).mono ?_
  rintro e w1' ⟨rfl, rfl⟩
  go_wp2_with fail
  refine (NW.out w1).mono ?_
  rintro e w2 ⟨_, rfl, ⟨g, rfl, hg, kg⟩, hb2⟩
  have zk0 := k0.lt
  have b2 := below_call b1 b1.size hb2
  have zg := kg.lt
  have bA : Below w2.heap.size w2 (w2.alloc (.cells #[.int .i64 W, .int .i64 H, .slice (some ⟨g, 0, none⟩) n n] 24)) := (Below.refl _ _).alloc (Nat.le_refl _) _
  have n0 := (k0.below' hb2).below' bA
  have kp := (kg.below' bA).u8conv (r := paintR W (l.take 0)) fun j _ _ => by rw [List.take_zero, paintR_nil]
  have k8 := Blk.new w2 24 #[.int .i64 W, .int .i64 H, .slice (some ⟨g, 0, none⟩) n n]
  have hA3 := (HA.out.to (b2.trans (bA.mono b2.size)))
  have b3 := b2.trans (bA.mono b2.size)
  obtain ⟨g8, hg8⟩ : ∃ g8, w2.heap.size = g8 := ⟨_, rfl⟩
  have zs : (w2.alloc (.cells #[.int .i64 W, .int .i64 H, .slice (some ⟨g, 0, none⟩) n n] 24)).heap.size = g8 + 1 := by simp [hg8]
  have HRA : Hid (l ≠ [] → ∃ gr, A = some ⟨gr, 0, none⟩ ∧ gr < w.heap.size) := Lib.hid (fun h => by obtain ⟨gr, e, h1, -⟩ := HA.out h; exact ⟨gr, e, h1⟩)
  rw [hg8] at k8 zg
  go_upto_region 4 with fail
  generalize w2.alloc (.cells #[.int .i64 W, .int .i64 H, .slice (some ⟨g, 0, none⟩) n n] 24) = w3 at *
  obtain ⟨B3, hB3⟩ : ∃ B3, g8 + 1 = B3 := ⟨_, rfl⟩
  rw [hB3] at zs
  clear hg8 kg k0 b1 b2 hb2 bA
  go_wp2_with fail
  go_loopw [9] (fun s wr => ∃ i : Nat, i ≤ l.length ∧ s = .int .i64 i ∧ But B3 g w3 wr ∧ Blk wr g 5 (u8s n (paintR W (l.take i)))) (fun s _ => l.length - (intOf s).toNat)
  case atStart => exact ⟨0, by omega, rfl, But.refl _ (by omega), kp⟩
  case round =>
    obtain ⟨i, hi, rfl, bu, kq⟩ := hrel
    clear kp
    by_cases il : (i : Int) < l.length
    · have ilN : i < l.length := by omega
      obtain ⟨r, hr⟩ : ∃ r, l[i]? = some r := ⟨l[i], List.getElem?_eq_getElem ilN⟩
      have htk : l.take (i + 1) = l.take i ++ [r] := by rw [List.take_add_one, hr]; rfl
      have rA := HA.out.to (b3.trans (bu.to zs (show w.heap.size ≤ g by omega) (by omega)))
      obtain ⟨gR, rfl, hgR, rc⟩ := rA (by intro h; rw [h] at ilN; simp at ilN)
      obtain ⟨b1', b2', b3', b4', b5'⟩ := HL.out.in_ i r hr
      obtain ⟨d1, d2, d3⟩ := rc i r hr
      have HPV := Lib.hid fun (h0 : 0 < i) => (show ∃ pv : Rn, wr.cell? ⟨gR, (i - 1) * 3, none⟩ = some (.int .i64 pv.1) ∧ wr.cell? ⟨gR, (i - 1) * 3 + 1, none⟩ = some (.int .i64 pv.2.1) ∧ wr.cell? ⟨gR, (i - 1) * 3 + 2, none⟩ = some (.int .i64 pv.2.2) ∧ (0 ≤ pv.2.2 ∧ pv.2.2 < W) ∧ (pv.1 < r.1 ∨ (pv.1 = r.1 ∧ pv.2.2 + 1 < r.2.1)) from by
        obtain ⟨pv, hpv⟩ : ∃ pv, l[i - 1]? = some pv := ⟨l[i - 1], List.getElem?_eq_getElem (by omega)⟩
        obtain ⟨q1, q2, q3⟩ := rc (i - 1) pv hpv
        have h4 := HL.out.in_ (i - 1) pv hpv
        exact ⟨pv, q1, q2, q3, ⟨by omega, h4.2.2.2.2⟩, HL.out.apart (i - 1) pv r hpv (by rw [show i - 1 + 1 = i by omega]; exact hr)⟩)
      obtain ⟨ry, rf, rt⟩ := r
      simp only at d1 d2 d3 b1' b2' b3' b4' b5'
      obtain ⟨y, rfl⟩ := Int.eq_ofNat_of_zero_le b1'
      obtain ⟨f, rfl⟩ := Int.eq_ofNat_of_zero_le b3'
      obtain ⟨t, rfl⟩ := Int.eq_ofNat_of_zero_le (Int.le_trans b3' b4')
      have HTK := Lib.hid htk
      obtain ⟨q, hq⟩ : ∃ q, paintR W (l.take i) = q := ⟨_, rfl⟩
      rw [hq] at kq
      have HQ := Lib.hid hq
      obtain ⟨gb, hgb⟩ : ∃ g, wr.heap.size = g := ⟨_, rfl⟩
      have zw := bu.size
      clear htk hr rc hq rA
      go_upto_region 8 with fail
      have bw5 := bu.then ((Below.refl _ wr).alloc bu.size (.cells #[.int .i64 (y : Int), .int .i64 (f : Int), .int .i64 (t : Int)] 84))
      have bA5 := (Below.refl wr.heap.size wr).alloc (Nat.le_refl _) (.cells #[.int .i64 (y : Int), .int .i64 (f : Int), .int .i64 (t : Int)] 84)
      have BX5 := Blk.new wr 84 #[.int .i64 (y : Int), .int .i64 (f : Int), .int .i64 (t : Int)]
      have np5 := kq.alloc (.cells #[.int .i64 (y : Int), .int .i64 (f : Int), .int .i64 (t : Int)] 84)
      have n85 := (k8.but bu (by omega) (by omega)).alloc (.cells #[.int .i64 (y : Int), .int .i64 (f : Int), .int .i64 (t : Int)] 84)
      have zw5 : (wr.alloc (.cells #[.int .i64 (y : Int), .int .i64 (f : Int), .int .i64 (t : Int)] 84)).heap.size = gb + 1 := by simp [hgb]
      have HPV5 := Lib.hid fun (h0 : 0 < i) => (show ∃ pv : Rn, (wr.alloc (.cells #[.int .i64 (y : Int), .int .i64 (f : Int), .int .i64 (t : Int)] 84)).cell? ⟨gR, (i - 1) * 3, none⟩ = some (.int .i64 pv.1) ∧ (wr.alloc (.cells #[.int .i64 (y : Int), .int .i64 (f : Int), .int .i64 (t : Int)] 84)).cell? ⟨gR, (i - 1) * 3 + 1, none⟩ = some (.int .i64 pv.2.1) ∧ (wr.alloc (.cells #[.int .i64 (y : Int), .int .i64 (f : Int), .int .i64 (t : Int)] 84)).cell? ⟨gR, (i - 1) * 3 + 2, none⟩ = some (.int .i64 pv.2.2) ∧ (0 ≤ pv.2.2 ∧ pv.2.2 < W) ∧ (pv.1 < (y : Int) ∨ (pv.1 = (y : Int) ∧ pv.2.2 + 1 < (f : Int))) from by
        obtain ⟨pv, q1, q2, q3, q4, q5⟩ := HPV.out h0
        exact ⟨pv, (bA5.cell (p := ⟨gR, (i - 1) * 3, none⟩) hgR).trans q1, (bA5.cell (p := ⟨gR, (i - 1) * 3 + 1, none⟩) hgR).trans q2, (bA5.cell (p := ⟨gR, (i - 1) * 3 + 2, none⟩) hgR).trans q3, q4, q5⟩)
      generalize wr.alloc (.cells #[.int .i64 (y : Int), .int .i64 (f : Int), .int .i64 (t : Int)] 84) = w5 at *
      rw [hgb] at BX5 zw
      clear bu kq d1 d2 d3 hgR HPV bA5
      obtain ⟨d1, d2, d3⟩ := BX5.cells3
      by_cases i0 : i = 0
      · have e0 : decide (0 < i) = false := by simp [i0]
        have e1 : ¬ (i : Int) > 0 := by omega
        clear i0
        go_upto_region 14 with fail
        clear d1 d2 d3
        obtain ⟨w6, hw6⟩ : ∃ x, w5 = x := ⟨_, rfl⟩
        rw [hw6] at BX5 np5 n85 bw5 zw5
        subst hw6
        obtain ⟨Bk, hBk⟩ : ∃ B, gb + 1 = B := ⟨_, rfl⟩
        rw [hBk] at zw5
        have BX := BX5; have np := np5; have n8 := n85; have bw := bw5
        clear BX5 np5 n85 bw5
        generalize hw6 : w5 = w6 at *
        obtain ⟨c1, c2, c3⟩ := BX.cells3
        go_wp2_with fail
        clear c1 c2 c3
        go_loopw [12] (fun s wr => ∃ x : Nat, f ≤ x ∧ x ≤ t + 1 ∧ s = .int .i64 x ∧ But Bk g w6 wr ∧ Blk wr g 5 (u8s n (paintX W ((y : Int), (f : Int), (t : Int)) x q))) (fun s _ => t + 1 - (intOf s).toNat)
        case atStart => exact ⟨f, by omega, by omega, rfl, But.refl _ (by omega), np.u8conv fun j _ _ => paintX_start.symm⟩
        case round =>
          obtain ⟨x, hfx, hxt, rfl, bv, kq⟩ := hrel
          have mX := BX.but bv (by omega) (by omega)
          have m8 := n8.but bv (by omega) (by omega)
          clear np
          obtain ⟨c1, c2, c3⟩ := mX.cells3
          obtain ⟨x1, x2, x3⟩ := m8.cells3
          by_cases xl : (x : Int) ≤ t
          · have PS := Lib.hid fun i => paintX_set (r := ((y : Int), (f : Int), (t : Int))) (q := q) (i := i) (x := (x : Int)) (W := (W : Int)) (by omega) (by omega) (show (f : Int) ≤ x by omega)
            go_wp2_with fail
            refine (rset_any W H g n n 5 _ x y _ kq (by omega) (by omega) (by omega) (by omega) (by omega) (by omega) HNN.out).mono ?_
            rintro e w9 ⟨rfl, hk9, hg9⟩
            have bz : But Bk g w6 w9 := bv.row hg9
            have kq9 : Blk w9 g 5 (u8s n (paintX W ((y : Int), (f : Int), (t : Int)) ((x + 1 : Nat) : Int) q)) := hk9.u8conv fun i _ _ => by
              have h := PS.out i
              rw [h]; push_cast; rfl
            clear hk9 hg9 bv kq c1 c2 c3 x1 x2 x3
            go_wp2_with fail
            go_round
            case rel => exact ⟨x + 1, by omega, by omega, by go_num, bz, kq9⟩
            case measure => simp [intOf]; omega
          · have kp2 : Blk wr g 5 (u8s n (paintR W (l.take (i + 1)))) := kq.u8conv fun j _ _ => by
              rw [HTK.out, ← paintR_snoc, HQ.out]
              have hx : x = t + 1 := by omega
              rw [hx]; push_cast; rfl
            have bz : But B3 g w3 wr := bw.trans bv (by omega)
            clear kq
            go_wp2_with fail
            go_round
            case rel => exact ⟨i + 1, by omega, by go_num, bz, kp2⟩
            case measure => simp [intOf]; omega
      · have e1 : (i : Int) > 0 := by omega
        obtain ⟨⟨py, pf, pt⟩, q1, q2, q3, ⟨q4, q5⟩, q6⟩ := HPV5.out (by omega)
        simp only at q1 q2 q3 q4 q5 q6
        have v1 : IntKind.i64.wrap ((i : Int) - 1) = ((i - 1 : Nat) : Int) := (IntWalk.i64_in _ (by omega)).trans (by omega)
        have v2 : IntKind.i64.wrap (pt + 1) = pt + 1 := IntWalk.i64_in _ (by omega)
        have i1 : ((i - 1 : Nat) : Int) < l.length := by omega
        obtain ⟨im, him⟩ : ∃ im, i - 1 = im := ⟨_, rfl⟩
        rw [him] at q1 q2 q3 v1 i1
        clear i0 him
        by_cases c : py < (y : Int)
        · have c' : ¬ py > (y : Int) := by omega
          have c2 : (py == (y : Int)) = false := by simp; omega
          clear q6
          go_upto_region 14 with fail
          have bA6 := (Below.refl w5.heap.size w5).alloc (Nat.le_refl _) (.cells #[.int .i64 py, .int .i64 pf, .int .i64 pt] 84)
          have bw := bw5.then (bA6.mono bw5.size)
          have BX := BX5.alloc (.cells #[.int .i64 py, .int .i64 pf, .int .i64 pt] 84)
          have np := np5.alloc (.cells #[.int .i64 py, .int .i64 pf, .int .i64 pt] 84)
          have n8 := n85.alloc (.cells #[.int .i64 py, .int .i64 pf, .int .i64 pt] 84)
          obtain ⟨Bk, hBk⟩ : ∃ B, gb + 1 + 1 = B := ⟨_, rfl⟩
          have zw6 : (w5.alloc (.cells #[.int .i64 py, .int .i64 pf, .int .i64 pt] 84)).heap.size = Bk := by simp [zw5, hBk]
          clear bA6 q1 q2 q3 d1 d2 d3 BX5 np5 n85 bw5
          generalize w5.alloc (.cells #[.int .i64 py, .int .i64 pf, .int .i64 pt] 84) = w6 at *
          obtain ⟨c1, c2, c3⟩ := BX.cells3
          go_wp2_with fail
          clear c1 c2 c3
          go_loopw [12] (fun s wr => ∃ x : Nat, f ≤ x ∧ x ≤ t + 1 ∧ s = .int .i64 x ∧ But Bk g w6 wr ∧ Blk wr g 5 (u8s n (paintX W ((y : Int), (f : Int), (t : Int)) x q))) (fun s _ => t + 1 - (intOf s).toNat)
          case atStart => exact ⟨f, by omega, by omega, rfl, But.refl _ (by omega), np.u8conv fun j _ _ => paintX_start.symm⟩
          case round =>
            obtain ⟨x, hfx, hxt, rfl, bv, kq⟩ := hrel
            have mX := BX.but bv (by omega) (by omega)
            have m8 := n8.but bv (by omega) (by omega)
            clear np
            obtain ⟨c1, c2, c3⟩ := mX.cells3
            obtain ⟨x1, x2, x3⟩ := m8.cells3
            by_cases xl : (x : Int) ≤ t
            · have PS := Lib.hid fun i => paintX_set (r := ((y : Int), (f : Int), (t : Int))) (q := q) (i := i) (x := (x : Int)) (W := (W : Int)) (by omega) (by omega) (show (f : Int) ≤ x by omega)
              go_wp2_with fail
              refine (rset_any W H g n n 5 _ x y _ kq (by omega) (by omega) (by omega) (by omega) (by omega) (by omega) HNN.out).mono ?_
              rintro e w9 ⟨rfl, hk9, hg9⟩
              have bz : But Bk g w6 w9 := bv.row hg9
              have kq9 : Blk w9 g 5 (u8s n (paintX W ((y : Int), (f : Int), (t : Int)) ((x + 1 : Nat) : Int) q)) := hk9.u8conv fun i _ _ => by
                have h := PS.out i
                rw [h]; push_cast; rfl
              clear hk9 hg9 bv kq c1 c2 c3 x1 x2 x3
              go_wp2_with fail
              go_round
              case rel => exact ⟨x + 1, by omega, by omega, by go_num, bz, kq9⟩
              case measure => simp [intOf]; omega
            · have kp2 : Blk wr g 5 (u8s n (paintR W (l.take (i + 1)))) := kq.u8conv fun j _ _ => by
                rw [HTK.out, ← paintR_snoc, HQ.out]
                have hx : x = t + 1 := by omega
                rw [hx]; push_cast; rfl
              have bz : But B3 g w3 wr := bw.trans bv (by omega)
              clear kq
              go_wp2_with fail
              go_round
              case rel => exact ⟨i + 1, by omega, by go_num, bz, kp2⟩
              case measure => simp [intOf]; omega
        · have c' : ¬ py > (y : Int) := by omega
          obtain rfl : py = (y : Int) := by omega
          have c2 : ¬ pt + 1 ≥ (f : Int) := by omega
          clear q6 c
          go_upto_region 14 with fail
          have bA6 := (Below.refl w5.heap.size w5).alloc (Nat.le_refl _) (.cells #[.int .i64 (y : Int), .int .i64 pf, .int .i64 pt] 84)
          have bw := bw5.then (bA6.mono bw5.size)
          have BX := BX5.alloc (.cells #[.int .i64 (y : Int), .int .i64 pf, .int .i64 pt] 84)
          have np := np5.alloc (.cells #[.int .i64 (y : Int), .int .i64 pf, .int .i64 pt] 84)
          have n8 := n85.alloc (.cells #[.int .i64 (y : Int), .int .i64 pf, .int .i64 pt] 84)
          obtain ⟨Bk, hBk⟩ : ∃ B, gb + 1 + 1 = B := ⟨_, rfl⟩
          have zw6 : (w5.alloc (.cells #[.int .i64 (y : Int), .int .i64 pf, .int .i64 pt] 84)).heap.size = Bk := by simp [zw5, hBk]
          clear bA6 q1 q2 q3 d1 d2 d3 BX5 np5 n85 bw5
          generalize w5.alloc (.cells #[.int .i64 (y : Int), .int .i64 pf, .int .i64 pt] 84) = w6 at *
          obtain ⟨c1, c2, c3⟩ := BX.cells3
          go_wp2_with fail
          clear c1 c2 c3
          go_loopw [12] (fun s wr => ∃ x : Nat, f ≤ x ∧ x ≤ t + 1 ∧ s = .int .i64 x ∧ But Bk g w6 wr ∧ Blk wr g 5 (u8s n (paintX W ((y : Int), (f : Int), (t : Int)) x q))) (fun s _ => t + 1 - (intOf s).toNat)
          case atStart => exact ⟨f, by omega, by omega, rfl, But.refl _ (by omega), np.u8conv fun j _ _ => paintX_start.symm⟩
          case round =>
            obtain ⟨x, hfx, hxt, rfl, bv, kq⟩ := hrel
            have mX := BX.but bv (by omega) (by omega)
            have m8 := n8.but bv (by omega) (by omega)
            clear np
            obtain ⟨c1, c2, c3⟩ := mX.cells3
            obtain ⟨x1, x2, x3⟩ := m8.cells3
            by_cases xl : (x : Int) ≤ t
            · have PS := Lib.hid fun i => paintX_set (r := ((y : Int), (f : Int), (t : Int))) (q := q) (i := i) (x := (x : Int)) (W := (W : Int)) (by omega) (by omega) (show (f : Int) ≤ x by omega)
              go_wp2_with fail
              refine (rset_any W H g n n 5 _ x y _ kq (by omega) (by omega) (by omega) (by omega) (by omega) (by omega) HNN.out).mono ?_
              rintro e w9 ⟨rfl, hk9, hg9⟩
              have bz : But Bk g w6 w9 := bv.row hg9
              have kq9 : Blk w9 g 5 (u8s n (paintX W ((y : Int), (f : Int), (t : Int)) ((x + 1 : Nat) : Int) q)) := hk9.u8conv fun i _ _ => by
                have h := PS.out i
                rw [h]; push_cast; rfl
              clear hk9 hg9 bv kq c1 c2 c3 x1 x2 x3
              go_wp2_with fail
              go_round
              case rel => exact ⟨x + 1, by omega, by omega, by go_num, bz, kq9⟩
              case measure => simp [intOf]; omega
            · have kp2 : Blk wr g 5 (u8s n (paintR W (l.take (i + 1)))) := kq.u8conv fun j _ _ => by
                rw [HTK.out, ← paintR_snoc, HQ.out]
                have hx : x = t + 1 := by omega
                rw [hx]; push_cast; rfl
              have bz : But B3 g w3 wr := bw.trans bv (by omega)
              clear kq
              go_wp2_with fail
              go_round
              case rel => exact ⟨i + 1, by omega, by go_num, bz, kp2⟩
              case measure => simp [intOf]; omega
    · have hiL : i = l.length := by omega
      have kp2 : Blk wr g 5 (u8s n (paintR W l)) := by rw [hiL, List.take_length] at kq; exact kq
      have m0 := n0.but bu (by omega) (by omega)
      have m8 := k8.but bu (by omega) (by omega)
      obtain ⟨x1, x2, x3⟩ := m8.cells3
      obtain ⟨f1, f2, f3⟩ := m0.frozen3
      obtain ⟨y1, y2, y3⟩ := m0.cells3
      have k5 := ((m0.set_ 0 (.int .i64 W)).set_ 1 (.int .i64 H)).set_ 2 (.slice (some ⟨g, 0, none⟩) n n)
      obtain ⟨s1, s2, s3⟩ := Blk.cells3 (a := .int .i64 W) (b := .int .i64 H) (c := .slice (some ⟨g, 0, none⟩) n n) k5
      have bE : Below w.heap.size w wr := b3.trans (bu.to zs (by omega) (by omega))
      clear kq hiL
      go_wp2_with fail
      refine bodyPost_ret (v := .tuple #[.agg #[.int .i64 W, .int .i64 H, .slice (some ⟨g, 0, none⟩) n n], .int .i64 0]) (by simp [results, Try.results113, go_sem, s1, s2, s3]) rfl ?_
      refine ⟨_, rfl, ⟨_, rfl, ?_⟩, by (repeat (first | exact Below.refl _ _ | assumption | refine Below.drew ?_ | refine below_drewN ?_ _ | refine Below.alloc ?_ (by first | omega | (simp; done) | (simp; omega)) _ | refine Below.setCell ?_ (by first | omega | (simp; done) | (simp; omega)) _ | refine below_setRow ?_ (by first | omega | (simp; done) | (simp; omega)) _ ))⟩
      have g1 : g ≠ w.heap.size := by omega
      exact OutN.mk (by omega) (Blk.far (Blk.far (Blk.far kp2 (p := ⟨w.heap.size, 0, none⟩) g1 (.int .i64 W)) (p := ⟨w.heap.size, 1, none⟩) g1 (.int .i64 H)) (p := ⟨w.heap.size, 2, none⟩) g1 (.slice (some ⟨g, 0, none⟩) n n))

set_option maxRecDepth 100000 in
set_option maxHeartbeats 4000000 in
theorem rfromcols_ok (W H n : Nat) (l : List Rn) (A : Option Addr) (c : Nat) (w : World) (hW : W ≤ 640) (hH : H ≤ 640) (hn : (n : Int) = (W : Int) * H) (hA : RunArr w A l) (hl : RunsOk H W l) (hll : l.length ≤ 1000000000) :
    Calls Try.prog 94 #[.int .i64 W, .int .i64 H, .slice A l.length c] w (New w fun v w' => ∃ u, v = .tuple #[u, .int .i64 0] ∧ OutN w w' W H n (fillB (fun x y => inkB H W (paintR H l) y x) W) u) := by
  have hn2 : (n : Int) = (H : Int) * W := by rw [hn]; exact Int.mul_comm _ _
  have FR := Lib.hid fun w' hA' => rfromrows_ok H W n l A c w' hH hW hn2 hA' hl hll
  have FL := Lib.hid fun A' c' w' hA' => rflip_any H W A' n c' (paintR H l) w' hA' hH hW hn2
  have HA := Lib.hid hA
  generalize l.length = ll at *
  clear hn hn2 hA
  go_enter Try.func94, Try.ntmps94
  go_wp2_with fail
  have k0 := Blk.new w 24 #[.int .i64 0, .int .i64 0, .slice none 0 0]
  have b1 : Below w.heap.size w (w.alloc (.cells #[.int .i64 0, .int .i64 0, .slice none 0 0] 24)) := (Below.refl _ _).alloc (Nat.le_refl _) _
  generalize w.alloc (.cells #[.int .i64 0, .int .i64 0, .slice none 0 0] 24) = w1 at *
  refine (FR.out w1 (HA.out.to b1)).mono ?_
  rintro e w2 ⟨_, rfl, ⟨_, rfl, ⟨g, rfl, hg, kg⟩⟩, hb2⟩
  have b2 := below_call b1 b1.size hb2
  have bA : Below w2.heap.size w2 (w2.alloc (.cells #[.int .i64 H, .int .i64 W, .slice (some ⟨g, 0, none⟩) n n] 24)) := (Below.refl _ _).alloc (Nat.le_refl _) _
  have k02 := (k0.below' hb2).below' bA
  have kg2 := kg.below' bA
  have k8 := Blk.new w2 24 #[.int .i64 H, .int .i64 W, .slice (some ⟨g, 0, none⟩) n n]
  have b3 := b2.trans (bA.mono b2.size)
  obtain ⟨x1, x2, x3⟩ := k8.cells3
  clear k0 b1 b2 hb2 bA kg
  go_upto_region 2 with fail
  generalize w2.alloc (.cells #[.int .i64 H, .int .i64 W, .slice (some ⟨g, 0, none⟩) n n] 24) = w3 at *
  go_wp2_with fail
  refine (FL.out (some ⟨g, 0, none⟩) n w3 (kg2.arrB kg2.lt)).mono ?_
  rintro e w4 ⟨_, rfl, ⟨g4, rfl, hg4, kg4⟩, hb4⟩
  have b4 := below_call b3 b3.size hb4
  have m0 := k02.below' hb4
  have z0 := k02.lt
  obtain ⟨f1, f2, f3⟩ := m0.frozen3
  obtain ⟨y1, y2, y3⟩ := m0.cells3
  have k5 := ((m0.set_ 0 (.int .i64 W)).set_ 1 (.int .i64 H)).set_ 2 (.slice (some ⟨g4, 0, none⟩) n n)
  obtain ⟨s1, s2, s3⟩ := Blk.cells3 (a := .int .i64 W) (b := .int .i64 H) (c := .slice (some ⟨g4, 0, none⟩) n n) k5
  clear x1 x2 x3 hb4
  go_wp2_with fail
  refine bodyPost_ret (v := .tuple #[.agg #[.int .i64 W, .int .i64 H, .slice (some ⟨g4, 0, none⟩) n n], .int .i64 0]) (by simp [results, Try.results94, go_sem, s1, s2, s3]) rfl ?_
  refine ⟨_, rfl, ⟨_, rfl, ?_⟩, by (repeat (first | exact Below.refl _ _ | assumption | refine Below.drew ?_ | refine below_drewN ?_ _ | refine Below.alloc ?_ (by first | omega | (simp; done) | (simp; omega)) _ | refine Below.setCell ?_ (by first | omega | (simp; done) | (simp; omega)) _ | refine below_setRow ?_ (by first | omega | (simp; done) | (simp; omega)) _ ))⟩
  have z3 := b3.size
  have g1 : g4 ≠ w.heap.size := by omega
  exact OutN.mk (by omega) (Blk.far (Blk.far (Blk.far kg4 (p := ⟨w.heap.size, 0, none⟩) g1 (.int .i64 W)) (p := ⟨w.heap.size, 1, none⟩) g1 (.int .i64 H)) (p := ⟨w.heap.size, 2, none⟩) g1 (.slice (some ⟨g4, 0, none⟩) n n))
end Go.Proofs.Ytdimlpcbbkokiaa

/- Walk: the reference's Pair, ink of the first image that is no ink of the second. -/
namespace Go.Proofs.Ytdimlpcbbkokiaa
open Go.RowKit Go.Shelf
set_option linter.unusedVariables false
attribute [local go_sem] Oper.semAt_some

set_option maxRecDepth 100000 in
set_option maxHeartbeats 8000000 in
theorem rpair2_ok (W H n ca cb : Nat) (A B : Option Addr) (p q : Int → Int) (w : World) (hA : ArrB w w.heap.size A n p) (hB : ArrB w w.heap.size B n q) (hW : W ≤ 640) (hH : H ≤ 640) (hn : (n : Int) = (W : Int) * H)
    (hp : chk W H n p = 0) (hq : chk W H n q = 0) (hBp : IsB p) (hBq : IsB q) :
    Calls Try.prog 95 #[.agg #[.int .i64 W, .int .i64 H, .slice A n ca], .agg #[.int .i64 W, .int .i64 H, .slice B n cb], .int .i64 2] w
      (New w fun v w' => ∃ u, v = .tuple #[u, .int .i64 0] ∧ OutN w w' W H n (fillB (fun x y => inkB W H p x y && !inkB W H q x y) W) u) := by
  have hnm : n ≤ maxLen := by
    have := (area_bd (W := W) (H := H) (by omega) (by omega) (by omega) (by omega)).2
    unfold maxLen; omega
  have C1 := Lib.hid fun w' hA' => rcheck_any W H A n ca p w' hA' hnm hBp
  have C2 := Lib.hid fun w' hA' => rcheck_any W H B n cb q w' hA' hnm hBq
  rw [hp] at C1
  rw [hq] at C2
  have I1 := Lib.hid fun (x y : Int) w' hA' => rink_any W H A n ca p x y w' hA' (by omega) (by omega) hn
  have I2 := Lib.hid fun (x y : Int) w' hA' => rink_any W H B n cb q x y w' hA' (by omega) (by omega) hn
  have NW := Lib.hid fun w' => rnew_any W H n w' (by omega) (by omega) (by omega) (by omega) hn
  have HNN := Lib.hid hn
  clear hn hp hq hBp hBq hnm
  have k1 : Blk (((w.alloc (.cells #[.int .i64 W, .int .i64 H, .slice A n ca] 24)).alloc (.cells #[.int .i64 W, .int .i64 H, .slice B n cb] 24)).alloc (.cells #[.int .i64 0, .int .i64 0, .slice none 0 0] 24)) w.heap.size 24 #[.int .i64 W, .int .i64 H, .slice A n ca] := ((Blk.new _ _ _).alloc _).alloc _
  have k2 : Blk (((w.alloc (.cells #[.int .i64 W, .int .i64 H, .slice A n ca] 24)).alloc (.cells #[.int .i64 W, .int .i64 H, .slice B n cb] 24)).alloc (.cells #[.int .i64 0, .int .i64 0, .slice none 0 0] 24)) (w.heap.size + 1) 24 #[.int .i64 W, .int .i64 H, .slice B n cb] := (Blk.new' (by simp) _ _).alloc _
  have k3 : Blk (((w.alloc (.cells #[.int .i64 W, .int .i64 H, .slice A n ca] 24)).alloc (.cells #[.int .i64 W, .int .i64 H, .slice B n cb] 24)).alloc (.cells #[.int .i64 0, .int .i64 0, .slice none 0 0] 24)) (w.heap.size + 1 + 1) 24 #[.int .i64 0, .int .i64 0, .slice none 0 0] := Blk.new' (by simp) _ _
  have b1 : Below w.heap.size w (((w.alloc (.cells #[.int .i64 W, .int .i64 H, .slice A n ca] 24)).alloc (.cells #[.int .i64 W, .int .i64 H, .slice B n cb] 24)).alloc (.cells #[.int .i64 0, .int .i64 0, .slice none 0 0] 24)) := by (repeat (first | exact Below.refl _ _ | assumption | refine Below.drew ?_ | refine below_drewN ?_ _ | refine Below.alloc ?_ (by first | omega | (simp; done) | (simp; omega)) _ | refine Below.setCell ?_ (by first | omega | (simp; done) | (simp; omega)) _ | refine below_setRow ?_ (by first | omega | (simp; done) | (simp; omega)) _ ))
  go_enter Try.func95, Try.ntmps95
  go_wp2_with fail
  generalize ((w.alloc (.cells #[.int .i64 W, .int .i64 H, .slice A n ca] 24)).alloc (.cells #[.int .i64 W, .int .i64 H, .slice B n cb] 24)).alloc (.cells #[.int .i64 0, .int .i64 0, .slice none 0 0] 24) = w1 at *
  have ha1 := hA.to b1
  have hb1 := hB.to b1
  refine (C1.out w1 ha1).mono ?_
  rintro e w2 ⟨rfl, d2⟩
  replace k1 := k1.below' d2; replace k2 := k2.below' d2; replace k3 := k3.below' d2
  have ha2 := ha1.to d2; have hb2 := hb1.to d2
  have b2 := below_call b1 b1.size d2
  clear ha1 hb1 b1 d2
  obtain ⟨p1, p2, p3⟩ := k1.cells3
  obtain ⟨q1, q2, q3⟩ := k2.cells3
  go_wp2_with fail
  refine (C2.out w2 hb2).mono ?_
  rintro e w3 ⟨rfl, d3⟩
  replace k1 := k1.below' d3; replace k2 := k2.below' d3; replace k3 := k3.below' d3
  have ha3 := ha2.to d3; have hb3 := hb2.to d3
  have b3 := below_call b2 b2.size d3
  clear ha2 hb2 b2 d3 p1 p2 p3 q1 q2 q3 C1 C2
  obtain ⟨p1, p2, p3⟩ := k1.cells3
  obtain ⟨q1, q2, q3⟩ := k2.cells3
  go_wp2_with fail
  refine (NW.out w3).mono ?_
  rintro e w4 ⟨_, rfl, ⟨g, rfl, hg, kg⟩, d4⟩
  have zk := k3.lt
  have bA : Below w4.heap.size w4 (w4.alloc (.cells #[.int .i64 W, .int .i64 H, .slice (some ⟨g, 0, none⟩) n n] 24)) := (Below.refl _ _).alloc (Nat.le_refl _) _
  replace k1 := (k1.below' d4).below' bA; replace k2 := (k2.below' d4).below' bA; replace k3 := (k3.below' d4).below' bA
  have ha5 := Lib.hid ((hA.to b3).to d4 |>.to bA)
  have b5 := (below_call b3 b3.size d4).trans (bA.mono (below_call b3 b3.size d4).size)
  have zg := kg.lt
  have zd := d4.size
  obtain ⟨Q, hQ⟩ : ∃ Q, Q = fillB (fun x y => inkB W H p x y && !inkB W H q x y) W := ⟨_, rfl⟩
  have kp : Blk (w4.alloc (.cells #[.int .i64 W, .int .i64 H, .slice (some ⟨g, 0, none⟩) n n] 24)) g 5 (u8s n (byRow W (fillB (fun x y => inkB W H p x y && !inkB W H q x y) W) (fun _ => 0) (0 : Nat) (0 : Nat))) := (kg.below' bA).u8conv fun i i0 i1 => by
    by_cases h0 : W = 0
    · have := HNN.out; rw [h0] at this; omega
    · exact (byRow_zero (W := W) (z := fun _ => 0) (by omega) i0).symm
  have kx := Blk.new w4 24 #[.int .i64 W, .int .i64 H, .slice (some ⟨g, 0, none⟩) n n]
  obtain ⟨gx, hgx⟩ : ∃ gx, w4.heap.size = gx := ⟨_, rfl⟩
  have zs : (w4.alloc (.cells #[.int .i64 W, .int .i64 H, .slice (some ⟨g, 0, none⟩) n n] 24)).heap.size = gx + 1 := by simp [hgx]
  rw [hgx] at kx zg zd
  clear ha3 hb3 b3 d4 bA p1 p2 p3 q1 q2 q3 kg NW hQ
  go_upto_region 10 with fail
  generalize w4.alloc (.cells #[.int .i64 W, .int .i64 H, .slice (some ⟨g, 0, none⟩) n n] 24) = w5 at *
  clear hgx
  go_wp2_with fail
  go_loopw [11] (fun s wr => ∃ y : Nat, y ≤ H ∧ s = .int .i64 y ∧ But (gx + 1) g w5 wr ∧ Blk wr g 5 (u8s n (byRow W (fillB (fun x y => inkB W H p x y && !inkB W H q x y) W) (fun _ => 0) y (0 : Nat)))) (fun s _ => H - (intOf s).toNat)
  case atStart => exact ⟨0, by omega, rfl, But.refl _ (by omega), kp⟩
  case round =>
    obtain ⟨y, hy, rfl, bu, ap⟩ := hrel
    clear kp
    have m1 := k1.but bu (by omega) (by omega)
    obtain ⟨p1, p2, p3⟩ := m1.cells3
    by_cases yl : (y : Int) < H
    · go_wp2_with fail
      clear p1 p2 p3 m1
      go_loopw [12] (fun s wr => ∃ x : Nat, x ≤ W ∧ s = .int .i64 x ∧ But (gx + 1) g w5 wr ∧ Blk wr g 5 (u8s n (byRow W (fillB (fun x y => inkB W H p x y && !inkB W H q x y) W) (fun _ => 0) y x))) (fun s _ => W - (intOf s).toNat)
      case atStart => exact ⟨0, by omega, rfl, bu, ap⟩
      case round =>
        obtain ⟨x, hx, rfl, bv, aq⟩ := hrel
        clear ap bu
        have m1 := k1.but bv (by omega) (by omega)
        have m2 := k2.but bv (by omega) (by omega)
        have mx := kx.but bv (by omega) (by omega)
        obtain ⟨p1, p2, p3⟩ := m1.cells3
        obtain ⟨q1, q2, q3⟩ := m2.cells3
        by_cases xl : (x : Int) < W
        · have bE : Below w.heap.size w wr := b5.trans (bv.to zs (by omega) (by omega))
          have ha6 := hA.to bE
          have hb6 := hB.to bE
          have J1 := Lib.hid fun w' hA' => I1.out x y w' hA'
          have J2 := Lib.hid fun w' hA' => I2.out x y w' hA'
          obtain ⟨i1, hi1⟩ : ∃ b, inkB W H p x y = b := ⟨_, rfl⟩
          obtain ⟨i2, hi2⟩ : ∃ b, inkB W H q x y = b := ⟨_, rfl⟩
          have CE : Hid ((fun x y : Int => inkB W H p x y && !inkB W H q x y) x y = (i1 && !i2)) := Lib.hid (by show (inkB W H p x y && !inkB W H q x y) = _; rw [hi1, hi2])
          rw [hi1] at J1
          rw [hi2] at J2
          have zr := bv.size
          clear hi1 hi2
          go_upto_region 16 with fail
          go_cut [13, 14] (fun a b wx => a = .bool i1 ∧ b = .bool i2 ∧ Below wr.heap.size wr wx)
          case first =>
            go_region_held3 (fun w' => (w'.cell? ⟨w.heap.size, 0, none⟩ = some (.int .i64 W) ∧ w'.cell? ⟨w.heap.size, 1, none⟩ = some (.int .i64 H) ∧ w'.cell? ⟨w.heap.size, 2, none⟩ = some (.slice A n ca)) ∧ w'.cell? ⟨w.heap.size + 1, 0, none⟩ = some (.int .i64 W) ∧ w'.cell? ⟨w.heap.size + 1, 1, none⟩ = some (.int .i64 H) ∧ w'.cell? ⟨w.heap.size + 1, 2, none⟩ = some (.slice B n cb))
              (first | (simp [go_sem, *]; done) | (go_keep; done))
              (first
              | (go_at_call 108
                 with_reducible refine Calls.mono (J1.out _ ?_) ?_
                 focus (repeat (first | with_reducible assumption | with_reducible refine ArrB.alloc1 ?_ _ | with_reducible refine ArrB.drew1 ?_ | (with_reducible apply ArrB.fillN; (focus (with_reducible assumption)); (focus omega)) | (with_reducible apply ArrB.fillL; (focus (with_reducible assumption)); (focus (first | omega | (simp; done) | (simp; omega)))) | (with_reducible apply ArrB.to'; focus (with_reducible assumption))))
                 rintro e v1 ⟨rfl, hb1⟩
                 have kk1 : Blk v1 w.heap.size 24 #[.int .i64 W, .int .i64 H, .slice A n ca] := by (repeat (first | with_reducible assumption | with_reducible exact Blk.new _ _ _ | with_reducible exact Blk.new' (World.size_alloc _ _) _ _ | (with_reducible refine Blk.new' ?_ _ _; focus (simp; done)) | with_reducible apply Blk.fill3 | (with_reducible refine Blk.far3' ?_ ?_; focus omega) | with_reducible refine Blk.alloc ?_ _ | with_reducible refine Blk.drew ?_ | (with_reducible apply Blk.below2; focus (with_reducible assumption))))
                 have ll1 : Blk v1 (w.heap.size + 1) 24 #[.int .i64 W, .int .i64 H, .slice B n cb] := by (repeat (first | with_reducible assumption | with_reducible exact Blk.new _ _ _ | with_reducible exact Blk.new' (World.size_alloc _ _) _ _ | (with_reducible refine Blk.new' ?_ _ _; focus (simp; done)) | with_reducible apply Blk.fill3 | (with_reducible refine Blk.far3' ?_ ?_; focus omega) | with_reducible refine Blk.alloc ?_ _ | with_reducible refine Blk.drew ?_ | (with_reducible apply Blk.below2; focus (with_reducible assumption))))
                 obtain ⟨x11, x12, x13⟩ := kk1.cells3
                 obtain ⟨x14, x15, x16⟩ := ll1.cells3
                 have zz1 := hb1.size; try simp at zz1)
              | (go_at_call 108
                 with_reducible refine Calls.mono (J2.out _ ?_) ?_
                 focus (repeat (first | with_reducible assumption | with_reducible refine ArrB.alloc1 ?_ _ | with_reducible refine ArrB.drew1 ?_ | (with_reducible apply ArrB.fillN; (focus (with_reducible assumption)); (focus omega)) | (with_reducible apply ArrB.fillL; (focus (with_reducible assumption)); (focus (first | omega | (simp; done) | (simp; omega)))) | (with_reducible apply ArrB.to'; focus (with_reducible assumption))))
                 rintro e v2 ⟨rfl, hb2⟩
                 have kk2 : Blk v2 w.heap.size 24 #[.int .i64 W, .int .i64 H, .slice A n ca] := by (repeat (first | with_reducible assumption | with_reducible exact Blk.new _ _ _ | with_reducible exact Blk.new' (World.size_alloc _ _) _ _ | (with_reducible refine Blk.new' ?_ _ _; focus (simp; done)) | with_reducible apply Blk.fill3 | (with_reducible refine Blk.far3' ?_ ?_; focus omega) | with_reducible refine Blk.alloc ?_ _ | with_reducible refine Blk.drew ?_ | (with_reducible apply Blk.below2; focus (with_reducible assumption))))
                 have ll2 : Blk v2 (w.heap.size + 1) 24 #[.int .i64 W, .int .i64 H, .slice B n cb] := by (repeat (first | with_reducible assumption | with_reducible exact Blk.new _ _ _ | with_reducible exact Blk.new' (World.size_alloc _ _) _ _ | (with_reducible refine Blk.new' ?_ _ _; focus (simp; done)) | with_reducible apply Blk.fill3 | (with_reducible refine Blk.far3' ?_ ?_; focus omega) | with_reducible refine Blk.alloc ?_ _ | with_reducible refine Blk.drew ?_ | (with_reducible apply Blk.below2; focus (with_reducible assumption))))
                 obtain ⟨x21, x22, x23⟩ := kk2.cells3
                 obtain ⟨x24, x25, x26⟩ := ll2.cells3
                 have zz2 := hb2.size; try simp at zz2))
            all_goals
              go_wp2_with fail
              go_meet
              exact ⟨rfl, rfl, by (repeat (first | with_reducible exact Below.refl _ _ | with_reducible assumption | with_reducible refine Below.drew ?_ | (with_reducible refine below_alloc' ?_ ?_; focus (first | omega | (simp; done) | (simp; omega))) | (with_reducible refine below_fill3' ?_ ?_; focus omega) | (with_reducible refine below_setCell' ?_ ?_; focus (first | omega | (simp; done) | (simp; omega))) | (with_reducible apply below_call'; (focus (with_reducible assumption)); (focus (first | omega | (simp; done) | (simp; omega))))))⟩
          case rest =>
          obtain ⟨rfl, rfl, hb7⟩ := hcut
          have bz := bv.then (hb7.mono zr)
          have aq7 := aq.below' hb7
          have mx7 := mx.below' hb7
          obtain ⟨x1, x2, x3⟩ := mx7.cells3
          clear p1 p2 p3 q1 q2 q3 m1 m2 mx aq bv hb7 ha6 hb6 bE
          cases i1
          · have aq8 : Blk wc g 5 (u8s n (byRow W (fillB (fun x y => inkB W H p x y && !inkB W H q x y) W) (fun _ => 0) y ((x + 1 : Nat) : Int))) := aq7.u8conv fun i _ _ => by
              have h := fill_no (C := fun x y => inkB W H p x y && !inkB W H q x y) (W := W) (y := (y : Int)) (i := i) (show (0 : Int) ≤ x by omega) xl (CE.out.trans rfl)
              rw [h]; push_cast; rfl
            go_wp2_with fail
            go_round
            case rel => exact ⟨x + 1, by omega, by go_num, bz, aq8⟩
            case measure => simp [intOf]; omega
          · cases i2
            · go_wp2_with fail
              refine (rset_any W H g n n 5 _ x y _ aq7 (by omega) xl (by omega) yl (by omega) (by omega) HNN.out).mono ?_
              rintro e w8 ⟨rfl, hk8, hg8⟩
              have bz8 := bz.row hg8
              have aq8 : Blk w8 g 5 (u8s n (byRow W (fillB (fun x y => inkB W H p x y && !inkB W H q x y) W) (fun _ => 0) y ((x + 1 : Nat) : Int))) := hk8.u8conv fun i _ _ => by
                have h := fill_yes (C := fun x y => inkB W H p x y && !inkB W H q x y) (W := W) (y := (y : Int)) (i := i) (show (0 : Int) ≤ x by omega) xl (CE.out.trans rfl)
                rw [h]; push_cast; rfl
              clear hk8 hg8 bz aq7 mx7 x1 x2 x3
              go_wp2_with fail
              go_round
              case rel => exact ⟨x + 1, by omega, by go_num, bz8, aq8⟩
              case measure => simp [intOf]; omega
            · have aq8 : Blk wc g 5 (u8s n (byRow W (fillB (fun x y => inkB W H p x y && !inkB W H q x y) W) (fun _ => 0) y ((x + 1 : Nat) : Int))) := aq7.u8conv fun i _ _ => by
                have h := fill_no (C := fun x y => inkB W H p x y && !inkB W H q x y) (W := W) (y := (y : Int)) (i := i) (show (0 : Int) ≤ x by omega) xl (CE.out.trans rfl)
                rw [h]; push_cast; rfl
              go_wp2_with fail
              go_round
              case rel => exact ⟨x + 1, by omega, by go_num, bz, aq8⟩
              case measure => simp [intOf]; omega
        · have hxW : x = W := by omega
          have aq8 : Blk wr g 5 (u8s n (byRow W (fillB (fun x y => inkB W H p x y && !inkB W H q x y) W) (fun _ => 0) ((y + 1 : Nat) : Int) (0 : Nat))) := aq.u8conv fun i i0 i1 => by
            have h := byRow_row (W := W) (q := fillB (fun x y => inkB W H p x y && !inkB W H q x y) W) (z := fun _ => 0) (y := (y : Int)) (i := i) (by have := HNN.out; by_cases h0 : W = 0; (rw [h0] at this; omega); omega)
            rw [hxW, h]; push_cast; rfl
          clear hxW aq
          go_wp2_with fail
          go_round
          case rel => exact ⟨y + 1, by omega, by go_num, bv, aq8⟩
          case measure => simp [intOf]; omega
    · have hyH : y = H := by omega
      have kp2 : Blk wr g 5 (u8s n (fillB (fun x y => inkB W H p x y && !inkB W H q x y) W)) := ap.u8conv fun i i0 i1 => by
        rw [hyH]
        by_cases h0 : W = 0
        · have := HNN.out; rw [h0] at this; omega
        · exact byRow_end (h := H) (by omega) (by have := HNN.out; omega)
      have m3 := k3.but bu (by omega) (by omega)
      have mx := kx.but bu (by omega) (by omega)
      obtain ⟨x1, x2, x3⟩ := mx.cells3
      obtain ⟨f1, f2, f3⟩ := m3.frozen3
      obtain ⟨y1, y2, y3⟩ := m3.cells3
      have k5 := ((m3.set_ 0 (.int .i64 W)).set_ 1 (.int .i64 H)).set_ 2 (.slice (some ⟨g, 0, none⟩) n n)
      obtain ⟨s1, s2, s3⟩ := Blk.cells3 (a := .int .i64 W) (b := .int .i64 H) (c := .slice (some ⟨g, 0, none⟩) n n) k5
      have bE : Below w.heap.size w wr := b5.trans (bu.to zs (by omega) (by omega))
      clear ap hyH
      go_wp2_with fail
      refine bodyPost_ret (v := .tuple #[.agg #[.int .i64 W, .int .i64 H, .slice (some ⟨g, 0, none⟩) n n], .int .i64 0]) (by simp [results, Try.results95, go_sem, s1, s2, s3]) rfl ?_
      refine ⟨_, rfl, ⟨_, rfl, ?_⟩, by (repeat (first | exact Below.refl _ _ | assumption | refine Below.drew ?_ | refine below_drewN ?_ _ | refine Below.alloc ?_ (by first | omega | (simp; done) | (simp; omega)) _ | refine Below.setCell ?_ (by first | omega | (simp; done) | (simp; omega)) _ | refine below_setRow ?_ (by first | omega | (simp; done) | (simp; omega)) _ ))⟩
      have g1 : g ≠ w.heap.size + 1 + 1 := by omega
      exact OutN.mk (by omega) (Blk.far (Blk.far (Blk.far kp2 (p := ⟨w.heap.size + 1 + 1, 0, none⟩) g1 (.int .i64 W)) (p := ⟨w.heap.size + 1 + 1, 1, none⟩) g1 (.int .i64 H)) (p := ⟨w.heap.size + 1 + 1, 2, none⟩) g1 (.slice (some ⟨g, 0, none⟩) n n))
end Go.Proofs.Ytdimlpcbbkokiaa

/- Walks: the runs that lines of staves meet, as the reference finds them. -/
namespace Go.Proofs.Ytdimlpcbbkokiaa
open Go.RowKit Go.Shelf
set_option linter.unusedVariables false
attribute [local go_sem] Oper.semAt_some

/-- one of the first k numbers lies in a range -/
def metL (g : Nat → Int) (f t : Int) : Nat → Bool
  | 0 => false
  | k + 1 => metL g f t k || (decide (f ≤ g k) && decide (g k ≤ t))
theorem metL_iff {g : Nat → Int} {f t : Int} : ∀ {k : Nat}, metL g f t k = true ↔ ∃ j, j < k ∧ f ≤ g j ∧ g j ≤ t
  | 0 => by simp [metL]
  | k + 1 => by
    rw [metL, Bool.or_eq_true, Bool.and_eq_true, decide_eq_true_iff, decide_eq_true_iff, metL_iff]
    constructor
    · rintro (⟨j, h1, h2⟩ | h)
      · exact ⟨j, by omega, h2⟩
      · exact ⟨k, by omega, h⟩
    · rintro ⟨j, h1, h2⟩
      by_cases e : j = k
      · subst e; exact .inr h2
      · exact .inl ⟨j, by omega, h2⟩
/-- a line of the staves meets a run, and it is short enough -/
def keepR (ln : Nat → Nat → Nat → Int) (kS : Nat) (most : Int) (r : Rn) : Bool :=
  metL (fun k => ln (k / 5) (k % 5) r.1.toNat) r.2.1 r.2.2 (5 * kS) && decide (r.2.2 - r.2.1 + 1 ≤ most)

set_option maxRecDepth 100000 in
set_option maxHeartbeats 8000000 in
theorem rruns_ok (W most : Int) (H N : Nat) (A AS : Option Addr) (n c kS cS : Nat) (p : Int → Int) (K : Nat → Nat) (m : Nat → Nat → Nat) (ln : Nat → Nat → Nat → Int) (w : World)
    (hW : W = N) (hN : N ≤ 640) (hH : H ≤ 640) (hA : ArrB w w.heap.size A n p) (hn : n = N * H) (hB : IsB p) (hp : ∀ i : Int, 0 ≤ i → i < n → p i = 0 ∨ p i = 1) (hk : kS ≤ 1000)
    (hS : StavesIn w w.heap.size AS kS K m ln) (hm : ∀ i j, i < kS → j < K i → m i j ≤ maxLen) (hfit : ∀ i, i < kS → stFits W H (K i) (m i) (ln i) = true) :
    Calls Try.prog 49 #[.agg #[.int .i64 W, .int .i64 H, .slice A n c], .slice AS kS cS, .int .i64 most] w (New w fun v w' => ∃ u, v = .tuple #[u, .int .i64 0] ∧ RunRow w' w.heap.size u ((rLs (fun x y => inkB W H p x y) H N).filter (keepR ln kS most))) := by
  subst hW
  have hn640 : n ≤ 409600 := by rw [hn]; exact Nat.mul_le_mul hN hH
  have hnI : (n : Int) = (N : Int) * H := by rw [hn]; push_cast; rfl
  have CK := Lib.hid fun w' hA' => rcheck_any N H A n c p w' hA' (by unfold maxLen; omega) hB
  have hchk : chk N H n p = 0 := chk_mk (by omega) (by omega) (by omega) (by omega) (by rw [hn]; push_cast; rfl) fun i a b => by have := hp i a b; omega
  rw [hchk] at CK
  clear hchk
  have FT := Lib.hid fun i (hi : i < kS) AL cL w' hL => rfits_st N H A AL n c (K i) cL (m i) (ln i) w' (by omega) (by omega) (by omega) (by omega) hL (fun j hj => hm i j hi hj)
  have CO := Lib.hid fun w' hA' => rcolumns_any N H A n c p w' hA' hN hH hnI
  have HF := Lib.hid hfit
  have HS := Lib.hid hS
  have HA := Lib.hid hA
  obtain ⟨r0, hr0, hrz0, hrz1, hrz2⟩ := info_parts infoRun
  obtain ⟨Lc, hLc⟩ : ∃ Lc, rLs (fun x y => inkB N H p x y) H N = Lc := ⟨_, rfl⟩
  have MB := Lib.hid (fun (i : Nat) (r : Rn) (hr : Lc[i]? = some r) => (show 0 ≤ r.1 ∧ r.1 < N ∧ 0 ≤ r.2.1 ∧ r.2.1 ≤ r.2.2 ∧ r.2.2 < H from by
    have hm := List.mem_of_getElem? hr
    rw [← hLc] at hm
    obtain ⟨x, y, hx, hy, h⟩ := mem_rLs.1 hm
    obtain ⟨-, rfl⟩ := mem_rnA.1 h
    have := enB_bd (fun y => inkB N H p x y) (H - 1 - y) y
    refine ⟨?_, ?_, ?_, ?_, ?_⟩ <;> simp only <;> omega))
  have hLc9 : Lc.length ≤ 409600 := by
    rw [← hLc]
    exact Nat.le_trans (rLs_len _ _ _) (Nat.mul_le_mul hN hH)
  rw [hLc] at CO ⊢
  clear hS hm hfit hp hA hn hB hnI hLc
  go_enter Try.func49, Try.ntmps49
  go_wp2_with fail
  have k1 := Blk.new w 24 #[.int .i64 N, .int .i64 H, .slice A n c]
  have b1 : Below w.heap.size w (w.alloc (.cells #[.int .i64 N, .int .i64 H, .slice A n c] 24)) := (Below.refl _ _).alloc (Nat.le_refl _) _
  generalize w.alloc (.cells #[.int .i64 N, .int .i64 H, .slice A n c] 24) = w1 at *
  refine (CK.out w1 (HA.out.to b1)).mono ?_
  rintro e w2 ⟨rfl, d2⟩
  replace k1 := k1.below' d2
  have b2 := below_call b1 b1.size d2
  clear b1 d2 CK
  go_wp2_with fail
  go_loopw [9] (fun s wr => ∃ i : Nat, i ≤ kS ∧ s = .int .i64 i ∧ Below w2.heap.size w2 wr) (fun s _ => kS - (intOf s).toNat)
  case atStart => exact ⟨0, by omega, rfl, Below.refl _ _⟩
  case round =>
    obtain ⟨i, hi, rfl, d3⟩ := hrel
    have b3 := below_call b2 b2.size d3
    have k3 := k1.below' d3
    obtain ⟨p1, p2, p3⟩ := k3.cells3
    by_cases il : (i : Int) < kS
    · obtain ⟨bS, oS, AL, cL, eS, hbS, hcS, hLS⟩ := HS.out.to b3 i (by omega)
      cases eS
      have FTi := Lib.hid fun w' hL => FT.out i (by omega) AL cL w' hL
      rw [HF.out i (by omega)] at FTi
      go_upto_region 7 with fail
      go_cut [33] (fun v wx => v = .bool false ∧ Below wr.heap.size wr wx)
      case first =>
        go_region_held3 (fun w' => w'.cell? ⟨w.heap.size, 0, none⟩ = some (.int .i64 N) ∧ w'.cell? ⟨w.heap.size, 1, none⟩ = some (.int .i64 H) ∧ w'.cell? ⟨w.heap.size, 2, none⟩ = some (.slice A n c) ∧ w'.cell? ⟨bS, oS + i, none⟩ = some (.slice AL (K i) cL))
          (first | (simp [go_sem, *]; done) | (go_keep; done))
          ((go_at_call 79
            refine (FTi.out _ ?_).mono ?_
            focus exact hLS
            rintro e v1 ⟨rfl, hb1⟩
            have kk1 : Blk v1 w.heap.size 24 #[.int .i64 N, .int .i64 H, .slice A n c] := by (repeat (first | with_reducible assumption | with_reducible exact Blk.new _ _ _ | with_reducible exact Blk.new' (World.size_alloc _ _) _ _ | (with_reducible refine Blk.new' ?_ _ _; focus (simp; done)) | with_reducible apply Blk.fill3 | (with_reducible refine Blk.far3' ?_ ?_; focus omega) | with_reducible refine Blk.alloc ?_ _ | with_reducible refine Blk.drew ?_ | (with_reducible apply Blk.below2; focus (with_reducible assumption))))
            obtain ⟨x1, x2, x3⟩ := kk1.cells3
            have x5 : v1.cell? ⟨bS, oS + i, none⟩ = some (.slice AL (K i) cL) := (hb1.cell (p := ⟨bS, oS + i, none⟩) hbS).trans hcS))
        all_goals
          go_wp2_with fail
          go_meet
          exact ⟨rfl, by (repeat (first | with_reducible exact Below.refl _ _ | with_reducible assumption | with_reducible refine Below.drew ?_ | (with_reducible refine below_alloc' ?_ ?_; focus (first | omega | (simp; done) | (simp; omega))) | (with_reducible refine below_fill3' ?_ ?_; focus omega) | (with_reducible refine below_setCell' ?_ ?_; focus (first | omega | (simp; done) | (simp; omega))) | (with_reducible apply below_call'; (focus (with_reducible assumption)); (focus (first | omega | (simp; done) | (simp; omega))))))⟩
      case rest =>
      obtain ⟨rfl, d4⟩ := hcut
      have d5 := below_call d3 d3.size d4
      clear p1 p2 p3 hcS hLS d4 d3 b3 k3
      go_wp2_with fail
      go_round
      case rel => exact ⟨i + 1, by omega, by go_num, d5⟩
      case measure => simp [intOf]; omega
    · clear FT
      go_wp2_with fail
      refine (CO.out wr (HA.out.to b3)).mono ?_
      rintro e w5 ⟨v5, rfl, hR5, d5⟩
      have b5 := below_call b3 b3.size d5
      obtain ⟨Ac, cc, rfl, hRA⟩ := hR5.arr
      obtain ⟨B, hB⟩ : ∃ B, w5.heap.size = B := ⟨_, rfl⟩
      have hgB : w.heap.size ≤ B := by rw [← hB]; exact b5.size
      have HRA := Lib.hid hRA
      have HBB := Lib.hid hB
      clear p1 p2 p3 k3 k1 b3 b2 d3 d5 hR5 hRA hB CO
      have hSb := b5
      have SI5 := Lib.hid ((HS.out.to b5))
      go_wp2_with fail
      go_loopw [12, 10] (fun s v wr => ∃ (i : Nat) (L : List Rn), i ≤ Lc.length ∧ s = .int .i64 i ∧ RunRow wr B v L ∧ Below w5.heap.size w5 wr ∧ Hid (L = (Lc.take i).filter (keepR ln kS most)) ∧ L.length ≤ i) (fun s _ _ => Lc.length - (intOf s).toNat)
      case atStart => exact ⟨0, [], by omega, rfl, RunRow.nil _ _, Below.refl _ _, Lib.hid rfl, by simp⟩
      case round =>
        obtain ⟨i, L, hi, rfl, hR, d6, HL, hLl2⟩ := hrel
        by_cases il : (i : Int) < Lc.length
        · have ilN : i < Lc.length := by omega
          obtain ⟨r, hr⟩ : ∃ r, Lc[i]? = some r := ⟨Lc[i], List.getElem?_eq_getElem ilN⟩
          have htk : Lc.take (i + 1) = Lc.take i ++ [r] := by rw [List.take_add_one, hr]; rfl
          obtain ⟨gR, rfl, hgR, rc⟩ := HRA.out (by intro h; rw [h] at ilN; simp at ilN)
          obtain ⟨b1', b2', b3', b4', b5'⟩ := MB.out i r hr
          obtain ⟨d1, d2, d3⟩ := rc i r hr
          have HTK := Lib.hid htk
          have KR := Lib.hid (show keepR ln kS most r = (metL (fun k => ln (k / 5) (k % 5) r.1.toNat) r.2.1 r.2.2 (5 * kS) && decide (r.2.2 - r.2.1 + 1 ≤ most)) from rfl)
          obtain ⟨rx, rf, rt⟩ := r
          simp only at d1 d2 d3 b1' b2' b3' b4' b5' KR
          obtain ⟨x, rfl⟩ := Int.eq_ofNat_of_zero_le b1'
          obtain ⟨f, rfl⟩ := Int.eq_ofNat_of_zero_le b3'
          obtain ⟨t, rfl⟩ := Int.eq_ofNat_of_zero_le (Int.le_trans b3' b4')
          rw [Int.toNat_natCast] at KR
          have HD1 := Lib.hid d1; have HD2 := Lib.hid d2; have HD3 := Lib.hid d3
          clear htk hr rc
          have u5 : IntKind.i64.wrap (5 * (kS : Int)) = ((5 * kS : Nat) : Int) := (IntWalk.i64_in _ (by omega)).trans (by omega)
          obtain ⟨k5, hk5⟩ : ∃ k5, 5 * kS = k5 := ⟨_, rfl⟩
          rw [hk5] at KR u5
          go_wp2_with fail
          go_loopw [14, 13] (fun s b wr' => ∃ k : Nat, k ≤ k5 ∧ s = .int .i64 k ∧ b = .bool (metL (fun k => ln (k / 5) (k % 5) x) f t k) ∧ Below wr.heap.size wr wr') (fun s _ _ => k5 - (intOf s).toNat)
          case atStart => exact ⟨0, by omega, rfl, rfl, Below.refl _ _⟩
          case round =>
            obtain ⟨k, hk, rfl, rfl, d7⟩ := hrel
            obtain ⟨mb, hmb⟩ : ∃ mb, metL (fun k => ln (k / 5) (k % 5) x) f t k = mb := ⟨_, rfl⟩
            rw [hmb]
            have d8 := d6.trans (d7.mono d6.size)
            have e1 := (d8.cell (p := ⟨gR, i * 3, none⟩) hgR).trans d1
            have e2 := (d8.cell (p := ⟨gR, i * 3 + 1, none⟩) hgR).trans d2
            have e3 := (d8.cell (p := ⟨gR, i * 3 + 2, none⟩) hgR).trans d3
            by_cases kl : (k : Int) < k5
            · obtain ⟨kd, hkd⟩ : ∃ kd, k / 5 = kd := ⟨_, rfl⟩
              obtain ⟨km, hkm⟩ : ∃ km, k % 5 = km := ⟨_, rfl⟩
              have t1 : IntKind.i64.wrap ((k : Int).tdiv 5) = (kd : Int) := by rw [Int.tdiv_eq_ediv_of_nonneg (by omega)]; exact (IntWalk.i64_in _ (by omega)).trans (by omega)
              have t2 : (k : Int).tmod 5 = (km : Int) := by rw [Int.tmod_eq_emod_of_nonneg (by omega)]; omega
              have t3 : IntKind.i64.wrap ((k : Int) / 5) = (kd : Int) := (IntWalk.i64_in _ (by omega)).trans (by omega)
              have t4 : (k : Int) % 5 = (km : Int) := by omega
              have hkdS : (kd : Int) < kS := by omega
              have hkm5 : (km : Int) < 5 := by omega
              obtain ⟨bS, oS, AL, cL, eS, hbS, hcS, hLS⟩ := SI5.out kd (by omega)
              cases eS
              obtain ⟨fk, fp, -⟩ := stFits_iff.1 (HF.out kd (by omega))
              rw [fk] at hcS hLS
              obtain ⟨bA, oA, A1, c1, eA, hbA, hcA, haA⟩ := hLS.at_ (i := km) (by omega)
              cases eA
              obtain ⟨⟨-, -, g3⟩, -⟩ := isPathB_iff.1 (fp km (by omega))
              have hmN : m kd km = N := by omega
              rw [hmN] at hcA haA
              obtain ⟨bx, ox, eX, hbx, hcx⟩ := ArrI.at_ haA (i := (x : Int)) (by omega) (by omega)
              cases eX
              rw [Int.toNat_natCast] at hcx
              have c1' := (d8.cell (p := ⟨bS, oS + kd, none⟩) hbS).trans hcS
              have c2' := (d8.cell (p := ⟨bA, oA + km, none⟩) hbA).trans hcA
              have c3' := (d8.cell (p := ⟨bx, ox + x, none⟩) hbx).trans hcx
              have MET := Lib.hid (show metL (fun k => ln (k / 5) (k % 5) x) f t (k + 1) = (mb || (decide ((f : Int) ≤ ln kd km x) && decide (ln kd km x ≤ t))) from by
                rw [← hkd, ← hkm, ← hmb]; rfl)
              generalize ln kd km x = z at *
              have hxN : (x : Int) < N := b2'
              clear hmb hcS hLS hcA haA hcx fk fp g3 hmN hkd hkm hbS hbA hbx d8
              go_upto_region 18 with fail
              go_quiet (fail)
              have d9 := below_drewN d7 nq
              have e1' : (wr.drewN nq).cell? ⟨gR, i * 3, none⟩ = some (.int .i64 x) := e1
              have e2' : (wr.drewN nq).cell? ⟨gR, i * 3 + 1, none⟩ = some (.int .i64 f) := e2
              have e3' : (wr.drewN nq).cell? ⟨gR, i * 3 + 2, none⟩ = some (.int .i64 t) := e3
              clear e1 e2 e3 c1' c2' c3' d7 t1 t2 t3 t4
              generalize wr.drewN nq = w9 at *
              cases mb
              · by_cases f1 : (f : Int) ≤ z
                · by_cases f2 : z ≤ (t : Int)
                  · have F1 := Lib.hid f1; have F2 := Lib.hid f2
                    go_wp2_with fail
                    go_round
                    case rel => exact ⟨k + 1, by omega, by go_num, by rw [MET.out, decide_eq_true F1.out, decide_eq_true F2.out]; rfl, d9⟩
                    case measure => simp [intOf]; omega
                  · have F2 := Lib.hid f2
                    go_wp2_with fail
                    go_round
                    case rel => exact ⟨k + 1, by omega, by go_num, by rw [MET.out, decide_eq_false F2.out]; simp, d9⟩
                    case measure => simp [intOf]; omega
                · have F1 := Lib.hid f1
                  go_wp2_with fail
                  go_round
                  case rel => exact ⟨k + 1, by omega, by go_num, by rw [MET.out, decide_eq_false F1.out]; simp, d9⟩
                  case measure => simp [intOf]; omega
              · go_wp2_with fail
                go_round
                case rel => exact ⟨k + 1, by omega, by go_num, by rw [MET.out]; simp, d9⟩
                case measure => simp [intOf]; omega
            · have hk5' : k = k5 := by omega
              rw [hk5'] at hmb
              rw [hmb] at KR
              have vS : IntKind.i64.wrap ((t : Int) - f) = (t : Int) - f := IntWalk.i64_in _ (by omega)
              have vS2 : IntKind.i64.wrap ((t : Int) - f + 1) = (t : Int) - f + 1 := IntWalk.i64_in _ (by omega)
              have hR8 := hR.below d7
              clear hmb hk5' d1 d2 d3
              obtain ⟨kb, hkb⟩ : ∃ kb, (mb && decide ((t : Int) - f + 1 ≤ most)) = kb := ⟨_, rfl⟩
              rw [hkb] at KR
              have HKB := Lib.hid hkb
              clear hkb
              go_upto_region 20 with fail
              go_cut [101] (fun v wx => v = .bool kb ∧ Below wr.heap.size wr wx)
              case first =>
                cases mb
                · go_quiet (fail)
                  go_wp2_with fail
                  go_meet
                  exact ⟨by rw [← HKB.out]; rfl, below_drewN (Below.refl _ _) nq⟩
                · by_cases hle : (t : Int) - f + 1 ≤ most
                  · have HLE := Lib.hid hle
                    go_quiet (fail)
                    go_wp2_with fail
                    go_meet
                    exact ⟨by rw [← HKB.out]; simp [HLE.out], below_drewN (Below.refl _ _) nq⟩
                  · have HLE := Lib.hid hle
                    go_quiet (fail)
                    go_wp2_with fail
                    go_meet
                    exact ⟨by rw [← HKB.out]; simp [HLE.out], below_drewN (Below.refl _ _) nq⟩
              case rest =>
                obtain ⟨rfl, d10⟩ := hcut
                have d11 := below_call d8 d8.size d10
                have hR9 := hR8.below d10
                have q1 := (d11.cell (p := ⟨gR, i * 3, none⟩) hgR).trans HD1.out
                have q2 := (d11.cell (p := ⟨gR, i * 3 + 1, none⟩) hgR).trans HD2.out
                have q3 := (d11.cell (p := ⟨gR, i * 3 + 2, none⟩) hgR).trans HD3.out
                have hBz := HBB.out
                have z11 := d11.size
                clear e1 e2 e3 vS vS2 d10 hR8 d8 d7 hR
                cases kb
                · go_wp2_with fail
                  go_round
                  case rel => exact ⟨i + 1, L, by omega, by go_num, hR9, d11, Lib.hid (by rw [HTK.out, List.filter_append, HL.out]; simp [KR.out]), by omega⟩
                  case measure => simp [intOf]; omega
                · go_wp2_with (at_builtin; refine wpList_append_own _ rfl (.tmp 102) (.tmp 107) 75 rfl B 84 r0 (.agg #[.int .i64 0, .int .i64 0, .int .i64 0]) 3 24 Try.underlying75 hr0 hrz0 hrz1 hrz2 rfl (by decide) _ _ _ rfl (hR9.alloc _) ⟨wc.heap.size, 0, none⟩ 1 1 [.int .i64 x, .int .i64 f, .int .i64 t] rfl rfl ?c1 ?c2 ?c3 ?c4 ?c5 ?_)
                  case c2 => simp [Value.oneCell']
                  case c3 => unfold maxLen; omega
                  case c4 => omega
                  case c5 => first | omega | (simp; omega)
                  intro v' w12 own12 hg12 _
                  have b12 : Below w5.heap.size w5 w12 := (d11.alloc d11.size _).grown hg12 (by simp; omega) (fun j hj => by rw [hBz]; exact (own_ge hR9 hj).1)
                  have R12 : RunRow w12 B v' (L ++ [((x : Int), (f : Int), (t : Int))]) := by
                    unfold RunRow
                    rw [flatR_snoc, List.length_append]
                    exact own12
                  clear own12 hg12 q1 q2 q3
                  go_wp2
                  go_round
                  case rel => exact ⟨i + 1, _, by omega, by go_num, R12, b12, Lib.hid (by rw [HTK.out, List.filter_append, HL.out]; simp [KR.out]), by simp; omega⟩
                  case measure => simp [intOf]; omega
        · have hiL : i = Lc.length := by omega
          have hLL : L = Lc.filter (keepR ln kS most) := by rw [HL.out, hiL, List.take_length]
          have bE : Below w.heap.size w wr := below_call b5 b5.size d6
          clear hiL
          go_wp2
          refine bodyPost_ret (results_tmp2 rfl _ _ _) rfl ?_
          exact ⟨_, rfl, ⟨_, rfl, hLL ▸ hR.base hgB⟩, bE⟩
end Go.Proofs.Ytdimlpcbbkokiaa

/- Plain: the program's list of line runs is the reference's. No program in sight. -/
namespace Go.Proofs.Ytdimlpcbbkokiaa
open Go.RowKit
set_option linter.unusedVariables false
theorem enB_botN {p : Int → Int} {N H x : Nat} (hx : x < N) : ∀ {k y : Nat}, y + k < H → enB (fun y => inkB N H p x y) k y = botN p N x k y
  | 0, y, _ => rfl
  | k + 1, y, h => by
    have e : inkB N H p x ((y + 1 : Nat) : Int) = decide (p (((y : Int) + 1) * N + x) = 1) := by
      rw [inkB_in (by omega) (by omega) (by omega) (by omega)]
      push_cast
      rfl
    show (if inkB N H p x ((y + 1 : Nat) : Int) = true then enB (fun y => inkB N H p x y) k (y + 1) else y) = if p (((y : Int) + 1) * N + x) = 1 then botN p N x k (y + 1) else y
    rw [e, enB_botN hx (k := k) (y := y + 1) (by omega)]
    by_cases c : p (((y : Int) + 1) * N + x) = 1
    · rw [if_pos c, if_pos (decide_eq_true c)]
    · rw [if_neg c, if_neg (by rw [decide_eq_false c]; simp)]
theorem stB_ink {p : Int → Int} {N H x y : Nat} : stB (fun y => inkB N H p x y) y = (inkB N H p x y && !(decide (0 < y) && inkB N H p x ((y - 1 : Nat) : Int))) := rfl
theorem stB_run {p : Int → Int} {N H x f t : Nat} (hx : x < N) (hr : RunOf p N H x f t) : stB (fun y => inkB N H p x y) f = true := by
  have h1 := hr.lt
  have h2 := hr.le
  rw [stB_ink, Bool.and_eq_true]
  constructor
  · rw [inkB_in (by omega) (by omega) (by omega) (by omega)]
    exact decide_eq_true (hr.ink f (Nat.le_refl _) h1)
  · by_cases h0 : 0 < f
    · have u := hr.up (f - 1) (by omega)
      rw [inkB_in (by omega) (by omega) (by omega) (by omega), decide_eq_true h0, decide_eq_false u]
      rfl
    · rw [decide_eq_false h0]; rfl
theorem run_stB {p : Int → Int} {N H x y : Nat} (hx : x < N) (hy : y < H) (h : stB (fun y => inkB N H p x y) y = true) : ∃ t, RunOf p N H x y t := by
  rw [stB_ink, Bool.and_eq_true] at h
  obtain ⟨h1, h2⟩ := h
  rw [inkB_in (by omega) (by omega) (by omega) (by omega)] at h1
  obtain ⟨f, t, hr, a, b⟩ := run_ex (H := H) hy (of_decide_eq_true h1)
  by_cases e : f = y
  · subst e; exact ⟨t, hr⟩
  · exfalso
    have hi := hr.ink (y - 1) (by omega) (by omega)
    rw [inkB_in (by omega) (by omega) (by omega) (by omega), decide_eq_true (show 0 < y by omega), decide_eq_true hi] at h2
    cases h2
theorem run_end {p : Int → Int} {W : Int} {H f t t' : Nat} {x : Int} (h : RunOf p W H x f t) (h' : RunOf p W H x f t') : t = t' := by
  have a1 := h.lt; have a2 := h.le; have b1 := h'.lt; have b2 := h'.le
  rcases Nat.lt_trichotomy t t' with g | g | g
  · exact absurd (h'.ink t (by omega) g) (h.down (by omega))
  · exact g
  · exact absurd (h.ink t' (by omega) g) (h'.down (by omega))
section
variable {p : Int → Int} {N H kS : Nat} {most : Int} {ln : Nat → Nat → Nat → Int}
/-- a run that a line meets -/
theorem mem_colI_run (hb : ∀ a j x : Nat, a < kS → j < 5 → x < N → 0 ≤ ln a j x ∧ ln a j x < H) {r : Rn} :
    r ∈ colI p N H most ln N kS ↔ ∃ x f t : Nat, x < N ∧ RunOf p N H x f t ∧ (t : Int) - f ≤ most ∧ r = ((x : Int), (f : Int), (t : Int) - 1) ∧ ∃ i j, i < kS ∧ j < 5 ∧ (f : Int) ≤ ln i j x ∧ ln i j x < t := by
  rw [mem_colI]
  constructor
  · rintro ⟨i, j, x, hi, hj, hx, h⟩
    obtain ⟨e1, e2, rfl⟩ := mem_rnAt.1 h
    obtain ⟨b1, b2⟩ := hb i j x hi hj hx
    obtain ⟨y, hy⟩ : ∃ y : Nat, ln i j x = y := ⟨(ln i j x).toNat, by omega⟩
    rw [hy, Int.toNat_natCast] at e1 e2 ⊢
    obtain ⟨f, t, hr, a, b⟩ := run_ex (H := H) (by omega) e1
    have hl := hr.lt
    rw [hr.top a b, hr.bot a b] at e2 ⊢
    exact ⟨x, f, t, hx, hr, by omega, by rw [show ((t - 1 : Nat) : Int) = (t : Int) - 1 by omega], i, j, hi, hj, by omega, by omega⟩
  · rintro ⟨x, f, t, hx, hr, hm, rfl, i, j, hi, hj, h1, h2⟩
    obtain ⟨y, hy⟩ : ∃ y : Nat, ln i j x = y := ⟨(ln i j x).toNat, by have := hb i j x hi hj hx; omega⟩
    have hl := hr.lt
    refine ⟨i, j, x, hi, hj, hx, mem_rnAt.2 ?_⟩
    rw [hy, Int.toNat_natCast, hr.top (by omega) (by omega), hr.bot (by omega) (by omega)]
    exact ⟨hr.ink y (by omega) (by omega), by omega, by rw [show ((t - 1 : Nat) : Int) = (t : Int) - 1 by omega]⟩
theorem mem_keep (hk : 0 < N) {r : Rn} :
    r ∈ (rLs (fun x y => inkB N H p x y) H N).filter (keepR ln kS most) ↔ ∃ x f t : Nat, x < N ∧ RunOf p N H x f t ∧ (t : Int) - f ≤ most ∧ r = ((x : Int), (f : Int), (t : Int) - 1) ∧ ∃ i j, i < kS ∧ j < 5 ∧ (f : Int) ≤ ln i j x ∧ ln i j x < t := by
  rw [List.mem_filter, mem_rLs]
  constructor
  · rintro ⟨⟨x, y, hx, hy, h⟩, hq⟩
    obtain ⟨h1, rfl⟩ := mem_rnA.1 h
    obtain ⟨t, hr⟩ := run_stB hx hy h1
    have hl := hr.lt; have hle := hr.le
    have e : enB (fun y => inkB N H p x y) (H - 1 - y) y = t - 1 := by rw [enB_botN hx (by omega)]; exact hr.bot (Nat.le_refl _) hl
    rw [e] at hq ⊢
    unfold keepR at hq
    rw [Bool.and_eq_true, decide_eq_true_iff, metL_iff] at hq
    obtain ⟨⟨k, hk1, hk2, hk3⟩, hk4⟩ := hq
    simp only [Int.toNat_natCast] at hk2 hk3 hk4
    exact ⟨x, y, t, hx, hr, by omega, by rw [show ((t - 1 : Nat) : Int) = (t : Int) - 1 by omega], k / 5, k % 5, by omega, by omega, hk2, by omega⟩
  · rintro ⟨x, f, t, hx, hr, hm, rfl, i, j, hi, hj, h1, h2⟩
    have hl := hr.lt; have hle := hr.le
    have e : enB (fun y => inkB N H p x y) (H - 1 - f) f = t - 1 := by rw [enB_botN hx (by omega)]; exact hr.bot (Nat.le_refl _) hl
    refine ⟨⟨x, f, hx, by omega, mem_rnA.2 ⟨stB_run hx hr, ?_⟩⟩, ?_⟩
    · rw [e, show ((t - 1 : Nat) : Int) = (t : Int) - 1 by omega]
    · unfold keepR
      rw [Bool.and_eq_true, decide_eq_true_iff, metL_iff]
      refine ⟨⟨5 * i + j, by omega, ?_⟩, by show (t : Int) - 1 - f + 1 ≤ most; omega⟩
      rw [show (5 * i + j) / 5 = i by omega, show (5 * i + j) % 5 = j by omega]
      simp only [Int.toNat_natCast]
      exact ⟨h1, by omega⟩
theorem runs_same (hb : ∀ a j x : Nat, a < kS → j < 5 → x < N → 0 ≤ ln a j x ∧ ln a j x < H) {l : List Rn} (hp : l.Perm (colI p N H most ln N kS)) (hs : l.Pairwise leR) :
    dd l = (rLs (fun x y => inkB N H p x y) H N).filter (keepR ln kS most) := by
  by_cases hN : 0 < N
  · refine ltR_uniq (dd_sorted l hs fun a ha b hb' e1 e2 => ?_) ((rLs_sorted _ _ _).filter _) fun r => ?_
    · obtain ⟨x, f, t, hx, hr, -, rfl, -⟩ := (mem_colI_run hb).1 (hp.mem_iff.1 ha)
      obtain ⟨x', f', t', hx', hr', -, rfl, -⟩ := (mem_colI_run hb).1 (hp.mem_iff.1 hb')
      simp only at e1 e2
      obtain rfl : x = x' := by omega
      obtain rfl : f = f' := by omega
      rw [run_end hr hr']
    · rw [mem_dd, hp.mem_iff, mem_colI_run hb, mem_keep hN]
  · have h0 : N = 0 := by omega
    subst h0
    have e : colI p ((0 : Nat) : Int) H most ln 0 kS = [] := List.eq_nil_iff_forall_not_mem.2 fun r hr => by
      obtain ⟨i, j, x, -, -, hx, -⟩ := mem_colI.1 hr
      omega
    rw [e] at hp
    rw [hp.eq_nil]
    rfl
end
end Go.Proofs.Ytdimlpcbbkokiaa

/- Plain: a strip cut out and put back; a strip put in and cut out again. No program in sight. -/
namespace Go.Proofs.Ytdimlpcbbkokiaa
open Go.RowKit
set_option linter.unusedVariables false
theorem chk_01 {W H : Int} {n : Nat} {p : Int → Int} (h1 : 0 ≤ W) (h2 : W ≤ 640) (h3 : 0 ≤ H) (h4 : H ≤ 640) (hn : (n : Int) = W * H) (hp : ∀ i : Int, 0 ≤ i → i < n → p i ≤ 1) : chk W H n p = 0 := by
  unfold chk
  rw [if_pos (sidesB_iff.2 ⟨h1, h2, h3, h4, hn⟩)]
  have : pixB n p = true := by
    unfold pixB
    exact allN_iff.2 fun i a b => decide_eq_true (hp i a b)
  rw [this]; rfl
section
variable {W H h : Int} {p q : Int → Int} {l : Nat → Int} {up : Int}
theorem recQ_at {x y : Int} (x0 : 0 ≤ x) (x1 : x < W) : recQ W H p l up (y * W + x) = if 0 ≤ l x.toNat - up + y ∧ l x.toNat - up + y < H then p ((l x.toNat - up + y) * W + x) else 0 := by
  unfold recQ; rw [idx_mod x0 x1, idx_div x0 x1]
theorem resQ_at {x y : Int} (x0 : 0 ≤ x) (x1 : x < W) : resQ W H h p q l up (y * W + x) = if 0 ≤ y - l x.toNat + up ∧ y - l x.toNat + up < h then q ((y - l x.toNat + up) * W + x) else p (y * W + x) := by
  unfold resQ; rw [idx_mod x0 x1, idx_div x0 x1]
theorem back_home (hW : 0 < W) {i : Int} (i0 : 0 ≤ i) (i1 : i < W * H) : resQ W H h p (recQ W H p l up) l up i = p i := by
  obtain ⟨x, y, x0, x1, y0, y1, rfl, -, -⟩ := idx_of (k := i) (W := W) (H := H) i0 hW (by rw [Int.mul_comm]; exact i1)
  rw [resQ_at x0 x1]
  split
  · rw [recQ_at x0 x1, if_pos (by omega), show l x.toNat - up + (y - l x.toNat + up) = y by omega]
  · rfl
theorem back_strip {x y : Int} (x0 : 0 ≤ x) (x1 : x < W) (y0 : 0 ≤ y) (y1 : y < h) :
    recQ W H (resQ W H h p (fun j => 1 - recQ W H p l up j) l up) l up (y * W + x) = if 0 ≤ l x.toNat - up + y ∧ l x.toNat - up + y < H then 1 - p ((l x.toNat - up + y) * W + x) else 0 := by
  rw [recQ_at x0 x1]
  split
  · rename_i c
    rw [resQ_at x0 x1, if_pos (by omega), recQ_at x0 x1, if_pos (by omega), show l x.toNat - up + (l x.toNat - up + y - l x.toNat + up) = l x.toNat - up + y by omega]
  · rfl
theorem recQ_01 (hp : Is01 p) : Is01 (recQ W H p l up) := fun i => by unfold recQ; split; exact hp _; exact .inl rfl
theorem resQ_01 (hp : Is01 p) (hq : Is01 q) : Is01 (resQ W H h p q l up) := fun i => by unfold resQ; split; exact hq _; exact hp _
theorem not_01 (hp : Is01 p) : Is01 (fun i => 1 - p i) := fun i => by rcases hp i with h | h <;> simp [h]
theorem is01_B (hp : Is01 p) : IsB p := fun i => by rcases hp i with h | h <;> omega
theorem is01_le (hp : Is01 p) (i : Int) : p i ≤ 1 := by rcases hp i with h | h <;> omega
end
end Go.Proofs.Ytdimlpcbbkokiaa

/- Walks: the errors of Runs and Remove, the program's and the reference's; the reference's Remove. -/
namespace Go.Proofs.Ytdimlpcbbkokiaa
open Go.RowKit Go.Shelf
set_option linter.unusedVariables false
attribute [local go_sem] Oper.semAt_some

set_option maxHeartbeats 1000000 in
theorem rruns_bad (W H most z : Int) (A AS : Option Addr) (n c kS cS : Nat) (p : Int → Int) (w : World) (hA : ArrB w w.heap.size A n p) (hn : n ≤ maxLen) (hB : IsB p) (hE : chk W H n p = z) (hz : z ≠ 0) :
    Calls Try.prog 49 #[.agg #[.int .i64 W, .int .i64 H, .slice A n c], .slice AS kS cS, .int .i64 most] w fun e w' => e = .returned (.tuple #[.slice none 0 0, .int .i64 z]) ∧ Below w.heap.size w w' := by
  have CK := Lib.hid fun w' hA' => rcheck_any W H A n c p w' hA' hn hB
  rw [hE] at CK
  have hb : (z != 0) = true := by simp [hz]
  have HZ := Lib.hid hz; clear hz hE
  go_enter Try.func49, Try.ntmps49
  go_wp2_with fail
  refine (CK.out _ (hA.to (by (repeat (first | exact Below.refl _ _ | assumption | refine Below.drew ?_ | refine below_drewN ?_ _ | refine Below.alloc ?_ (by first | omega | (simp; done) | (simp; omega)) _ | refine Below.setCell ?_ (by first | omega | (simp; done) | (simp; omega)) _ | refine below_setRow ?_ (by first | omega | (simp; done) | (simp; omega)) _ ))))).mono ?_
  rintro e w1 ⟨rfl, hb1⟩
  have b1 : Below w.heap.size w w1 := below_call (by (repeat (first | exact Below.refl _ _ | assumption | refine Below.drew ?_ | refine below_drewN ?_ _ | refine Below.alloc ?_ (by first | omega | (simp; done) | (simp; omega)) _ | refine Below.setCell ?_ (by first | omega | (simp; done) | (simp; omega)) _ | refine below_setRow ?_ (by first | omega | (simp; done) | (simp; omega)) _ ))) (by simp; try omega) hb1
  go_wp2
  refine bodyPost_ret (results_tmp2 rfl _ _ _) rfl ?_
  exact ⟨rfl, b1⟩

set_option maxRecDepth 100000 in
set_option maxHeartbeats 4000000 in
theorem rruns_unfit (W most : Int) (H N : Nat) (A AS : Option Addr) (n c kS cS kF : Nat) (p : Int → Int) (K : Nat → Nat) (m : Nat → Nat → Nat) (ln : Nat → Nat → Nat → Int) (w : World)
    (hW : W = N) (hN : N ≤ 640) (hH : H ≤ 640) (hA : ArrB w w.heap.size A n p) (hn : n = N * H) (hB : IsB p) (hp : ∀ i : Int, 0 ≤ i → i < n → p i = 0 ∨ p i = 1) (hk : kS ≤ 1000)
    (hS : StavesIn w w.heap.size AS kS K m ln) (hm : ∀ i j, i < kS → j < K i → m i j ≤ maxLen) (hkF : kF < kS) (hfit : ∀ i, i < kF → stFits W H (K i) (m i) (ln i) = true) (hend : stFits W H (K kF) (m kF) (ln kF) = false) :
    Calls Try.prog 49 #[.agg #[.int .i64 W, .int .i64 H, .slice A n c], .slice AS kS cS, .int .i64 most] w fun e w' => e = .returned (.tuple #[.slice none 0 0, .int .i64 10]) ∧ Below w.heap.size w w' := by
  subst hW
  have hn640 : n ≤ 409600 := by rw [hn]; exact Nat.mul_le_mul hN hH
  have CK := Lib.hid fun w' hA' => rcheck_any N H A n c p w' hA' (by unfold maxLen; omega) hB
  have hchk : chk N H n p = 0 := chk_mk (by omega) (by omega) (by omega) (by omega) (by rw [hn]; push_cast; rfl) fun i a b => by have := hp i a b; omega
  rw [hchk] at CK
  clear hchk
  have FT := Lib.hid fun i (hi : i < kS) AL cL w' hL => rfits_st N H A AL n c (K i) cL (m i) (ln i) w' (by omega) (by omega) (by omega) (by omega) hL (fun j hj => hm i j hi hj)
  have HF := Lib.hid hfit
  have HE := Lib.hid hend
  have HS := Lib.hid hS
  have HA := Lib.hid hA
  clear hS hm hfit hp hA hn hB hend
  go_enter Try.func49, Try.ntmps49
  go_wp2_with fail
  have k1 := Blk.new w 24 #[.int .i64 N, .int .i64 H, .slice A n c]
  have b1 : Below w.heap.size w (w.alloc (.cells #[.int .i64 N, .int .i64 H, .slice A n c] 24)) := (Below.refl _ _).alloc (Nat.le_refl _) _
  generalize w.alloc (.cells #[.int .i64 N, .int .i64 H, .slice A n c] 24) = w1 at *
  refine (CK.out w1 (HA.out.to b1)).mono ?_
  rintro e w2 ⟨rfl, d2⟩
  replace k1 := k1.below' d2
  have b2 := below_call b1 b1.size d2
  clear b1 d2 CK
  go_wp2_with fail
  go_loopw [9] (fun s wr => ∃ i : Nat, i ≤ kF ∧ s = .int .i64 i ∧ Below w2.heap.size w2 wr) (fun s _ => kS - (intOf s).toNat)
  case atStart => exact ⟨0, by omega, rfl, Below.refl _ _⟩
  case round =>
    obtain ⟨i, hi, rfl, d3⟩ := hrel
    have b3 := below_call b2 b2.size d3
    have k3 := k1.below' d3
    obtain ⟨p1, p2, p3⟩ := k3.cells3
    have il : (i : Int) < kS := by omega
    obtain ⟨bS, oS, AL, cL, eS, hbS, hcS, hLS⟩ := HS.out.to b3 i (by omega)
    cases eS
    have FTi := Lib.hid fun w' hL => FT.out i (by omega) AL cL w' hL
    obtain ⟨fb, hfb⟩ : ∃ fb, stFits N H (K i) (m i) (ln i) = fb := ⟨_, rfl⟩
    rw [hfb] at FTi
    have HFB := Lib.hid hfb
    clear hfb
    go_upto_region 7 with fail
    go_cut [33] (fun v wx => v = .bool (!fb) ∧ Below wr.heap.size wr wx)
    case first =>
      go_region_held3 (fun w' => w'.cell? ⟨w.heap.size, 0, none⟩ = some (.int .i64 N) ∧ w'.cell? ⟨w.heap.size, 1, none⟩ = some (.int .i64 H) ∧ w'.cell? ⟨w.heap.size, 2, none⟩ = some (.slice A n c) ∧ w'.cell? ⟨bS, oS + i, none⟩ = some (.slice AL (K i) cL))
        (first | (simp [go_sem, *]; done) | (go_keep; done))
        ((go_at_call 79
          refine (FTi.out _ ?_).mono ?_
          focus exact hLS
          rintro e v1 ⟨rfl, hb1⟩
          have kk1 : Blk v1 w.heap.size 24 #[.int .i64 N, .int .i64 H, .slice A n c] := by (repeat (first | with_reducible assumption | with_reducible exact Blk.new _ _ _ | with_reducible exact Blk.new' (World.size_alloc _ _) _ _ | (with_reducible refine Blk.new' ?_ _ _; focus (simp; done)) | with_reducible apply Blk.fill3 | (with_reducible refine Blk.far3' ?_ ?_; focus omega) | with_reducible refine Blk.alloc ?_ _ | with_reducible refine Blk.drew ?_ | (with_reducible apply Blk.below2; focus (with_reducible assumption))))
          obtain ⟨x1, x2, x3⟩ := kk1.cells3
          have x5 : v1.cell? ⟨bS, oS + i, none⟩ = some (.slice AL (K i) cL) := (hb1.cell (p := ⟨bS, oS + i, none⟩) hbS).trans hcS))
      all_goals
        go_wp2_with fail
        go_meet
        exact ⟨rfl, by (repeat (first | with_reducible exact Below.refl _ _ | with_reducible assumption | with_reducible refine Below.drew ?_ | (with_reducible refine below_alloc' ?_ ?_; focus (first | omega | (simp; done) | (simp; omega))) | (with_reducible refine below_fill3' ?_ ?_; focus omega) | (with_reducible refine below_setCell' ?_ ?_; focus (first | omega | (simp; done) | (simp; omega))) | (with_reducible apply below_call'; (focus (with_reducible assumption)); (focus (first | omega | (simp; done) | (simp; omega))))))⟩
    case rest =>
    obtain ⟨rfl, d4⟩ := hcut
    have d5 := below_call d3 d3.size d4
    have b5 := below_call b3 b3.size d4
    clear p1 p2 p3 hcS hLS d4 d3 b3 k3
    cases fb
    · go_wp2
      refine bodyPost_ret (results_tmp2 rfl _ _ _) rfl ?_
      exact ⟨rfl, b5⟩
    · have hlt : i < kF := by
        rcases Nat.lt_or_ge i kF with h | h
        · exact h
        · obtain rfl : i = kF := by omega
          have := HE.out
          rw [HFB.out] at this
          cases this
      go_wp2_with fail
      go_round
      case rel => exact ⟨i + 1, by omega, by go_num, d5⟩
      case measure => simp [intOf]; omega

set_option maxHeartbeats 2000000 in
theorem remove_err (W H most E : Int) (A AS : Option Addr) (n c kS cS : Nat) (w : World) (hE : E ≠ 0)
    (RU : ∀ w', Below w.heap.size w w' → Calls Try.prog 48 #[.agg #[.int .i64 W, .int .i64 H, .slice A n c], .slice AS kS cS, .int .i64 most] w' fun e w'' => e = .returned (.tuple #[.slice none 0 0, .int .i64 E]) ∧ Below w'.heap.size w' w'') :
    Calls Try.prog 42 #[.agg #[.int .i64 W, .int .i64 H, .slice A n c], .slice AS kS cS, .int .i64 most] w fun e w' => e = .returned (.tuple #[noImg, .int .i64 E]) ∧ Below w.heap.size w w' := by
  have RH := Lib.hid RU
  have hb : (E != 0) = true := by simp [hE]
  have HZ := Lib.hid hE; clear hE RU
  go_enter Try.func42, Try.ntmps42
  go_wp2_with fail
  have k2 : Blk ((w.alloc (.cells #[.int .i64 W, .int .i64 H, .slice A n c] 24)).alloc (.cells #[.int .i64 0, .int .i64 0, .slice none 0 0] 24)) (w.heap.size + 1) 24 #[.int .i64 0, .int .i64 0, .slice none 0 0] := Blk.new' (by simp) _ _
  have b1 : Below w.heap.size w ((w.alloc (.cells #[.int .i64 W, .int .i64 H, .slice A n c] 24)).alloc (.cells #[.int .i64 0, .int .i64 0, .slice none 0 0] 24)) := by (repeat (first | exact Below.refl _ _ | assumption | refine Below.drew ?_ | refine below_drewN ?_ _ | refine Below.alloc ?_ (by first | omega | (simp; done) | (simp; omega)) _ | refine Below.setCell ?_ (by first | omega | (simp; done) | (simp; omega)) _ | refine below_setRow ?_ (by first | omega | (simp; done) | (simp; omega)) _ ))
  generalize (w.alloc (.cells #[.int .i64 W, .int .i64 H, .slice A n c] 24)).alloc (.cells #[.int .i64 0, .int .i64 0, .slice none 0 0] 24) = w1 at *
  refine (RH.out w1 b1).mono ?_
  rintro e w2 ⟨rfl, d2⟩
  have k3 := k2.below' d2
  have b2 := below_call b1 b1.size d2
  obtain ⟨r1, r2, r3⟩ := k3.cells3
  obtain ⟨f1, f2, f3⟩ := k3.frozen3
  have k9 := ((k3.set_ 0 (.int .i64 0)).set_ 1 (.int .i64 0)).set_ 2 (.slice none 0 0)
  obtain ⟨s1, s2, s3⟩ := Blk.cells3 (a := .int .i64 0) (b := .int .i64 0) (c := .slice none 0 0) k9
  go_wp2_with fail
  refine bodyPost_ret (v := .tuple #[noImg, .int .i64 E]) (by simp [results, Try.results42, go_sem, noImg, s1, s2, s3]) rfl ?_
  exact ⟨rfl, by (repeat (first | with_reducible exact Below.refl _ _ | with_reducible assumption | with_reducible refine Below.drew ?_ | (with_reducible refine below_alloc' ?_ ?_; focus (first | omega | (simp; done) | (simp; omega))) | (with_reducible refine below_fill3' ?_ ?_; focus omega) | (with_reducible refine below_setCell' ?_ ?_; focus (first | omega | (simp; done) | (simp; omega))) | (with_reducible apply below_call'; (focus (with_reducible assumption)); (focus (first | omega | (simp; done) | (simp; omega))))))⟩

set_option maxHeartbeats 2000000 in
theorem rremove_err (W H most E : Int) (A AS : Option Addr) (n c kS cS : Nat) (w : World) (hE : E ≠ 0)
    (RU : ∀ w', Below w.heap.size w w' → Calls Try.prog 49 #[.agg #[.int .i64 W, .int .i64 H, .slice A n c], .slice AS kS cS, .int .i64 most] w' fun e w'' => e = .returned (.tuple #[.slice none 0 0, .int .i64 E]) ∧ Below w'.heap.size w' w'') :
    Calls Try.prog 50 #[.agg #[.int .i64 W, .int .i64 H, .slice A n c], .slice AS kS cS, .int .i64 most] w fun e w' => e = .returned (.tuple #[noImg, .int .i64 E]) ∧ Below w.heap.size w w' := by
  have RH := Lib.hid RU
  have hb : (E != 0) = true := by simp [hE]
  have HZ := Lib.hid hE; clear hE RU
  go_enter Try.func50, Try.ntmps50
  go_wp2_with fail
  have k2 : Blk ((w.alloc (.cells #[.int .i64 W, .int .i64 H, .slice A n c] 24)).alloc (.cells #[.int .i64 0, .int .i64 0, .slice none 0 0] 24)) (w.heap.size + 1) 24 #[.int .i64 0, .int .i64 0, .slice none 0 0] := Blk.new' (by simp) _ _
  have b1 : Below w.heap.size w ((w.alloc (.cells #[.int .i64 W, .int .i64 H, .slice A n c] 24)).alloc (.cells #[.int .i64 0, .int .i64 0, .slice none 0 0] 24)) := by (repeat (first | exact Below.refl _ _ | assumption | refine Below.drew ?_ | refine below_drewN ?_ _ | refine Below.alloc ?_ (by first | omega | (simp; done) | (simp; omega)) _ | refine Below.setCell ?_ (by first | omega | (simp; done) | (simp; omega)) _ | refine below_setRow ?_ (by first | omega | (simp; done) | (simp; omega)) _ ))
  generalize (w.alloc (.cells #[.int .i64 W, .int .i64 H, .slice A n c] 24)).alloc (.cells #[.int .i64 0, .int .i64 0, .slice none 0 0] 24) = w1 at *
  refine (RH.out w1 b1).mono ?_
  rintro e w2 ⟨rfl, d2⟩
  have k3 := k2.below' d2
  have b2 := below_call b1 b1.size d2
  obtain ⟨r1, r2, r3⟩ := k3.cells3
  obtain ⟨f1, f2, f3⟩ := k3.frozen3
  have k9 := ((k3.set_ 0 (.int .i64 0)).set_ 1 (.int .i64 0)).set_ 2 (.slice none 0 0)
  obtain ⟨s1, s2, s3⟩ := Blk.cells3 (a := .int .i64 0) (b := .int .i64 0) (c := .slice none 0 0) k9
  go_wp2_with fail
  refine bodyPost_ret (v := .tuple #[noImg, .int .i64 E]) (by simp [results, Try.results50, go_sem, noImg, s1, s2, s3]) rfl ?_
  exact ⟨rfl, by (repeat (first | with_reducible exact Below.refl _ _ | with_reducible assumption | with_reducible refine Below.drew ?_ | (with_reducible refine below_alloc' ?_ ?_; focus (first | omega | (simp; done) | (simp; omega))) | (with_reducible refine below_fill3' ?_ ?_; focus omega) | (with_reducible refine below_setCell' ?_ ?_; focus (first | omega | (simp; done) | (simp; omega))) | (with_reducible apply below_call'; (focus (with_reducible assumption)); (focus (first | omega | (simp; done) | (simp; omega))))))⟩

/-- kept runs are in order and apart -/
theorem runsOk_keep {p : Int → Int} {N H kS : Nat} {most : Int} {ln : Nat → Nat → Nat → Int} : RunsOk H N ((rLs (fun x y => inkB N H p x y) H N).filter (keepR ln kS most)) := by
  have hm : ∀ r, r ∈ (rLs (fun x y => inkB N H p x y) H N).filter (keepR ln kS most) → ∃ x f t : Nat, x < N ∧ RunOf p N H x f t ∧ r = ((x : Int), (f : Int), (t : Int) - 1) := fun r hr => by
    obtain ⟨x, y, hx, hy, h⟩ := mem_rLs.1 (List.mem_filter.1 hr).1
    obtain ⟨h1, rfl⟩ := mem_rnA.1 h
    obtain ⟨t, ht⟩ := run_stB hx hy h1
    have hl := ht.lt
    refine ⟨x, y, t, hx, ht, ?_⟩
    rw [enB_botN hx (by omega), ht.bot (Nat.le_refl _) hl, show ((t - 1 : Nat) : Int) = (t : Int) - 1 by omega]
  constructor
  · intro i r hr
    obtain ⟨x, f, t, hx, ht, rfl⟩ := hm r (List.mem_of_getElem? hr)
    have := ht.lt; have := ht.le
    refine ⟨?_, ?_, ?_, ?_, ?_⟩ <;> simp only <;> omega
  · intro i q r hq hr
    obtain ⟨x, f, t, hx, ht, rfl⟩ := hm q (List.mem_of_getElem? hq)
    obtain ⟨x', f', t', hx', ht', rfl⟩ := hm r (List.mem_of_getElem? hr)
    have hs := (rLs_sorted (fun x y => inkB N H p x y) H N).filter (keepR ln kS most)
    obtain ⟨hi, eq⟩ := List.getElem?_eq_some_iff.1 hq
    obtain ⟨hi', er⟩ := List.getElem?_eq_some_iff.1 hr
    have hlt := (List.pairwise_iff_getElem.1 hs) i (i + 1) hi hi' (by omega)
    rw [eq, er] at hlt
    rcases hlt with h | ⟨h1, h2⟩
    · exact .inl h
    · simp only at h1 h2
      obtain rfl : x = x' := by omega
      refine .inr ⟨rfl, ?_⟩
      have a1 := ht.lt; have a2 := ht.le; have b1 := ht'.lt; have b2 := ht'.le
      show (t : Int) - 1 + 1 < f'
      rcases Nat.lt_trichotomy f' t with g | g | g
      · exact absurd (ht.ink (f' - 1) (by omega) (by omega)) (ht'.up (f' - 1) (by omega))
      · subst g; exact absurd (ht'.ink f' (Nat.le_refl _) b1) (ht.down (by omega))
      · omega
/-- ink without painted runs is ink with the runs struck -/
theorem pair_strike {p : Int → Int} {N H : Nat} {l : List Rn} {i : Int} (h0 : 0 ≤ i) (hi : i < (N : Int) * H) (hp : p i = 0 ∨ p i = 1) :
    fillB (fun x y => inkB N H p x y && !inkB N H (fillB (fun x y => inkB H N (paintR H l) y x) N) x y) N i = strike l N p i := by
  have hN : 0 < N := by
    rcases Nat.eq_zero_or_pos N with h | h
    · rw [h] at hi; omega
    · exact h
  have m0 := Int.emod_nonneg i (show (N : Int) ≠ 0 by omega)
  have m1 := Int.emod_lt_of_pos i (show (0 : Int) < N by omega)
  have d0 : 0 ≤ i / N := Int.ediv_nonneg h0 (by omega)
  have d1 : i / N < H := Int.ediv_lt_of_lt_mul (by omega) (by rw [Int.mul_comm]; exact hi)
  have hd : i / N * N + i % N = i := by rw [Int.mul_comm, Int.add_comm]; exact Int.emod_add_mul_ediv i N
  have e1 : inkB N H p (i % N) (i / N) = decide (p i = 1) := by rw [inkB_in m0 m1 d0 d1, hd]
  have e2 : inkB N H (fillB (fun x y => inkB H N (paintR H l) y x) N) (i % N) (i / N) = l.any (fun r => hitB r N i) := by
    rw [inkB_in m0 m1 d0 d1, fillB_at m0 m1, inkB_in d0 d1 m0 m1]
    have e3 : paintR H l (i % N * H + i / N) = if l.any (fun r => hitB r N i) = true then 1 else 0 := by
      unfold paintR
      have e4 : l.any (fun r => hitR H r (i % N * H + i / N)) = l.any (fun r => hitB r N i) := by
        congr 1
        funext r
        unfold hitR hitB
        rw [idx_mod d0 d1, idx_div d0 d1]
      rw [e4]
    rw [e3]
    cases l.any (fun r => hitB r N i) <;> simp
  unfold fillB strike
  show (if (inkB N H p (i % N) (i / N) && !inkB N H (fillB (fun x y => inkB H N (paintR H l) y x) N) (i % N) (i / N)) = true then (1 : Int) else 0) = _
  rw [e1, e2]
  rcases hp with h | h
  · rw [h]; simp
  · rw [h]; cases l.any (fun r => hitB r N i) <;> simp

set_option maxRecDepth 100000 in
set_option maxHeartbeats 4000000 in
theorem rremove_ok (W most : Int) (H N : Nat) (A AS : Option Addr) (n c kS cS : Nat) (p : Int → Int) (K : Nat → Nat) (m : Nat → Nat → Nat) (ln : Nat → Nat → Nat → Int) (w : World)
    (hW : W = N) (hN : N ≤ 640) (hH : H ≤ 640) (hA : ArrB w w.heap.size A n p) (hn : n = N * H) (hB : IsB p) (hp : ∀ i : Int, 0 ≤ i → i < n → p i = 0 ∨ p i = 1) (hk : kS ≤ 1000)
    (hS : StavesIn w w.heap.size AS kS K m ln) (hm : ∀ i j, i < kS → j < K i → m i j ≤ maxLen) (hfit : ∀ i, i < kS → stFits W H (K i) (m i) (ln i) = true) :
    Calls Try.prog 50 #[.agg #[.int .i64 W, .int .i64 H, .slice A n c], .slice AS kS cS, .int .i64 most] w (New w fun v w' => OutT w w' 0 W H n (strike ((rLs (fun x y => inkB W H p x y) H N).filter (keepR ln kS most)) W p) v) := by
  subst hW
  have hnI : (n : Int) = (N : Int) * H := by rw [hn]; push_cast; rfl
  have hn640 : n ≤ 409600 := by rw [hn]; exact Nat.mul_le_mul hN hH
  have RU := Lib.hid fun w' hA' hS' => rruns_ok N most H N A AS n c kS cS p K m ln w' rfl hN hH hA' hn hB hp hk hS' hm hfit
  have OK := Lib.hid (runsOk_keep (p := p) (N := N) (H := H) (kS := kS) (most := most) (ln := ln))
  have PSS := Lib.hid fun (l : List Rn) (i : Int) (h0 : 0 ≤ i) (h1 : i < n) => pair_strike (p := p) (N := N) (H := H) (l := l) h0 (by rw [← hnI]; exact h1) (hp i h0 h1)
  obtain ⟨L, hL⟩ : ∃ L, (rLs (fun x y => inkB N H p x y) H N).filter (keepR ln kS most) = L := ⟨_, rfl⟩
  have hLl : L.length ≤ 1000000000 := by
    rw [← hL]
    have h1 := List.length_filter_le (keepR ln kS most) (rLs (fun x y => inkB N H p x y) H N)
    have h2 := rLs_len (fun x y => inkB N H p x y) H N
    have h3 : N * H ≤ 640 * 640 := Nat.mul_le_mul hN hH
    omega
  rw [hL] at RU OK ⊢
  have FC := Lib.hid fun A' c' w' hA' => rfromcols_ok N H n L A' c' w' hN hH hnI hA' OK.out hLl
  have hc1 : chk N H n p = 0 := chk_mk (by omega) (by omega) (by omega) (by omega) hnI fun i a b => by have := hp i a b; omega
  have hc2 : chk N H n (fillB (fun x y => inkB H N (paintR H L) y x) N) = 0 := chk_01 (by omega) (by omega) (by omega) (by omega) hnI fun i _ _ => is01_le fillB_is01 i
  have PA := Lib.hid fun B' cb' w' hA' hB' => rpair2_ok N H n c cb' A B' p (fillB (fun x y => inkB H N (paintR H L) y x) N) w' hA' hB' hN hH hnI hc1 hc2 hB (is01_B fillB_is01)
  have HA := Lib.hid hA; have HS := Lib.hid hS
  clear hS hm hfit hp hA hn hB hnI hL hc1 hc2 OK
  go_enter Try.func50, Try.ntmps50
  go_wp2_with fail
  have k1 : Blk ((w.alloc (.cells #[.int .i64 N, .int .i64 H, .slice A n c] 24)).alloc (.cells #[.int .i64 0, .int .i64 0, .slice none 0 0] 24)) w.heap.size 24 #[.int .i64 N, .int .i64 H, .slice A n c] := (Blk.new _ _ _).alloc _
  have k2 : Blk ((w.alloc (.cells #[.int .i64 N, .int .i64 H, .slice A n c] 24)).alloc (.cells #[.int .i64 0, .int .i64 0, .slice none 0 0] 24)) (w.heap.size + 1) 24 #[.int .i64 0, .int .i64 0, .slice none 0 0] := Blk.new' (by simp) _ _
  have b1 : Below w.heap.size w ((w.alloc (.cells #[.int .i64 N, .int .i64 H, .slice A n c] 24)).alloc (.cells #[.int .i64 0, .int .i64 0, .slice none 0 0] 24)) := by (repeat (first | exact Below.refl _ _ | assumption | refine Below.drew ?_ | refine below_drewN ?_ _ | refine Below.alloc ?_ (by first | omega | (simp; done) | (simp; omega)) _ | refine Below.setCell ?_ (by first | omega | (simp; done) | (simp; omega)) _ | refine below_setRow ?_ (by first | omega | (simp; done) | (simp; omega)) _ ))
  generalize (w.alloc (.cells #[.int .i64 N, .int .i64 H, .slice A n c] 24)).alloc (.cells #[.int .i64 0, .int .i64 0, .slice none 0 0] 24) = w1 at *
  refine (RU.out w1 (HA.out.to b1) (HS.out.to b1)).mono ?_
  rintro e w2 ⟨_, rfl, ⟨v2, rfl, hR⟩, d2⟩
  replace k1 := k1.below' d2
  replace k2 := k2.below' d2
  have b2 := below_call b1 b1.size d2
  obtain ⟨Al, cl, rfl, hRA⟩ := hR.arr
  obtain ⟨p1, p2, p3⟩ := k1.cells3
  clear b1 d2 hR
  go_wp2_with fail
  refine (FC.out Al cl w2 hRA).mono ?_
  rintro e w3 ⟨_, rfl, ⟨_, rfl, ⟨g, rfl, hg, kg⟩⟩, d3⟩
  have b3 := below_call b2 b2.size d3
  have bA : Below w3.heap.size w3 (w3.alloc (.cells #[.int .i64 N, .int .i64 H, .slice (some ⟨g, 0, none⟩) n n] 24)) := (Below.refl _ _).alloc (Nat.le_refl _) _
  replace k1 := (k1.below' d3).below' bA
  replace k2 := (k2.below' d3).below' bA
  have kg4 := kg.below' bA
  have kx := Blk.new w3 24 #[.int .i64 N, .int .i64 H, .slice (some ⟨g, 0, none⟩) n n]
  have b4 := b3.trans (bA.mono b3.size)
  clear p1 p2 p3 d3 bA b3 b2 kg
  obtain ⟨p1, p2, p3⟩ := k1.cells3
  obtain ⟨x1, x2, x3⟩ := kx.cells3
  go_upto_region 5 with fail
  generalize w3.alloc (.cells #[.int .i64 N, .int .i64 H, .slice (some ⟨g, 0, none⟩) n n] 24) = w4 at *
  go_wp2_with fail
  refine (PA.out (some ⟨g, 0, none⟩) n w4 (HA.out.to b4) (kg4.arrB kg4.lt)).mono ?_
  rintro e w5 ⟨_, rfl, ⟨_, rfl, ⟨g5, rfl, hg5, kg5⟩⟩, d5⟩
  have b5 := below_call b4 b4.size d5
  have z2 := k2.lt
  have m0 := k2.below' d5
  obtain ⟨f1, f2, f3⟩ := m0.frozen3
  obtain ⟨y1, y2, y3⟩ := m0.cells3
  have k5 := ((m0.set_ 0 (.int .i64 N)).set_ 1 (.int .i64 H)).set_ 2 (.slice (some ⟨g5, 0, none⟩) n n)
  obtain ⟨s1, s2, s3⟩ := Blk.cells3 (a := .int .i64 N) (b := .int .i64 H) (c := .slice (some ⟨g5, 0, none⟩) n n) k5
  clear p1 p2 p3 x1 x2 x3 d5
  go_wp2_with fail
  refine bodyPost_ret (v := .tuple #[.agg #[.int .i64 N, .int .i64 H, .slice (some ⟨g5, 0, none⟩) n n], .int .i64 0]) (by simp [results, Try.results50, go_sem, s1, s2, s3]) rfl ?_
  have z4 := b4.size
  refine ⟨_, rfl, ⟨_, _, rfl, (fun a e => by cases e; show w.heap.size ≤ g5; omega), ?_⟩, by (repeat (first | exact Below.refl _ _ | assumption | refine Below.drew ?_ | refine below_drewN ?_ _ | refine Below.alloc ?_ (by first | omega | (simp; done) | (simp; omega)) _ | refine Below.setCell ?_ (by first | omega | (simp; done) | (simp; omega)) _ | refine below_setRow ?_ (by first | omega | (simp; done) | (simp; omega)) _ ))⟩
  have g1 : g5 ≠ w.heap.size + 1 := by omega
  have kF := Blk.far (Blk.far (Blk.far kg5 (p := ⟨w.heap.size + 1, 0, none⟩) g1 (.int .i64 N)) (p := ⟨w.heap.size + 1, 1, none⟩) g1 (.int .i64 H)) (p := ⟨w.heap.size + 1, 2, none⟩) g1 (.slice (some ⟨g5, 0, none⟩) n n)
  exact (kF.u8conv fun i a b => PSS.out L i a b).arrB (kF.u8conv fun i a b => PSS.out L i a b).lt
end Go.Proofs.Ytdimlpcbbkokiaa

/- Plain: lengths of runs and of gaps, counted. No program in sight. -/
namespace Go.Proofs.Ytdimlpcbbkokiaa
open Go.RowKit
set_option linter.unusedVariables false
/-- how often x stands in a list -/
def cntA : List Int → Int → Int
  | [], _ => 0
  | y :: l, x => (if y = x then 1 else 0) + cntA l x
theorem cntA_app : ∀ (l l' : List Int) (x : Int), cntA (l ++ l') x = cntA l x + cntA l' x
  | [], l', x => by simp [cntA]
  | y :: l, l', x => by
    rw [List.cons_append, cntA, cntA, cntA_app l l' x]; omega
theorem cntA_one (y x : Int) : cntA [y] x = if y = x then 1 else 0 := by simp [cntA]
theorem cntA_bd : ∀ (l : List Int) (x : Int), 0 ≤ cntA l x ∧ cntA l x ≤ l.length
  | [], x => by simp [cntA]
  | y :: l, x => by
    have := cntA_bd l x
    rw [cntA, List.length_cons]
    push_cast
    split <;> omega
theorem cntA_none {x : Int} : ∀ {l : List Int}, (∀ y ∈ l, y ≠ x) → cntA l x = 0
  | [], _ => rfl
  | y :: l, h => by
    rw [cntA, if_neg (h y (by simp)), cntA_none fun z hz => h z (List.mem_cons_of_mem _ hz)]; rfl
theorem cntN_take (l : List Int) (x : Int) : ∀ n, n ≤ l.length → cntN (fun i => l.getD i.toNat 0) n x = cntA (l.take n) x
  | 0, _ => by simp [cntN, cntA]
  | n + 1, h => by
    rw [cntN_succ, cntN_take l x n (by omega), List.take_add_one, List.getElem?_eq_getElem (by omega), cntA_app]
    simp only [Int.toNat_natCast, Option.toList, cntA_one]
    have e : l.getD n 0 = l[n] := by rw [List.getD_eq_getElem?_getD, List.getElem?_eq_getElem (by omega)]; rfl
    simp only [e]
theorem cntN_list (l : List Int) (x : Int) : cntN (fun i => l.getD i.toNat 0) l.length x = cntA l x := by
  rw [cntN_take l x l.length (Nat.le_refl _), List.take_length]
/-- the length of a run; the gap ahead of run number i, if it has one -/
def dkA (r : Rn) : Int := r.2.2 - r.2.1 + 1
def ltA (L : List Rn) (i : Nat) : List Int :=
  if 0 < i ∧ (L.getD (i - 1) (0, 0, 0)).1 = (L.getD i (0, 0, 0)).1 then [(L.getD i (0, 0, 0)).2.1 - (L.getD (i - 1) (0, 0, 0)).2.2 - 1] else []
def ltL (L : List Rn) : Nat → List Int
  | 0 => []
  | i + 1 => ltL L i ++ ltA L i
theorem ltA_len (L : List Rn) (i : Nat) : (ltA L i).length ≤ 1 := by unfold ltA; split <;> simp
theorem ltL_len (L : List Rn) : ∀ i, (ltL L i).length ≤ i
  | 0 => by simp [ltL]
  | i + 1 => by
    have := ltL_len L i
    have := ltA_len L i
    rw [ltL, List.length_append]; omega
section
variable {w h : Nat} {L : List Rn}
theorem dk_bd (hL : RunsOk w h L) (hw : w ≤ 640) {r : Rn} (hr : r ∈ L) : 1 ≤ dkA r ∧ dkA r ≤ 640 := by
  obtain ⟨i, hi, e⟩ := List.getElem_of_mem hr
  have := hL.in_ i r (by rw [List.getElem?_eq_getElem hi, e])
  unfold dkA; omega
theorem lt_bd (hL : RunsOk w h L) (hw : w ≤ 640) {i : Nat} (hi : i < L.length) {y : Int} (hy : y ∈ ltA L i) : 1 ≤ y ∧ y ≤ 640 := by
  unfold ltA at hy
  split at hy
  · rename_i c
    obtain ⟨c1, c2⟩ := c
    have e1 : L[i - 1]? = some (L.getD (i - 1) (0, 0, 0)) := by rw [List.getD_eq_getElem?_getD, List.getElem?_eq_getElem (by omega)]; rfl
    have e2 : L[i - 1 + 1]? = some (L.getD i (0, 0, 0)) := by rw [show i - 1 + 1 = i by omega, List.getD_eq_getElem?_getD, List.getElem?_eq_getElem (by omega)]; rfl
    have a1 := hL.in_ _ _ e1
    have a2 := hL.in_ _ _ e2
    have a3 := hL.apart _ _ _ e1 e2
    rw [List.mem_singleton] at hy
    omega
  · simp at hy
theorem ltL_bd (hL : RunsOk w h L) (hw : w ≤ 640) : ∀ {i : Nat}, i ≤ L.length → ∀ y ∈ ltL L i, 1 ≤ y ∧ y ≤ 640
  | 0, _, y, hy => by simp [ltL] at hy
  | i + 1, hi, y, hy => by
    rw [ltL, List.mem_append] at hy
    rcases hy with hy | hy
    · exact ltL_bd hL hw (by omega) y hy
    · exact lt_bd hL hw (by omega) hy
end
/-- the search among the numbers from 1 on -/
def StB (C : Int → Int) (n b : Int) : Prop := (b = 0 ∧ ∀ x, 1 ≤ x → x < n → C x ≤ 0) ∨ (1 ≤ b ∧ b < n ∧ 0 < C b ∧ ∀ x, 1 ≤ x → x < n → C x ≤ C b ∧ (C x = C b → b ≤ x))
section
variable {C : Int → Int} {n b : Int}
theorem StB.start : StB C 1 0 := .inl ⟨rfl, fun x a b => by omega⟩
theorem StB.bd (h : StB C n b) (hn : 1 ≤ n) : 0 ≤ b ∧ b < n := by rcases h with ⟨rfl, -⟩ | ⟨h1, h2, -⟩ <;> omega
theorem StB.take (h : StB C n b) (hn : 1 ≤ n) (h0 : C 0 = 0) (hb : C b < C n) : StB C (n + 1) n := by
  rcases h with ⟨rfl, h1⟩ | ⟨h1, h2, h3, h4⟩
  · refine .inr ⟨hn, by omega, by omega, fun x a b => ?_⟩
    by_cases e : x = n
    · subst e; exact ⟨Int.le_refl _, fun _ => Int.le_refl _⟩
    · have := h1 x a (by omega)
      exact ⟨by omega, fun e2 => by omega⟩
  · refine .inr ⟨hn, by omega, by omega, fun x a b => ?_⟩
    by_cases e : x = n
    · subst e; exact ⟨Int.le_refl _, fun _ => Int.le_refl _⟩
    · have := (h4 x a (by omega)).1
      exact ⟨by omega, fun e2 => by omega⟩
theorem StB.keep (h : StB C n b) (h0 : C 0 = 0) (hb : ¬ C b < C n) : StB C (n + 1) b := by
  rcases h with ⟨rfl, h1⟩ | ⟨h1, h2, h3, h4⟩
  · refine .inl ⟨rfl, fun x a b => ?_⟩
    by_cases e : x = n
    · subst e; omega
    · exact h1 x a (by omega)
  · refine .inr ⟨h1, by omega, h3, fun x a c => ?_⟩
    by_cases e : x = n
    · subst e; exact ⟨by omega, fun _ => by omega⟩
    · exact h4 x a (by omega)
theorem StB.mode (h : StB C 641 b) (hC : ∀ x, x < 1 ∨ 640 < x → C x = 0) : Mode C b := by
  rcases h with ⟨rfl, h1⟩ | ⟨h1, h2, h3, h4⟩
  · refine .inl ⟨rfl, fun x => ?_⟩
    by_cases e : x < 1 ∨ 640 < x
    · rw [hC x e]; omega
    · exact h1 x (by omega) (by omega)
  · refine .inr ⟨h3, fun x => ?_, fun x hx => ?_⟩
    · by_cases e : x < 1 ∨ 640 < x
      · rw [hC x e]; omega
      · exact (h4 x (by omega) (by omega)).1
    · by_cases e : x < 1 ∨ 640 < x
      · rw [hC x e] at hx; omega
      · exact (h4 x (by omega) (by omega)).2 hx
end
/-- runs of a whole image are in order and apart -/
theorem runsOk_all {p : Int → Int} {N H : Nat} : RunsOk H N (rLs (fun x y => inkB N H p x y) H N) := by
  have hm : ∀ r, r ∈ rLs (fun x y => inkB N H p x y) H N → ∃ x f t : Nat, x < N ∧ RunOf p N H x f t ∧ r = ((x : Int), (f : Int), (t : Int) - 1) := fun r hr => by
    obtain ⟨x, y, hx, hy, h⟩ := mem_rLs.1 hr
    obtain ⟨h1, rfl⟩ := mem_rnA.1 h
    obtain ⟨t, ht⟩ := run_stB hx hy h1
    have hl := ht.lt
    refine ⟨x, y, t, hx, ht, ?_⟩
    rw [enB_botN hx (by omega), ht.bot (Nat.le_refl _) hl, show ((t - 1 : Nat) : Int) = (t : Int) - 1 by omega]
  constructor
  · intro i r hr
    obtain ⟨x, f, t, hx, ht, rfl⟩ := hm r (List.mem_of_getElem? hr)
    have := ht.lt; have := ht.le
    refine ⟨?_, ?_, ?_, ?_, ?_⟩ <;> simp only <;> omega
  · intro i q r hq hr
    obtain ⟨x, f, t, hx, ht, rfl⟩ := hm q (List.mem_of_getElem? hq)
    obtain ⟨x', f', t', hx', ht', rfl⟩ := hm r (List.mem_of_getElem? hr)
    have hs := rLs_sorted (fun x y => inkB N H p x y) H N
    obtain ⟨hi, eq⟩ := List.getElem?_eq_some_iff.1 hq
    obtain ⟨hi', er⟩ := List.getElem?_eq_some_iff.1 hr
    have hlt := (List.pairwise_iff_getElem.1 hs) i (i + 1) hi hi' (by omega)
    rw [eq, er] at hlt
    rcases hlt with h | ⟨h1, h2⟩
    · exact .inl h
    · simp only at h1 h2
      obtain rfl : x = x' := by omega
      refine .inr ⟨rfl, ?_⟩
      have a1 := ht.lt; have a2 := ht.le; have b1 := ht'.lt; have b2 := ht'.le
      show (t : Int) - 1 + 1 < f'
      rcases Nat.lt_trichotomy f' t with g | g | g
      · exact absurd (ht.ink (f' - 1) (by omega) (by omega)) (ht'.up (f' - 1) (by omega))
      · subst g; exact absurd (ht'.ink f' (Nat.le_refl _) b1) (ht.down (by omega))
      · omega
end Go.Proofs.Ytdimlpcbbkokiaa
