/- Texts of mine in build order: T65, T66, S24, T63, T64, T67. Conditions: each theorem's own. -/
import Derived.Test.YtdimlpcbbkokiaaMStaveRunsx10
import Derived.Maps.RangeWalk
import Derived.StillTailTactics
import Derived.BigQuiet
import Derived.Deep.QuietTactic
import Derived.RangeFuncBox
import Derived.RangeFuncNested
import Derived.OwnWalkIn
import Derived.Deep.AppendLies
/- Walk: the most common number (stave.common: a map of counts, ranged over). -/
namespace Go.Proofs.Ytdimlpcbbkokiaa
open Go.RowKit Go.Shelf Go.Maps
set_option linter.unusedVariables false
attribute [local go_sem] Oper.semAt_some

theorem lawInt : Keyed Try.prog 3 := int_keyed Try.underlying3
theorem zeroInt (w : World) : (zeroValue 3).run Try.prog w = .ok (.int .i64 0) w := by kernel_rfl
theorem wf_small {x : Int} (h1 : -1000000000 ≤ x) (h2 : x ≤ 1000000000) : (Lit.int .i64 x).wf = true := WalkArith.wf_i64 (by omega)

set_option maxRecDepth 100000 in
set_option maxHeartbeats 4000000 in
theorem common_any (A : Option Addr) (n c : Nat) (q : Int → Int) (w : World) (hA : ArrI w w.heap.size A n q) (hn : n ≤ 1000000) (hq : ∀ i : Int, 0 ≤ i → i < n → 1 ≤ q i ∧ q i ≤ 1000000) :
    Calls Try.prog 97 #[.slice A n c] w fun e w' => ∃ m, e = .returned (.int .i64 m) ∧ Mode (cntN q n) m ∧ Below w.heap.size w w' := by
  have hmm := @run_makeMap Try.prog
  have HA := Lib.hid hA; have HQ := Lib.hid hq
  clear hA hq
  go_enter Try.func97, Try.ntmps97
  go_wp2
  go_loopw [12] (fun s wr => ∃ k : Nat, k ≤ n ∧ s = .int .i64 k ∧ wr.ownsMap Try.prog 3 (plainElem Try.prog 3) w.heap.size k (cmD q k) ∧ Below w.heap.size w wr) (fun s _ => n - (intOf s).toNat)
  case atStart => exact ⟨0, by omega, rfl, World.ownsMap_made _ _ _ _, (Below.refl _ _).alloc (Nat.le_refl _) _⟩
  case round =>
    obtain ⟨k, hk, rfl, hown, b1⟩ := hrel
    by_cases kl : (k : Int) < n
    · obtain ⟨b, off, rfl, hb, hc⟩ := ArrI.at_ HA.out (i := (k : Int)) (by omega) kl
      rw [Int.toNat_natCast] at hc
      have hc1 := (b1.cell (p := ⟨b, off + k, none⟩) hb).trans hc
      obtain ⟨q1, q2⟩ := HQ.out k (by omega) kl
      have CA := Lib.hid (cmD_at q (q k) k)
      have CB := cntN_bd q (q k) k
      have CS := Lib.hid (show cmD q (k + 1) = (cmD q k).put (.int .i64 (q k)) (.lit (.int .i64 (cntN q k (q k) + 1))) from by
        rw [cmD, cntN_succ, if_pos rfl])
      generalize cntN q k (q k) = ck at *
      generalize hqk : q k = x at *
      have hkey : keyOf Try.prog 3 (.int .i64 x) = some (.int .i64 x) := keyOf_int_mk Try.underlying3 (wf_small (by omega) (by omega))
      have v1 : IntKind.i64.wrap (ck + 1) = ck + 1 := IntWalk.i64_in _ (by omega)
      obtain ⟨ck', hrun, hat, -⟩ := hown.lookup_int lawInt Try.underlying139 Try.underlying3 (zeroInt _) hkey
      obtain rfl : ck' = ck := by
        rw [CA.out] at hat
        cases hat; rfl
      clear hc hqk hat
      go_wp2_with (first
        | (at_mapUpdate; refine wpList_mapUpdate_own _ rfl _ _ _ 139 rfl 3 3 lawInt Try.underlying139 _ w.heap.size k _ rfl hown (by unfold maxLen; omega) _ _ _ rfl rfl hkey _ [] (plainElem_int Try.underlying3 (wf_small (x := ck' + 1) (by omega) (by omega))) ?_; intro w1 hown1 hgrow1)
        | fail)
      go_roundw
      case rel => exact ⟨k + 1, by omega, by go_num, CS.out ▸ hown1, b1.grown hgrow1 b1.size (fun j hj => by cases hj; exact Nat.le_refl _)⟩
      case measure => simp [intOf]; omega
    · have hkn : k = n := by omega
      rw [hkn] at hown
      have C0 : Hid (cntN q n 0 = 0) := Lib.hid (cntN_none fun i a b => by have := HQ.out i a b; omega)
      have CB := Lib.hid fun x => cntN_bd q x n
      have HXB := Lib.hid fun (x : Int) (hx : 0 < cntN q n x) => (show 1 ≤ x ∧ x ≤ 1000000 from by
        apply Classical.byContradiction
        intro hno
        have := cntN_none (q := q) (x := x) (n := n) fun i a b e => by have := HQ.out i a b; omega
        omega)
      have CAT := Lib.hid fun x => cmD_at q x n
      have CHS := Lib.hid fun x => cmD_has q x n
      obtain ⟨D, hD⟩ : ∃ D, cmD q n = D := ⟨_, rfl⟩
      obtain ⟨C, hC⟩ : ∃ C, cntN q n = C := ⟨_, rfl⟩
      rw [hD] at hown CAT CHS
      rw [hC] at C0 CB CAT CHS HXB
      have HC := Lib.hid hC
      have zb := hown.lt
      clear hkn hD hC
      obtain ⟨r, hr⟩ : ∃ r, wr.heap.size = r := ⟨_, rfl⟩
      go_wp2_with (first
        | (at_range; refine wpList_range_own _ rfl _ 139 rfl 3 3 lawInt Try.underlying139 _ w.heap.size n _ rfl hown ?_; intro w0 hrg0 hg0 hs0)
        | fail)
      have b0 : Below w.heap.size w w0 := b1.grown hg0 b1.size (fun j hj => by cases hj)
      rw [hr] at hrg0
      clear hg0 hs0 b1 hown
      go_loopw [6] (fun o wr' => ∃ (out : Int) (left : Lit → Bool) (cnt : Nat), o = .int .i64 out ∧ -1000000 ≤ out ∧ out ≤ 1000000 ∧ wr'.ranges Try.prog 3 (plainElem Try.prog 3) w.heap.size r n D left cnt ∧ Below w.heap.size w wr' ∧ Hid (StM C left out) ∧ Hid (∀ x, left (.int .i64 x) = true → 0 < C x)) (fun _ wr' => wr'.rangeLeft w.heap.size r)
      case atStart => exact ⟨0, _, _, rfl, by omega, by omega, hrg0, b0, Lib.hid (.inl ⟨rfl, fun x hx => (CHS.out x).2 hx⟩), Lib.hid (fun x h => (CHS.out x).1 h)⟩
      case round =>
        obtain ⟨out, left, cnt, rfl, o1, o2, hrg, hbw, hst, hlf⟩ := hrel
        clear hrg0 b0
        have hko : keyOf Try.prog 3 (.int .i64 out) = some (.int .i64 out) := keyOf_int_mk Try.underlying3 (wf_small (by omega) (by omega))
        go_wp2_with (first
          | (at_next; refine wpList_next_ranges_ii _ rfl _ rfl 3 3 .i64 .i64 lawInt Try.underlying3 Try.underlying3 w.heap.size r n _ _ _ rfl hrg ?_ ?_)
          | fail)
        · intro _ hl0
          go_wp2
          go_ret
          exact ⟨_, rfl, HC.out ▸ stM_end hst.out hl0 (fun x => (CB.out x).1), hbw⟩
        · intro x kx w1 cnt1 hwx hwc hlx hat hrg1 hlt hg1 hs1 hen
          have hrr : w.heap.size ≤ r := by rw [← hr]; omega
          have hbw1 : Below w.heap.size w w1 := hbw.grown hg1 hbw.size (fun j hj => by cases hj; exact hrr)
          have hx0 := hlf.out x hlx
          have hkx : kx = C x := by
            have h1 := hat (.lit (.int .i64 0))
            rw [CAT.out] at h1
            cases h1; rfl
          obtain ⟨ko, hrun, hato, -⟩ := hrg1.owns.lookup_int lawInt Try.underlying139 Try.underlying3 (zeroInt _) hko
          have hko' : ko = C out := by
            rw [CAT.out] at hato
            cases hato; rfl
          have hxq : -1000000 ≤ x ∧ x ≤ 1000000 := by
            have h1 := HXB.out x hx0
            omega
          have HLF2 := Lib.hid (show ∀ y, (fun z => left z && !z.sameKey (.int .i64 x)) (.int .i64 y) = true → 0 < C y from fun y hy => hlf.out y (by
            have hy' : (left (.int .i64 y) && !(Lit.int .i64 y).sameKey (.int .i64 x)) = true := hy
            rw [Bool.and_eq_true] at hy'
            exact hy'.1))
          have HTK := Lib.hid fun hb => stM_take hst.out hx0 hb
          have HKP := Lib.hid fun hb hb2 => stM_keep hst.out hx0 C0.out hb hb2
          have HKX := Lib.hid hkx; have HKO := Lib.hid hko'
          have M1 := Lib.hid (show wr.rangeLeft w.heap.size r = cnt from hrg.left_eq)
          have M2 := Lib.hid (show w1.rangeLeft w.heap.size r = cnt1 from hrg1.left_eq)
          clear hat hato hkx hko' hrg hwx hwc hlx hst hlf hbw hg1 hs1 hko
          by_cases h1 : ko < kx
          · have PF := Lib.hid (HTK.out (.inl (by rw [← HKX.out, ← HKO.out]; exact h1)))
            go_wp2_with fail
            go_round
            case rel => exact ⟨x, _, cnt1, rfl, by omega, by omega, hrg1, hbw1, PF, HLF2⟩
            case measure => rw [M2.out, M1.out]; exact hlt
          · by_cases h2 : kx = ko
            · by_cases h3 : x < out
              · have PF := Lib.hid (HTK.out (.inr ⟨by rw [← HKX.out, ← HKO.out]; exact h2, h3⟩))
                have h4 : (kx == ko) = true := by simp [h2]
                have H2 := Lib.hid h2
                clear h2
                go_wp2_with fail
                go_round
                case rel => exact ⟨x, _, cnt1, rfl, by omega, by omega, hrg1, hbw1, PF, HLF2⟩
                case measure => rw [M2.out, M1.out]; exact hlt
              · have PF := Lib.hid (HKP.out (by rw [← HKX.out, ← HKO.out]; exact h1) (fun _ => by omega))
                have h4 : (kx == ko) = true := by simp [h2]
                have H2 := Lib.hid h2
                clear h2
                go_wp2_with fail
                go_round
                case rel => exact ⟨out, _, cnt1, rfl, by omega, by omega, hrg1, hbw1, PF, HLF2⟩
                case measure => rw [M2.out, M1.out]; exact hlt
            · have PF := Lib.hid (HKP.out (by rw [← HKX.out, ← HKO.out]; exact h1) (fun e => absurd (by rw [HKX.out, HKO.out]; exact e) h2))
              have h4 : (kx == ko) = false := by simp [h2]
              have H2 := Lib.hid h2
              clear h2
              go_wp2_with fail
              go_round
              case rel => exact ⟨out, _, cnt1, rfl, by omega, by omega, hrg1, hbw1, PF, HLF2⟩
              case measure => rw [M2.out, M1.out]; exact hlt
end Go.Proofs.Ytdimlpcbbkokiaa

/- Walk: the reference's Gauge (two arrays of counts, searched from below). -/
namespace Go.Proofs.Ytdimlpcbbkokiaa
open Go.RowKit Go.Shelf
set_option linter.unusedVariables false
attribute [local go_sem] Oper.semAt_some

theorem cntA_snocF (l : List Int) (y : Int) (j : Int) : upd (cntA l) y (cntA l y + 1) j = cntA (l ++ [y]) j := by
  rw [cntA_app, cntA_one]
  unfold upd
  by_cases e : j = y
  · subst e; rw [if_pos rfl, if_pos rfl]
  · rw [if_neg e, if_neg fun h => e h.symm]; omega

set_option maxRecDepth 100000 in
set_option maxHeartbeats 4000000 in
theorem rgauge_ok (W H : Nat) (A : Option Addr) (n c : Nat) (p : Int → Int) (w : World) (hA : ArrB w w.heap.size A n p) (hW : W ≤ 640) (hH : H ≤ 640) (hn : (n : Int) = (W : Int) * H) :
    Calls Try.prog 52 #[.agg #[.int .i64 W, .int .i64 H, .slice A n c]] w (New w fun v _ => ∃ b q, v = .tuple #[.int .i64 b, .int .i64 q] ∧ Mode (cntA ((rLs (fun x y => inkB W H p x y) H W).map dkA)) b ∧ Mode (cntA (ltL (rLs (fun x y => inkB W H p x y) H W) (rLs (fun x y => inkB W H p x y) H W).length)) q) := by
  have CO := Lib.hid fun w' hA' => rcolumns_any W H A n c p w' hA' hW hH hn
  have RO := runsOk_all (p := p) (N := W) (H := H)
  have hLL : (rLs (fun x y => inkB W H p x y) H W).length ≤ 409600 := Nat.le_trans (rLs_len _ _ _) (by rw [Nat.mul_comm]; exact Nat.mul_le_mul hH hW)
  obtain ⟨r0, hr0, hrz0, hrz1, hrz2⟩ := info_parts infoRun
  have hmk := makeI 641 (by omega) (by omega)
  have HA := Lib.hid hA
  generalize rLs (fun x y => inkB W H p x y) H W = L at *
  have HRO := Lib.hid RO
  have DB := Lib.hid fun r hr => dk_bd RO hH (r := r) hr
  have LB := Lib.hid fun i hi y hy => lt_bd RO hH (i := i) hi (y := y) hy
  have LLB := Lib.hid fun y hy => ltL_bd RO hH (Nat.le_refl _) y hy
  have LLN := Lib.hid fun i => ltL_len L i
  clear hA RO hn
  go_enter Try.func52, Try.ntmps52
  go_wp2_with fail
  refine (CO.out _ (HA.out.to (by (repeat (first | exact Below.refl _ _ | assumption | refine Below.drew ?_ | refine below_drewN ?_ _ | refine Below.alloc ?_ (by first | omega | (simp; done) | (simp; omega)) _ | refine Below.setCell ?_ (by first | omega | (simp; done) | (simp; omega)) _ | refine below_setRow ?_ (by first | omega | (simp; done) | (simp; omega)) _ ))))).mono ?_
  rintro e w5 ⟨v5, rfl, hR5, d5⟩
  have b5 : Below w.heap.size w w5 := below_call (by (repeat (first | exact Below.refl _ _ | assumption | refine Below.drew ?_ | refine below_drewN ?_ _ | refine Below.alloc ?_ (by first | omega | (simp; done) | (simp; omega)) _ | refine Below.setCell ?_ (by first | omega | (simp; done) | (simp; omega)) _ | refine below_setRow ?_ (by first | omega | (simp; done) | (simp; omega)) _ ))) (by simp; try omega) d5
  obtain ⟨Ac, cc, rfl, hRA⟩ := hR5.arr
  have HRA := Lib.hid hRA
  clear d5 hRA hR5 CO HA
  go_upto_region 2 with fail
  go_cut [5, 6] (fun a b wx => ∃ g1 g2, a = .slice (some ⟨g1, 0, none⟩) 641 641 ∧ b = .slice (some ⟨g2, 0, none⟩) 641 641 ∧ g1 ≠ g2 ∧ w5.heap.size ≤ g1 ∧ w5.heap.size ≤ g2 ∧
    Blk wx g1 3 (i64s 641 (fun _ => 0)) ∧ Blk wx g2 3 (i64s 641 (fun _ => 0)) ∧ Below w5.heap.size w5 wx)
  case first =>
    go_region
    · go_wp2_with fail
      go_meet
      exact ⟨w5.heap.size, w5.heap.size + 1, rfl, rfl, by omega, by omega, by omega, ((Blk.new _ _ _).alloc _).drew, (Blk.new' (by simp) _ _).drew, by (repeat (first | exact Below.refl _ _ | assumption | refine Below.drew ?_ | refine below_drewN ?_ _ | refine Below.alloc ?_ (by first | omega | (simp; done) | (simp; omega)) _ | refine Below.setCell ?_ (by first | omega | (simp; done) | (simp; omega)) _ | refine below_setRow ?_ (by first | omega | (simp; done) | (simp; omega)) _ ))⟩
    · go_wp2_with fail
      go_meet
      exact ⟨w5.heap.size + 1, w5.heap.size, rfl, rfl, by omega, by omega, by omega, (Blk.new' (by simp) _ _).drew, ((Blk.new _ _ _).alloc _).drew, by (repeat (first | exact Below.refl _ _ | assumption | refine Below.drew ?_ | refine below_drewN ?_ _ | refine Below.alloc ?_ (by first | omega | (simp; done) | (simp; omega)) _ | refine Below.setCell ?_ (by first | omega | (simp; done) | (simp; omega)) _ | refine below_setRow ?_ (by first | omega | (simp; done) | (simp; omega)) _ ))⟩
  case rest =>
  obtain ⟨g1, g2, rfl, rfl, hne, hg1, hg2, kg1, kg2, hb2⟩ := hcut
  clear hmk
  obtain ⟨B, hB⟩ : ∃ B, w5.heap.size = B := ⟨_, rfl⟩
  rw [hB] at hg1 hg2
  have HBB := Lib.hid hB
  clear hB
  go_wp2_with fail
  go_loopw [7] (fun s wr => ∃ i : Nat, i ≤ L.length ∧ s = .int .i64 i ∧ Below w5.heap.size w5 wr ∧ Blk wr g1 3 (i64s 641 (cntA ((L.take i).map dkA))) ∧ Blk wr g2 3 (i64s 641 (cntA (ltL L i)))) (fun s _ => L.length - (intOf s).toNat)
  case atStart => exact ⟨0, by omega, rfl, hb2, kg1.i64conv fun j _ _ => by simp [cntA], kg2.i64conv fun j _ _ => by simp [cntA, ltL]⟩
  case round =>
    obtain ⟨i, hi, rfl, b2, k1, k2⟩ := hrel
    clear kg1 kg2 hb2
    by_cases il : (i : Int) < L.length
    · have ilN : i < L.length := by omega
      obtain ⟨r, hr⟩ : ∃ r, L[i]? = some r := ⟨L[i], List.getElem?_eq_getElem ilN⟩
      have hgd : L.getD i (0, 0, 0) = r := by rw [List.getD_eq_getElem?_getD, hr]; rfl
      have htk : (L.take (i + 1)).map dkA = (L.take i).map dkA ++ [dkA r] := by rw [List.take_add_one, hr]; simp
      obtain ⟨gR, rfl, hgR, rc⟩ := HRA.out (by intro h; rw [h] at ilN; simp at ilN)
      obtain ⟨b1', b2', b3', b4', b5'⟩ := HRO.out.in_ i r hr
      obtain ⟨d1, d2, d3⟩ := rc i r hr
      obtain ⟨D1, D2⟩ := DB.out r (List.mem_of_getElem? hr)
      obtain ⟨D, hD⟩ : ∃ D, dkA r = D := ⟨_, rfl⟩
      have hD' : r.2.2 - r.2.1 + 1 = D := hD
      rw [hD] at htk D1 D2
      have e1 := (b2.cell (p := ⟨gR, i * 3, none⟩) hgR).trans d1
      have e2 := (b2.cell (p := ⟨gR, i * 3 + 1, none⟩) hgR).trans d2
      have e3 := (b2.cell (p := ⟨gR, i * 3 + 2, none⟩) hgR).trans d3
      have hcb := cntA_bd ((L.take i).map dkA) D
      rw [List.length_map, List.length_take] at hcb
      have HTK := Lib.hid htk
      have HGD := Lib.hid hgd
      have HRC := Lib.hid rc
      obtain ⟨rx, rf, rt⟩ := r
      simp only at d1 d2 d3 e1 e2 e3 b1' b2' b3' b4' b5' hD'
      have v1 : IntKind.i64.wrap (rt - rf) = rt - rf := IntWalk.i64_in _ (by omega)
      have v2 : IntKind.i64.wrap (rt - rf + 1) = D := (IntWalk.i64_in _ (by omega)).trans hD'
      obtain ⟨C1, hC1⟩ : ∃ C1, cntA ((L.take i).map dkA) = C1 := ⟨_, rfl⟩
      have STP := Lib.hid fun j => cntA_snocF ((L.take i).map dkA) D j
      rw [hC1] at k1 hcb STP
      have c1 := k1.i64at (i := D) (by omega) (by omega)
      have f1 := k1.frozen D.toNat
      have S1 := Lib.hid (k1.i64set D (by omega) (C1 D + 1))
      obtain ⟨u, hu⟩ : ∃ u, C1 D = u := ⟨_, rfl⟩
      rw [hu] at c1 S1 hcb STP
      have v3 : IntKind.i64.wrap (u + 1) = u + 1 := IntWalk.i64_in _ (by omega)
      have HD := Lib.hid hD
      clear htk hgd rc hD hD' hC1 hu d1 d2 d3
      have D0 : 0 ≤ D := by omega
      have D3 : D < 641 := by omega
      go_upto_region 6 with fail
      go_still_tail 17, (by kernel_rfl)
      change wpList _ _ _ _ _ wr.drew
      have n1 : gR ≠ g1 := fun e => by have := HBB.out; omega
      have q1 : Blk ((wr.setCell ⟨g1, D.toNat, none⟩ (.int .i64 (u + 1))).drew) g1 3 (i64s 641 (cntA ((L.take (i + 1)).map dkA))) :=
        S1.out.drew.i64conv fun j _ _ => (STP.out j).trans (by rw [HTK.out])
      have q2 : Blk ((wr.setCell ⟨g1, D.toNat, none⟩ (.int .i64 (u + 1))).drew) g2 3 (i64s 641 (cntA (ltL L i))) := (k2.far (p := ⟨g1, D.toNat, none⟩) (fun e => hne e.symm) _).drew
      have b3 : Below w5.heap.size w5 ((wr.setCell ⟨g1, D.toNat, none⟩ (.int .i64 (u + 1))).drew) := (b2.setCell (by have := HBB.out; show _ ≤ g1; omega) _).drew
      clear S1 STP HTK e1 e2 e3 v1 v2 v3 D0 D1 D2 D3
      go_upto_region 7 with fail
      generalize (wr.setCell ⟨g1, D.toNat, none⟩ (.int .i64 (u + 1))).drew = w7 at *
      clear c1 f1 k1 k2 b2 hcb HD
      obtain ⟨d1, d2, d3⟩ := HRC.out i _ hr
      have e1 := (b3.cell (p := ⟨gR, i * 3, none⟩) hgR).trans d1
      have e2 := (b3.cell (p := ⟨gR, i * 3 + 1, none⟩) hgR).trans d2
      simp only at e1 e2
      clear d1 d2 d3 n1
      by_cases i0 : 0 < i
      · obtain ⟨j, hj⟩ : ∃ j, i = j + 1 := ⟨i - 1, by omega⟩
        have hj2 : j < L.length := by omega
        have hgj : L.getD (i - 1) (0, 0, 0) = L[j] := by rw [show i - 1 = j by omega, List.getD_eq_getElem?_getD, List.getElem?_eq_getElem hj2]; rfl
        obtain ⟨q, hq⟩ : ∃ q, L[j] = q := ⟨_, rfl⟩
        have hqj : L[j]? = some q := by rw [List.getElem?_eq_getElem hj2, hq]
        rw [hq] at hgj
        have hlt := show ltA L i = if 0 < i ∧ (L.getD (i - 1) (0, 0, 0)).1 = (L.getD i (0, 0, 0)).1 then [(L.getD i (0, 0, 0)).2.1 - (L.getD (i - 1) (0, 0, 0)).2.2 - 1] else [] from rfl
        rw [hgj, HGD.out] at hlt
        obtain ⟨q1', q2', q3', q4', q5'⟩ := HRO.out.in_ j q hqj
        obtain ⟨d1, d2, d3⟩ := HRC.out j q hqj
        obtain ⟨qx, qf, qt⟩ := q
        have x1 := (b3.cell (p := ⟨gR, j * 3, none⟩) hgR).trans d1
        have x3 := (b3.cell (p := ⟨gR, j * 3 + 2, none⟩) hgR).trans d3
        simp only at hlt q1' q2' q3' q4' q5' x1 x3
        have v0 : IntKind.i64.wrap ((i : Int) - 1) = (j : Int) := (IntWalk.i64_in _ (by omega)).trans (by omega)
        have hlj : (j : Int) < L.length := by omega
        have g0 : (0 : Int) < i := by omega
        have hd0 : decide ((0 : Int) < i) = true := decide_eq_true g0
        by_cases ex : qx = rx
        · have ht1 : ltL L (i + 1) = ltL L i ++ [rf - qt - 1] := by rw [ltL, hlt, if_pos ⟨i0, ex⟩]
          obtain ⟨E1, E2⟩ := LB.out i ilN (rf - qt - 1) (by rw [hlt, if_pos ⟨i0, ex⟩]; simp)
          have h4 : (qx == rx) = true := by simp [ex]
          have HEX := Lib.hid ex
          have HT1 := Lib.hid ht1
          clear hlt hq hj d1 d2 d3 hgj ex ht1
          go_cut [53] (fun v wx => v = .bool true ∧ Below w5.heap.size w5 wx ∧ Blk wx g1 3 (i64s 641 (cntA ((L.take (i + 1)).map dkA))) ∧ Blk wx g2 3 (i64s 641 (cntA (ltL L i))))
          case first =>
            go_quiet (fail)
            go_wp2_with fail
            go_meet
            exact ⟨rfl, below_drewN b3 nq, q1.drewN nq, q2.drewN nq⟩
          case rest =>
          obtain ⟨rfl, c3, j1, j2⟩ := hcut
          clear x1 x3 e1 e2 hd0 h4 b3 q1 q2
          obtain ⟨d1, d2, d3⟩ := HRC.out i _ hr
          obtain ⟨t1, t2, t3⟩ := HRC.out j _ hqj
          have e2 := (c3.cell (p := ⟨gR, i * 3 + 1, none⟩) hgR).trans d2
          have x3 := (c3.cell (p := ⟨gR, j * 3 + 2, none⟩) hgR).trans t3
          simp only at e2 x3
          obtain ⟨E, hE⟩ : ∃ E, rf - qt - 1 = E := ⟨_, rfl⟩
          have v4 : IntKind.i64.wrap ((i : Int) - 1) = (j : Int) := v0
          have v5 : IntKind.i64.wrap (rf - qt) = rf - qt := IntWalk.i64_in _ (by omega)
          have v6 : IntKind.i64.wrap (rf - qt - 1) = E := (IntWalk.i64_in _ (by omega)).trans hE
          have HT2 := HT1.out
          rw [hE] at HT2 E1 E2
          have hcb := cntA_bd (ltL L i) E
          have hcn := LLN.out i
          obtain ⟨C2, hC2⟩ : ∃ C2, cntA (ltL L i) = C2 := ⟨_, rfl⟩
          have STP := Lib.hid fun j => cntA_snocF (ltL L i) E j
          rw [hC2] at j2 hcb STP
          have E0 : 0 ≤ E := by omega
          have E3 : E < 641 := by omega
          have c2 := j2.i64at E0 E3
          have f2 := j2.frozen E.toNat
          have S2 := Lib.hid (j2.i64set E E0 (C2 E + 1))
          obtain ⟨z, hz⟩ : ∃ z, C2 E = z := ⟨_, rfl⟩
          rw [hz] at c2 S2 hcb STP
          have v7 : IntKind.i64.wrap (z + 1) = z + 1 := IntWalk.i64_in _ (by omega)
          have HT3 := Lib.hid HT2
          clear v0 d1 d2 d3 t1 t2 t3 hE hC2 hz HT2 HT1 hr hqj
          go_upto_region 8 with fail
          go_still_tail 18, (by kernel_rfl)
          have q1 : Blk ((wc.setCell ⟨g2, E.toNat, none⟩ (.int .i64 (z + 1))).drew) g1 3 (i64s 641 (cntA ((L.take (i + 1)).map dkA))) := (j1.far (p := ⟨g2, E.toNat, none⟩) (fun e => hne e) _).drew
          have q2 : Blk ((wc.setCell ⟨g2, E.toNat, none⟩ (.int .i64 (z + 1))).drew) g2 3 (i64s 641 (cntA (ltL L (i + 1)))) :=
            S2.out.drew.i64conv fun j _ _ => (STP.out j).trans (by rw [HT3.out])
          have b4 : Below w5.heap.size w5 ((wc.setCell ⟨g2, E.toNat, none⟩ (.int .i64 (z + 1))).drew) := (c3.setCell (by have := HBB.out; show _ ≤ g2; omega) _).drew
          clear S2 STP v5 v6 E1 E2 E3 e2 x3 v4
          change wpList _ _ _ _ _ wc.drew
          go_wp2
          go_roundw
          case rel => exact ⟨i + 1, by omega, by go_num, by simpa using b4, by simpa using q1, by simpa using q2⟩
          case measure => simp [intOf]; omega
        · have ht1 : ltL L (i + 1) = ltL L i := by rw [ltL, hlt, if_neg (fun h => ex h.2), List.append_nil]
          have h4 : (qx == rx) = false := by simp [ex]
          have HT1 := Lib.hid ht1
          clear hlt hq hj d1 d2 d3 hgj ex ht1
          go_cut [53] (fun v wx => v = .bool false ∧ Below w5.heap.size w5 wx ∧ Blk wx g1 3 (i64s 641 (cntA ((L.take (i + 1)).map dkA))) ∧ Blk wx g2 3 (i64s 641 (cntA (ltL L i))))
          case first =>
            go_quiet (fail)
            go_wp2_with fail
            go_meet
            exact ⟨rfl, below_drewN b3 nq, q1.drewN nq, q2.drewN nq⟩
          case rest =>
          obtain ⟨rfl, c3, j1, j2⟩ := hcut
          clear x1 x3 e1 e2 hd0 h4 b3 q1 q2
          go_wp2_with fail
          go_round
          case rel => exact ⟨i + 1, by omega, by go_num, c3, j1, HT1.out ▸ j2⟩
          case measure => simp [intOf]; omega
      · have hd0 : decide ((0 : Int) < i) = false := decide_eq_false (by omega)
        have ht1 : ltL L (i + 1) = ltL L i := by
          rw [ltL]
          show ltL L i ++ (if 0 < i ∧ _ then _ else []) = _
          rw [if_neg (fun h => i0 h.1), List.append_nil]
        have HT1 := Lib.hid ht1
        have hd1 : decide (0 < i) = false := decide_eq_false i0
        have hig : ¬ (0 : Int) < i := by omega
        clear ht1 i0
        go_cut [53] (fun v wx => v = .bool false ∧ Below w5.heap.size w5 wx ∧ Blk wx g1 3 (i64s 641 (cntA ((L.take (i + 1)).map dkA))) ∧ Blk wx g2 3 (i64s 641 (cntA (ltL L i))))
        case first =>
          go_quiet (fail)
          go_wp2_with fail
          go_meet
          exact ⟨rfl, below_drewN b3 nq, q1.drewN nq, q2.drewN nq⟩
        case rest =>
        obtain ⟨rfl, c3, j1, j2⟩ := hcut
        clear e1 e2 hd0 b3 q1 q2
        go_wp2_with fail
        go_round
        case rel => exact ⟨i + 1, by omega, by go_num, c3, j1, HT1.out ▸ j2⟩
        case measure => simp [intOf]; omega
    · have hil : i = L.length := by omega
      rw [hil, List.take_length] at k1
      rw [hil] at k2
      have M1 := Lib.hid fun b hb => StB.mode (C := cntA (L.map dkA)) (b := b) hb fun x hx => cntA_none fun y hy => by
        obtain ⟨r, hr, rfl⟩ := List.mem_map.1 hy
        have := DB.out r hr
        omega
      have M2 := Lib.hid fun b hb => StB.mode (C := cntA (ltL L L.length)) (b := b) hb fun x hx => cntA_none fun y hy => by
        have := LLB.out y hy
        omega
      have BD1 := Lib.hid fun x => cntA_bd (L.map dkA) x
      have BD2 := Lib.hid fun x => cntA_bd (ltL L L.length) x
      have Z1 := Lib.hid (show cntA (L.map dkA) 0 = 0 from cntA_none fun y hy => by
        obtain ⟨r, hr, rfl⟩ := List.mem_map.1 hy
        have := DB.out r hr
        omega)
      have Z2 := Lib.hid (show cntA (ltL L L.length) 0 = 0 from cntA_none fun y hy => by
        have := LLB.out y hy
        omega)
      obtain ⟨C1, hC1⟩ : ∃ C1, cntA (L.map dkA) = C1 := ⟨_, rfl⟩
      obtain ⟨C2, hC2⟩ : ∃ C2, cntA (ltL L L.length) = C2 := ⟨_, rfl⟩
      rw [hC1] at k1 M1 Z1
      rw [hC2] at k2 M2 Z2
      have HC1 := Lib.hid hC1; have HC2 := Lib.hid hC2
      clear hC1 hC2 BD1 BD2
      clear hil LB DB LLB HRO HRA LLN
      go_wp2_with fail
      go_loopw [10, 8, 9] (fun s u v wr => ∃ k b q : Int, 1 ≤ k ∧ k ≤ 641 ∧ s = .int .i64 k ∧ u = .int .i64 b ∧ v = .int .i64 q ∧ Hid (StB C1 k b) ∧ Hid (StB C2 k q) ∧ Below w5.heap.size w5 wr ∧ Blk wr g1 3 (i64s 641 C1) ∧ Blk wr g2 3 (i64s 641 C2)) (fun s _ _ _ => (641 - intOf s).toNat)
      case atStart => exact ⟨1, 0, 0, by omega, by omega, rfl, rfl, rfl, Lib.hid StB.start, Lib.hid StB.start, b2, k1, k2⟩
      case round =>
        obtain ⟨k, b, q, hk1, hk2, rfl, rfl, rfl, s1, s2, b3, q1, q2⟩ := hrel
        clear b2 k1 k2
        by_cases kl : k ≤ 640
        · obtain ⟨x1, x2⟩ := s1.out.bd hk1
          obtain ⟨y1, y2⟩ := s2.out.bd hk1
          have K0 : 0 ≤ k := by omega
          have K1 : k < 641 := by omega
          have X1 : b < 641 := by omega
          have Y1 : q < 641 := by omega
          have a1 := q1.i64at K0 K1
          have a2 := q1.i64at x1 X1
          have a3 := q2.i64at K0 K1
          have a4 := q2.i64at y1 Y1
          have T1 := Lib.hid fun h => s1.out.take hk1 Z1.out h
          have P1 := Lib.hid fun h => s1.out.keep Z1.out h
          have T2 := Lib.hid fun h => s2.out.take hk1 Z2.out h
          have P2 := Lib.hid fun h => s2.out.keep Z2.out h
          clear s1 s2 hk1 M1 M2
          generalize C1 k = c1 at *
          generalize C2 k = c2 at *
          generalize C1 b = u at *
          generalize C2 q = v at *
          by_cases h1 : u < c1
          · have N1 := Lib.hid (T1.out h1)
            by_cases h2 : v < c2
            · have N2 := Lib.hid (T2.out h2)
              clear T1 T2 P1 P2
              go_upto_region 13 with fail
              go_quiet (fail)
              have b4 := below_drewN b3 nq
              replace q1 := q1.drewN nq
              replace q2 := q2.drewN nq
              have a3' : (wr.drewN nq).cell? _ = _ := a3
              have a4' : (wr.drewN nq).cell? _ = _ := a4
              clear a1 a2 a3 a4 b3
              generalize wr.drewN nq = w7 at *
              go_upto_region 15 with fail
              go_quiet (fail)
              have b5 := below_drewN b4 nq
              replace q1 := q1.drewN nq
              replace q2 := q2.drewN nq
              go_wp2_with fail
              go_roundw
              case rel => exact ⟨k + 1, k, k, by omega, by omega, by go_num, rfl, rfl, N1, N2, b5, q1, q2⟩
              case measure => simp [intOf]; omega
            · have N2 := Lib.hid (P2.out h2)
              clear T1 T2 P1 P2
              go_upto_region 13 with fail
              go_quiet (fail)
              have b4 := below_drewN b3 nq
              replace q1 := q1.drewN nq
              replace q2 := q2.drewN nq
              have a3' : (wr.drewN nq).cell? _ = _ := a3
              have a4' : (wr.drewN nq).cell? _ = _ := a4
              clear a1 a2 a3 a4 b3
              generalize wr.drewN nq = w7 at *
              go_upto_region 15 with fail
              go_quiet (fail)
              have b5 := below_drewN b4 nq
              replace q1 := q1.drewN nq
              replace q2 := q2.drewN nq
              go_wp2_with fail
              go_roundw
              case rel => exact ⟨k + 1, k, q, by omega, by omega, by go_num, rfl, rfl, N1, N2, b5, q1, q2⟩
              case measure => simp [intOf]; omega
          · have N1 := Lib.hid (P1.out h1)
            by_cases h2 : v < c2
            · have N2 := Lib.hid (T2.out h2)
              clear T1 T2 P1 P2
              go_upto_region 13 with fail
              go_quiet (fail)
              have b4 := below_drewN b3 nq
              replace q1 := q1.drewN nq
              replace q2 := q2.drewN nq
              have a3' : (wr.drewN nq).cell? _ = _ := a3
              have a4' : (wr.drewN nq).cell? _ = _ := a4
              clear a1 a2 a3 a4 b3
              generalize wr.drewN nq = w7 at *
              go_upto_region 15 with fail
              go_quiet (fail)
              have b5 := below_drewN b4 nq
              replace q1 := q1.drewN nq
              replace q2 := q2.drewN nq
              go_wp2_with fail
              go_roundw
              case rel => exact ⟨k + 1, b, k, by omega, by omega, by go_num, rfl, rfl, N1, N2, b5, q1, q2⟩
              case measure => simp [intOf]; omega
            · have N2 := Lib.hid (P2.out h2)
              clear T1 T2 P1 P2
              go_upto_region 13 with fail
              go_quiet (fail)
              have b4 := below_drewN b3 nq
              replace q1 := q1.drewN nq
              replace q2 := q2.drewN nq
              have a3' : (wr.drewN nq).cell? _ = _ := a3
              have a4' : (wr.drewN nq).cell? _ = _ := a4
              clear a1 a2 a3 a4 b3
              generalize wr.drewN nq = w7 at *
              go_upto_region 15 with fail
              go_quiet (fail)
              have b5 := below_drewN b4 nq
              replace q1 := q1.drewN nq
              replace q2 := q2.drewN nq
              go_wp2_with fail
              go_roundw
              case rel => exact ⟨k + 1, b, q, by omega, by omega, by go_num, rfl, rfl, N1, N2, b5, q1, q2⟩
              case measure => simp [intOf]; omega
        · have hk : k = 641 := by omega
          have R1 := M1.out b (hk ▸ s1.out)
          have R2 := M2.out q (hk ▸ s2.out)
          clear s1 s2 hk M1 M2
          go_wp2
          refine bodyPost_ret (v := .tuple #[.int .i64 b, .int .i64 q]) (by simp [results, Try.results52, go_sem]) rfl ?_
          exact ⟨_, rfl, ⟨b, q, rfl, by rw [HC1.out]; exact R1, by rw [HC2.out]; exact R2⟩, b5.trans (b3.mono b5.size)⟩
end Go.Proofs.Ytdimlpcbbkokiaa

/- Plain: the runs of a line, found place by place. No program in sight. -/
namespace Go.Proofs.Ytdimlpcbbkokiaa
open Go.RowKit
set_option linter.unusedVariables false
section
variable {a : Nat → Bool} {len line f i : Nat}
theorem stB_in (h1 : 0 < i) (h2 : a (i - 1) = true) : stB a i = false := by
  unfold stB; rw [h2, decide_eq_true h1]; simp
theorem stB_no (h : a i = false) : stB a i = false := by unfold stB; rw [h]; rfl
theorem stB_yes (h : a i = true) (h2 : i = 0 ∨ a (i - 1) = false) : stB a i = true := by
  unfold stB
  rw [h]
  rcases h2 with rfl | h2
  · simp
  · rw [h2]; simp
theorem rnA_no (h : stB a i = false) : rnA a len line i = [] := by unfold rnA; rw [if_neg (by rw [h]; simp)]
theorem rL_no (h : stB a i = false) : rL a len line (i + 1) = rL a len line i := by rw [rL, rnA_no h, List.append_nil]
/-- within a run no run begins -/
theorem rL_skip (hs : stB a f = true) (ha : ∀ j, f ≤ j → j < i → a j = true) : ∀ {k : Nat}, f < k → k ≤ i → rL a len line k = rL a len line f ++ [((line : Int), (f : Int), (enB a (len - 1 - f) f : Int))]
  | 0, h, _ => by omega
  | k + 1, h, hk => by
    by_cases e : k = f
    · subst e
      rw [rL]
      unfold rnA
      rw [if_pos hs]
    · rw [rL_no (stB_in (by omega) (ha (k - 1) (by omega) (by omega))), rL_skip hs ha (by omega) (by omega)]
/-- where a run ends -/
theorem enB_run : ∀ {k f : Nat}, f + k + 1 = len → f < i → i ≤ len → (∀ j, f ≤ j → j < i → a j = true) → (i < len → a i = false) → enB a k f = i - 1
  | 0, f, hk, h1, h2, _, _ => by show f = i - 1; omega
  | k + 1, f, hk, h1, h2, ha, he => by
    show (if a (f + 1) = true then enB a k (f + 1) else f) = i - 1
    by_cases e : i = f + 1
    · subst e
      rw [he (by omega), if_neg (by simp)]; omega
    · rw [ha (f + 1) (by omega) (by omega), if_pos rfl]
      exact enB_run (by omega) (by omega) h2 (fun j a b => ha j (by omega) b) he
end
end Go.Proofs.Ytdimlpcbbkokiaa

/- Walks: the runs of the columns of an image (image.Columns: an iterator with a closure). -/
namespace Go.Proofs.Ytdimlpcbbkokiaa
open Go.RowKit Go.Shelf
set_option linter.unusedVariables false
attribute [local go_sem] Oper.semAt_some

set_option maxHeartbeats 2000000 in
theorem at_in (W H : Nat) (A : Option Addr) (n c x y : Nat) (p : Int → Int) (w : World) (hA : ArrB w w.heap.size A n p) (hW : W ≤ 640) (hH : H ≤ 640) (hn : (n : Int) = (W : Int) * H) (hx : x < W) (hy : y < H) :
    Calls Try.prog 116 #[.agg #[.int .i64 W, .int .i64 H, .slice A n c], .int .i64 x, .int .i64 y] w fun e w' => e = .returned (.int .u8 (p ((y : Int) * W + x))) ∧ Below w.heap.size w w' := by
  have h8 := idx_lt (x := (x : Int)) (y := (y : Int)) (W := W) (H := H) (by omega) (by omega) (by omega) (by omega)
  have m2 := (area_bd (W := W) (H := H) (by omega) (by omega) (by omega) (by omega)).2
  obtain ⟨e, he⟩ : ∃ e : Nat, (y : Int) * W + x = e := ⟨((y : Int) * W + x).toNat, by omega⟩
  have hen : (e : Int) < n := by
    have h9 := h8.2.1
    rw [he, Int.mul_comm, ← hn] at h9
    exact h9
  have v1 : IntKind.i64.wrap ((y : Int) * W) = (y : Int) * W := IntWalk.i64_in _ (by have := Int.mul_nonneg (show (0 : Int) ≤ y by omega) (show (0 : Int) ≤ W by omega); omega)
  have v2 : IntKind.i64.wrap ((y : Int) * W + x) = (e : Int) := (IntWalk.i64_in _ (by omega)).trans he
  obtain ⟨b, off, rfl, hb, hc⟩ := ArrB.at_ hA (i := (e : Int)) (by omega) hen
  rw [Int.toNat_natCast] at hc
  rw [he]
  have xl : (x : Int) < W := by omega
  have yl : (y : Int) < H := by omega
  generalize p e = v at *
  have hc2 : (w.alloc (.cells #[.int .i64 W, .int .i64 H, .slice (some ⟨b, off, none⟩) n c] 24)).cell? ⟨b, off + e, none⟩ = some (.int .u8 v) := (((Below.refl _ w).alloc (Nat.le_refl _) _).cell (p := ⟨b, off + e, none⟩) hb).trans hc
  clear hA hn h8 he
  go_enter Try.func116, Try.ntmps116
  go_wp2
  go_ret
  exact ⟨rfl, by (repeat (first | exact Below.refl _ _ | assumption | refine Below.drew ?_ | refine below_drewN ?_ _ | refine Below.alloc ?_ (by first | omega | (simp; done) | (simp; omega)) _ | refine Below.setCell ?_ (by first | omega | (simp; done) | (simp; omega)) _ | refine below_setRow ?_ (by first | omega | (simp; done) | (simp; omega)) _ ))⟩
set_option maxHeartbeats 1000000 in
theorem col1_any (W H : Nat) (A : Option Addr) (n c x y bi : Nat) (p : Int → Int) (w : World) (hk : Blk w bi 24 #[.int .i64 W, .int .i64 H, .slice A n c]) (hA : ArrB w w.heap.size A n p) (hW : W ≤ 640) (hH : H ≤ 640) (hn : (n : Int) = (W : Int) * H) (hx : x < W) (hy : y < H) (hp : p ((y : Int) * W + x) = 0 ∨ p ((y : Int) * W + x) = 1) :
    Calls Try.prog 115 #[.int .i64 x, .int .i64 y, .pointer (some ⟨bi, 0, none⟩)] w fun e w' => e = .returned (.bool (inkB W H p x y)) ∧ Below w.heap.size w w' := by
  have AT := Lib.hid (at_in W H A n c x y p w hA hW hH hn hx hy)
  rw [inkB_in (by omega) (by omega) (by omega) (by omega)]
  obtain ⟨p1, p2, p3⟩ := hk.cells3
  clear hA hn
  generalize p ((y : Int) * W + x) = v at *
  rcases hp with rfl | rfl
  · go_enter Try.func115, Try.ntmps115
    go_wp2_with fail
    refine AT.out.mono ?_
    rintro e w2 ⟨rfl, hb2⟩
    go_wp2
    go_ret
    exact ⟨rfl, hb2⟩
  · go_enter Try.func115, Try.ntmps115
    go_wp2_with fail
    refine AT.out.mono ?_
    rintro e w2 ⟨rfl, hb2⟩
    go_wp2
    go_ret
    exact ⟨rfl, hb2⟩
theorem runs_fn (l n : Int) (fn : Fn) (lb : Array Value) (w : World) : Calls Try.prog 114 #[.int .i64 l, .int .i64 n, .func fn #[] lb] w fun e w' => e = .returned (.func (.func 140) #[] #[.pointer (some ⟨w.heap.size, 0, none⟩), .pointer (some ⟨w.heap.size + 1, 0, none⟩), .pointer (some ⟨w.heap.size + 1 + 1, 0, none⟩)]) ∧
    Below w.heap.size w w' ∧ Blk w' w.heap.size 3 #[.int .i64 l] ∧ Blk w' (w.heap.size + 1) 3 #[.int .i64 n] ∧ (∃ T, Blk w' (w.heap.size + 1 + 1) T #[.func fn #[] lb]) ∧ w'.heap.size = w.heap.size + 3 := by
  go_enter Try.func114, Try.ntmps114
  have hmf : ∀ (fn : Fn) (first cap : Array Value) (w : World), (Instr.makeFunc fn first cap).run Try.prog w = .ok (.func fn first cap) w := fun _ _ _ _ => rfl
  go_wp2
  go_ret
  exact ⟨rfl, by (repeat (first | exact Below.refl _ _ | assumption | refine Below.drew ?_ | refine below_drewN ?_ _ | refine Below.alloc ?_ (by first | omega | (simp; done) | (simp; omega)) _ | refine Below.setCell ?_ (by first | omega | (simp; done) | (simp; omega)) _ | refine below_setRow ?_ (by first | omega | (simp; done) | (simp; omega)) _ )), ((Blk.new _ _ _).alloc _).alloc _, (Blk.new' (by simp) _ _).alloc _, ⟨_, Blk.new' (by simp) _ _⟩, by first | rfl | simp | (rw [World.size_alloc, World.size_alloc, World.size_alloc])⟩

/-- all blocks below B0 but b5 are as they were -/
structure KpJ (B0 b5 : Nat) (W1 W2 : World) : Prop where
  size : W1.heap.size ≤ W2.heap.size
  same : ∀ j, j < B0 → j ≠ b5 → W2.heap[j]? = W1.heap[j]?
theorem KpJ.trans {B0 b5 : Nat} {A B C : World} (h : KpJ B0 b5 A B) (h' : KpJ B0 b5 B C) : KpJ B0 b5 A C := ⟨Nat.le_trans h.size h'.size, fun j a b => (h'.same j a b).trans (h.same j a b)⟩
theorem KpJ.below {B0 b5 : Nat} {A B C : World} (h : KpJ B0 b5 A B) (hB : B0 ≤ B.heap.size) (h' : Below B.heap.size B C) : KpJ B0 b5 A C := ⟨Nat.le_trans h.size h'.size, fun j a b => (h'.block j (by omega)).trans (h.same j a b)⟩
theorem ArrB.moveH {w w' : World} {B n : Nat} {A : Option Addr} {q : Int → Int} (h : ArrB w B A n q) (hk : ∀ j, j < B → w'.heap[j]? = w.heap[j]?) : ArrB w' B A n q := fun hn => by
  obtain ⟨b, off, e, hb, hc⟩ := h hn
  refine ⟨b, off, e, hb, fun i i0 i1 => ?_⟩
  rw [← hc i i0 i1]
  unfold World.cell?
  rw [hk b hb]

set_option maxRecDepth 100000 in
set_option maxHeartbeats 4000000 in
theorem cols_stops (n0 W H n c bl bn bf bi b5 B1 T : Nat) (A : Option Addr) (p : Int → Int) (w : World) (h10 : 1 ≤ n0) (hW : W ≤ 640) (hH : H ≤ 640) (hn : (n : Int) = (W : Int) * H) (hp : ∀ i : Int, 0 ≤ i → i < n → p i = 0 ∨ p i = 1)
    (kl : Blk w bl 3 #[.int .i64 W]) (kn : Blk w bn 3 #[.int .i64 H]) (kf : Blk w bf T #[.func (.func 115) #[] #[.pointer (some ⟨bi, 0, none⟩)]]) (ki : Blk w bi 24 #[.int .i64 W, .int .i64 H, .slice A n c]) (hA : ArrB w B1 A n p)
    (n1 : bl ≠ b5) (n2 : bn ≠ b5) (n3 : bf ≠ b5) (n4 : bi ≠ b5) (z1 : B1 ≤ b5) (z2 : B1 ≤ bi) :
    SeqStopsK Fence.wide n0 Try.prog 140 #[.pointer (some ⟨bl, 0, none⟩), .pointer (some ⟨bn, 0, none⟩), .pointer (some ⟨bf, 0, none⟩)] (fun r : Rn => #[.agg #[.int .i64 r.1, .int .i64 r.2.1, .int .i64 r.2.2]])
      (KpJ w.heap.size b5) (fun xs => xs = rLs (fun x y => inkB W H p x y) H W) (fun _ => True) (W * 640 + 1) w := fun l J Jx Wd hbW hJ hJx hY h0 => by
  have CL := Lib.hid fun (x y : Nat) (hx : x < W) (hy : y < H) w' (hk : Blk w' bi 24 #[.int .i64 W, .int .i64 H, .slice A n c]) (hA' : ArrB w' w'.heap.size A n p) => col1_any W H A n c x y bi p w' hk hA' hW hH hn hx hy (hp _ (idx_lt (x := (x : Int)) (y := (y : Int)) (W := W) (H := H) (by omega) (by omega) (by omega) (by omega)).1 (by
    have := (idx_lt (x := (x : Int)) (y := (y : Int)) (W := W) (H := H) (by omega) (by omega) (by omega) (by omega)).2.1
    rw [hn, Int.mul_comm (W : Int) H]; exact this))
  have HY := Lib.hid hY; have HJ := Lib.hid hJ
  have HAA := Lib.hid hA
  have kp0 : KpJ w.heap.size b5 w Wd := ⟨hbW.size, fun j hj _ => hbW.block j hj⟩
  have zl := kl.lt; have zn := kn.lt; have zf := kf.lt; have zi := ki.lt
  clear hY hJ hA hp hn hbW hJx
  obtain ⟨B0, hB0⟩ : ∃ B0, w.heap.size = B0 := ⟨_, rfl⟩
  rw [hB0] at kp0 zl zn zf zi
  have HB0 := Lib.hid hB0
  clear hB0
  refine callsIn_of_wp Try.func140 rfl trivial ?_ rfl
  simp only [Try.ntmps140, List.size_toArray, List.length_cons, List.length_nil, Nat.reduceAdd, Nat.reduceSub, Array.replicate_succ, Array.replicate_zero, List.push_toArray, List.append_toArray, List.nil_append, List.cons_append]
  have r1 := (kl.move (kp0.same bl zl n1)).cells1
  gi_wp2_with (refine wpListIn_skip rfl rfl ?_; simp only [Act.put, List.setIfInBounds_toArray, List.set_cons_succ, List.set_cons_zero])
  clear r1
  gi_loopw [10] (fun s wr => ∃ x : Nat, x ≤ W ∧ s = .int .i64 x ∧ KpJ B0 b5 w wr ∧ J (rLs (fun x y => inkB W H p x y) H x) wr) (fun s _ => W - (intOf s).toNat)
  case atStart => exact ⟨0, by omega, rfl, kp0, h0⟩
  case round =>
    obtain ⟨x, hx, rfl, kp, hj⟩ := hrel
    by_cases xl : (x : Int) < W
    · have r2 := (kn.move (kp.same bn zn n2)).cells1
      have vH : IntKind.i64.wrap ((H : Int) + 1) = ((H + 1 : Nat) : Int) := (IntWalk.i64_in _ (by omega)).trans (by omega)
      gi_wp2_with (refine wpListIn_skip rfl rfl ?_; simp only [Act.put, List.setIfInBounds_toArray, List.set_cons_succ, List.set_cons_zero])
      obtain ⟨a, ha⟩ : ∃ a : Nat → Bool, a = fun y : Nat => inkB W H p x y := ⟨_, rfl⟩
      have HAX := Lib.hid ha
      have LEN := Lib.hid fun (f : Nat) (hf : f ≤ H) => (show (rLs (fun x y => inkB W H p x y) H x ++ rL a H x f).length ≤ W * 640 from by
        rw [List.length_append]
        have h1 := rLs_len (fun x y => inkB W H p x y) H x
        have h2 := rL_len a H x f
        have h3 : (x + 1) * H ≤ W * H := Nat.mul_le_mul_right H (by omega)
        have h4 : W * H ≤ W * 640 := Nat.mul_le_mul_left W hH
        rw [Nat.succ_mul] at h3
        omega)
      clear ha r2
      gi_loopw [15, 6] (fun s fr wr => ∃ i : Nat, i ≤ H + 1 ∧ s = .int .i64 i ∧ KpJ B0 b5 w wr ∧
        ((fr = .int .i64 (-1) ∧ Hid (i = 0 ∨ H < i ∨ a (i - 1) = false) ∧ J (rLs (fun x y => inkB W H p x y) H x ++ rL a H x (min i H)) wr) ∨
         (∃ f : Nat, fr = .int .i64 f ∧ f < i ∧ i ≤ H ∧ Hid (stB a f = true ∧ ∀ j, f ≤ j → j < i → a j = true) ∧ J (rLs (fun x y => inkB W H p x y) H x ++ rL a H x f) wr))) (fun s _ _ => H + 1 - (intOf s).toNat)
      case atStart => exact ⟨0, by omega, rfl, kp, .inl ⟨rfl, Lib.hid (.inl rfl), by simpa [rL] using hj⟩⟩
      case round =>
        obtain ⟨i, hi, rfl, kq, hst⟩ := hrel
        have r2 := (kn.move (kq.same bn zn n2)).cells1
        have r3 := (kf.move (kq.same bf zf n3)).cells1
        by_cases il : (i : Int) < ((H + 1 : Nat) : Int)
        · by_cases ih : (i : Int) < H
          · have ki' := ki.move (kq.same bi zi n4)
            have hA' : ArrB wr wr.heap.size A n p := (HAA.out.moveH fun j hj => kq.same j (by omega) (by omega)).more (by have := ki'.lt; omega)
            have CX := Lib.hid (CL.out x i (by omega) (by omega) wr ki' hA')
            obtain ⟨ib, hib⟩ : ∃ ib, inkB W H p x i = ib := ⟨_, rfl⟩
            have HIB := Lib.hid (show a i = ib from by rw [HAX.out]; exact hib)
            rw [hib] at CX
            clear hib ki' hA'
            rcases hst with ⟨rfl, hpr, hJ1⟩ | ⟨f, rfl, hfi, hiH, hrun, hJ1⟩
            · gi_wp2_with fail
              refine ⟨trivial, ?_⟩
              refine (callsIn_wide.2 CX.out).mono ?_
              rintro e w5 ⟨rfl, hb5⟩
              have kq5 := kq.below (by have := kq.size; have := HB0.out; omega) hb5
              have hJ5 := Lib.hid (HJ.out _ wr w5 none hJ1 ⟨hb5.os, hb5.tape, hb5.output, hb5.size, fun k hk _ => hb5.block k hk⟩ (fun r e => by cases e))
              clear hJ1 r2 r3 CX hb5
              cases ib
              · gi_wp2_with (refine wpListIn_skip rfl rfl ?_; simp only [Act.put, List.setIfInBounds_toArray, List.set_cons_succ, List.set_cons_zero])
                go_roundw
                case rel => exact ⟨i + 1, by omega, by go_num, kq5, .inl ⟨rfl, Lib.hid (.inr (.inr HIB.out)), by
                  have h := hJ5.out
                  rw [show min (i + 1) H = i + 1 by omega, rL_no (stB_no HIB.out)]
                  rwa [show min i H = i by omega] at h⟩⟩
                case measure => simp [intOf]; omega
              · gi_wp2_with (refine wpListIn_skip rfl rfl ?_; simp only [Act.put, List.setIfInBounds_toArray, List.set_cons_succ, List.set_cons_zero])
                go_roundw
                case rel => exact ⟨i + 1, by omega, by go_num, kq5, .inr ⟨i, rfl, by omega, by omega, Lib.hid ⟨stB_yes HIB.out (by rcases hpr.out with h | h | h; exact .inl h; omega; exact .inr h), fun j h1 h2 => by
                  obtain rfl : j = i := by omega
                  exact HIB.out⟩, by
                  have h := hJ5.out
                  rwa [show min i H = i by omega] at h⟩⟩
                case measure => simp [intOf]; omega
            · have hf0 : (0 : Int) ≤ f := by omega
              gi_wp2_with fail
              refine ⟨trivial, ?_⟩
              refine (callsIn_wide.2 CX.out).mono ?_
              rintro e w5 ⟨rfl, hb5⟩
              have kq5 := kq.below (by have := kq.size; have := HB0.out; omega) hb5
              have hJ5 := HJ.out _ wr w5 none hJ1 ⟨hb5.os, hb5.tape, hb5.output, hb5.size, fun k hk _ => hb5.block k hk⟩ (fun r e => by cases e)
              clear hJ1 r2 r3 CX hb5
              cases ib
              · obtain ⟨t', ht'⟩ : ∃ t', i = t' + 1 := ⟨i - 1, by omega⟩
                have u1 : IntKind.i64.wrap ((i : Int) - 1) = (t' : Int) := (IntWalk.i64_in _ (by omega)).trans (by omega)
                obtain ⟨f1, q1, a1, b1, hy1, hR1⟩ := HY.out _ ((x : Int), (f : Int), (t' : Int)) w5 hJ5 (by have := LEN.out f (by omega); omega)
                have RS := Lib.hid (show rL a H x (min (i + 1) H) = rL a H x f ++ [((x : Int), (f : Int), (t' : Int))] from by
                  rw [show min (i + 1) H = i + 1 by omega, rL_no (stB_no HIB.out), rL_skip hrun.out.1 hrun.out.2 hfi (Nat.le_refl _), enB_run (len := H) (by omega) hfi (by omega) hrun.out.2 (fun _ => HIB.out), show i - 1 = t' by omega])
                have HTT := Lib.hid ht'
                clear hJ5 ht'
                simp only at hy1
                gi_wp2_with (refine wpListIn_skip rfl rfl ?_; simp only [Act.put, List.setIfInBounds_toArray, List.set_cons_succ, List.set_cons_zero])
                refine hR1.mono ?_
                rintro e W1 (⟨rfl, hJ6, hk6⟩ | ⟨rfl, hx1⟩)
                · have kq6 := kq5.trans (HB0.out ▸ hk6)
                  gi_wp2_with (refine wpListIn_skip rfl rfl ?_; simp only [Act.put, List.setIfInBounds_toArray, List.set_cons_succ, List.set_cons_zero])
                  go_roundw
                  case rel => exact ⟨i + 1, by omega, by go_num, kq6, .inl ⟨rfl, Lib.hid (.inr (.inr HIB.out)), by rw [RS.out, ← List.append_assoc]; exact hJ6⟩⟩
                  case measure => simp [intOf]; omega
                · gi_wp2_with (refine wpListIn_skip rfl rfl ?_; simp only [Act.put, List.setIfInBounds_toArray, List.set_cons_succ, List.set_cons_zero])
                  refine bodyPost_ret (results_none rfl _ _ _) rfl ?_
                  exact ⟨⟨_, rfl⟩, .inr ⟨_, trivial, hx1⟩⟩
              · gi_wp2_with (refine wpListIn_skip rfl rfl ?_; simp only [Act.put, List.setIfInBounds_toArray, List.set_cons_succ, List.set_cons_zero])
                go_roundw
                case rel => exact ⟨i + 1, by omega, by go_num, kq5, .inr ⟨f, rfl, by omega, by omega, Lib.hid ⟨hrun.out.1, fun j h1 h2 => by
                  by_cases e : j = i
                  · subst e; exact HIB.out
                  · exact hrun.out.2 j h1 (by omega)⟩, hJ5⟩⟩
                case measure => simp [intOf]; omega
          · have hiH : i = H := by omega
            rcases hst with ⟨rfl, hpr, hJ1⟩ | ⟨f, rfl, hfi, hiH2, hrun, hJ1⟩
            · have HJ1 := Lib.hid hJ1
              have HIH := Lib.hid hiH
              clear hJ1 hiH
              gi_wp2_with (refine wpListIn_skip rfl rfl ?_; simp only [Act.put, List.setIfInBounds_toArray, List.set_cons_succ, List.set_cons_zero])
              go_roundw
              case rel => exact ⟨i + 1, by omega, by go_num, kq, .inl ⟨rfl, Lib.hid (.inr (.inl (by have := HIH.out; omega))), by
                have h := HJ1.out
                rw [show min (i + 1) H = min i H by have := HIH.out; omega]
                exact h⟩⟩
              case measure => simp [intOf]; omega
            · have hf0 : (0 : Int) ≤ f := by omega
              obtain ⟨t', ht'⟩ : ∃ t', i = t' + 1 := ⟨i - 1, by omega⟩
              have u1 : IntKind.i64.wrap ((i : Int) - 1) = (t' : Int) := (IntWalk.i64_in _ (by omega)).trans (by omega)
              obtain ⟨f1, q1, a1, b1, hy1, hR1⟩ := HY.out _ ((x : Int), (f : Int), (t' : Int)) wr hJ1 (by have := LEN.out f (by omega); omega)
              have RS := Lib.hid (show rL a H x (min (i + 1) H) = rL a H x f ++ [((x : Int), (f : Int), (t' : Int))] from by
                rw [show min (i + 1) H = i by omega, rL_skip hrun.out.1 hrun.out.2 hfi (Nat.le_refl _), enB_run (len := H) (by omega) hfi (by omega) hrun.out.2 (fun h => by omega), show i - 1 = t' by omega])
              have HTT := Lib.hid ht'
              have HIH := Lib.hid hiH
              clear hJ1 ht' hiH
              simp only at hy1
              gi_wp2_with (refine wpListIn_skip rfl rfl ?_; simp only [Act.put, List.setIfInBounds_toArray, List.set_cons_succ, List.set_cons_zero])
              refine hR1.mono ?_
              rintro e W1 (⟨rfl, hJ6, hk6⟩ | ⟨rfl, hx1⟩)
              · have kq6 := kq.trans (HB0.out ▸ hk6)
                gi_wp2_with (refine wpListIn_skip rfl rfl ?_; simp only [Act.put, List.setIfInBounds_toArray, List.set_cons_succ, List.set_cons_zero])
                go_roundw
                case rel => exact ⟨i + 1, by omega, by go_num, kq6, .inl ⟨rfl, Lib.hid (.inr (.inl (by have := HIH.out; omega))), by rw [RS.out, ← List.append_assoc]; exact hJ6⟩⟩
                case measure => simp [intOf]; omega
              · gi_wp2_with (refine wpListIn_skip rfl rfl ?_; simp only [Act.put, List.setIfInBounds_toArray, List.set_cons_succ, List.set_cons_zero])
                refine bodyPost_ret (results_none rfl _ _ _) rfl ?_
                exact ⟨⟨_, rfl⟩, .inr ⟨_, trivial, hx1⟩⟩
        · have hiH : i = H + 1 := by omega
          rcases hst with ⟨rfl, hpr, hJ1⟩ | ⟨f, rfl, hfi, hiH2, hrun, hJ1⟩
          · have HJ1 := Lib.hid (show J (rLs (fun x y => inkB W H p x y) H (x + 1)) wr from by
              rw [hiH, show min (H + 1) H = H by omega, HAX.out] at hJ1
              exact hJ1)
            clear hJ1 hiH
            gi_wp2_with (refine wpListIn_skip rfl rfl ?_; simp only [Act.put, List.setIfInBounds_toArray, List.set_cons_succ, List.set_cons_zero])
            go_roundw
            case rel => exact ⟨x + 1, by omega, by go_num, kq, HJ1.out⟩
            case measure => simp [intOf]; omega
          · omega
    · have hxW : x = W := by omega
      have HJ1 := Lib.hid (show J (rLs (fun x y => inkB W H p x y) H W) wr from hxW ▸ hj)
      clear hj hxW
      gi_wp2_with (refine wpListIn_skip rfl rfl ?_; simp only [Act.put, List.setIfInBounds_toArray, List.set_cons_succ, List.set_cons_zero])
      go_end0
      exact ⟨⟨_, rfl⟩, .inl HJ1.out⟩
end Go.Proofs.Ytdimlpcbbkokiaa

/- Walk: the runs of the columns of an image: image.Columns whole. -/
namespace Go.Proofs.Ytdimlpcbbkokiaa
open Go.RowKit Go.Shelf
set_option linter.unusedVariables false
attribute [local go_sem] Oper.semAt_some

set_option maxRecDepth 100000 in
set_option maxHeartbeats 4000000 in
theorem columns_any (W H : Nat) (A : Option Addr) (n c : Nat) (p : Int → Int) (w : World) (hA : ArrB w w.heap.size A n p) (hW : W ≤ 640) (hH : H ≤ 640) (hn : (n : Int) = (W : Int) * H) (hp : ∀ i : Int, 0 ≤ i → i < n → p i = 0 ∨ p i = 1) :
    Calls Try.prog 96 #[.agg #[.int .i64 W, .int .i64 H, .slice A n c]] w fun e w' => ∃ v, e = .returned (.tuple #[v, .int .i64 0]) ∧ RunRow w' w.heap.size v (rLs (fun x y => inkB W H p x y) H W) ∧ Below w.heap.size w w' := by
  have m2 := (area_bd (W := W) (H := H) (by omega) (by omega) (by omega) (by omega)).2
  have hchk : chk W H n p = 0 := chk_mk (by omega) (by omega) (by omega) (by omega) hn fun i a b => by have := hp i a b; omega
  have CK := Lib.hid fun w' hA' => check_any W H A n c p w' hA' (by unfold maxLen; omega)
  rw [hchk] at CK
  obtain ⟨r0, hr0, hrz0, hrz1, hrz2⟩ := info_parts infoRun
  have HA := Lib.hid hA; have HNN := Lib.hid hn; have HPP := Lib.hid hp
  clear hA hn hp hchk
  have hmf : ∀ (fn : Fn) (first cap : Array Value) (w : World), (Instr.makeFunc fn first cap).run Try.prog w = .ok (.func fn first cap) w := fun _ _ _ _ => rfl
  refine (callsIn_wide (n := 5)).1 ?_
  refine callsIn_of_wp_marks Try.func96 rfl trivial ?_ rfl
  simp only [Try.ntmps96, List.size_toArray, List.length_cons, List.length_nil, Nat.reduceAdd, Nat.reduceSub, Array.replicate_succ, Array.replicate_zero, List.push_toArray, List.append_toArray, List.nil_append, List.cons_append]
  gi_wp2_with fail
  have k1 := Blk.new w 24 #[.int .i64 W, .int .i64 H, .slice A n c]
  have b1 : Below w.heap.size w (w.alloc (.cells #[.int .i64 W, .int .i64 H, .slice A n c] 24)) := (Below.refl _ _).alloc (Nat.le_refl _) _
  generalize w.alloc (.cells #[.int .i64 W, .int .i64 H, .slice A n c] 24) = w1 at *
  refine ⟨trivial, ?_⟩
  refine (callsIn_wide.2 (CK.out w1 (HA.out.to b1))).mono ?_
  rintro e w2 ⟨rfl, d2⟩
  have k2 := k1.below' d2
  have b2 := below_call b1 b1.size d2
  obtain ⟨p1, p2, p3⟩ := k2.cells3
  have k3 := k2.alloc (.cells #[.slice none 0 0] 75)
  have k5 := Blk.new w2 75 #[.slice none 0 0]
  have b3 := b2.alloc b2.size (.cells #[.slice none 0 0] 75)
  have zk := k2.lt
  obtain ⟨b5, hb5⟩ : ∃ b5, w2.heap.size = b5 := ⟨_, rfl⟩
  rw [hb5] at k5 zk
  have zs3 : (w2.alloc (.cells #[.slice none 0 0] 75)).heap.size = b5 + 1 := by simp [hb5]
  have p1' := k3.cells3
  obtain ⟨x1, x2, x3⟩ := p1'
  clear k1 b1 d2 CK p1 p2 p3 k2 b2
  gi_wp2_with fail
  generalize w2.alloc (.cells #[.slice none 0 0] 75) = w3 at *
  refine ⟨trivial, ?_⟩
  have RF := runs_fn W H (.func 115) #[.pointer (some ⟨w.heap.size, 0, none⟩)] w3
  rw [zs3] at RF
  refine (callsIn_wide.2 RF).mono ?_
  rintro e w4 ⟨rfl, d4', kl, kn, ⟨TF, kf⟩, zs4⟩
  have d4 : Below w3.heap.size w3 w4 := by rw [zs3]; exact d4'
  clear d4' RF
  have k4 := k3.below' d4
  have k54 := k5.below' d4
  have b4 := below_call b3 b3.size d4
  have hA4 : ArrB w4 w.heap.size A n p := ArrB.below HA.out b4
  clear k3 k5 b3 d4 x1 x2 x3 hb5 zs3
  have CST := Lib.hid (cols_stops 4 W H n c (b5 + 1) (b5 + 1 + 1) (b5 + 1 + 1 + 1) w.heap.size b5 w.heap.size TF A p w4 (by omega) hW hH HNN.out HPP.out kl kn kf k4 hA4 (by omega) (by omega) (by omega) (by omega) (by omega) (Nat.le_refl _))
  have hBz : w4.heap.size = b5 + 4 := by rw [zs4]
  have m0 : (∃ v, Boxed w4 b5 75 v ∧ w4.ownsRow w4.heap.size 84 3 v (List.length ([] : List Rn)) (flatR []) ∧ True) := ⟨_, k54, World.ownsRow_nil _ _ _ _, trivial⟩
  gi_wp2_with fail
  refine wpIn_rangeFunc_ownH (F := Fence.wide) (n := 5) rfl (by omega) (gf := 140) (lb := #[.pointer (some ⟨b5 + 1, 0, none⟩), .pointer (some ⟨b5 + 1 + 1, 0, none⟩), .pointer (some ⟨b5 + 1 + 1 + 1, 0, none⟩)]) rfl trivial (enters_of Try.func140 (by kernel_rfl) rfl) CST.out
    (fun h h' => h.trans h') (fun X l o o' hl ho hc hw => ⟨(grownBy_putObj' X l o').size, fun j hj _ => World.putObj_heap_other (by omega)⟩) (Below.refl _ _) (fun _ => rfl)
    (fun pre X => (∃ v, Boxed X b5 75 v ∧ X.ownsRow w4.heap.size 84 3 v pre.length (flatR pre) ∧ True) ∧ (Below w.heap.size w X ∧ w4.heap.size ≤ X.heap.size)) (fun _ _ _ => False)
    (((holdsRow_own w4.heap.size b5 75 84 3 List.length flatR (fun _ _ => True)).from _).and (ownFrom_of_below (fun s X Y hs hXY => ⟨hs.1.trans (hXY.mono (by have := b4.size; omega)), Nat.le_trans hs.2 hXY.size⟩) (fun s X hs => hs.2)))
    (fun _ _ _ _ _ hs _ _ => hs) ⟨m0, b4, Nat.le_refl _⟩ (fun x a' X => ∃ b6 : Nat, a' = { tmps := #[.agg #[.int .i64 W, .int .i64 H, .slice A n c], .pointer (some ⟨w.heap.size, 0, none⟩), .slice none 0 0, .int .i64 0, .int .i64 0, .pointer (some ⟨b5, 0, none⟩), .pointer (some ⟨b6, 0, none⟩), .agg #[.int .i64 W, .int .i64 H, .slice A n c], .int .i64 0, .int .i64 0, .bool false, undef, .pointer (some ⟨w.heap.size, 0, none⟩), .int .i64 W, .pointer (some ⟨w.heap.size, 1, none⟩), .int .i64 H, .func (.func 115) #[] #[.pointer (some ⟨w.heap.size, 0, none⟩)], .func (.func 140) #[] #[.pointer (some ⟨b5 + 1, 0, none⟩), .pointer (some ⟨b5 + 1 + 1, 0, none⟩), .pointer (some ⟨b5 + 1 + 1 + 1, 0, none⟩)], .agg #[.int .i64 x.1, .int .i64 x.2.1, .int .i64 x.2.2], undef, undef, undef, undef, undef], defers := [] } ∧ Blk X b6 84 #[.int .i64 x.1, .int .i64 x.2.1, .int .i64 x.2.2])
    (fun x a' _ X Y row hs hg hr => by
      obtain ⟨b6, e, hk⟩ := hs
      exact ⟨b6, e, hk.move (hg.block b6 hk.lt (fun e' => by obtain ⟨-, o, ho, hc⟩ := hr b6 e'.symm; rw [show X.heap[b6]? = _ from hk] at ho; cases ho; cases hc))⟩) ?assign ?body ?done ?stop
  case assign =>
    intro l pre t X K hI hK
    obtain ⟨b6, hb6⟩ : ∃ b6, X.heap.size = b6 := ⟨_, rfl⟩
    have kz := Blk.new X 84 #[.int .i64 t.1, .int .i64 t.2.1, .int .i64 t.2.2]
    rw [hb6] at kz
    have hI2 := hI
    obtain ⟨⟨v, hv, hr, -⟩, hb, hz⟩ := hI2
    have kk : KpJ w4.heap.size b5 X (X.alloc (.cells #[.int .i64 t.1, .int .i64 t.2.1, .int .i64 t.2.2] 84)) := ⟨by simp, fun j hj _ => Below.heap_alloc _ _ _ (by omega)⟩
    have HI2 := Lib.hid (show (∃ v, Boxed (X.alloc (.cells #[.int .i64 t.1, .int .i64 t.2.1, .int .i64 t.2.2] 84)) b5 75 v ∧ (X.alloc (.cells #[.int .i64 t.1, .int .i64 t.2.1, .int .i64 t.2.2] 84)).ownsRow w4.heap.size 84 3 v pre.length (flatR pre) ∧ True) ∧ (Below w.heap.size w (X.alloc (.cells #[.int .i64 t.1, .int .i64 t.2.1, .int .i64 t.2.2] 84)) ∧ w4.heap.size ≤ (X.alloc (.cells #[.int .i64 t.1, .int .i64 t.2.1, .int .i64 t.2.2] 84)).heap.size) from
      ⟨⟨v, hv.alloc _, RunRow.alloc (show RunRow X w4.heap.size v pre from hr) _, trivial⟩, hb.alloc hb.size _, by simp; omega⟩)
    have KK := Lib.hid kk; have KZ := Lib.hid kz
    clear hv hr hb hz hI kk kz
    gi_wp2
    exact hK _ _ ((KeepsOthers.alloc _ _).from _) KK.out HI2.out ⟨b6, rfl, KZ.out⟩
  case body =>
    rintro l pre x a' X hl hrec ⟨⟨v, hv, hr, -⟩, hb, hz⟩ ⟨b6, rfl, kx⟩ hlt
    obtain ⟨x1, x2, x3⟩ := kx.cells3
    have hcv := hv.cell
    have hrow : RunRow X w4.heap.size v pre := hr
    have m3 : W * 640 ≤ 640 * 640 := Nat.mul_le_mul_right 640 hW
    have HV := Lib.hid hv; have HR := Lib.hid hrow; have HB := Lib.hid hb
    clear hr hrec kx
    gi_wp2_with (gi_at_builtin; refine wpListIn_append_own _ rfl (.tmp 19) (.tmp 21) 75 rfl w4.heap.size 84 r0 (.agg #[.int .i64 0, .int .i64 0, .int .i64 0]) 3 24 Try.underlying75 hr0 hrz0 hrz1 hrz2 rfl (by decide) _ _ _ rfl (HR.out.alloc _) ⟨X.heap.size, 0, none⟩ 1 1 [.int .i64 x.1, .int .i64 x.2.1, .int .i64 x.2.2] rfl rfl ?d1 ?d2 ?d3 ?d4 ?d5 ?_)
    case d1 =>
      intro j u hj
      match j, hj with
      | 0, hj => cases hj; exact (Blk.new X 84 #[.int .i64 x.1, .int .i64 x.2.1, .int .i64 x.2.2]).cell 0
      | 1, hj => cases hj; exact (Blk.new X 84 #[.int .i64 x.1, .int .i64 x.2.1, .int .i64 x.2.2]).cell 1
      | 2, hj => cases hj; exact (Blk.new X 84 #[.int .i64 x.1, .int .i64 x.2.1, .int .i64 x.2.2]).cell 2
      | j + 3, hj => simp at hj
    case d2 => simp [Value.oneCell']
    case d3 => unfold maxLen; omega
    case d4 => omega
    case d5 => simp; omega
    intro v' w1' hown' hgrow _
    obtain ⟨g', cap', rfl⟩ := ownsRow_succ hown'
    have hv1 : Boxed w1' b5 75 v := (HV.out.alloc _).kept hgrow (HV.out.not_row (by decide) HR.out)
    have hc1 := hv1.cell
    have hf1 := hv1.frozen
    have HV1 := Lib.hid hv1; have HO := Lib.hid hown'; have HG := Lib.hid hgrow
    clear hv hrow hb hv1 hown' hgrow hcv x1 x2 x3
    gi_wp2
    have hO := HO.out
    try rw [← zs4] at hO
    have zX : w4.heap.size ≤ X.heap.size := hz
    have hg := HG.out
    refine ⟨?_, ?_, ⟨_, HV1.out.set _, ?_, trivial⟩, ?_, ?_⟩
    · refine (((KeepsOthers.alloc X _).trans (KeepsOthers.of_grownBy hg fun j o ej hj => ?_)).trans (KeepsOthers.setCell _ _ _)).from _
      rcases (HR.out.alloc (.cells #[.int .i64 x.1, .int .i64 x.2.1, .int .i64 x.2.2] 84)).2 with ⟨rfl, _⟩ | ⟨g, cap, cur, rfl, _, hgb, _⟩
      · simp [Value.ownBlock] at ej
      · obtain rfl : g = j := by simpa [Value.ownBlock] using ej
        rw [hgb] at hj; cases hj; rfl
    · refine ⟨?_, fun j hj hne => ?_⟩
      · have := hg.size
        simp at this ⊢
        omega
      · rw [heap_setCell_other _ ⟨b5, 0, none⟩ j _ hne, hg.block j (by simp; omega) (fun e => by have := (own_ge HR.out (k := j) e.symm).1; omega)]
        exact Below.heap_alloc _ _ _ (by omega)
    · have e1 : (pre ++ [x]).length = pre.length + 1 := by simp
      rw [e1, flatR_snoc]
      exact hO.kept (grownBy_setCell' _ b5 _) (.inr (HV1.out.not_row (by decide) hO).symm)
    · exact ((HB.out.alloc HB.out.size _).grown hg (by have := HB.out.size; simp; omega) (fun j hj => by have := (own_ge HR.out hj).1; have := b4.size; omega)).setCell (by show w.heap.size ≤ b5; omega) _
    · have := hg.size
      simp at this ⊢
      omega
  case done =>
    rintro D xs X hD rfl ⟨⟨v, hv, hr, -⟩, hb, hz⟩ hK
    have hcv := hv.cell
    gi_wp2
    refine ⟨by simp, .inl ⟨_, _, rfl, run_takeDeferred hK, ?_⟩⟩
    exact ⟨_, results_tmp2 rfl _ _ _, _, rfl, RunRow.base (ownsRow_putObj hr _ hK rfl) b4.size, hb.trans (belowK_b (w := w4) b4.size X D _ _ hD hK rfl rfl)⟩
  case stop =>
    rintro D c pre X _ _ h _
    exact h.elim
end Go.Proofs.Ytdimlpcbbkokiaa

/- Walk: the program's Gauge (two lists of lengths, each one's most common). -/
namespace Go.Proofs.Ytdimlpcbbkokiaa
open Go.RowKit Go.Shelf
set_option linter.unusedVariables false
attribute [local go_sem] Oper.semAt_some

/-- a row of numbers that the call owns -/
def IRow (w : World) (B : Nat) (v : Value) (l : List Int) : Prop := w.ownsRow B 3 1 v l.length (l.map fun y => Value.int .i64 y)
def ApartV (u v : Value) : Prop := ∀ k, u.ownBlock = some k → v.ownBlock ≠ some k
theorem ApartV.symm {u v : Value} (h : ApartV u v) : ApartV v u := fun k a b => h k b a
section
variable {w w' : World} {B : Nat} {v u : Value} {l : List Int}
theorem IRow.nil (w : World) (B : Nat) : IRow w B (.slice none 0 0) [] := World.ownsRow_nil _ _ _ _
theorem IRow.below (h : IRow w B v l) (hb : Below w.heap.size w w') : IRow w' B v l := own_below h hb
theorem IRow.alloc (h : IRow w B v l) (o : Obj) : IRow (w.alloc o) B v l := h.below ((Below.refl _ _).alloc (Nat.le_refl _) _)
theorem IRow.drewN (h : IRow w B v l) (n : Nat) : IRow (w.drewN n) B v l := own_move h fun _ _ => rfl
theorem IRow.drew (h : IRow w B v l) : IRow w.drew B v l := own_move h fun _ _ => rfl
theorem IRow.far (h : IRow w B v l) (hg : w.grownBy w' u.ownBlock) (ha : ApartV u v) : IRow w' B v l := own_move h fun k hk => hg.block k (own_ge h hk).2 fun e => ha k e.symm hk
theorem IRow.snoc {y : Int} {n : Nat} (hn : l.length = n) (h : w.ownsRow B 3 1 v (n + 1) (l.map (fun y => Value.int .i64 y) ++ [.int .i64 y])) : IRow w B v (l ++ [y]) := by
  subst hn
  unfold IRow
  rw [List.length_append, List.map_append]
  exact h
theorem IRow.arr (h : IRow w B v l) : ∃ A c, v = .slice A l.length c ∧ ArrI w w.heap.size A l.length (fun i => l.getD i.toNat 0) := by
  obtain ⟨A, c, e, -, ha⟩ := own_arr h
  refine ⟨A, c, e, Arr.congr ha fun i i0 i1 => ?_⟩
  have hi : i.toNat < l.length := by omega
  simp only [List.getD_eq_getElem?_getD, List.getElem?_map, List.getElem?_eq_getElem hi]
  rfl
theorem ApartV.new {u v : Value} {g m c H : Nat} (ha : ApartV u v) (hat : u.ownBlock = some g ∨ g = H) (hv : ∀ k, v.ownBlock = some k → k < H) : ApartV (.slice (some ⟨g, 0, none⟩) m c) v := fun k hk hk' => by
  have e : g = k := by simpa [Value.ownBlock] using hk
  rcases hat with h | h
  · exact ha g h (e ▸ hk')
  · have := hv k hk'; omega
theorem IRow.news (w : World) (t : TypeId) (y : Value) : ∀ j u, ([y] : List Value)[j]? = some u → (w.alloc (.cells #[y] t)).cell? ((⟨w.heap.size, 0, none⟩ : Addr).add j) = some u := cell_one_new _ _ _
end

set_option maxRecDepth 100000 in
set_option maxHeartbeats 4000000 in
theorem columns_bad (W H : Int) (A : Option Addr) (n c : Nat) (p : Int → Int) (z : Int) (w : World) (hA : ArrB w w.heap.size A n p) (hn : n ≤ maxLen) (hz : chk W H n p = z) (hz0 : z ≠ 0) :
    Calls Try.prog 96 #[.agg #[.int .i64 W, .int .i64 H, .slice A n c]] w fun e w' => e = .returned (.tuple #[.slice none 0 0, .int .i64 z]) ∧ Below w.heap.size w w' := by
  have CK := Lib.hid fun w' hA' => check_any W H A n c p w' hA' hn
  rw [hz] at CK
  have HA := Lib.hid hA
  have hz1 : (z == 0) = false := by simp [hz0]
  clear hA hz
  go_enter Try.func96, Try.ntmps96
  go_wp2_with fail
  refine (CK.out _ (HA.out.to (by (repeat (first | exact Below.refl _ _ | assumption | refine Below.drew ?_ | refine below_drewN ?_ _ | refine Below.alloc ?_ (by first | omega | (simp; done) | (simp; omega)) _ | refine Below.setCell ?_ (by first | omega | (simp; done) | (simp; omega)) _ | refine below_setRow ?_ (by first | omega | (simp; done) | (simp; omega)) _ ))))).mono ?_
  rintro e w2 ⟨rfl, d2⟩
  have b2 : Below w.heap.size w w2 := below_call (by (repeat (first | exact Below.refl _ _ | assumption | refine Below.drew ?_ | refine below_drewN ?_ _ | refine Below.alloc ?_ (by first | omega | (simp; done) | (simp; omega)) _ | refine Below.setCell ?_ (by first | omega | (simp; done) | (simp; omega)) _ | refine below_setRow ?_ (by first | omega | (simp; done) | (simp; omega)) _ ))) (by simp; try omega) d2
  go_wp2_with fail
  refine bodyPost_ret (v := .tuple #[.slice none 0 0, .int .i64 z]) (by simp [results, Try.results96, go_sem]) rfl ?_
  exact ⟨rfl, b2⟩

set_option maxRecDepth 100000 in
set_option maxHeartbeats 4000000 in
theorem gauge_bad (W H : Int) (A : Option Addr) (n c : Nat) (p : Int → Int) (z : Int) (w : World) (hA : ArrB w w.heap.size A n p) (hn : n ≤ maxLen) (hz : chk W H n p = z) (hz0 : z ≠ 0) :
    Calls Try.prog 51 #[.agg #[.int .i64 W, .int .i64 H, .slice A n c]] w fun e w' => e = .returned (.tuple #[.int .i64 0, .int .i64 0, .int .i64 z]) ∧ Below w.heap.size w w' := by
  have CK := Lib.hid fun w' hA' => columns_bad W H A n c p z w' hA' hn hz hz0
  have HA := Lib.hid hA
  have hz1 : (z == 0) = false := by simp [hz0]
  clear hA hz
  go_enter Try.func51, Try.ntmps51
  go_wp2_with fail
  refine (CK.out _ (HA.out.to (by (repeat (first | exact Below.refl _ _ | assumption | refine Below.drew ?_ | refine below_drewN ?_ _ | refine Below.alloc ?_ (by first | omega | (simp; done) | (simp; omega)) _ | refine Below.setCell ?_ (by first | omega | (simp; done) | (simp; omega)) _ | refine below_setRow ?_ (by first | omega | (simp; done) | (simp; omega)) _ ))))).mono ?_
  rintro e w2 ⟨rfl, d2⟩
  have b2 : Below w.heap.size w w2 := below_call (by (repeat (first | exact Below.refl _ _ | assumption | refine Below.drew ?_ | refine below_drewN ?_ _ | refine Below.alloc ?_ (by first | omega | (simp; done) | (simp; omega)) _ | refine Below.setCell ?_ (by first | omega | (simp; done) | (simp; omega)) _ | refine below_setRow ?_ (by first | omega | (simp; done) | (simp; omega)) _ ))) (by simp; try omega) d2
  go_wp2_with fail
  refine bodyPost_ret (v := .tuple #[.int .i64 0, .int .i64 0, .int .i64 z]) (by simp [results, Try.results51, go_sem]) rfl ?_
  exact ⟨rfl, b2⟩

set_option maxRecDepth 100000 in
set_option maxHeartbeats 4000000 in
theorem gauge_ok (W H : Nat) (A : Option Addr) (n c : Nat) (p : Int → Int) (w : World) (hA : ArrB w w.heap.size A n p) (hW : W ≤ 640) (hH : H ≤ 640) (hn : (n : Int) = (W : Int) * H) (hp : ∀ i : Int, 0 ≤ i → i < n → p i = 0 ∨ p i = 1) :
    Calls Try.prog 51 #[.agg #[.int .i64 W, .int .i64 H, .slice A n c]] w fun e w' => ∃ b q, e = .returned (.tuple #[.int .i64 b, .int .i64 q, .int .i64 0]) ∧ Mode (cntA ((rLs (fun x y => inkB W H p x y) H W).map dkA)) b ∧ Mode (cntA (ltL (rLs (fun x y => inkB W H p x y) H W) (rLs (fun x y => inkB W H p x y) H W).length)) q ∧ Below w.heap.size w w' := by
  have CO := Lib.hid fun w' hA' => columns_any W H A n c p w' hA' hW hH hn hp
  have RO := runsOk_all (p := p) (N := W) (H := H)
  have hLL : (rLs (fun x y => inkB W H p x y) H W).length ≤ 409600 := Nat.le_trans (rLs_len _ _ _) (by rw [Nat.mul_comm]; exact Nat.mul_le_mul hH hW)
  obtain ⟨r0, hr0, hrz0, hrz1, hrz2⟩ := info_parts infoRun
  obtain ⟨i0, hi0, hz0, hz1, hz2⟩ := info_parts infoInt
  have HA := Lib.hid hA
  generalize rLs (fun x y => inkB W H p x y) H W = L at *
  have HRO := Lib.hid RO
  have DB := Lib.hid fun r hr => dk_bd RO hH (r := r) hr
  have LB := Lib.hid fun i hi y hy => lt_bd RO hH (i := i) hi (y := y) hy
  have LLB := Lib.hid fun y hy => ltL_bd RO hH (Nat.le_refl _) y hy
  have LLN := Lib.hid fun i => ltL_len L i
  clear hA RO hn hp
  go_enter Try.func51, Try.ntmps51
  go_wp2_with fail
  refine (CO.out _ (HA.out.to (by (repeat (first | exact Below.refl _ _ | assumption | refine Below.drew ?_ | refine below_drewN ?_ _ | refine Below.alloc ?_ (by first | omega | (simp; done) | (simp; omega)) _ | refine Below.setCell ?_ (by first | omega | (simp; done) | (simp; omega)) _ | refine below_setRow ?_ (by first | omega | (simp; done) | (simp; omega)) _ ))))).mono ?_
  rintro e w5 ⟨v5, rfl, hR5, d5⟩
  have b5 : Below w.heap.size w w5 := below_call (by (repeat (first | exact Below.refl _ _ | assumption | refine Below.drew ?_ | refine below_drewN ?_ _ | refine Below.alloc ?_ (by first | omega | (simp; done) | (simp; omega)) _ | refine Below.setCell ?_ (by first | omega | (simp; done) | (simp; omega)) _ | refine below_setRow ?_ (by first | omega | (simp; done) | (simp; omega)) _ ))) (by simp; try omega) d5
  obtain ⟨Ac, cc, rfl, hRA⟩ := hR5.arr
  have HRA := Lib.hid hRA
  clear d5 hRA hR5 CO HA
  go_wp2_with fail
  go_loopw [20, 6, 7] (fun s va vb wr => ∃ i : Nat, i ≤ L.length ∧ s = .int .i64 i ∧ Below w5.heap.size w5 wr ∧ IRow wr w5.heap.size va ((L.take i).map dkA) ∧ IRow wr w5.heap.size vb (ltL L i) ∧ Hid (ApartV va vb)) (fun s _ _ _ => L.length - (intOf s).toNat)
  case atStart => exact ⟨0, by omega, rfl, Below.refl _ _, by simpa using IRow.nil _ _, IRow.nil _ _, Lib.hid fun k hk => by simp [Value.ownBlock] at hk⟩
  case round =>
    obtain ⟨i, hi, rfl, b2, k1, k2, AP⟩ := hrel
    by_cases il : (i : Int) < L.length
    · have ilN : i < L.length := by omega
      obtain ⟨r, hr⟩ : ∃ r, L[i]? = some r := ⟨L[i], List.getElem?_eq_getElem ilN⟩
      have hgd : L.getD i (0, 0, 0) = r := by rw [List.getD_eq_getElem?_getD, hr]; rfl
      have htk : (L.take (i + 1)).map dkA = (L.take i).map dkA ++ [dkA r] := by rw [List.take_add_one, hr]; simp
      obtain ⟨gR, rfl, hgR, rc⟩ := HRA.out (by intro h; rw [h] at ilN; simp at ilN)
      obtain ⟨b1', b2', b3', b4', b5'⟩ := HRO.out.in_ i r hr
      obtain ⟨d1, d2, d3⟩ := rc i r hr
      obtain ⟨D1, D2⟩ := DB.out r (List.mem_of_getElem? hr)
      obtain ⟨D, hD⟩ : ∃ D, dkA r = D := ⟨_, rfl⟩
      have hD' : r.2.2 - r.2.1 + 1 = D := hD
      rw [hD] at htk D1 D2
      have e1 := (b2.cell (p := ⟨gR, i * 3, none⟩) hgR).trans d1
      have e2 := (b2.cell (p := ⟨gR, i * 3 + 1, none⟩) hgR).trans d2
      have e3 := (b2.cell (p := ⟨gR, i * 3 + 2, none⟩) hgR).trans d3
      have hln : ((L.take i).map dkA).length = i := by rw [List.length_map, List.length_take]; omega
      obtain ⟨lA, hlA⟩ : ∃ lA, (L.take i).map dkA = lA := ⟨_, rfl⟩
      rw [hlA] at hln htk k1
      have HTK := Lib.hid htk
      have HGD := Lib.hid hgd
      have HRC := Lib.hid rc
      obtain ⟨rx, rf, rt⟩ := r
      simp only at d1 d2 d3 e1 e2 e3 b1' b2' b3' b4' b5' hD'
      have v1 : IntKind.i64.wrap (rt - rf) = rt - rf := IntWalk.i64_in _ (by omega)
      have v2 : IntKind.i64.wrap (rt - rf + 1) = D := (IntWalk.i64_in _ (by omega)).trans hD'
      clear htk hgd rc hD hD' d1 d2 d3 hlA
      obtain ⟨gb, hgb⟩ : ∃ g, wr.heap.size = g := ⟨_, rfl⟩
      go_upto_region 8 with fail
      have BX := Blk.new wr 84 #[.int .i64 rx, .int .i64 rf, .int .i64 rt]
      have b3 := b2.alloc b2.size (.cells #[.int .i64 rx, .int .i64 rf, .int .i64 rt] 84)
      replace k1 := k1.alloc (.cells #[.int .i64 rx, .int .i64 rf, .int .i64 rt] 84)
      replace k2 := k2.alloc (.cells #[.int .i64 rx, .int .i64 rf, .int .i64 rt] 84)
      have zb := b2.size
      clear b2 e1 e2 e3
      generalize wr.alloc (.cells #[.int .i64 rx, .int .i64 rf, .int .i64 rt] 84) = w6 at *
      rw [hgb] at BX zb
      clear hgb
      obtain ⟨c1, c2, c3⟩ := BX.cells3
      have k1' := k1
      unfold IRow at k1'
      rw [hln] at k1'
      have z6 := b3.size
      go_wp2_with (at_builtin; go_loud (refine wpList_append_lies _ rfl (.tmp 25) (.tmp 32) 25 rfl w5.heap.size 3 i0 (.int .i64 0) 1 8 Try.underlying25 hi0 hz0 hz1 hz2 rfl (by decide) _ i _ rfl (own_move k1' fun k hk => Below.heap_alloc _ _ _ (own_ge k1' hk).2) ⟨w6.heap.size, 0, none⟩ 1 1 [.int .i64 D] rfl rfl ?c1 ?c2 ?c3 ?c4 ?c5 ?c6 _ rfl ?_))
      case c1 => exact cell_one_new _ _ _
      case c2 => simp [Value.oneCell']
      case c3 => omega
      case c4 => unfold maxLen; omega
      case c5 => omega
      case c6 => simp; omega
      intro g cap w7 own7 hg7 hat7 hlt7
      have b7 : Below w5.heap.size w5 w7 := (b3.alloc b3.size (.cells #[.int .i64 D] 3)).grown hg7 (by simp; omega) (fun k hk => (own_ge k1 hk).1)
      have BX7 : Blk w7 gb 84 #[.int .i64 rx, .int .i64 rf, .int .i64 rt] := (BX.alloc (.cells #[.int .i64 D] 3)).grown hg7 (own_neB k1 BX (by decide))
      have j1 : IRow w7 w5.heap.size (.slice (some ⟨g, 0, none⟩) (i + 1) cap) ((L.take (i + 1)).map dkA) := by rw [HTK.out]; exact IRow.snoc hln own7
      have j2 : IRow w7 w5.heap.size _ (ltL L i) := (k2.alloc (.cells #[.int .i64 D] 3)).far hg7 AP.out
      have AP7 := Lib.hid (AP.out.new (m := i + 1) (c := cap) hat7 fun k hk => by have := (own_ge k2 hk).2; omega)
      clear own7 hg7 hat7 k1 k1' k2 b3 BX AP c1 c2 c3 v1 v2 D1 D2 HTK hlt7 z6
      obtain ⟨c1, c2, c3⟩ := BX7.cells3
      by_cases i0' : 0 < i
      · obtain ⟨j, hj⟩ : ∃ j, i = j + 1 := ⟨i - 1, by omega⟩
        have hj2 : j < L.length := by omega
        have hgj : L.getD (i - 1) (0, 0, 0) = L[j] := by rw [show i - 1 = j by omega, List.getD_eq_getElem?_getD, List.getElem?_eq_getElem hj2]; rfl
        obtain ⟨q, hq⟩ : ∃ q, L[j] = q := ⟨_, rfl⟩
        have hqj : L[j]? = some q := by rw [List.getElem?_eq_getElem hj2, hq]
        rw [hq] at hgj
        have hlt := show ltA L i = if 0 < i ∧ (L.getD (i - 1) (0, 0, 0)).1 = (L.getD i (0, 0, 0)).1 then [(L.getD i (0, 0, 0)).2.1 - (L.getD (i - 1) (0, 0, 0)).2.2 - 1] else [] from rfl
        rw [hgj, HGD.out] at hlt
        obtain ⟨q1', q2', q3', q4', q5'⟩ := HRO.out.in_ j q hqj
        obtain ⟨d1, d2, d3⟩ := HRC.out j q hqj
        obtain ⟨qx, qf, qt⟩ := q
        have x1 := (b7.cell (p := ⟨gR, j * 3, none⟩) hgR).trans d1
        have x3 := (b7.cell (p := ⟨gR, j * 3 + 2, none⟩) hgR).trans d3
        simp only at hlt q1' q2' q3' q4' q5' x1 x3
        have v0 : IntKind.i64.wrap ((i : Int) - 1) = (j : Int) := (IntWalk.i64_in _ (by omega)).trans (by omega)
        have hlj : (j : Int) < L.length := by omega
        have g0 : (0 : Int) < i := by omega
        have hd0 : decide ((0 : Int) < i) = true := decide_eq_true g0
        by_cases ex : qx = rx
        · have ht1 : ltL L (i + 1) = ltL L i ++ [rf - qt - 1] := by rw [ltL, hlt, if_pos ⟨i0', ex⟩]
          obtain ⟨E1, E2⟩ := LB.out i ilN (rf - qt - 1) (by rw [hlt, if_pos ⟨i0', ex⟩]; simp)
          have h4 : (qx == rx) = true := by simp [ex]
          have HT1 := Lib.hid ht1
          clear hlt hq hj d1 d2 d3 hgj ex ht1
          go_upto_region 9 with fail
          go_cut [46] (fun v wx => v = .bool true ∧ ∃ nq, wx = w7.drewN nq)
          case first =>
            go_quiet (fail)
            go_wp2_with fail
            go_meet
            exact ⟨rfl, nq, rfl⟩
          case rest =>
          obtain ⟨rfl, nq, rfl⟩ := hcut
          have b8 := below_drewN b7 nq
          replace j1 := j1.drewN nq
          replace j2 := j2.drewN nq
          have BX8 := BX7.drewN nq
          have x3' : (w7.drewN nq).cell? ⟨gR, j * 3 + 2, none⟩ = some (.int .i64 qt) := x3
          clear x1 x3 c1 c2 c3 h4 hd0 b7 BX7
          generalize w7.drewN nq = w8 at *
          obtain ⟨c1, c2, c3⟩ := BX8.cells3
          have w5' : IntKind.i64.wrap (rf - qt) = rf - qt := IntWalk.i64_in _ (by omega)
          obtain ⟨E, hE⟩ : ∃ E, rf - qt - 1 = E := ⟨_, rfl⟩
          have w6' : IntKind.i64.wrap (rf - qt - 1) = E := (IntWalk.i64_in _ (by omega)).trans hE
          have HT2 := HT1.out
          rw [hE] at HT2 E1 E2
          have HT3 := Lib.hid HT2
          have lln := LLN.out i
          have j2' := j2
          unfold IRow at j2'
          obtain ⟨m, hm⟩ : ∃ m, (ltL L i).length = m := ⟨_, rfl⟩
          rw [hm] at j2' lln
          have HM := Lib.hid hm
          have z8 := b8.size
          clear HT2 HT1 hE hm hr hqj
          go_upto_region 10 with fail
          go_region_law
            (refine step_append_lies _ (by rfl) _ _ _ (by rfl) w5.heap.size 3 i0 (.int .i64 0) 1 8 Try.underlying25 hi0 hz0 hz1 hz2 rfl (by omega) _ _ _ (by rfl) (own_move j2' fun k hk => (Below.heap_alloc _ (.cells #[.int .i64 E] 3) _ (own_ge j2' hk).2 : (w8.alloc (.cells #[.int .i64 E] 3)).drew.heap[k]? = _)) ⟨w8.heap.size, 0, none⟩ 1 1 [.int .i64 E] (by rfl) (by rfl) (World.news_of_block (cs := #[.int .i64 E]) (t := 3) (fr := (0, 0)) (heap_alloc_new w8 _)) (by simp [Value.oneCell']) (by omega) (by unfold maxLen; omega) (by omega) (by first | omega | (simp; omega)) (w8.heap.size + 1) (by simp) ?_
             intro gg cap2 w9 hown1 hgrow hat hlt1)
          all_goals
            have b9 : Below w5.heap.size w5 w9 := ((b8.alloc b8.size (.cells #[.int .i64 E] 3)).drew).grown hgrow (by simp; omega) (fun k hk => (own_ge j2 hk).1)
            have a1 : IRow ((w8.alloc (.cells #[.int .i64 E] 3)).drew) w5.heap.size _ ((L.take (i + 1)).map dkA) := (j1.alloc _).drew
            have i1 : IRow w9 w5.heap.size _ ((L.take (i + 1)).map dkA) := a1.far hgrow AP7.out.symm
            have i2 : IRow w9 w5.heap.size (.slice (some ⟨gg, 0, none⟩) (m + 1) cap2) (ltL L (i + 1)) := by rw [HT3.out]; exact IRow.snoc HM.out hown1
            have AP9 := Lib.hid (ApartV.new (m := m + 1) (c := cap2) (H := w8.heap.size + 1) AP7.out.symm hat fun k hk => by have := (own_ge j1 hk).2; omega).symm
            clear hown1 hgrow hat a1 hlt1 w5' w6' x3' v0 E1 E2 c1 c2 c3
            go_wp2
            go_roundw
            case rel => exact ⟨i + 1, by omega, by go_num, b9, i1, i2, AP9⟩
            case measure => simp [intOf]; omega
        · have ht1 : ltL L (i + 1) = ltL L i := by rw [ltL, hlt, if_neg (fun h => ex h.2), List.append_nil]
          have h4 : (qx == rx) = false := by simp [ex]
          have HT1 := Lib.hid ht1
          clear hlt hq hj d1 d2 d3 hgj ex ht1
          go_upto_region 9 with fail
          go_cut [46] (fun v wx => v = .bool false ∧ ∃ nq, wx = w7.drewN nq)
          case first =>
            go_quiet (fail)
            go_wp2_with fail
            go_meet
            exact ⟨rfl, nq, rfl⟩
          case rest =>
          obtain ⟨rfl, nq, rfl⟩ := hcut
          have b8 := below_drewN b7 nq
          replace j1 := j1.drewN nq
          replace j2 := j2.drewN nq
          clear x1 x3 c1 c2 c3 h4 hd0 b7 BX7
          generalize w7.drewN nq = w8 at *
          go_wp2_with fail
          go_roundw
          case rel => exact ⟨i + 1, by omega, by go_num, b8, j1, HT1.out ▸ j2, AP7⟩
          case measure => simp [intOf]; omega
      · have hd0 : decide ((0 : Int) < i) = false := decide_eq_false (by omega)
        have hd1 : decide (0 < i) = false := decide_eq_false i0'
        have ht1 : ltL L (i + 1) = ltL L i := by
          rw [ltL]
          show ltL L i ++ (if 0 < i ∧ _ then _ else []) = _
          rw [if_neg (fun h => i0' h.1), List.append_nil]
        have HT1 := Lib.hid ht1
        have hig : ¬ (0 : Int) < i := by omega
        clear ht1 i0'
        go_upto_region 9 with fail
        go_cut [46] (fun v wx => v = .bool false ∧ ∃ nq, wx = w7.drewN nq)
        case first =>
          go_quiet (fail)
          go_wp2_with fail
          go_meet
          exact ⟨rfl, nq, rfl⟩
        case rest =>
        obtain ⟨rfl, nq, rfl⟩ := hcut
        have b8 := below_drewN b7 nq
        replace j1 := j1.drewN nq
        replace j2 := j2.drewN nq
        clear c1 c2 c3 hd0 b7 BX7
        generalize w7.drewN nq = w8 at *
        go_wp2_with fail
        go_roundw
        case rel => exact ⟨i + 1, by omega, by go_num, b8, j1, HT1.out ▸ j2, AP7⟩
        case measure => simp [intOf]; omega
    · have hil : i = L.length := by omega
      rw [hil, List.take_length] at k1
      rw [hil] at k2
      obtain ⟨A1, c1, rfl, h1⟩ := k1.arr
      obtain ⟨A2, c2, rfl, h2⟩ := k2.arr
      have ln1 : (L.map dkA).length ≤ 1000000 := by rw [List.length_map]; omega
      have ln2 : (ltL L L.length).length ≤ 1000000 := by have := LLN.out L.length; omega
      have M1 := Lib.hid (common_any A1 (L.map dkA).length c1 _ wr h1 ln1 fun i i0 i1 => by
        have hi : i.toNat < (L.map dkA).length := by omega
        rw [List.getD_eq_getElem?_getD, List.getElem?_eq_getElem hi]
        have hm := List.getElem_mem hi
        obtain ⟨r, hr, e⟩ := List.mem_map.1 hm
        have := DB.out r hr
        show 1 ≤ (L.map dkA)[i.toNat] ∧ (L.map dkA)[i.toNat] ≤ 1000000
        omega)
      have M2 := Lib.hid fun w' h' => common_any A2 (ltL L L.length).length c2 (fun i => (ltL L L.length).getD i.toNat 0) w' h' ln2 fun i i0 i1 => by
        have hi : i.toNat < (ltL L L.length).length := by omega
        simp only [List.getD_eq_getElem?_getD, List.getElem?_eq_getElem hi]
        have := LLB.out _ (List.getElem_mem hi)
        show 1 ≤ (ltL L L.length)[i.toNat] ∧ (ltL L L.length)[i.toNat] ≤ 1000000
        omega
      rw [show cntN (fun i => (L.map dkA).getD i.toNat 0) (L.map dkA).length = cntA (L.map dkA) from funext fun x => cntN_list _ x] at M1
      rw [show cntN (fun i => (ltL L L.length).getD i.toNat 0) (ltL L L.length).length = cntA (ltL L L.length) from funext fun x => cntN_list _ x] at M2
      generalize (fun i : Int => (ltL L L.length).getD i.toNat 0) = Q2 at *
      generalize (ltL L L.length).length = n2 at *
      generalize (L.map dkA).length = n1 at *
      have H2 := Lib.hid h2
      clear hil k1 k2 h1 h2 DB LB LLB HRO ln1 ln2
      go_wp2_with fail
      refine M1.out.mono ?_
      rintro e w6 ⟨m1, rfl, mo1, d6⟩
      have b6 := below_call b2 b2.size d6
      have MO1 := Lib.hid mo1
      have h26 := ArrI.to H2.out d6
      clear mo1
      go_wp2_with fail
      refine (M2.out w6 h26).mono ?_
      rintro e w7 ⟨m2, rfl, mo2, d7⟩
      have b7 := below_call b6 b6.size d7
      have MO2 := Lib.hid mo2
      clear mo2
      go_wp2_with fail
      refine bodyPost_ret (v := .tuple #[.int .i64 m1, .int .i64 m2, .int .i64 0]) (by simp [results, Try.results51, go_sem]) rfl ?_
      exact ⟨m1, m2, rfl, MO1.out, MO2.out, b5.trans (b7.mono b5.size)⟩
end Go.Proofs.Ytdimlpcbbkokiaa
