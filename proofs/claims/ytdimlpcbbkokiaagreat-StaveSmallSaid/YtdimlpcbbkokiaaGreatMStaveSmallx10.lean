/- Texts of mine in build order: T60, S23, S15, T61, S26, T65, T66, S24, T63. Conditions: each theorem's own. -/
import Derived.Test.YtdimlpcbbkokiaaGreatMStaveSmallx9
import Derived.Maps.RangeWalk
import Derived.StillTailTactics
import Derived.BigQuiet
import Derived.Deep.QuietTactic
import Derived.RangeFuncBox
/- Walks: the runs that lines of staves meet, as the reference finds them. -/
namespace Go.Proofs.YtdimlpcbbkokiaaGreat
open Go.RowKit Go.Shelf
set_option linter.unusedVariables false
attribute [local go_sem] Oper.semAt_some

/-- one of the first k numbers lies in a range -/
def metL (g : Nat → Int) (f t : Int) : Nat → Bool
  | 0 => false
  | k + 1 => metL g f t k || (decide (f ≤ g k) && decide (g k ≤ t))
theorem metL_iff {g : Nat → Int} {f t : Int} : ∀ {k : Nat}, metL g f t k = true ↔ ∃ j, j < k ∧ f ≤ g j ∧ g j ≤ t
  | 0 => by simp [metL]
  | k + 1 => by
    rw [metL, Bool.or_eq_true, Bool.and_eq_true, decide_eq_true_iff, decide_eq_true_iff, metL_iff]
    constructor
    · rintro (⟨j, h1, h2⟩ | h)
      · exact ⟨j, by omega, h2⟩
      · exact ⟨k, by omega, h⟩
    · rintro ⟨j, h1, h2⟩
      by_cases e : j = k
      · subst e; exact .inr h2
      · exact .inl ⟨j, by omega, h2⟩
/-- a line of the staves meets a run, and it is short enough -/
def keepR (ln : Nat → Nat → Nat → Int) (kS : Nat) (most : Int) (r : Rn) : Bool :=
  metL (fun k => ln (k / 5) (k % 5) r.1.toNat) r.2.1 r.2.2 (5 * kS) && decide (r.2.2 - r.2.1 + 1 ≤ most)

set_option maxRecDepth 100000 in
set_option maxHeartbeats 8000000 in
theorem rruns_ok (W most : Int) (H N : Nat) (A AS : Option Addr) (n c kS cS : Nat) (p : Int → Int) (K : Nat → Nat) (m : Nat → Nat → Nat) (ln : Nat → Nat → Nat → Int) (w : World)
    (hW : W = N) (hN : N ≤ 640) (hH : H ≤ 640) (hA : ArrB w w.heap.size A n p) (hn : n = N * H) (hB : IsB p) (hp : ∀ i : Int, 0 ≤ i → i < n → p i = 0 ∨ p i = 1) (hk : kS ≤ 1000)
    (hS : StavesIn w w.heap.size AS kS K m ln) (hm : ∀ i j, i < kS → j < K i → m i j ≤ maxLen) (hfit : ∀ i, i < kS → stFits W H (K i) (m i) (ln i) = true) :
    Calls Tryz.prog 53 #[.agg #[.int .i64 W, .int .i64 H, .slice A n c], .slice AS kS cS, .int .i64 most] w (New w fun v w' => ∃ u, v = .tuple #[u, .int .i64 0] ∧ RunRow w' w.heap.size u ((rLs (fun x y => inkB W H p x y) H N).filter (keepR ln kS most))) := by
  subst hW
  have hn640 : n ≤ 409600 := by rw [hn]; exact Nat.mul_le_mul hN hH
  have hnI : (n : Int) = (N : Int) * H := by rw [hn]; push_cast; rfl
  have CK := Lib.hid fun w' hA' => rcheck_any N H A n c p w' hA' (by unfold maxLen; omega) hB
  have hchk : chk N H n p = 0 := chk_mk (by omega) (by omega) (by omega) (by omega) (by rw [hn]; push_cast; rfl) fun i a b => by have := hp i a b; omega
  rw [hchk] at CK
  clear hchk
  have FT := Lib.hid fun i (hi : i < kS) AL cL w' hL => rfits_st N H A AL n c (K i) cL (m i) (ln i) w' (by omega) (by omega) (by omega) (by omega) hL (fun j hj => hm i j hi hj)
  have CO := Lib.hid fun w' hA' => rcolumns_any N H A n c p w' hA' hN hH hnI
  have HF := Lib.hid hfit
  have HS := Lib.hid hS
  have HA := Lib.hid hA
  obtain ⟨r0, hr0, hrz0, hrz1, hrz2⟩ := info_parts infoRun
  obtain ⟨Lc, hLc⟩ : ∃ Lc, rLs (fun x y => inkB N H p x y) H N = Lc := ⟨_, rfl⟩
  have MB := Lib.hid (fun (i : Nat) (r : Rn) (hr : Lc[i]? = some r) => (show 0 ≤ r.1 ∧ r.1 < N ∧ 0 ≤ r.2.1 ∧ r.2.1 ≤ r.2.2 ∧ r.2.2 < H from by
    have hm := List.mem_of_getElem? hr
    rw [← hLc] at hm
    obtain ⟨x, y, hx, hy, h⟩ := mem_rLs.1 hm
    obtain ⟨-, rfl⟩ := mem_rnA.1 h
    have := enB_bd (fun y => inkB N H p x y) (H - 1 - y) y
    refine ⟨?_, ?_, ?_, ?_, ?_⟩ <;> simp only <;> omega))
  have hLc9 : Lc.length ≤ 409600 := by
    rw [← hLc]
    exact Nat.le_trans (rLs_len _ _ _) (Nat.mul_le_mul hN hH)
  rw [hLc] at CO ⊢
  clear hS hm hfit hp hA hn hB hnI hLc
  go_enter Tryz.func53, Tryz.ntmps53
  go_wp2_with fail
  have k1 := Blk.new w 24 #[.int .i64 N, .int .i64 H, .slice A n c]
  have b1 : Below w.heap.size w (w.alloc (.cells #[.int .i64 N, .int .i64 H, .slice A n c] 24)) := (Below.refl _ _).alloc (Nat.le_refl _) _
  generalize w.alloc (.cells #[.int .i64 N, .int .i64 H, .slice A n c] 24) = w1 at *
  refine (CK.out w1 (HA.out.to b1)).mono ?_
  rintro e w2 ⟨rfl, d2⟩
  replace k1 := k1.below' d2
  have b2 := below_call b1 b1.size d2
  clear b1 d2 CK
  go_wp2_with fail
  go_loopw [9] (fun s wr => ∃ i : Nat, i ≤ kS ∧ s = .int .i64 i ∧ Below w2.heap.size w2 wr) (fun s _ => kS - (intOf s).toNat)
  case atStart => exact ⟨0, by omega, rfl, Below.refl _ _⟩
  case round =>
    obtain ⟨i, hi, rfl, d3⟩ := hrel
    have b3 := below_call b2 b2.size d3
    have k3 := k1.below' d3
    obtain ⟨p1, p2, p3⟩ := k3.cells3
    by_cases il : (i : Int) < kS
    · obtain ⟨bS, oS, AL, cL, eS, hbS, hcS, hLS⟩ := HS.out.to b3 i (by omega)
      cases eS
      have FTi := Lib.hid fun w' hL => FT.out i (by omega) AL cL w' hL
      rw [HF.out i (by omega)] at FTi
      go_upto_region 7 with fail
      go_cut [33] (fun v wx => v = .bool false ∧ Below wr.heap.size wr wx)
      case first =>
        go_region_held3 (fun w' => w'.cell? ⟨w.heap.size, 0, none⟩ = some (.int .i64 N) ∧ w'.cell? ⟨w.heap.size, 1, none⟩ = some (.int .i64 H) ∧ w'.cell? ⟨w.heap.size, 2, none⟩ = some (.slice A n c) ∧ w'.cell? ⟨bS, oS + i, none⟩ = some (.slice AL (K i) cL))
          (first | (simp [go_sem, *]; done) | (go_keep; done))
          ((go_at_call 80
            refine (FTi.out _ ?_).mono ?_
            focus exact hLS
            rintro e v1 ⟨rfl, hb1⟩
            have kk1 : Blk v1 w.heap.size 24 #[.int .i64 N, .int .i64 H, .slice A n c] := by (repeat (first | with_reducible assumption | with_reducible exact Blk.new _ _ _ | with_reducible exact Blk.new' (World.size_alloc _ _) _ _ | (with_reducible refine Blk.new' ?_ _ _; focus (simp; done)) | with_reducible apply Blk.fill3 | (with_reducible refine Blk.far3' ?_ ?_; focus omega) | with_reducible refine Blk.alloc ?_ _ | with_reducible refine Blk.drew ?_ | (with_reducible apply Blk.below2; focus (with_reducible assumption))))
            obtain ⟨x1, x2, x3⟩ := kk1.cells3
            have x5 : v1.cell? ⟨bS, oS + i, none⟩ = some (.slice AL (K i) cL) := (hb1.cell (p := ⟨bS, oS + i, none⟩) hbS).trans hcS))
        all_goals
          go_wp2_with fail
          go_meet
          exact ⟨rfl, by (repeat (first | with_reducible exact Below.refl _ _ | with_reducible assumption | with_reducible refine Below.drew ?_ | (with_reducible refine below_alloc' ?_ ?_; focus (first | omega | (simp; done) | (simp; omega))) | (with_reducible refine below_fill3' ?_ ?_; focus omega) | (with_reducible refine below_setCell' ?_ ?_; focus (first | omega | (simp; done) | (simp; omega))) | (with_reducible apply below_call'; (focus (with_reducible assumption)); (focus (first | omega | (simp; done) | (simp; omega))))))⟩
      case rest =>
      obtain ⟨rfl, d4⟩ := hcut
      have d5 := below_call d3 d3.size d4
      clear p1 p2 p3 hcS hLS d4 d3 b3 k3
      go_wp2_with fail
      go_round
      case rel => exact ⟨i + 1, by omega, by go_num, d5⟩
      case measure => simp [intOf]; omega
    · clear FT
      go_wp2_with fail
      refine (CO.out wr (HA.out.to b3)).mono ?_
      rintro e w5 ⟨v5, rfl, hR5, d5⟩
      have b5 := below_call b3 b3.size d5
      obtain ⟨Ac, cc, rfl, hRA⟩ := hR5.arr
      obtain ⟨B, hB⟩ : ∃ B, w5.heap.size = B := ⟨_, rfl⟩
      have hgB : w.heap.size ≤ B := by rw [← hB]; exact b5.size
      have HRA := Lib.hid hRA
      have HBB := Lib.hid hB
      clear p1 p2 p3 k3 k1 b3 b2 d3 d5 hR5 hRA hB CO
      have hSb := b5
      have SI5 := Lib.hid ((HS.out.to b5))
      go_wp2_with fail
      go_loopw [12, 10] (fun s v wr => ∃ (i : Nat) (L : List Rn), i ≤ Lc.length ∧ s = .int .i64 i ∧ RunRow wr B v L ∧ Below w5.heap.size w5 wr ∧ Hid (L = (Lc.take i).filter (keepR ln kS most)) ∧ L.length ≤ i) (fun s _ _ => Lc.length - (intOf s).toNat)
      case atStart => exact ⟨0, [], by omega, rfl, RunRow.nil _ _, Below.refl _ _, Lib.hid rfl, by simp⟩
      case round =>
        obtain ⟨i, L, hi, rfl, hR, d6, HL, hLl2⟩ := hrel
        by_cases il : (i : Int) < Lc.length
        · have ilN : i < Lc.length := by omega
          obtain ⟨r, hr⟩ : ∃ r, Lc[i]? = some r := ⟨Lc[i], List.getElem?_eq_getElem ilN⟩
          have htk : Lc.take (i + 1) = Lc.take i ++ [r] := by rw [List.take_add_one, hr]; rfl
          obtain ⟨gR, rfl, hgR, rc⟩ := HRA.out (by intro h; rw [h] at ilN; simp at ilN)
          obtain ⟨b1', b2', b3', b4', b5'⟩ := MB.out i r hr
          obtain ⟨d1, d2, d3⟩ := rc i r hr
          have HTK := Lib.hid htk
          have KR := Lib.hid (show keepR ln kS most r = (metL (fun k => ln (k / 5) (k % 5) r.1.toNat) r.2.1 r.2.2 (5 * kS) && decide (r.2.2 - r.2.1 + 1 ≤ most)) from rfl)
          obtain ⟨rx, rf, rt⟩ := r
          simp only at d1 d2 d3 b1' b2' b3' b4' b5' KR
          obtain ⟨x, rfl⟩ := Int.eq_ofNat_of_zero_le b1'
          obtain ⟨f, rfl⟩ := Int.eq_ofNat_of_zero_le b3'
          obtain ⟨t, rfl⟩ := Int.eq_ofNat_of_zero_le (Int.le_trans b3' b4')
          rw [Int.toNat_natCast] at KR
          have HD1 := Lib.hid d1; have HD2 := Lib.hid d2; have HD3 := Lib.hid d3
          clear htk hr rc
          have u5 : IntKind.i64.wrap (5 * (kS : Int)) = ((5 * kS : Nat) : Int) := (IntWalk.i64_in _ (by omega)).trans (by omega)
          obtain ⟨k5, hk5⟩ : ∃ k5, 5 * kS = k5 := ⟨_, rfl⟩
          rw [hk5] at KR u5
          go_wp2_with fail
          go_loopw [14, 13] (fun s b wr' => ∃ k : Nat, k ≤ k5 ∧ s = .int .i64 k ∧ b = .bool (metL (fun k => ln (k / 5) (k % 5) x) f t k) ∧ Below wr.heap.size wr wr') (fun s _ _ => k5 - (intOf s).toNat)
          case atStart => exact ⟨0, by omega, rfl, rfl, Below.refl _ _⟩
          case round =>
            obtain ⟨k, hk, rfl, rfl, d7⟩ := hrel
            obtain ⟨mb, hmb⟩ : ∃ mb, metL (fun k => ln (k / 5) (k % 5) x) f t k = mb := ⟨_, rfl⟩
            rw [hmb]
            have d8 := d6.trans (d7.mono d6.size)
            have e1 := (d8.cell (p := ⟨gR, i * 3, none⟩) hgR).trans d1
            have e2 := (d8.cell (p := ⟨gR, i * 3 + 1, none⟩) hgR).trans d2
            have e3 := (d8.cell (p := ⟨gR, i * 3 + 2, none⟩) hgR).trans d3
            by_cases kl : (k : Int) < k5
            · obtain ⟨kd, hkd⟩ : ∃ kd, k / 5 = kd := ⟨_, rfl⟩
              obtain ⟨km, hkm⟩ : ∃ km, k % 5 = km := ⟨_, rfl⟩
              have t1 : IntKind.i64.wrap ((k : Int).tdiv 5) = (kd : Int) := by rw [Int.tdiv_eq_ediv_of_nonneg (by omega)]; exact (IntWalk.i64_in _ (by omega)).trans (by omega)
              have t2 : (k : Int).tmod 5 = (km : Int) := by rw [Int.tmod_eq_emod_of_nonneg (by omega)]; omega
              have t3 : IntKind.i64.wrap ((k : Int) / 5) = (kd : Int) := (IntWalk.i64_in _ (by omega)).trans (by omega)
              have t4 : (k : Int) % 5 = (km : Int) := by omega
              have hkdS : (kd : Int) < kS := by omega
              have hkm5 : (km : Int) < 5 := by omega
              obtain ⟨bS, oS, AL, cL, eS, hbS, hcS, hLS⟩ := SI5.out kd (by omega)
              cases eS
              obtain ⟨fk, fp, -⟩ := stFits_iff.1 (HF.out kd (by omega))
              rw [fk] at hcS hLS
              obtain ⟨bA, oA, A1, c1, eA, hbA, hcA, haA⟩ := hLS.at_ (i := km) (by omega)
              cases eA
              obtain ⟨⟨-, -, g3⟩, -⟩ := isPathB_iff.1 (fp km (by omega))
              have hmN : m kd km = N := by omega
              rw [hmN] at hcA haA
              obtain ⟨bx, ox, eX, hbx, hcx⟩ := ArrI.at_ haA (i := (x : Int)) (by omega) (by omega)
              cases eX
              rw [Int.toNat_natCast] at hcx
              have c1' := (d8.cell (p := ⟨bS, oS + kd, none⟩) hbS).trans hcS
              have c2' := (d8.cell (p := ⟨bA, oA + km, none⟩) hbA).trans hcA
              have c3' := (d8.cell (p := ⟨bx, ox + x, none⟩) hbx).trans hcx
              have MET := Lib.hid (show metL (fun k => ln (k / 5) (k % 5) x) f t (k + 1) = (mb || (decide ((f : Int) ≤ ln kd km x) && decide (ln kd km x ≤ t))) from by
                rw [← hkd, ← hkm, ← hmb]; rfl)
              generalize ln kd km x = z at *
              have hxN : (x : Int) < N := b2'
              clear hmb hcS hLS hcA haA hcx fk fp g3 hmN hkd hkm hbS hbA hbx d8
              go_upto_region 18 with fail
              go_quiet (fail)
              have d9 := below_drewN d7 nq
              have e1' : (wr.drewN nq).cell? ⟨gR, i * 3, none⟩ = some (.int .i64 x) := e1
              have e2' : (wr.drewN nq).cell? ⟨gR, i * 3 + 1, none⟩ = some (.int .i64 f) := e2
              have e3' : (wr.drewN nq).cell? ⟨gR, i * 3 + 2, none⟩ = some (.int .i64 t) := e3
              clear e1 e2 e3 c1' c2' c3' d7 t1 t2 t3 t4
              generalize wr.drewN nq = w9 at *
              cases mb
              · by_cases f1 : (f : Int) ≤ z
                · by_cases f2 : z ≤ (t : Int)
                  · have F1 := Lib.hid f1; have F2 := Lib.hid f2
                    go_wp2_with fail
                    go_round
                    case rel => exact ⟨k + 1, by omega, by go_num, by rw [MET.out, decide_eq_true F1.out, decide_eq_true F2.out]; rfl, d9⟩
                    case measure => simp [intOf]; omega
                  · have F2 := Lib.hid f2
                    go_wp2_with fail
                    go_round
                    case rel => exact ⟨k + 1, by omega, by go_num, by rw [MET.out, decide_eq_false F2.out]; simp, d9⟩
                    case measure => simp [intOf]; omega
                · have F1 := Lib.hid f1
                  go_wp2_with fail
                  go_round
                  case rel => exact ⟨k + 1, by omega, by go_num, by rw [MET.out, decide_eq_false F1.out]; simp, d9⟩
                  case measure => simp [intOf]; omega
              · go_wp2_with fail
                go_round
                case rel => exact ⟨k + 1, by omega, by go_num, by rw [MET.out]; simp, d9⟩
                case measure => simp [intOf]; omega
            · have hk5' : k = k5 := by omega
              rw [hk5'] at hmb
              rw [hmb] at KR
              have vS : IntKind.i64.wrap ((t : Int) - f) = (t : Int) - f := IntWalk.i64_in _ (by omega)
              have vS2 : IntKind.i64.wrap ((t : Int) - f + 1) = (t : Int) - f + 1 := IntWalk.i64_in _ (by omega)
              have hR8 := hR.below d7
              clear hmb hk5' d1 d2 d3
              obtain ⟨kb, hkb⟩ : ∃ kb, (mb && decide ((t : Int) - f + 1 ≤ most)) = kb := ⟨_, rfl⟩
              rw [hkb] at KR
              have HKB := Lib.hid hkb
              clear hkb
              go_upto_region 20 with fail
              go_cut [101] (fun v wx => v = .bool kb ∧ Below wr.heap.size wr wx)
              case first =>
                cases mb
                · go_quiet (fail)
                  go_wp2_with fail
                  go_meet
                  exact ⟨by rw [← HKB.out]; rfl, below_drewN (Below.refl _ _) nq⟩
                · by_cases hle : (t : Int) - f + 1 ≤ most
                  · have HLE := Lib.hid hle
                    go_quiet (fail)
                    go_wp2_with fail
                    go_meet
                    exact ⟨by rw [← HKB.out]; simp [HLE.out], below_drewN (Below.refl _ _) nq⟩
                  · have HLE := Lib.hid hle
                    go_quiet (fail)
                    go_wp2_with fail
                    go_meet
                    exact ⟨by rw [← HKB.out]; simp [HLE.out], below_drewN (Below.refl _ _) nq⟩
              case rest =>
                obtain ⟨rfl, d10⟩ := hcut
                have d11 := below_call d8 d8.size d10
                have hR9 := hR8.below d10
                have q1 := (d11.cell (p := ⟨gR, i * 3, none⟩) hgR).trans HD1.out
                have q2 := (d11.cell (p := ⟨gR, i * 3 + 1, none⟩) hgR).trans HD2.out
                have q3 := (d11.cell (p := ⟨gR, i * 3 + 2, none⟩) hgR).trans HD3.out
                have hBz := HBB.out
                have z11 := d11.size
                clear e1 e2 e3 vS vS2 d10 hR8 d8 d7 hR
                cases kb
                · go_wp2_with fail
                  go_round
                  case rel => exact ⟨i + 1, L, by omega, by go_num, hR9, d11, Lib.hid (by rw [HTK.out, List.filter_append, HL.out]; simp [KR.out]), by omega⟩
                  case measure => simp [intOf]; omega
                · go_wp2_with (at_builtin; refine wpList_append_own _ rfl (.tmp 102) (.tmp 107) 53 rfl B 57 r0 (.agg #[.int .i64 0, .int .i64 0, .int .i64 0]) 3 24 Tryz.underlying53 hr0 hrz0 hrz1 hrz2 rfl (by decide) _ _ _ rfl (hR9.alloc _) ⟨wc.heap.size, 0, none⟩ 1 1 [.int .i64 x, .int .i64 f, .int .i64 t] rfl rfl ?c1 ?c2 ?c3 ?c4 ?c5 ?_)
                  case c2 => simp [Value.oneCell']
                  case c3 => unfold maxLen; omega
                  case c4 => omega
                  case c5 => first | omega | (simp; omega)
                  intro v' w12 own12 hg12 _
                  have b12 : Below w5.heap.size w5 w12 := (d11.alloc d11.size _).grown hg12 (by simp; omega) (fun j hj => by rw [hBz]; exact (own_ge hR9 hj).1)
                  have R12 : RunRow w12 B v' (L ++ [((x : Int), (f : Int), (t : Int))]) := by
                    unfold RunRow
                    rw [flatR_snoc, List.length_append]
                    exact own12
                  clear own12 hg12 q1 q2 q3
                  go_wp2
                  go_round
                  case rel => exact ⟨i + 1, _, by omega, by go_num, R12, b12, Lib.hid (by rw [HTK.out, List.filter_append, HL.out]; simp [KR.out]), by simp; omega⟩
                  case measure => simp [intOf]; omega
        · have hiL : i = Lc.length := by omega
          have hLL : L = Lc.filter (keepR ln kS most) := by rw [HL.out, hiL, List.take_length]
          have bE : Below w.heap.size w wr := below_call b5 b5.size d6
          clear hiL
          go_wp2
          refine bodyPost_ret (results_tmp2 rfl _ _ _) rfl ?_
          exact ⟨_, rfl, ⟨_, rfl, hLL ▸ hR.base hgB⟩, bE⟩
end Go.Proofs.YtdimlpcbbkokiaaGreat

/- Plain: the program's list of line runs is the reference's. No program in sight. -/
namespace Go.Proofs.YtdimlpcbbkokiaaGreat
open Go.RowKit
set_option linter.unusedVariables false
theorem enB_botN {p : Int → Int} {N H x : Nat} (hx : x < N) : ∀ {k y : Nat}, y + k < H → enB (fun y => inkB N H p x y) k y = botN p N x k y
  | 0, y, _ => rfl
  | k + 1, y, h => by
    have e : inkB N H p x ((y + 1 : Nat) : Int) = decide (p (((y : Int) + 1) * N + x) = 1) := by
      rw [inkB_in (by omega) (by omega) (by omega) (by omega)]
      push_cast
      rfl
    show (if inkB N H p x ((y + 1 : Nat) : Int) = true then enB (fun y => inkB N H p x y) k (y + 1) else y) = if p (((y : Int) + 1) * N + x) = 1 then botN p N x k (y + 1) else y
    rw [e, enB_botN hx (k := k) (y := y + 1) (by omega)]
    by_cases c : p (((y : Int) + 1) * N + x) = 1
    · rw [if_pos c, if_pos (decide_eq_true c)]
    · rw [if_neg c, if_neg (by rw [decide_eq_false c]; simp)]
theorem stB_ink {p : Int → Int} {N H x y : Nat} : stB (fun y => inkB N H p x y) y = (inkB N H p x y && !(decide (0 < y) && inkB N H p x ((y - 1 : Nat) : Int))) := rfl
theorem stB_run {p : Int → Int} {N H x f t : Nat} (hx : x < N) (hr : RunOf p N H x f t) : stB (fun y => inkB N H p x y) f = true := by
  have h1 := hr.lt
  have h2 := hr.le
  rw [stB_ink, Bool.and_eq_true]
  constructor
  · rw [inkB_in (by omega) (by omega) (by omega) (by omega)]
    exact decide_eq_true (hr.ink f (Nat.le_refl _) h1)
  · by_cases h0 : 0 < f
    · have u := hr.up (f - 1) (by omega)
      rw [inkB_in (by omega) (by omega) (by omega) (by omega), decide_eq_true h0, decide_eq_false u]
      rfl
    · rw [decide_eq_false h0]; rfl
theorem run_stB {p : Int → Int} {N H x y : Nat} (hx : x < N) (hy : y < H) (h : stB (fun y => inkB N H p x y) y = true) : ∃ t, RunOf p N H x y t := by
  rw [stB_ink, Bool.and_eq_true] at h
  obtain ⟨h1, h2⟩ := h
  rw [inkB_in (by omega) (by omega) (by omega) (by omega)] at h1
  obtain ⟨f, t, hr, a, b⟩ := run_ex (H := H) hy (of_decide_eq_true h1)
  by_cases e : f = y
  · subst e; exact ⟨t, hr⟩
  · exfalso
    have hi := hr.ink (y - 1) (by omega) (by omega)
    rw [inkB_in (by omega) (by omega) (by omega) (by omega), decide_eq_true (show 0 < y by omega), decide_eq_true hi] at h2
    cases h2
theorem run_end {p : Int → Int} {W : Int} {H f t t' : Nat} {x : Int} (h : RunOf p W H x f t) (h' : RunOf p W H x f t') : t = t' := by
  have a1 := h.lt; have a2 := h.le; have b1 := h'.lt; have b2 := h'.le
  rcases Nat.lt_trichotomy t t' with g | g | g
  · exact absurd (h'.ink t (by omega) g) (h.down (by omega))
  · exact g
  · exact absurd (h.ink t' (by omega) g) (h'.down (by omega))
section
variable {p : Int → Int} {N H kS : Nat} {most : Int} {ln : Nat → Nat → Nat → Int}
/-- a run that a line meets -/
theorem mem_colI_run (hb : ∀ a j x : Nat, a < kS → j < 5 → x < N → 0 ≤ ln a j x ∧ ln a j x < H) {r : Rn} :
    r ∈ colI p N H most ln N kS ↔ ∃ x f t : Nat, x < N ∧ RunOf p N H x f t ∧ (t : Int) - f ≤ most ∧ r = ((x : Int), (f : Int), (t : Int) - 1) ∧ ∃ i j, i < kS ∧ j < 5 ∧ (f : Int) ≤ ln i j x ∧ ln i j x < t := by
  rw [mem_colI]
  constructor
  · rintro ⟨i, j, x, hi, hj, hx, h⟩
    obtain ⟨e1, e2, rfl⟩ := mem_rnAt.1 h
    obtain ⟨b1, b2⟩ := hb i j x hi hj hx
    obtain ⟨y, hy⟩ : ∃ y : Nat, ln i j x = y := ⟨(ln i j x).toNat, by omega⟩
    rw [hy, Int.toNat_natCast] at e1 e2 ⊢
    obtain ⟨f, t, hr, a, b⟩ := run_ex (H := H) (by omega) e1
    have hl := hr.lt
    rw [hr.top a b, hr.bot a b] at e2 ⊢
    exact ⟨x, f, t, hx, hr, by omega, by rw [show ((t - 1 : Nat) : Int) = (t : Int) - 1 by omega], i, j, hi, hj, by omega, by omega⟩
  · rintro ⟨x, f, t, hx, hr, hm, rfl, i, j, hi, hj, h1, h2⟩
    obtain ⟨y, hy⟩ : ∃ y : Nat, ln i j x = y := ⟨(ln i j x).toNat, by have := hb i j x hi hj hx; omega⟩
    have hl := hr.lt
    refine ⟨i, j, x, hi, hj, hx, mem_rnAt.2 ?_⟩
    rw [hy, Int.toNat_natCast, hr.top (by omega) (by omega), hr.bot (by omega) (by omega)]
    exact ⟨hr.ink y (by omega) (by omega), by omega, by rw [show ((t - 1 : Nat) : Int) = (t : Int) - 1 by omega]⟩
theorem mem_keep (hk : 0 < N) {r : Rn} :
    r ∈ (rLs (fun x y => inkB N H p x y) H N).filter (keepR ln kS most) ↔ ∃ x f t : Nat, x < N ∧ RunOf p N H x f t ∧ (t : Int) - f ≤ most ∧ r = ((x : Int), (f : Int), (t : Int) - 1) ∧ ∃ i j, i < kS ∧ j < 5 ∧ (f : Int) ≤ ln i j x ∧ ln i j x < t := by
  rw [List.mem_filter, mem_rLs]
  constructor
  · rintro ⟨⟨x, y, hx, hy, h⟩, hq⟩
    obtain ⟨h1, rfl⟩ := mem_rnA.1 h
    obtain ⟨t, hr⟩ := run_stB hx hy h1
    have hl := hr.lt; have hle := hr.le
    have e : enB (fun y => inkB N H p x y) (H - 1 - y) y = t - 1 := by rw [enB_botN hx (by omega)]; exact hr.bot (Nat.le_refl _) hl
    rw [e] at hq ⊢
    unfold keepR at hq
    rw [Bool.and_eq_true, decide_eq_true_iff, metL_iff] at hq
    obtain ⟨⟨k, hk1, hk2, hk3⟩, hk4⟩ := hq
    simp only [Int.toNat_natCast] at hk2 hk3 hk4
    exact ⟨x, y, t, hx, hr, by omega, by rw [show ((t - 1 : Nat) : Int) = (t : Int) - 1 by omega], k / 5, k % 5, by omega, by omega, hk2, by omega⟩
  · rintro ⟨x, f, t, hx, hr, hm, rfl, i, j, hi, hj, h1, h2⟩
    have hl := hr.lt; have hle := hr.le
    have e : enB (fun y => inkB N H p x y) (H - 1 - f) f = t - 1 := by rw [enB_botN hx (by omega)]; exact hr.bot (Nat.le_refl _) hl
    refine ⟨⟨x, f, hx, by omega, mem_rnA.2 ⟨stB_run hx hr, ?_⟩⟩, ?_⟩
    · rw [e, show ((t - 1 : Nat) : Int) = (t : Int) - 1 by omega]
    · unfold keepR
      rw [Bool.and_eq_true, decide_eq_true_iff, metL_iff]
      refine ⟨⟨5 * i + j, by omega, ?_⟩, by show (t : Int) - 1 - f + 1 ≤ most; omega⟩
      rw [show (5 * i + j) / 5 = i by omega, show (5 * i + j) % 5 = j by omega]
      simp only [Int.toNat_natCast]
      exact ⟨h1, by omega⟩
theorem runs_same (hb : ∀ a j x : Nat, a < kS → j < 5 → x < N → 0 ≤ ln a j x ∧ ln a j x < H) {l : List Rn} (hp : l.Perm (colI p N H most ln N kS)) (hs : l.Pairwise leR) :
    dd l = (rLs (fun x y => inkB N H p x y) H N).filter (keepR ln kS most) := by
  by_cases hN : 0 < N
  · refine ltR_uniq (dd_sorted l hs fun a ha b hb' e1 e2 => ?_) ((rLs_sorted _ _ _).filter _) fun r => ?_
    · obtain ⟨x, f, t, hx, hr, -, rfl, -⟩ := (mem_colI_run hb).1 (hp.mem_iff.1 ha)
      obtain ⟨x', f', t', hx', hr', -, rfl, -⟩ := (mem_colI_run hb).1 (hp.mem_iff.1 hb')
      simp only at e1 e2
      obtain rfl : x = x' := by omega
      obtain rfl : f = f' := by omega
      rw [run_end hr hr']
    · rw [mem_dd, hp.mem_iff, mem_colI_run hb, mem_keep hN]
  · have h0 : N = 0 := by omega
    subst h0
    have e : colI p ((0 : Nat) : Int) H most ln 0 kS = [] := List.eq_nil_iff_forall_not_mem.2 fun r hr => by
      obtain ⟨i, j, x, -, -, hx, -⟩ := mem_colI.1 hr
      omega
    rw [e] at hp
    rw [hp.eq_nil]
    rfl
end
end Go.Proofs.YtdimlpcbbkokiaaGreat

/- Plain: a strip cut out and put back; a strip put in and cut out again. No program in sight. -/
namespace Go.Proofs.YtdimlpcbbkokiaaGreat
open Go.RowKit
set_option linter.unusedVariables false
theorem chk_01 {W H : Int} {n : Nat} {p : Int → Int} (h1 : 0 ≤ W) (h2 : W ≤ 640) (h3 : 0 ≤ H) (h4 : H ≤ 640) (hn : (n : Int) = W * H) (hp : ∀ i : Int, 0 ≤ i → i < n → p i ≤ 1) : chk W H n p = 0 := by
  unfold chk
  rw [if_pos (sidesB_iff.2 ⟨h1, h2, h3, h4, hn⟩)]
  have : pixB n p = true := by
    unfold pixB
    exact allN_iff.2 fun i a b => decide_eq_true (hp i a b)
  rw [this]; rfl
section
variable {W H h : Int} {p q : Int → Int} {l : Nat → Int} {up : Int}
theorem recQ_at {x y : Int} (x0 : 0 ≤ x) (x1 : x < W) : recQ W H p l up (y * W + x) = if 0 ≤ l x.toNat - up + y ∧ l x.toNat - up + y < H then p ((l x.toNat - up + y) * W + x) else 0 := by
  unfold recQ; rw [idx_mod x0 x1, idx_div x0 x1]
theorem resQ_at {x y : Int} (x0 : 0 ≤ x) (x1 : x < W) : resQ W H h p q l up (y * W + x) = if 0 ≤ y - l x.toNat + up ∧ y - l x.toNat + up < h then q ((y - l x.toNat + up) * W + x) else p (y * W + x) := by
  unfold resQ; rw [idx_mod x0 x1, idx_div x0 x1]
theorem back_home (hW : 0 < W) {i : Int} (i0 : 0 ≤ i) (i1 : i < W * H) : resQ W H h p (recQ W H p l up) l up i = p i := by
  obtain ⟨x, y, x0, x1, y0, y1, rfl, -, -⟩ := idx_of (k := i) (W := W) (H := H) i0 hW (by rw [Int.mul_comm]; exact i1)
  rw [resQ_at x0 x1]
  split
  · rw [recQ_at x0 x1, if_pos (by omega), show l x.toNat - up + (y - l x.toNat + up) = y by omega]
  · rfl
theorem back_strip {x y : Int} (x0 : 0 ≤ x) (x1 : x < W) (y0 : 0 ≤ y) (y1 : y < h) :
    recQ W H (resQ W H h p (fun j => 1 - recQ W H p l up j) l up) l up (y * W + x) = if 0 ≤ l x.toNat - up + y ∧ l x.toNat - up + y < H then 1 - p ((l x.toNat - up + y) * W + x) else 0 := by
  rw [recQ_at x0 x1]
  split
  · rename_i c
    rw [resQ_at x0 x1, if_pos (by omega), recQ_at x0 x1, if_pos (by omega), show l x.toNat - up + (l x.toNat - up + y - l x.toNat + up) = l x.toNat - up + y by omega]
  · rfl
theorem recQ_01 (hp : Is01 p) : Is01 (recQ W H p l up) := fun i => by unfold recQ; split; exact hp _; exact .inl rfl
theorem resQ_01 (hp : Is01 p) (hq : Is01 q) : Is01 (resQ W H h p q l up) := fun i => by unfold resQ; split; exact hq _; exact hp _
theorem not_01 (hp : Is01 p) : Is01 (fun i => 1 - p i) := fun i => by rcases hp i with h | h <;> simp [h]
theorem is01_B (hp : Is01 p) : IsB p := fun i => by rcases hp i with h | h <;> omega
theorem is01_le (hp : Is01 p) (i : Int) : p i ≤ 1 := by rcases hp i with h | h <;> omega
end
end Go.Proofs.YtdimlpcbbkokiaaGreat

/- Walks: the errors of Runs and Remove, the program's and the reference's; the reference's Remove. -/
namespace Go.Proofs.YtdimlpcbbkokiaaGreat
open Go.RowKit Go.Shelf
set_option linter.unusedVariables false
attribute [local go_sem] Oper.semAt_some

set_option maxHeartbeats 1000000 in
theorem rruns_bad (W H most z : Int) (A AS : Option Addr) (n c kS cS : Nat) (p : Int → Int) (w : World) (hA : ArrB w w.heap.size A n p) (hn : n ≤ maxLen) (hB : IsB p) (hE : chk W H n p = z) (hz : z ≠ 0) :
    Calls Tryz.prog 53 #[.agg #[.int .i64 W, .int .i64 H, .slice A n c], .slice AS kS cS, .int .i64 most] w fun e w' => e = .returned (.tuple #[.slice none 0 0, .int .i64 z]) ∧ Below w.heap.size w w' := by
  have CK := Lib.hid fun w' hA' => rcheck_any W H A n c p w' hA' hn hB
  rw [hE] at CK
  have hb : (z != 0) = true := by simp [hz]
  have HZ := Lib.hid hz; clear hz hE
  go_enter Tryz.func53, Tryz.ntmps53
  go_wp2_with fail
  refine (CK.out _ (hA.to (by (repeat (first | exact Below.refl _ _ | assumption | refine Below.drew ?_ | refine below_drewN ?_ _ | refine Below.alloc ?_ (by first | omega | (simp; done) | (simp; omega)) _ | refine Below.setCell ?_ (by first | omega | (simp; done) | (simp; omega)) _ | refine below_setRow ?_ (by first | omega | (simp; done) | (simp; omega)) _ ))))).mono ?_
  rintro e w1 ⟨rfl, hb1⟩
  have b1 : Below w.heap.size w w1 := below_call (by (repeat (first | exact Below.refl _ _ | assumption | refine Below.drew ?_ | refine below_drewN ?_ _ | refine Below.alloc ?_ (by first | omega | (simp; done) | (simp; omega)) _ | refine Below.setCell ?_ (by first | omega | (simp; done) | (simp; omega)) _ | refine below_setRow ?_ (by first | omega | (simp; done) | (simp; omega)) _ ))) (by simp; try omega) hb1
  go_wp2
  refine bodyPost_ret (results_tmp2 rfl _ _ _) rfl ?_
  exact ⟨rfl, b1⟩

set_option maxRecDepth 100000 in
set_option maxHeartbeats 4000000 in
theorem rruns_unfit (W most : Int) (H N : Nat) (A AS : Option Addr) (n c kS cS kF : Nat) (p : Int → Int) (K : Nat → Nat) (m : Nat → Nat → Nat) (ln : Nat → Nat → Nat → Int) (w : World)
    (hW : W = N) (hN : N ≤ 640) (hH : H ≤ 640) (hA : ArrB w w.heap.size A n p) (hn : n = N * H) (hB : IsB p) (hp : ∀ i : Int, 0 ≤ i → i < n → p i = 0 ∨ p i = 1) (hk : kS ≤ 1000)
    (hS : StavesIn w w.heap.size AS kS K m ln) (hm : ∀ i j, i < kS → j < K i → m i j ≤ maxLen) (hkF : kF < kS) (hfit : ∀ i, i < kF → stFits W H (K i) (m i) (ln i) = true) (hend : stFits W H (K kF) (m kF) (ln kF) = false) :
    Calls Tryz.prog 53 #[.agg #[.int .i64 W, .int .i64 H, .slice A n c], .slice AS kS cS, .int .i64 most] w fun e w' => e = .returned (.tuple #[.slice none 0 0, .int .i64 10]) ∧ Below w.heap.size w w' := by
  subst hW
  have hn640 : n ≤ 409600 := by rw [hn]; exact Nat.mul_le_mul hN hH
  have CK := Lib.hid fun w' hA' => rcheck_any N H A n c p w' hA' (by unfold maxLen; omega) hB
  have hchk : chk N H n p = 0 := chk_mk (by omega) (by omega) (by omega) (by omega) (by rw [hn]; push_cast; rfl) fun i a b => by have := hp i a b; omega
  rw [hchk] at CK
  clear hchk
  have FT := Lib.hid fun i (hi : i < kS) AL cL w' hL => rfits_st N H A AL n c (K i) cL (m i) (ln i) w' (by omega) (by omega) (by omega) (by omega) hL (fun j hj => hm i j hi hj)
  have HF := Lib.hid hfit
  have HE := Lib.hid hend
  have HS := Lib.hid hS
  have HA := Lib.hid hA
  clear hS hm hfit hp hA hn hB hend
  go_enter Tryz.func53, Tryz.ntmps53
  go_wp2_with fail
  have k1 := Blk.new w 24 #[.int .i64 N, .int .i64 H, .slice A n c]
  have b1 : Below w.heap.size w (w.alloc (.cells #[.int .i64 N, .int .i64 H, .slice A n c] 24)) := (Below.refl _ _).alloc (Nat.le_refl _) _
  generalize w.alloc (.cells #[.int .i64 N, .int .i64 H, .slice A n c] 24) = w1 at *
  refine (CK.out w1 (HA.out.to b1)).mono ?_
  rintro e w2 ⟨rfl, d2⟩
  replace k1 := k1.below' d2
  have b2 := below_call b1 b1.size d2
  clear b1 d2 CK
  go_wp2_with fail
  go_loopw [9] (fun s wr => ∃ i : Nat, i ≤ kF ∧ s = .int .i64 i ∧ Below w2.heap.size w2 wr) (fun s _ => kS - (intOf s).toNat)
  case atStart => exact ⟨0, by omega, rfl, Below.refl _ _⟩
  case round =>
    obtain ⟨i, hi, rfl, d3⟩ := hrel
    have b3 := below_call b2 b2.size d3
    have k3 := k1.below' d3
    obtain ⟨p1, p2, p3⟩ := k3.cells3
    have il : (i : Int) < kS := by omega
    obtain ⟨bS, oS, AL, cL, eS, hbS, hcS, hLS⟩ := HS.out.to b3 i (by omega)
    cases eS
    have FTi := Lib.hid fun w' hL => FT.out i (by omega) AL cL w' hL
    obtain ⟨fb, hfb⟩ : ∃ fb, stFits N H (K i) (m i) (ln i) = fb := ⟨_, rfl⟩
    rw [hfb] at FTi
    have HFB := Lib.hid hfb
    clear hfb
    go_upto_region 7 with fail
    go_cut [33] (fun v wx => v = .bool (!fb) ∧ Below wr.heap.size wr wx)
    case first =>
      go_region_held3 (fun w' => w'.cell? ⟨w.heap.size, 0, none⟩ = some (.int .i64 N) ∧ w'.cell? ⟨w.heap.size, 1, none⟩ = some (.int .i64 H) ∧ w'.cell? ⟨w.heap.size, 2, none⟩ = some (.slice A n c) ∧ w'.cell? ⟨bS, oS + i, none⟩ = some (.slice AL (K i) cL))
        (first | (simp [go_sem, *]; done) | (go_keep; done))
        ((go_at_call 80
          refine (FTi.out _ ?_).mono ?_
          focus exact hLS
          rintro e v1 ⟨rfl, hb1⟩
          have kk1 : Blk v1 w.heap.size 24 #[.int .i64 N, .int .i64 H, .slice A n c] := by (repeat (first | with_reducible assumption | with_reducible exact Blk.new _ _ _ | with_reducible exact Blk.new' (World.size_alloc _ _) _ _ | (with_reducible refine Blk.new' ?_ _ _; focus (simp; done)) | with_reducible apply Blk.fill3 | (with_reducible refine Blk.far3' ?_ ?_; focus omega) | with_reducible refine Blk.alloc ?_ _ | with_reducible refine Blk.drew ?_ | (with_reducible apply Blk.below2; focus (with_reducible assumption))))
          obtain ⟨x1, x2, x3⟩ := kk1.cells3
          have x5 : v1.cell? ⟨bS, oS + i, none⟩ = some (.slice AL (K i) cL) := (hb1.cell (p := ⟨bS, oS + i, none⟩) hbS).trans hcS))
      all_goals
        go_wp2_with fail
        go_meet
        exact ⟨rfl, by (repeat (first | with_reducible exact Below.refl _ _ | with_reducible assumption | with_reducible refine Below.drew ?_ | (with_reducible refine below_alloc' ?_ ?_; focus (first | omega | (simp; done) | (simp; omega))) | (with_reducible refine below_fill3' ?_ ?_; focus omega) | (with_reducible refine below_setCell' ?_ ?_; focus (first | omega | (simp; done) | (simp; omega))) | (with_reducible apply below_call'; (focus (with_reducible assumption)); (focus (first | omega | (simp; done) | (simp; omega))))))⟩
    case rest =>
    obtain ⟨rfl, d4⟩ := hcut
    have d5 := below_call d3 d3.size d4
    have b5 := below_call b3 b3.size d4
    clear p1 p2 p3 hcS hLS d4 d3 b3 k3
    cases fb
    · go_wp2
      refine bodyPost_ret (results_tmp2 rfl _ _ _) rfl ?_
      exact ⟨rfl, b5⟩
    · have hlt : i < kF := by
        rcases Nat.lt_or_ge i kF with h | h
        · exact h
        · obtain rfl : i = kF := by omega
          have := HE.out
          rw [HFB.out] at this
          cases this
      go_wp2_with fail
      go_round
      case rel => exact ⟨i + 1, by omega, by go_num, d5⟩
      case measure => simp [intOf]; omega

set_option maxHeartbeats 2000000 in
theorem remove_err (W H most E : Int) (A AS : Option Addr) (n c kS cS : Nat) (w : World) (hE : E ≠ 0)
    (RU : ∀ w', Below w.heap.size w w' → Calls Tryz.prog 52 #[.agg #[.int .i64 W, .int .i64 H, .slice A n c], .slice AS kS cS, .int .i64 most] w' fun e w'' => e = .returned (.tuple #[.slice none 0 0, .int .i64 E]) ∧ Below w'.heap.size w' w'') :
    Calls Tryz.prog 54 #[.agg #[.int .i64 W, .int .i64 H, .slice A n c], .slice AS kS cS, .int .i64 most] w fun e w' => e = .returned (.tuple #[noImg, .int .i64 E]) ∧ Below w.heap.size w w' := by
  have RH := Lib.hid RU
  have hb : (E != 0) = true := by simp [hE]
  have HZ := Lib.hid hE; clear hE RU
  go_enter Tryz.func54, Tryz.ntmps54
  go_wp2_with fail
  have k2 : Blk ((w.alloc (.cells #[.int .i64 W, .int .i64 H, .slice A n c] 24)).alloc (.cells #[.int .i64 0, .int .i64 0, .slice none 0 0] 24)) (w.heap.size + 1) 24 #[.int .i64 0, .int .i64 0, .slice none 0 0] := Blk.new' (by simp) _ _
  have b1 : Below w.heap.size w ((w.alloc (.cells #[.int .i64 W, .int .i64 H, .slice A n c] 24)).alloc (.cells #[.int .i64 0, .int .i64 0, .slice none 0 0] 24)) := by (repeat (first | exact Below.refl _ _ | assumption | refine Below.drew ?_ | refine below_drewN ?_ _ | refine Below.alloc ?_ (by first | omega | (simp; done) | (simp; omega)) _ | refine Below.setCell ?_ (by first | omega | (simp; done) | (simp; omega)) _ | refine below_setRow ?_ (by first | omega | (simp; done) | (simp; omega)) _ ))
  generalize (w.alloc (.cells #[.int .i64 W, .int .i64 H, .slice A n c] 24)).alloc (.cells #[.int .i64 0, .int .i64 0, .slice none 0 0] 24) = w1 at *
  refine (RH.out w1 b1).mono ?_
  rintro e w2 ⟨rfl, d2⟩
  have k3 := k2.below' d2
  have b2 := below_call b1 b1.size d2
  obtain ⟨r1, r2, r3⟩ := k3.cells3
  obtain ⟨f1, f2, f3⟩ := k3.frozen3
  have k9 := ((k3.set_ 0 (.int .i64 0)).set_ 1 (.int .i64 0)).set_ 2 (.slice none 0 0)
  obtain ⟨s1, s2, s3⟩ := Blk.cells3 (a := .int .i64 0) (b := .int .i64 0) (c := .slice none 0 0) k9
  go_wp2_with fail
  refine bodyPost_ret (v := .tuple #[noImg, .int .i64 E]) (by simp [results, Tryz.results54, go_sem, noImg, s1, s2, s3]) rfl ?_
  exact ⟨rfl, by (repeat (first | with_reducible exact Below.refl _ _ | with_reducible assumption | with_reducible refine Below.drew ?_ | (with_reducible refine below_alloc' ?_ ?_; focus (first | omega | (simp; done) | (simp; omega))) | (with_reducible refine below_fill3' ?_ ?_; focus omega) | (with_reducible refine below_setCell' ?_ ?_; focus (first | omega | (simp; done) | (simp; omega))) | (with_reducible apply below_call'; (focus (with_reducible assumption)); (focus (first | omega | (simp; done) | (simp; omega))))))⟩

set_option maxHeartbeats 2000000 in
theorem rremove_err (W H most E : Int) (A AS : Option Addr) (n c kS cS : Nat) (w : World) (hE : E ≠ 0)
    (RU : ∀ w', Below w.heap.size w w' → Calls Tryz.prog 53 #[.agg #[.int .i64 W, .int .i64 H, .slice A n c], .slice AS kS cS, .int .i64 most] w' fun e w'' => e = .returned (.tuple #[.slice none 0 0, .int .i64 E]) ∧ Below w'.heap.size w' w'') :
    Calls Tryz.prog 55 #[.agg #[.int .i64 W, .int .i64 H, .slice A n c], .slice AS kS cS, .int .i64 most] w fun e w' => e = .returned (.tuple #[noImg, .int .i64 E]) ∧ Below w.heap.size w w' := by
  have RH := Lib.hid RU
  have hb : (E != 0) = true := by simp [hE]
  have HZ := Lib.hid hE; clear hE RU
  go_enter Tryz.func55, Tryz.ntmps55
  go_wp2_with fail
  have k2 : Blk ((w.alloc (.cells #[.int .i64 W, .int .i64 H, .slice A n c] 24)).alloc (.cells #[.int .i64 0, .int .i64 0, .slice none 0 0] 24)) (w.heap.size + 1) 24 #[.int .i64 0, .int .i64 0, .slice none 0 0] := Blk.new' (by simp) _ _
  have b1 : Below w.heap.size w ((w.alloc (.cells #[.int .i64 W, .int .i64 H, .slice A n c] 24)).alloc (.cells #[.int .i64 0, .int .i64 0, .slice none 0 0] 24)) := by (repeat (first | exact Below.refl _ _ | assumption | refine Below.drew ?_ | refine below_drewN ?_ _ | refine Below.alloc ?_ (by first | omega | (simp; done) | (simp; omega)) _ | refine Below.setCell ?_ (by first | omega | (simp; done) | (simp; omega)) _ | refine below_setRow ?_ (by first | omega | (simp; done) | (simp; omega)) _ ))
  generalize (w.alloc (.cells #[.int .i64 W, .int .i64 H, .slice A n c] 24)).alloc (.cells #[.int .i64 0, .int .i64 0, .slice none 0 0] 24) = w1 at *
  refine (RH.out w1 b1).mono ?_
  rintro e w2 ⟨rfl, d2⟩
  have k3 := k2.below' d2
  have b2 := below_call b1 b1.size d2
  obtain ⟨r1, r2, r3⟩ := k3.cells3
  obtain ⟨f1, f2, f3⟩ := k3.frozen3
  have k9 := ((k3.set_ 0 (.int .i64 0)).set_ 1 (.int .i64 0)).set_ 2 (.slice none 0 0)
  obtain ⟨s1, s2, s3⟩ := Blk.cells3 (a := .int .i64 0) (b := .int .i64 0) (c := .slice none 0 0) k9
  go_wp2_with fail
  refine bodyPost_ret (v := .tuple #[noImg, .int .i64 E]) (by simp [results, Tryz.results55, go_sem, noImg, s1, s2, s3]) rfl ?_
  exact ⟨rfl, by (repeat (first | with_reducible exact Below.refl _ _ | with_reducible assumption | with_reducible refine Below.drew ?_ | (with_reducible refine below_alloc' ?_ ?_; focus (first | omega | (simp; done) | (simp; omega))) | (with_reducible refine below_fill3' ?_ ?_; focus omega) | (with_reducible refine below_setCell' ?_ ?_; focus (first | omega | (simp; done) | (simp; omega))) | (with_reducible apply below_call'; (focus (with_reducible assumption)); (focus (first | omega | (simp; done) | (simp; omega))))))⟩

/-- kept runs are in order and apart -/
theorem runsOk_keep {p : Int → Int} {N H kS : Nat} {most : Int} {ln : Nat → Nat → Nat → Int} : RunsOk H N ((rLs (fun x y => inkB N H p x y) H N).filter (keepR ln kS most)) := by
  have hm : ∀ r, r ∈ (rLs (fun x y => inkB N H p x y) H N).filter (keepR ln kS most) → ∃ x f t : Nat, x < N ∧ RunOf p N H x f t ∧ r = ((x : Int), (f : Int), (t : Int) - 1) := fun r hr => by
    obtain ⟨x, y, hx, hy, h⟩ := mem_rLs.1 (List.mem_filter.1 hr).1
    obtain ⟨h1, rfl⟩ := mem_rnA.1 h
    obtain ⟨t, ht⟩ := run_stB hx hy h1
    have hl := ht.lt
    refine ⟨x, y, t, hx, ht, ?_⟩
    rw [enB_botN hx (by omega), ht.bot (Nat.le_refl _) hl, show ((t - 1 : Nat) : Int) = (t : Int) - 1 by omega]
  constructor
  · intro i r hr
    obtain ⟨x, f, t, hx, ht, rfl⟩ := hm r (List.mem_of_getElem? hr)
    have := ht.lt; have := ht.le
    refine ⟨?_, ?_, ?_, ?_, ?_⟩ <;> simp only <;> omega
  · intro i q r hq hr
    obtain ⟨x, f, t, hx, ht, rfl⟩ := hm q (List.mem_of_getElem? hq)
    obtain ⟨x', f', t', hx', ht', rfl⟩ := hm r (List.mem_of_getElem? hr)
    have hs := (rLs_sorted (fun x y => inkB N H p x y) H N).filter (keepR ln kS most)
    obtain ⟨hi, eq⟩ := List.getElem?_eq_some_iff.1 hq
    obtain ⟨hi', er⟩ := List.getElem?_eq_some_iff.1 hr
    have hlt := (List.pairwise_iff_getElem.1 hs) i (i + 1) hi hi' (by omega)
    rw [eq, er] at hlt
    rcases hlt with h | ⟨h1, h2⟩
    · exact .inl h
    · simp only at h1 h2
      obtain rfl : x = x' := by omega
      refine .inr ⟨rfl, ?_⟩
      have a1 := ht.lt; have a2 := ht.le; have b1 := ht'.lt; have b2 := ht'.le
      show (t : Int) - 1 + 1 < f'
      rcases Nat.lt_trichotomy f' t with g | g | g
      · exact absurd (ht.ink (f' - 1) (by omega) (by omega)) (ht'.up (f' - 1) (by omega))
      · subst g; exact absurd (ht'.ink f' (Nat.le_refl _) b1) (ht.down (by omega))
      · omega
/-- ink without painted runs is ink with the runs struck -/
theorem pair_strike {p : Int → Int} {N H : Nat} {l : List Rn} {i : Int} (h0 : 0 ≤ i) (hi : i < (N : Int) * H) (hp : p i = 0 ∨ p i = 1) :
    fillB (fun x y => inkB N H p x y && !inkB N H (fillB (fun x y => inkB H N (paintR H l) y x) N) x y) N i = strike l N p i := by
  have hN : 0 < N := by
    rcases Nat.eq_zero_or_pos N with h | h
    · rw [h] at hi; omega
    · exact h
  have m0 := Int.emod_nonneg i (show (N : Int) ≠ 0 by omega)
  have m1 := Int.emod_lt_of_pos i (show (0 : Int) < N by omega)
  have d0 : 0 ≤ i / N := Int.ediv_nonneg h0 (by omega)
  have d1 : i / N < H := Int.ediv_lt_of_lt_mul (by omega) (by rw [Int.mul_comm]; exact hi)
  have hd : i / N * N + i % N = i := by rw [Int.mul_comm, Int.add_comm]; exact Int.emod_add_mul_ediv i N
  have e1 : inkB N H p (i % N) (i / N) = decide (p i = 1) := by rw [inkB_in m0 m1 d0 d1, hd]
  have e2 : inkB N H (fillB (fun x y => inkB H N (paintR H l) y x) N) (i % N) (i / N) = l.any (fun r => hitB r N i) := by
    rw [inkB_in m0 m1 d0 d1, fillB_at m0 m1, inkB_in d0 d1 m0 m1]
    have e3 : paintR H l (i % N * H + i / N) = if l.any (fun r => hitB r N i) = true then 1 else 0 := by
      unfold paintR
      have e4 : l.any (fun r => hitR H r (i % N * H + i / N)) = l.any (fun r => hitB r N i) := by
        congr 1
        funext r
        unfold hitR hitB
        rw [idx_mod d0 d1, idx_div d0 d1]
      rw [e4]
    rw [e3]
    cases l.any (fun r => hitB r N i) <;> simp
  unfold fillB strike
  show (if (inkB N H p (i % N) (i / N) && !inkB N H (fillB (fun x y => inkB H N (paintR H l) y x) N) (i % N) (i / N)) = true then (1 : Int) else 0) = _
  rw [e1, e2]
  rcases hp with h | h
  · rw [h]; simp
  · rw [h]; cases l.any (fun r => hitB r N i) <;> simp

set_option maxRecDepth 100000 in
set_option maxHeartbeats 4000000 in
theorem rremove_ok (W most : Int) (H N : Nat) (A AS : Option Addr) (n c kS cS : Nat) (p : Int → Int) (K : Nat → Nat) (m : Nat → Nat → Nat) (ln : Nat → Nat → Nat → Int) (w : World)
    (hW : W = N) (hN : N ≤ 640) (hH : H ≤ 640) (hA : ArrB w w.heap.size A n p) (hn : n = N * H) (hB : IsB p) (hp : ∀ i : Int, 0 ≤ i → i < n → p i = 0 ∨ p i = 1) (hk : kS ≤ 1000)
    (hS : StavesIn w w.heap.size AS kS K m ln) (hm : ∀ i j, i < kS → j < K i → m i j ≤ maxLen) (hfit : ∀ i, i < kS → stFits W H (K i) (m i) (ln i) = true) :
    Calls Tryz.prog 55 #[.agg #[.int .i64 W, .int .i64 H, .slice A n c], .slice AS kS cS, .int .i64 most] w (New w fun v w' => OutT w w' 0 W H n (strike ((rLs (fun x y => inkB W H p x y) H N).filter (keepR ln kS most)) W p) v) := by
  subst hW
  have hnI : (n : Int) = (N : Int) * H := by rw [hn]; push_cast; rfl
  have hn640 : n ≤ 409600 := by rw [hn]; exact Nat.mul_le_mul hN hH
  have RU := Lib.hid fun w' hA' hS' => rruns_ok N most H N A AS n c kS cS p K m ln w' rfl hN hH hA' hn hB hp hk hS' hm hfit
  have OK := Lib.hid (runsOk_keep (p := p) (N := N) (H := H) (kS := kS) (most := most) (ln := ln))
  have PSS := Lib.hid fun (l : List Rn) (i : Int) (h0 : 0 ≤ i) (h1 : i < n) => pair_strike (p := p) (N := N) (H := H) (l := l) h0 (by rw [← hnI]; exact h1) (hp i h0 h1)
  obtain ⟨L, hL⟩ : ∃ L, (rLs (fun x y => inkB N H p x y) H N).filter (keepR ln kS most) = L := ⟨_, rfl⟩
  have hLl : L.length ≤ 1000000000 := by
    rw [← hL]
    have h1 := List.length_filter_le (keepR ln kS most) (rLs (fun x y => inkB N H p x y) H N)
    have h2 := rLs_len (fun x y => inkB N H p x y) H N
    have h3 : N * H ≤ 640 * 640 := Nat.mul_le_mul hN hH
    omega
  rw [hL] at RU OK ⊢
  have FC := Lib.hid fun A' c' w' hA' => rfromcols_ok N H n L A' c' w' hN hH hnI hA' OK.out hLl
  have hc1 : chk N H n p = 0 := chk_mk (by omega) (by omega) (by omega) (by omega) hnI fun i a b => by have := hp i a b; omega
  have hc2 : chk N H n (fillB (fun x y => inkB H N (paintR H L) y x) N) = 0 := chk_01 (by omega) (by omega) (by omega) (by omega) hnI fun i _ _ => is01_le fillB_is01 i
  have PA := Lib.hid fun B' cb' w' hA' hB' => rpair2_ok N H n c cb' A B' p (fillB (fun x y => inkB H N (paintR H L) y x) N) w' hA' hB' hN hH hnI hc1 hc2 hB (is01_B fillB_is01)
  have HA := Lib.hid hA; have HS := Lib.hid hS
  clear hS hm hfit hp hA hn hB hnI hL hc1 hc2 OK
  go_enter Tryz.func55, Tryz.ntmps55
  go_wp2_with fail
  have k1 : Blk ((w.alloc (.cells #[.int .i64 N, .int .i64 H, .slice A n c] 24)).alloc (.cells #[.int .i64 0, .int .i64 0, .slice none 0 0] 24)) w.heap.size 24 #[.int .i64 N, .int .i64 H, .slice A n c] := (Blk.new _ _ _).alloc _
  have k2 : Blk ((w.alloc (.cells #[.int .i64 N, .int .i64 H, .slice A n c] 24)).alloc (.cells #[.int .i64 0, .int .i64 0, .slice none 0 0] 24)) (w.heap.size + 1) 24 #[.int .i64 0, .int .i64 0, .slice none 0 0] := Blk.new' (by simp) _ _
  have b1 : Below w.heap.size w ((w.alloc (.cells #[.int .i64 N, .int .i64 H, .slice A n c] 24)).alloc (.cells #[.int .i64 0, .int .i64 0, .slice none 0 0] 24)) := by (repeat (first | exact Below.refl _ _ | assumption | refine Below.drew ?_ | refine below_drewN ?_ _ | refine Below.alloc ?_ (by first | omega | (simp; done) | (simp; omega)) _ | refine Below.setCell ?_ (by first | omega | (simp; done) | (simp; omega)) _ | refine below_setRow ?_ (by first | omega | (simp; done) | (simp; omega)) _ ))
  generalize (w.alloc (.cells #[.int .i64 N, .int .i64 H, .slice A n c] 24)).alloc (.cells #[.int .i64 0, .int .i64 0, .slice none 0 0] 24) = w1 at *
  refine (RU.out w1 (HA.out.to b1) (HS.out.to b1)).mono ?_
  rintro e w2 ⟨_, rfl, ⟨v2, rfl, hR⟩, d2⟩
  replace k1 := k1.below' d2
  replace k2 := k2.below' d2
  have b2 := below_call b1 b1.size d2
  obtain ⟨Al, cl, rfl, hRA⟩ := hR.arr
  obtain ⟨p1, p2, p3⟩ := k1.cells3
  clear b1 d2 hR
  go_wp2_with fail
  refine (FC.out Al cl w2 hRA).mono ?_
  rintro e w3 ⟨_, rfl, ⟨_, rfl, ⟨g, rfl, hg, kg⟩⟩, d3⟩
  have b3 := below_call b2 b2.size d3
  have bA : Below w3.heap.size w3 (w3.alloc (.cells #[.int .i64 N, .int .i64 H, .slice (some ⟨g, 0, none⟩) n n] 24)) := (Below.refl _ _).alloc (Nat.le_refl _) _
  replace k1 := (k1.below' d3).below' bA
  replace k2 := (k2.below' d3).below' bA
  have kg4 := kg.below' bA
  have kx := Blk.new w3 24 #[.int .i64 N, .int .i64 H, .slice (some ⟨g, 0, none⟩) n n]
  have b4 := b3.trans (bA.mono b3.size)
  clear p1 p2 p3 d3 bA b3 b2 kg
  obtain ⟨p1, p2, p3⟩ := k1.cells3
  obtain ⟨x1, x2, x3⟩ := kx.cells3
  go_upto_region 5 with fail
  generalize w3.alloc (.cells #[.int .i64 N, .int .i64 H, .slice (some ⟨g, 0, none⟩) n n] 24) = w4 at *
  go_wp2_with fail
  refine (PA.out (some ⟨g, 0, none⟩) n w4 (HA.out.to b4) (kg4.arrB kg4.lt)).mono ?_
  rintro e w5 ⟨_, rfl, ⟨_, rfl, ⟨g5, rfl, hg5, kg5⟩⟩, d5⟩
  have b5 := below_call b4 b4.size d5
  have z2 := k2.lt
  have m0 := k2.below' d5
  obtain ⟨f1, f2, f3⟩ := m0.frozen3
  obtain ⟨y1, y2, y3⟩ := m0.cells3
  have k5 := ((m0.set_ 0 (.int .i64 N)).set_ 1 (.int .i64 H)).set_ 2 (.slice (some ⟨g5, 0, none⟩) n n)
  obtain ⟨s1, s2, s3⟩ := Blk.cells3 (a := .int .i64 N) (b := .int .i64 H) (c := .slice (some ⟨g5, 0, none⟩) n n) k5
  clear p1 p2 p3 x1 x2 x3 d5
  go_wp2_with fail
  refine bodyPost_ret (v := .tuple #[.agg #[.int .i64 N, .int .i64 H, .slice (some ⟨g5, 0, none⟩) n n], .int .i64 0]) (by simp [results, Tryz.results55, go_sem, s1, s2, s3]) rfl ?_
  have z4 := b4.size
  refine ⟨_, rfl, ⟨_, _, rfl, (fun a e => by cases e; show w.heap.size ≤ g5; omega), ?_⟩, by (repeat (first | exact Below.refl _ _ | assumption | refine Below.drew ?_ | refine below_drewN ?_ _ | refine Below.alloc ?_ (by first | omega | (simp; done) | (simp; omega)) _ | refine Below.setCell ?_ (by first | omega | (simp; done) | (simp; omega)) _ | refine below_setRow ?_ (by first | omega | (simp; done) | (simp; omega)) _ ))⟩
  have g1 : g5 ≠ w.heap.size + 1 := by omega
  have kF := Blk.far (Blk.far (Blk.far kg5 (p := ⟨w.heap.size + 1, 0, none⟩) g1 (.int .i64 N)) (p := ⟨w.heap.size + 1, 1, none⟩) g1 (.int .i64 H)) (p := ⟨w.heap.size + 1, 2, none⟩) g1 (.slice (some ⟨g5, 0, none⟩) n n)
  exact (kF.u8conv fun i a b => PSS.out L i a b).arrB (kF.u8conv fun i a b => PSS.out L i a b).lt
end Go.Proofs.YtdimlpcbbkokiaaGreat

/- Plain: lengths of runs and of gaps, counted. No program in sight. -/
namespace Go.Proofs.YtdimlpcbbkokiaaGreat
open Go.RowKit
set_option linter.unusedVariables false
/-- how often x stands in a list -/
def cntA : List Int → Int → Int
  | [], _ => 0
  | y :: l, x => (if y = x then 1 else 0) + cntA l x
theorem cntA_app : ∀ (l l' : List Int) (x : Int), cntA (l ++ l') x = cntA l x + cntA l' x
  | [], l', x => by simp [cntA]
  | y :: l, l', x => by
    rw [List.cons_append, cntA, cntA, cntA_app l l' x]; omega
theorem cntA_one (y x : Int) : cntA [y] x = if y = x then 1 else 0 := by simp [cntA]
theorem cntA_bd : ∀ (l : List Int) (x : Int), 0 ≤ cntA l x ∧ cntA l x ≤ l.length
  | [], x => by simp [cntA]
  | y :: l, x => by
    have := cntA_bd l x
    rw [cntA, List.length_cons]
    push_cast
    split <;> omega
theorem cntA_none {x : Int} : ∀ {l : List Int}, (∀ y ∈ l, y ≠ x) → cntA l x = 0
  | [], _ => rfl
  | y :: l, h => by
    rw [cntA, if_neg (h y (by simp)), cntA_none fun z hz => h z (List.mem_cons_of_mem _ hz)]; rfl
theorem cntN_take (l : List Int) (x : Int) : ∀ n, n ≤ l.length → cntN (fun i => l.getD i.toNat 0) n x = cntA (l.take n) x
  | 0, _ => by simp [cntN, cntA]
  | n + 1, h => by
    rw [cntN_succ, cntN_take l x n (by omega), List.take_add_one, List.getElem?_eq_getElem (by omega), cntA_app]
    simp only [Int.toNat_natCast, Option.toList, cntA_one]
    have e : l.getD n 0 = l[n] := by rw [List.getD_eq_getElem?_getD, List.getElem?_eq_getElem (by omega)]; rfl
    simp only [e]
theorem cntN_list (l : List Int) (x : Int) : cntN (fun i => l.getD i.toNat 0) l.length x = cntA l x := by
  rw [cntN_take l x l.length (Nat.le_refl _), List.take_length]
/-- the length of a run; the gap ahead of run number i, if it has one -/
def dkA (r : Rn) : Int := r.2.2 - r.2.1 + 1
def ltA (L : List Rn) (i : Nat) : List Int :=
  if 0 < i ∧ (L.getD (i - 1) (0, 0, 0)).1 = (L.getD i (0, 0, 0)).1 then [(L.getD i (0, 0, 0)).2.1 - (L.getD (i - 1) (0, 0, 0)).2.2 - 1] else []
def ltL (L : List Rn) : Nat → List Int
  | 0 => []
  | i + 1 => ltL L i ++ ltA L i
theorem ltA_len (L : List Rn) (i : Nat) : (ltA L i).length ≤ 1 := by unfold ltA; split <;> simp
theorem ltL_len (L : List Rn) : ∀ i, (ltL L i).length ≤ i
  | 0 => by simp [ltL]
  | i + 1 => by
    have := ltL_len L i
    have := ltA_len L i
    rw [ltL, List.length_append]; omega
section
variable {w h : Nat} {L : List Rn}
theorem dk_bd (hL : RunsOk w h L) (hw : w ≤ 640) {r : Rn} (hr : r ∈ L) : 1 ≤ dkA r ∧ dkA r ≤ 640 := by
  obtain ⟨i, hi, e⟩ := List.getElem_of_mem hr
  have := hL.in_ i r (by rw [List.getElem?_eq_getElem hi, e])
  unfold dkA; omega
theorem lt_bd (hL : RunsOk w h L) (hw : w ≤ 640) {i : Nat} (hi : i < L.length) {y : Int} (hy : y ∈ ltA L i) : 1 ≤ y ∧ y ≤ 640 := by
  unfold ltA at hy
  split at hy
  · rename_i c
    obtain ⟨c1, c2⟩ := c
    have e1 : L[i - 1]? = some (L.getD (i - 1) (0, 0, 0)) := by rw [List.getD_eq_getElem?_getD, List.getElem?_eq_getElem (by omega)]; rfl
    have e2 : L[i - 1 + 1]? = some (L.getD i (0, 0, 0)) := by rw [show i - 1 + 1 = i by omega, List.getD_eq_getElem?_getD, List.getElem?_eq_getElem (by omega)]; rfl
    have a1 := hL.in_ _ _ e1
    have a2 := hL.in_ _ _ e2
    have a3 := hL.apart _ _ _ e1 e2
    rw [List.mem_singleton] at hy
    omega
  · simp at hy
theorem ltL_bd (hL : RunsOk w h L) (hw : w ≤ 640) : ∀ {i : Nat}, i ≤ L.length → ∀ y ∈ ltL L i, 1 ≤ y ∧ y ≤ 640
  | 0, _, y, hy => by simp [ltL] at hy
  | i + 1, hi, y, hy => by
    rw [ltL, List.mem_append] at hy
    rcases hy with hy | hy
    · exact ltL_bd hL hw (by omega) y hy
    · exact lt_bd hL hw (by omega) hy
end
/-- the search among the numbers from 1 on -/
def StB (C : Int → Int) (n b : Int) : Prop := (b = 0 ∧ ∀ x, 1 ≤ x → x < n → C x ≤ 0) ∨ (1 ≤ b ∧ b < n ∧ 0 < C b ∧ ∀ x, 1 ≤ x → x < n → C x ≤ C b ∧ (C x = C b → b ≤ x))
section
variable {C : Int → Int} {n b : Int}
theorem StB.start : StB C 1 0 := .inl ⟨rfl, fun x a b => by omega⟩
theorem StB.bd (h : StB C n b) (hn : 1 ≤ n) : 0 ≤ b ∧ b < n := by rcases h with ⟨rfl, -⟩ | ⟨h1, h2, -⟩ <;> omega
theorem StB.take (h : StB C n b) (hn : 1 ≤ n) (h0 : C 0 = 0) (hb : C b < C n) : StB C (n + 1) n := by
  rcases h with ⟨rfl, h1⟩ | ⟨h1, h2, h3, h4⟩
  · refine .inr ⟨hn, by omega, by omega, fun x a b => ?_⟩
    by_cases e : x = n
    · subst e; exact ⟨Int.le_refl _, fun _ => Int.le_refl _⟩
    · have := h1 x a (by omega)
      exact ⟨by omega, fun e2 => by omega⟩
  · refine .inr ⟨hn, by omega, by omega, fun x a b => ?_⟩
    by_cases e : x = n
    · subst e; exact ⟨Int.le_refl _, fun _ => Int.le_refl _⟩
    · have := (h4 x a (by omega)).1
      exact ⟨by omega, fun e2 => by omega⟩
theorem StB.keep (h : StB C n b) (h0 : C 0 = 0) (hb : ¬ C b < C n) : StB C (n + 1) b := by
  rcases h with ⟨rfl, h1⟩ | ⟨h1, h2, h3, h4⟩
  · refine .inl ⟨rfl, fun x a b => ?_⟩
    by_cases e : x = n
    · subst e; omega
    · exact h1 x a (by omega)
  · refine .inr ⟨h1, by omega, h3, fun x a c => ?_⟩
    by_cases e : x = n
    · subst e; exact ⟨by omega, fun _ => by omega⟩
    · exact h4 x a (by omega)
theorem StB.mode (h : StB C 641 b) (hC : ∀ x, x < 1 ∨ 640 < x → C x = 0) : Mode C b := by
  rcases h with ⟨rfl, h1⟩ | ⟨h1, h2, h3, h4⟩
  · refine .inl ⟨rfl, fun x => ?_⟩
    by_cases e : x < 1 ∨ 640 < x
    · rw [hC x e]; omega
    · exact h1 x (by omega) (by omega)
  · refine .inr ⟨h3, fun x => ?_, fun x hx => ?_⟩
    · by_cases e : x < 1 ∨ 640 < x
      · rw [hC x e]; omega
      · exact (h4 x (by omega) (by omega)).1
    · by_cases e : x < 1 ∨ 640 < x
      · rw [hC x e] at hx; omega
      · exact (h4 x (by omega) (by omega)).2 hx
end
/-- runs of a whole image are in order and apart -/
theorem runsOk_all {p : Int → Int} {N H : Nat} : RunsOk H N (rLs (fun x y => inkB N H p x y) H N) := by
  have hm : ∀ r, r ∈ rLs (fun x y => inkB N H p x y) H N → ∃ x f t : Nat, x < N ∧ RunOf p N H x f t ∧ r = ((x : Int), (f : Int), (t : Int) - 1) := fun r hr => by
    obtain ⟨x, y, hx, hy, h⟩ := mem_rLs.1 hr
    obtain ⟨h1, rfl⟩ := mem_rnA.1 h
    obtain ⟨t, ht⟩ := run_stB hx hy h1
    have hl := ht.lt
    refine ⟨x, y, t, hx, ht, ?_⟩
    rw [enB_botN hx (by omega), ht.bot (Nat.le_refl _) hl, show ((t - 1 : Nat) : Int) = (t : Int) - 1 by omega]
  constructor
  · intro i r hr
    obtain ⟨x, f, t, hx, ht, rfl⟩ := hm r (List.mem_of_getElem? hr)
    have := ht.lt; have := ht.le
    refine ⟨?_, ?_, ?_, ?_, ?_⟩ <;> simp only <;> omega
  · intro i q r hq hr
    obtain ⟨x, f, t, hx, ht, rfl⟩ := hm q (List.mem_of_getElem? hq)
    obtain ⟨x', f', t', hx', ht', rfl⟩ := hm r (List.mem_of_getElem? hr)
    have hs := rLs_sorted (fun x y => inkB N H p x y) H N
    obtain ⟨hi, eq⟩ := List.getElem?_eq_some_iff.1 hq
    obtain ⟨hi', er⟩ := List.getElem?_eq_some_iff.1 hr
    have hlt := (List.pairwise_iff_getElem.1 hs) i (i + 1) hi hi' (by omega)
    rw [eq, er] at hlt
    rcases hlt with h | ⟨h1, h2⟩
    · exact .inl h
    · simp only at h1 h2
      obtain rfl : x = x' := by omega
      refine .inr ⟨rfl, ?_⟩
      have a1 := ht.lt; have a2 := ht.le; have b1 := ht'.lt; have b2 := ht'.le
      show (t : Int) - 1 + 1 < f'
      rcases Nat.lt_trichotomy f' t with g | g | g
      · exact absurd (ht.ink (f' - 1) (by omega) (by omega)) (ht'.up (f' - 1) (by omega))
      · subst g; exact absurd (ht'.ink f' (Nat.le_refl _) b1) (ht.down (by omega))
      · omega
end Go.Proofs.YtdimlpcbbkokiaaGreat

/- Walk: the most common number (stave.common: a map of counts, ranged over). -/
namespace Go.Proofs.YtdimlpcbbkokiaaGreat
open Go.RowKit Go.Shelf Go.Maps
set_option linter.unusedVariables false
attribute [local go_sem] Oper.semAt_some

theorem lawInt : Keyed Tryz.prog 3 := int_keyed Tryz.underlying3
theorem zeroInt (w : World) : (zeroValue 3).run Tryz.prog w = .ok (.int .i64 0) w := by kernel_rfl
theorem wf_small {x : Int} (h1 : -1000000000 ≤ x) (h2 : x ≤ 1000000000) : (Lit.int .i64 x).wf = true := WalkArith.wf_i64 (by omega)

set_option maxRecDepth 100000 in
set_option maxHeartbeats 4000000 in
theorem common_any (A : Option Addr) (n c : Nat) (q : Int → Int) (w : World) (hA : ArrI w w.heap.size A n q) (hn : n ≤ 1000000) (hq : ∀ i : Int, 0 ≤ i → i < n → 1 ≤ q i ∧ q i ≤ 1000000) :
    Calls Tryz.prog 21 #[.slice A n c] w fun e w' => ∃ m, e = .returned (.int .i64 m) ∧ Mode (cntN q n) m ∧ Below w.heap.size w w' := by
  have hmm := @run_makeMap Tryz.prog
  have HA := Lib.hid hA; have HQ := Lib.hid hq
  clear hA hq
  go_enter Tryz.func21, Tryz.ntmps21
  go_wp2
  go_loopw [12] (fun s wr => ∃ k : Nat, k ≤ n ∧ s = .int .i64 k ∧ wr.ownsMap Tryz.prog 3 (plainElem Tryz.prog 3) w.heap.size k (cmD q k) ∧ Below w.heap.size w wr) (fun s _ => n - (intOf s).toNat)
  case atStart => exact ⟨0, by omega, rfl, World.ownsMap_made _ _ _ _, (Below.refl _ _).alloc (Nat.le_refl _) _⟩
  case round =>
    obtain ⟨k, hk, rfl, hown, b1⟩ := hrel
    by_cases kl : (k : Int) < n
    · obtain ⟨b, off, rfl, hb, hc⟩ := ArrI.at_ HA.out (i := (k : Int)) (by omega) kl
      rw [Int.toNat_natCast] at hc
      have hc1 := (b1.cell (p := ⟨b, off + k, none⟩) hb).trans hc
      obtain ⟨q1, q2⟩ := HQ.out k (by omega) kl
      have CA := Lib.hid (cmD_at q (q k) k)
      have CB := cntN_bd q (q k) k
      have CS := Lib.hid (show cmD q (k + 1) = (cmD q k).put (.int .i64 (q k)) (.lit (.int .i64 (cntN q k (q k) + 1))) from by
        rw [cmD, cntN_succ, if_pos rfl])
      generalize cntN q k (q k) = ck at *
      generalize hqk : q k = x at *
      have hkey : keyOf Tryz.prog 3 (.int .i64 x) = some (.int .i64 x) := keyOf_int_mk Tryz.underlying3 (wf_small (by omega) (by omega))
      have v1 : IntKind.i64.wrap (ck + 1) = ck + 1 := IntWalk.i64_in _ (by omega)
      obtain ⟨ck', hrun, hat, -⟩ := hown.lookup_int lawInt Tryz.underlying103 Tryz.underlying3 (zeroInt _) hkey
      obtain rfl : ck' = ck := by
        rw [CA.out] at hat
        cases hat; rfl
      clear hc hqk hat
      go_wp2_with (first
        | (at_mapUpdate; refine wpList_mapUpdate_own _ rfl _ _ _ 103 rfl 3 3 lawInt Tryz.underlying103 _ w.heap.size k _ rfl hown (by unfold maxLen; omega) _ _ _ rfl rfl hkey _ [] (plainElem_int Tryz.underlying3 (wf_small (x := ck' + 1) (by omega) (by omega))) ?_; intro w1 hown1 hgrow1)
        | fail)
      go_roundw
      case rel => exact ⟨k + 1, by omega, by go_num, CS.out ▸ hown1, b1.grown hgrow1 b1.size (fun j hj => by cases hj; exact Nat.le_refl _)⟩
      case measure => simp [intOf]; omega
    · have hkn : k = n := by omega
      rw [hkn] at hown
      have C0 : Hid (cntN q n 0 = 0) := Lib.hid (cntN_none fun i a b => by have := HQ.out i a b; omega)
      have CB := Lib.hid fun x => cntN_bd q x n
      have HXB := Lib.hid fun (x : Int) (hx : 0 < cntN q n x) => (show 1 ≤ x ∧ x ≤ 1000000 from by
        apply Classical.byContradiction
        intro hno
        have := cntN_none (q := q) (x := x) (n := n) fun i a b e => by have := HQ.out i a b; omega
        omega)
      have CAT := Lib.hid fun x => cmD_at q x n
      have CHS := Lib.hid fun x => cmD_has q x n
      obtain ⟨D, hD⟩ : ∃ D, cmD q n = D := ⟨_, rfl⟩
      obtain ⟨C, hC⟩ : ∃ C, cntN q n = C := ⟨_, rfl⟩
      rw [hD] at hown CAT CHS
      rw [hC] at C0 CB CAT CHS HXB
      have HC := Lib.hid hC
      have zb := hown.lt
      clear hkn hD hC
      obtain ⟨r, hr⟩ : ∃ r, wr.heap.size = r := ⟨_, rfl⟩
      go_wp2_with (first
        | (at_range; refine wpList_range_own _ rfl _ 103 rfl 3 3 lawInt Tryz.underlying103 _ w.heap.size n _ rfl hown ?_; intro w0 hrg0 hg0 hs0)
        | fail)
      have b0 : Below w.heap.size w w0 := b1.grown hg0 b1.size (fun j hj => by cases hj)
      rw [hr] at hrg0
      clear hg0 hs0 b1 hown
      go_loopw [6] (fun o wr' => ∃ (out : Int) (left : Lit → Bool) (cnt : Nat), o = .int .i64 out ∧ -1000000 ≤ out ∧ out ≤ 1000000 ∧ wr'.ranges Tryz.prog 3 (plainElem Tryz.prog 3) w.heap.size r n D left cnt ∧ Below w.heap.size w wr' ∧ Hid (StM C left out) ∧ Hid (∀ x, left (.int .i64 x) = true → 0 < C x)) (fun _ wr' => wr'.rangeLeft w.heap.size r)
      case atStart => exact ⟨0, _, _, rfl, by omega, by omega, hrg0, b0, Lib.hid (.inl ⟨rfl, fun x hx => (CHS.out x).2 hx⟩), Lib.hid (fun x h => (CHS.out x).1 h)⟩
      case round =>
        obtain ⟨out, left, cnt, rfl, o1, o2, hrg, hbw, hst, hlf⟩ := hrel
        clear hrg0 b0
        have hko : keyOf Tryz.prog 3 (.int .i64 out) = some (.int .i64 out) := keyOf_int_mk Tryz.underlying3 (wf_small (by omega) (by omega))
        go_wp2_with (first
          | (at_next; refine wpList_next_ranges_ii _ rfl _ rfl 3 3 .i64 .i64 lawInt Tryz.underlying3 Tryz.underlying3 w.heap.size r n _ _ _ rfl hrg ?_ ?_)
          | fail)
        · intro _ hl0
          go_wp2
          go_ret
          exact ⟨_, rfl, HC.out ▸ stM_end hst.out hl0 (fun x => (CB.out x).1), hbw⟩
        · intro x kx w1 cnt1 hwx hwc hlx hat hrg1 hlt hg1 hs1 hen
          have hrr : w.heap.size ≤ r := by rw [← hr]; omega
          have hbw1 : Below w.heap.size w w1 := hbw.grown hg1 hbw.size (fun j hj => by cases hj; exact hrr)
          have hx0 := hlf.out x hlx
          have hkx : kx = C x := by
            have h1 := hat (.lit (.int .i64 0))
            rw [CAT.out] at h1
            cases h1; rfl
          obtain ⟨ko, hrun, hato, -⟩ := hrg1.owns.lookup_int lawInt Tryz.underlying103 Tryz.underlying3 (zeroInt _) hko
          have hko' : ko = C out := by
            rw [CAT.out] at hato
            cases hato; rfl
          have hxq : -1000000 ≤ x ∧ x ≤ 1000000 := by
            have h1 := HXB.out x hx0
            omega
          have HLF2 := Lib.hid (show ∀ y, (fun z => left z && !z.sameKey (.int .i64 x)) (.int .i64 y) = true → 0 < C y from fun y hy => hlf.out y (by
            have hy' : (left (.int .i64 y) && !(Lit.int .i64 y).sameKey (.int .i64 x)) = true := hy
            rw [Bool.and_eq_true] at hy'
            exact hy'.1))
          have HTK := Lib.hid fun hb => stM_take hst.out hx0 hb
          have HKP := Lib.hid fun hb hb2 => stM_keep hst.out hx0 C0.out hb hb2
          have HKX := Lib.hid hkx; have HKO := Lib.hid hko'
          have M1 := Lib.hid (show wr.rangeLeft w.heap.size r = cnt from hrg.left_eq)
          have M2 := Lib.hid (show w1.rangeLeft w.heap.size r = cnt1 from hrg1.left_eq)
          clear hat hato hkx hko' hrg hwx hwc hlx hst hlf hbw hg1 hs1 hko
          by_cases h1 : ko < kx
          · have PF := Lib.hid (HTK.out (.inl (by rw [← HKX.out, ← HKO.out]; exact h1)))
            go_wp2_with fail
            go_round
            case rel => exact ⟨x, _, cnt1, rfl, by omega, by omega, hrg1, hbw1, PF, HLF2⟩
            case measure => rw [M2.out, M1.out]; exact hlt
          · by_cases h2 : kx = ko
            · by_cases h3 : x < out
              · have PF := Lib.hid (HTK.out (.inr ⟨by rw [← HKX.out, ← HKO.out]; exact h2, h3⟩))
                have h4 : (kx == ko) = true := by simp [h2]
                have H2 := Lib.hid h2
                clear h2
                go_wp2_with fail
                go_round
                case rel => exact ⟨x, _, cnt1, rfl, by omega, by omega, hrg1, hbw1, PF, HLF2⟩
                case measure => rw [M2.out, M1.out]; exact hlt
              · have PF := Lib.hid (HKP.out (by rw [← HKX.out, ← HKO.out]; exact h1) (fun _ => by omega))
                have h4 : (kx == ko) = true := by simp [h2]
                have H2 := Lib.hid h2
                clear h2
                go_wp2_with fail
                go_round
                case rel => exact ⟨out, _, cnt1, rfl, by omega, by omega, hrg1, hbw1, PF, HLF2⟩
                case measure => rw [M2.out, M1.out]; exact hlt
            · have PF := Lib.hid (HKP.out (by rw [← HKX.out, ← HKO.out]; exact h1) (fun e => absurd (by rw [HKX.out, HKO.out]; exact e) h2))
              have h4 : (kx == ko) = false := by simp [h2]
              have H2 := Lib.hid h2
              clear h2
              go_wp2_with fail
              go_round
              case rel => exact ⟨out, _, cnt1, rfl, by omega, by omega, hrg1, hbw1, PF, HLF2⟩
              case measure => rw [M2.out, M1.out]; exact hlt
end Go.Proofs.YtdimlpcbbkokiaaGreat

/- Walk: the reference's Gauge (two arrays of counts, searched from below). -/
namespace Go.Proofs.YtdimlpcbbkokiaaGreat
open Go.RowKit Go.Shelf
set_option linter.unusedVariables false
attribute [local go_sem] Oper.semAt_some

theorem cntA_snocF (l : List Int) (y : Int) (j : Int) : upd (cntA l) y (cntA l y + 1) j = cntA (l ++ [y]) j := by
  rw [cntA_app, cntA_one]
  unfold upd
  by_cases e : j = y
  · subst e; rw [if_pos rfl, if_pos rfl]
  · rw [if_neg e, if_neg fun h => e h.symm]; omega

set_option maxRecDepth 100000 in
set_option maxHeartbeats 4000000 in
theorem rgauge_ok (W H : Nat) (A : Option Addr) (n c : Nat) (p : Int → Int) (w : World) (hA : ArrB w w.heap.size A n p) (hW : W ≤ 640) (hH : H ≤ 640) (hn : (n : Int) = (W : Int) * H) :
    Calls Tryz.prog 6 #[.agg #[.int .i64 W, .int .i64 H, .slice A n c]] w (New w fun v _ => ∃ b q, v = .tuple #[.int .i64 b, .int .i64 q] ∧ Mode (cntA ((rLs (fun x y => inkB W H p x y) H W).map dkA)) b ∧ Mode (cntA (ltL (rLs (fun x y => inkB W H p x y) H W) (rLs (fun x y => inkB W H p x y) H W).length)) q) := by
  have CO := Lib.hid fun w' hA' => rcolumns_any W H A n c p w' hA' hW hH hn
  have RO := runsOk_all (p := p) (N := W) (H := H)
  have hLL : (rLs (fun x y => inkB W H p x y) H W).length ≤ 409600 := Nat.le_trans (rLs_len _ _ _) (by rw [Nat.mul_comm]; exact Nat.mul_le_mul hH hW)
  obtain ⟨r0, hr0, hrz0, hrz1, hrz2⟩ := info_parts infoRun
  have hmk := makeI 641 (by omega) (by omega)
  have HA := Lib.hid hA
  generalize rLs (fun x y => inkB W H p x y) H W = L at *
  have HRO := Lib.hid RO
  have DB := Lib.hid fun r hr => dk_bd RO hH (r := r) hr
  have LB := Lib.hid fun i hi y hy => lt_bd RO hH (i := i) hi (y := y) hy
  have LLB := Lib.hid fun y hy => ltL_bd RO hH (Nat.le_refl _) y hy
  have LLN := Lib.hid fun i => ltL_len L i
  clear hA RO hn
  go_enter Tryz.func6, Tryz.ntmps6
  go_wp2_with fail
  refine (CO.out _ (HA.out.to (by (repeat (first | exact Below.refl _ _ | assumption | refine Below.drew ?_ | refine below_drewN ?_ _ | refine Below.alloc ?_ (by first | omega | (simp; done) | (simp; omega)) _ | refine Below.setCell ?_ (by first | omega | (simp; done) | (simp; omega)) _ | refine below_setRow ?_ (by first | omega | (simp; done) | (simp; omega)) _ ))))).mono ?_
  rintro e w5 ⟨v5, rfl, hR5, d5⟩
  have b5 : Below w.heap.size w w5 := below_call (by (repeat (first | exact Below.refl _ _ | assumption | refine Below.drew ?_ | refine below_drewN ?_ _ | refine Below.alloc ?_ (by first | omega | (simp; done) | (simp; omega)) _ | refine Below.setCell ?_ (by first | omega | (simp; done) | (simp; omega)) _ | refine below_setRow ?_ (by first | omega | (simp; done) | (simp; omega)) _ ))) (by simp; try omega) d5
  obtain ⟨Ac, cc, rfl, hRA⟩ := hR5.arr
  have HRA := Lib.hid hRA
  clear d5 hRA hR5 CO HA
  go_upto_region 2 with fail
  go_cut [5, 6] (fun a b wx => ∃ g1 g2, a = .slice (some ⟨g1, 0, none⟩) 641 641 ∧ b = .slice (some ⟨g2, 0, none⟩) 641 641 ∧ g1 ≠ g2 ∧ w5.heap.size ≤ g1 ∧ w5.heap.size ≤ g2 ∧
    Blk wx g1 3 (i64s 641 (fun _ => 0)) ∧ Blk wx g2 3 (i64s 641 (fun _ => 0)) ∧ Below w5.heap.size w5 wx)
  case first =>
    go_region
    · go_wp2_with fail
      go_meet
      exact ⟨w5.heap.size, w5.heap.size + 1, rfl, rfl, by omega, by omega, by omega, ((Blk.new _ _ _).alloc _).drew, (Blk.new' (by simp) _ _).drew, by (repeat (first | exact Below.refl _ _ | assumption | refine Below.drew ?_ | refine below_drewN ?_ _ | refine Below.alloc ?_ (by first | omega | (simp; done) | (simp; omega)) _ | refine Below.setCell ?_ (by first | omega | (simp; done) | (simp; omega)) _ | refine below_setRow ?_ (by first | omega | (simp; done) | (simp; omega)) _ ))⟩
    · go_wp2_with fail
      go_meet
      exact ⟨w5.heap.size + 1, w5.heap.size, rfl, rfl, by omega, by omega, by omega, (Blk.new' (by simp) _ _).drew, ((Blk.new _ _ _).alloc _).drew, by (repeat (first | exact Below.refl _ _ | assumption | refine Below.drew ?_ | refine below_drewN ?_ _ | refine Below.alloc ?_ (by first | omega | (simp; done) | (simp; omega)) _ | refine Below.setCell ?_ (by first | omega | (simp; done) | (simp; omega)) _ | refine below_setRow ?_ (by first | omega | (simp; done) | (simp; omega)) _ ))⟩
  case rest =>
  obtain ⟨g1, g2, rfl, rfl, hne, hg1, hg2, kg1, kg2, hb2⟩ := hcut
  clear hmk
  obtain ⟨B, hB⟩ : ∃ B, w5.heap.size = B := ⟨_, rfl⟩
  rw [hB] at hg1 hg2
  have HBB := Lib.hid hB
  clear hB
  go_wp2_with fail
  go_loopw [7] (fun s wr => ∃ i : Nat, i ≤ L.length ∧ s = .int .i64 i ∧ Below w5.heap.size w5 wr ∧ Blk wr g1 3 (i64s 641 (cntA ((L.take i).map dkA))) ∧ Blk wr g2 3 (i64s 641 (cntA (ltL L i)))) (fun s _ => L.length - (intOf s).toNat)
  case atStart => exact ⟨0, by omega, rfl, hb2, kg1.i64conv fun j _ _ => by simp [cntA], kg2.i64conv fun j _ _ => by simp [cntA, ltL]⟩
  case round =>
    obtain ⟨i, hi, rfl, b2, k1, k2⟩ := hrel
    clear kg1 kg2 hb2
    by_cases il : (i : Int) < L.length
    · have ilN : i < L.length := by omega
      obtain ⟨r, hr⟩ : ∃ r, L[i]? = some r := ⟨L[i], List.getElem?_eq_getElem ilN⟩
      have hgd : L.getD i (0, 0, 0) = r := by rw [List.getD_eq_getElem?_getD, hr]; rfl
      have htk : (L.take (i + 1)).map dkA = (L.take i).map dkA ++ [dkA r] := by rw [List.take_add_one, hr]; simp
      obtain ⟨gR, rfl, hgR, rc⟩ := HRA.out (by intro h; rw [h] at ilN; simp at ilN)
      obtain ⟨b1', b2', b3', b4', b5'⟩ := HRO.out.in_ i r hr
      obtain ⟨d1, d2, d3⟩ := rc i r hr
      obtain ⟨D1, D2⟩ := DB.out r (List.mem_of_getElem? hr)
      obtain ⟨D, hD⟩ : ∃ D, dkA r = D := ⟨_, rfl⟩
      have hD' : r.2.2 - r.2.1 + 1 = D := hD
      rw [hD] at htk D1 D2
      have e1 := (b2.cell (p := ⟨gR, i * 3, none⟩) hgR).trans d1
      have e2 := (b2.cell (p := ⟨gR, i * 3 + 1, none⟩) hgR).trans d2
      have e3 := (b2.cell (p := ⟨gR, i * 3 + 2, none⟩) hgR).trans d3
      have hcb := cntA_bd ((L.take i).map dkA) D
      rw [List.length_map, List.length_take] at hcb
      have HTK := Lib.hid htk
      have HGD := Lib.hid hgd
      have HRC := Lib.hid rc
      obtain ⟨rx, rf, rt⟩ := r
      simp only at d1 d2 d3 e1 e2 e3 b1' b2' b3' b4' b5' hD'
      have v1 : IntKind.i64.wrap (rt - rf) = rt - rf := IntWalk.i64_in _ (by omega)
      have v2 : IntKind.i64.wrap (rt - rf + 1) = D := (IntWalk.i64_in _ (by omega)).trans hD'
      obtain ⟨C1, hC1⟩ : ∃ C1, cntA ((L.take i).map dkA) = C1 := ⟨_, rfl⟩
      have STP := Lib.hid fun j => cntA_snocF ((L.take i).map dkA) D j
      rw [hC1] at k1 hcb STP
      have c1 := k1.i64at (i := D) (by omega) (by omega)
      have f1 := k1.frozen D.toNat
      have S1 := Lib.hid (k1.i64set D (by omega) (C1 D + 1))
      obtain ⟨u, hu⟩ : ∃ u, C1 D = u := ⟨_, rfl⟩
      rw [hu] at c1 S1 hcb STP
      have v3 : IntKind.i64.wrap (u + 1) = u + 1 := IntWalk.i64_in _ (by omega)
      have HD := Lib.hid hD
      clear htk hgd rc hD hD' hC1 hu d1 d2 d3
      have D0 : 0 ≤ D := by omega
      have D3 : D < 641 := by omega
      go_upto_region 6 with fail
      go_still_tail 17, (by kernel_rfl)
      change wpList _ _ _ _ _ wr.drew
      have n1 : gR ≠ g1 := fun e => by have := HBB.out; omega
      have q1 : Blk ((wr.setCell ⟨g1, D.toNat, none⟩ (.int .i64 (u + 1))).drew) g1 3 (i64s 641 (cntA ((L.take (i + 1)).map dkA))) :=
        S1.out.drew.i64conv fun j _ _ => (STP.out j).trans (by rw [HTK.out])
      have q2 : Blk ((wr.setCell ⟨g1, D.toNat, none⟩ (.int .i64 (u + 1))).drew) g2 3 (i64s 641 (cntA (ltL L i))) := (k2.far (p := ⟨g1, D.toNat, none⟩) (fun e => hne e.symm) _).drew
      have b3 : Below w5.heap.size w5 ((wr.setCell ⟨g1, D.toNat, none⟩ (.int .i64 (u + 1))).drew) := (b2.setCell (by have := HBB.out; show _ ≤ g1; omega) _).drew
      clear S1 STP HTK e1 e2 e3 v1 v2 v3 D0 D1 D2 D3
      go_upto_region 7 with fail
      generalize (wr.setCell ⟨g1, D.toNat, none⟩ (.int .i64 (u + 1))).drew = w7 at *
      clear c1 f1 k1 k2 b2 hcb HD
      obtain ⟨d1, d2, d3⟩ := HRC.out i _ hr
      have e1 := (b3.cell (p := ⟨gR, i * 3, none⟩) hgR).trans d1
      have e2 := (b3.cell (p := ⟨gR, i * 3 + 1, none⟩) hgR).trans d2
      simp only at e1 e2
      clear d1 d2 d3 n1
      by_cases i0 : 0 < i
      · obtain ⟨j, hj⟩ : ∃ j, i = j + 1 := ⟨i - 1, by omega⟩
        have hj2 : j < L.length := by omega
        have hgj : L.getD (i - 1) (0, 0, 0) = L[j] := by rw [show i - 1 = j by omega, List.getD_eq_getElem?_getD, List.getElem?_eq_getElem hj2]; rfl
        obtain ⟨q, hq⟩ : ∃ q, L[j] = q := ⟨_, rfl⟩
        have hqj : L[j]? = some q := by rw [List.getElem?_eq_getElem hj2, hq]
        rw [hq] at hgj
        have hlt := show ltA L i = if 0 < i ∧ (L.getD (i - 1) (0, 0, 0)).1 = (L.getD i (0, 0, 0)).1 then [(L.getD i (0, 0, 0)).2.1 - (L.getD (i - 1) (0, 0, 0)).2.2 - 1] else [] from rfl
        rw [hgj, HGD.out] at hlt
        obtain ⟨q1', q2', q3', q4', q5'⟩ := HRO.out.in_ j q hqj
        obtain ⟨d1, d2, d3⟩ := HRC.out j q hqj
        obtain ⟨qx, qf, qt⟩ := q
        have x1 := (b3.cell (p := ⟨gR, j * 3, none⟩) hgR).trans d1
        have x3 := (b3.cell (p := ⟨gR, j * 3 + 2, none⟩) hgR).trans d3
        simp only at hlt q1' q2' q3' q4' q5' x1 x3
        have v0 : IntKind.i64.wrap ((i : Int) - 1) = (j : Int) := (IntWalk.i64_in _ (by omega)).trans (by omega)
        have hlj : (j : Int) < L.length := by omega
        have g0 : (0 : Int) < i := by omega
        have hd0 : decide ((0 : Int) < i) = true := decide_eq_true g0
        by_cases ex : qx = rx
        · have ht1 : ltL L (i + 1) = ltL L i ++ [rf - qt - 1] := by rw [ltL, hlt, if_pos ⟨i0, ex⟩]
          obtain ⟨E1, E2⟩ := LB.out i ilN (rf - qt - 1) (by rw [hlt, if_pos ⟨i0, ex⟩]; simp)
          have h4 : (qx == rx) = true := by simp [ex]
          have HEX := Lib.hid ex
          have HT1 := Lib.hid ht1
          clear hlt hq hj d1 d2 d3 hgj ex ht1
          go_cut [53] (fun v wx => v = .bool true ∧ Below w5.heap.size w5 wx ∧ Blk wx g1 3 (i64s 641 (cntA ((L.take (i + 1)).map dkA))) ∧ Blk wx g2 3 (i64s 641 (cntA (ltL L i))))
          case first =>
            go_quiet (fail)
            go_wp2_with fail
            go_meet
            exact ⟨rfl, below_drewN b3 nq, q1.drewN nq, q2.drewN nq⟩
          case rest =>
          obtain ⟨rfl, c3, j1, j2⟩ := hcut
          clear x1 x3 e1 e2 hd0 h4 b3 q1 q2
          obtain ⟨d1, d2, d3⟩ := HRC.out i _ hr
          obtain ⟨t1, t2, t3⟩ := HRC.out j _ hqj
          have e2 := (c3.cell (p := ⟨gR, i * 3 + 1, none⟩) hgR).trans d2
          have x3 := (c3.cell (p := ⟨gR, j * 3 + 2, none⟩) hgR).trans t3
          simp only at e2 x3
          obtain ⟨E, hE⟩ : ∃ E, rf - qt - 1 = E := ⟨_, rfl⟩
          have v4 : IntKind.i64.wrap ((i : Int) - 1) = (j : Int) := v0
          have v5 : IntKind.i64.wrap (rf - qt) = rf - qt := IntWalk.i64_in _ (by omega)
          have v6 : IntKind.i64.wrap (rf - qt - 1) = E := (IntWalk.i64_in _ (by omega)).trans hE
          have HT2 := HT1.out
          rw [hE] at HT2 E1 E2
          have hcb := cntA_bd (ltL L i) E
          have hcn := LLN.out i
          obtain ⟨C2, hC2⟩ : ∃ C2, cntA (ltL L i) = C2 := ⟨_, rfl⟩
          have STP := Lib.hid fun j => cntA_snocF (ltL L i) E j
          rw [hC2] at j2 hcb STP
          have E0 : 0 ≤ E := by omega
          have E3 : E < 641 := by omega
          have c2 := j2.i64at E0 E3
          have f2 := j2.frozen E.toNat
          have S2 := Lib.hid (j2.i64set E E0 (C2 E + 1))
          obtain ⟨z, hz⟩ : ∃ z, C2 E = z := ⟨_, rfl⟩
          rw [hz] at c2 S2 hcb STP
          have v7 : IntKind.i64.wrap (z + 1) = z + 1 := IntWalk.i64_in _ (by omega)
          have HT3 := Lib.hid HT2
          clear v0 d1 d2 d3 t1 t2 t3 hE hC2 hz HT2 HT1 hr hqj
          go_upto_region 8 with fail
          go_still_tail 18, (by kernel_rfl)
          have q1 : Blk ((wc.setCell ⟨g2, E.toNat, none⟩ (.int .i64 (z + 1))).drew) g1 3 (i64s 641 (cntA ((L.take (i + 1)).map dkA))) := (j1.far (p := ⟨g2, E.toNat, none⟩) (fun e => hne e) _).drew
          have q2 : Blk ((wc.setCell ⟨g2, E.toNat, none⟩ (.int .i64 (z + 1))).drew) g2 3 (i64s 641 (cntA (ltL L (i + 1)))) :=
            S2.out.drew.i64conv fun j _ _ => (STP.out j).trans (by rw [HT3.out])
          have b4 : Below w5.heap.size w5 ((wc.setCell ⟨g2, E.toNat, none⟩ (.int .i64 (z + 1))).drew) := (c3.setCell (by have := HBB.out; show _ ≤ g2; omega) _).drew
          clear S2 STP v5 v6 E1 E2 E3 e2 x3 v4
          change wpList _ _ _ _ _ wc.drew
          go_wp2
          go_roundw
          case rel => exact ⟨i + 1, by omega, by go_num, by simpa using b4, by simpa using q1, by simpa using q2⟩
          case measure => simp [intOf]; omega
        · have ht1 : ltL L (i + 1) = ltL L i := by rw [ltL, hlt, if_neg (fun h => ex h.2), List.append_nil]
          have h4 : (qx == rx) = false := by simp [ex]
          have HT1 := Lib.hid ht1
          clear hlt hq hj d1 d2 d3 hgj ex ht1
          go_cut [53] (fun v wx => v = .bool false ∧ Below w5.heap.size w5 wx ∧ Blk wx g1 3 (i64s 641 (cntA ((L.take (i + 1)).map dkA))) ∧ Blk wx g2 3 (i64s 641 (cntA (ltL L i))))
          case first =>
            go_quiet (fail)
            go_wp2_with fail
            go_meet
            exact ⟨rfl, below_drewN b3 nq, q1.drewN nq, q2.drewN nq⟩
          case rest =>
          obtain ⟨rfl, c3, j1, j2⟩ := hcut
          clear x1 x3 e1 e2 hd0 h4 b3 q1 q2
          go_wp2_with fail
          go_round
          case rel => exact ⟨i + 1, by omega, by go_num, c3, j1, HT1.out ▸ j2⟩
          case measure => simp [intOf]; omega
      · have hd0 : decide ((0 : Int) < i) = false := decide_eq_false (by omega)
        have ht1 : ltL L (i + 1) = ltL L i := by
          rw [ltL]
          show ltL L i ++ (if 0 < i ∧ _ then _ else []) = _
          rw [if_neg (fun h => i0 h.1), List.append_nil]
        have HT1 := Lib.hid ht1
        have hd1 : decide (0 < i) = false := decide_eq_false i0
        have hig : ¬ (0 : Int) < i := by omega
        clear ht1 i0
        go_cut [53] (fun v wx => v = .bool false ∧ Below w5.heap.size w5 wx ∧ Blk wx g1 3 (i64s 641 (cntA ((L.take (i + 1)).map dkA))) ∧ Blk wx g2 3 (i64s 641 (cntA (ltL L i))))
        case first =>
          go_quiet (fail)
          go_wp2_with fail
          go_meet
          exact ⟨rfl, below_drewN b3 nq, q1.drewN nq, q2.drewN nq⟩
        case rest =>
        obtain ⟨rfl, c3, j1, j2⟩ := hcut
        clear e1 e2 hd0 b3 q1 q2
        go_wp2_with fail
        go_round
        case rel => exact ⟨i + 1, by omega, by go_num, c3, j1, HT1.out ▸ j2⟩
        case measure => simp [intOf]; omega
    · have hil : i = L.length := by omega
      rw [hil, List.take_length] at k1
      rw [hil] at k2
      have M1 := Lib.hid fun b hb => StB.mode (C := cntA (L.map dkA)) (b := b) hb fun x hx => cntA_none fun y hy => by
        obtain ⟨r, hr, rfl⟩ := List.mem_map.1 hy
        have := DB.out r hr
        omega
      have M2 := Lib.hid fun b hb => StB.mode (C := cntA (ltL L L.length)) (b := b) hb fun x hx => cntA_none fun y hy => by
        have := LLB.out y hy
        omega
      have BD1 := Lib.hid fun x => cntA_bd (L.map dkA) x
      have BD2 := Lib.hid fun x => cntA_bd (ltL L L.length) x
      have Z1 := Lib.hid (show cntA (L.map dkA) 0 = 0 from cntA_none fun y hy => by
        obtain ⟨r, hr, rfl⟩ := List.mem_map.1 hy
        have := DB.out r hr
        omega)
      have Z2 := Lib.hid (show cntA (ltL L L.length) 0 = 0 from cntA_none fun y hy => by
        have := LLB.out y hy
        omega)
      obtain ⟨C1, hC1⟩ : ∃ C1, cntA (L.map dkA) = C1 := ⟨_, rfl⟩
      obtain ⟨C2, hC2⟩ : ∃ C2, cntA (ltL L L.length) = C2 := ⟨_, rfl⟩
      rw [hC1] at k1 M1 Z1
      rw [hC2] at k2 M2 Z2
      have HC1 := Lib.hid hC1; have HC2 := Lib.hid hC2
      clear hC1 hC2 BD1 BD2
      clear hil LB DB LLB HRO HRA LLN
      go_wp2_with fail
      go_loopw [10, 8, 9] (fun s u v wr => ∃ k b q : Int, 1 ≤ k ∧ k ≤ 641 ∧ s = .int .i64 k ∧ u = .int .i64 b ∧ v = .int .i64 q ∧ Hid (StB C1 k b) ∧ Hid (StB C2 k q) ∧ Below w5.heap.size w5 wr ∧ Blk wr g1 3 (i64s 641 C1) ∧ Blk wr g2 3 (i64s 641 C2)) (fun s _ _ _ => (641 - intOf s).toNat)
      case atStart => exact ⟨1, 0, 0, by omega, by omega, rfl, rfl, rfl, Lib.hid StB.start, Lib.hid StB.start, b2, k1, k2⟩
      case round =>
        obtain ⟨k, b, q, hk1, hk2, rfl, rfl, rfl, s1, s2, b3, q1, q2⟩ := hrel
        clear b2 k1 k2
        by_cases kl : k ≤ 640
        · obtain ⟨x1, x2⟩ := s1.out.bd hk1
          obtain ⟨y1, y2⟩ := s2.out.bd hk1
          have K0 : 0 ≤ k := by omega
          have K1 : k < 641 := by omega
          have X1 : b < 641 := by omega
          have Y1 : q < 641 := by omega
          have a1 := q1.i64at K0 K1
          have a2 := q1.i64at x1 X1
          have a3 := q2.i64at K0 K1
          have a4 := q2.i64at y1 Y1
          have T1 := Lib.hid fun h => s1.out.take hk1 Z1.out h
          have P1 := Lib.hid fun h => s1.out.keep Z1.out h
          have T2 := Lib.hid fun h => s2.out.take hk1 Z2.out h
          have P2 := Lib.hid fun h => s2.out.keep Z2.out h
          clear s1 s2 hk1 M1 M2
          generalize C1 k = c1 at *
          generalize C2 k = c2 at *
          generalize C1 b = u at *
          generalize C2 q = v at *
          by_cases h1 : u < c1
          · have N1 := Lib.hid (T1.out h1)
            by_cases h2 : v < c2
            · have N2 := Lib.hid (T2.out h2)
              clear T1 T2 P1 P2
              go_upto_region 13 with fail
              go_quiet (fail)
              have b4 := below_drewN b3 nq
              replace q1 := q1.drewN nq
              replace q2 := q2.drewN nq
              have a3' : (wr.drewN nq).cell? _ = _ := a3
              have a4' : (wr.drewN nq).cell? _ = _ := a4
              clear a1 a2 a3 a4 b3
              generalize wr.drewN nq = w7 at *
              go_upto_region 15 with fail
              go_quiet (fail)
              have b5 := below_drewN b4 nq
              replace q1 := q1.drewN nq
              replace q2 := q2.drewN nq
              go_wp2_with fail
              go_roundw
              case rel => exact ⟨k + 1, k, k, by omega, by omega, by go_num, rfl, rfl, N1, N2, b5, q1, q2⟩
              case measure => simp [intOf]; omega
            · have N2 := Lib.hid (P2.out h2)
              clear T1 T2 P1 P2
              go_upto_region 13 with fail
              go_quiet (fail)
              have b4 := below_drewN b3 nq
              replace q1 := q1.drewN nq
              replace q2 := q2.drewN nq
              have a3' : (wr.drewN nq).cell? _ = _ := a3
              have a4' : (wr.drewN nq).cell? _ = _ := a4
              clear a1 a2 a3 a4 b3
              generalize wr.drewN nq = w7 at *
              go_upto_region 15 with fail
              go_quiet (fail)
              have b5 := below_drewN b4 nq
              replace q1 := q1.drewN nq
              replace q2 := q2.drewN nq
              go_wp2_with fail
              go_roundw
              case rel => exact ⟨k + 1, k, q, by omega, by omega, by go_num, rfl, rfl, N1, N2, b5, q1, q2⟩
              case measure => simp [intOf]; omega
          · have N1 := Lib.hid (P1.out h1)
            by_cases h2 : v < c2
            · have N2 := Lib.hid (T2.out h2)
              clear T1 T2 P1 P2
              go_upto_region 13 with fail
              go_quiet (fail)
              have b4 := below_drewN b3 nq
              replace q1 := q1.drewN nq
              replace q2 := q2.drewN nq
              have a3' : (wr.drewN nq).cell? _ = _ := a3
              have a4' : (wr.drewN nq).cell? _ = _ := a4
              clear a1 a2 a3 a4 b3
              generalize wr.drewN nq = w7 at *
              go_upto_region 15 with fail
              go_quiet (fail)
              have b5 := below_drewN b4 nq
              replace q1 := q1.drewN nq
              replace q2 := q2.drewN nq
              go_wp2_with fail
              go_roundw
              case rel => exact ⟨k + 1, b, k, by omega, by omega, by go_num, rfl, rfl, N1, N2, b5, q1, q2⟩
              case measure => simp [intOf]; omega
            · have N2 := Lib.hid (P2.out h2)
              clear T1 T2 P1 P2
              go_upto_region 13 with fail
              go_quiet (fail)
              have b4 := below_drewN b3 nq
              replace q1 := q1.drewN nq
              replace q2 := q2.drewN nq
              have a3' : (wr.drewN nq).cell? _ = _ := a3
              have a4' : (wr.drewN nq).cell? _ = _ := a4
              clear a1 a2 a3 a4 b3
              generalize wr.drewN nq = w7 at *
              go_upto_region 15 with fail
              go_quiet (fail)
              have b5 := below_drewN b4 nq
              replace q1 := q1.drewN nq
              replace q2 := q2.drewN nq
              go_wp2_with fail
              go_roundw
              case rel => exact ⟨k + 1, b, q, by omega, by omega, by go_num, rfl, rfl, N1, N2, b5, q1, q2⟩
              case measure => simp [intOf]; omega
        · have hk : k = 641 := by omega
          have R1 := M1.out b (hk ▸ s1.out)
          have R2 := M2.out q (hk ▸ s2.out)
          clear s1 s2 hk M1 M2
          go_wp2
          refine bodyPost_ret (v := .tuple #[.int .i64 b, .int .i64 q]) (by simp [results, Tryz.results6, go_sem]) rfl ?_
          exact ⟨_, rfl, ⟨b, q, rfl, by rw [HC1.out]; exact R1, by rw [HC2.out]; exact R2⟩, b5.trans (b3.mono b5.size)⟩
end Go.Proofs.YtdimlpcbbkokiaaGreat

/- Plain: the runs of a line, found place by place. No program in sight. -/
namespace Go.Proofs.YtdimlpcbbkokiaaGreat
open Go.RowKit
set_option linter.unusedVariables false
section
variable {a : Nat → Bool} {len line f i : Nat}
theorem stB_in (h1 : 0 < i) (h2 : a (i - 1) = true) : stB a i = false := by
  unfold stB; rw [h2, decide_eq_true h1]; simp
theorem stB_no (h : a i = false) : stB a i = false := by unfold stB; rw [h]; rfl
theorem stB_yes (h : a i = true) (h2 : i = 0 ∨ a (i - 1) = false) : stB a i = true := by
  unfold stB
  rw [h]
  rcases h2 with rfl | h2
  · simp
  · rw [h2]; simp
theorem rnA_no (h : stB a i = false) : rnA a len line i = [] := by unfold rnA; rw [if_neg (by rw [h]; simp)]
theorem rL_no (h : stB a i = false) : rL a len line (i + 1) = rL a len line i := by rw [rL, rnA_no h, List.append_nil]
/-- within a run no run begins -/
theorem rL_skip (hs : stB a f = true) (ha : ∀ j, f ≤ j → j < i → a j = true) : ∀ {k : Nat}, f < k → k ≤ i → rL a len line k = rL a len line f ++ [((line : Int), (f : Int), (enB a (len - 1 - f) f : Int))]
  | 0, h, _ => by omega
  | k + 1, h, hk => by
    by_cases e : k = f
    · subst e
      rw [rL]
      unfold rnA
      rw [if_pos hs]
    · rw [rL_no (stB_in (by omega) (ha (k - 1) (by omega) (by omega))), rL_skip hs ha (by omega) (by omega)]
/-- where a run ends -/
theorem enB_run : ∀ {k f : Nat}, f + k + 1 = len → f < i → i ≤ len → (∀ j, f ≤ j → j < i → a j = true) → (i < len → a i = false) → enB a k f = i - 1
  | 0, f, hk, h1, h2, _, _ => by show f = i - 1; omega
  | k + 1, f, hk, h1, h2, ha, he => by
    show (if a (f + 1) = true then enB a k (f + 1) else f) = i - 1
    by_cases e : i = f + 1
    · subst e
      rw [he (by omega), if_neg (by simp)]; omega
    · rw [ha (f + 1) (by omega) (by omega), if_pos rfl]
      exact enB_run (by omega) (by omega) h2 (fun j a b => ha j (by omega) b) he
end
end Go.Proofs.YtdimlpcbbkokiaaGreat

/- Walks: the runs of the columns of an image (image.Columns: an iterator with a closure). -/
namespace Go.Proofs.YtdimlpcbbkokiaaGreat
open Go.RowKit Go.Shelf
set_option linter.unusedVariables false
attribute [local go_sem] Oper.semAt_some

set_option maxHeartbeats 2000000 in
theorem at_in (W H : Nat) (A : Option Addr) (n c x y : Nat) (p : Int → Int) (w : World) (hA : ArrB w w.heap.size A n p) (hW : W ≤ 640) (hH : H ≤ 640) (hn : (n : Int) = (W : Int) * H) (hx : x < W) (hy : y < H) :
    Calls Tryz.prog 67 #[.agg #[.int .i64 W, .int .i64 H, .slice A n c], .int .i64 x, .int .i64 y] w fun e w' => e = .returned (.int .u8 (p ((y : Int) * W + x))) ∧ Below w.heap.size w w' := by
  have h8 := idx_lt (x := (x : Int)) (y := (y : Int)) (W := W) (H := H) (by omega) (by omega) (by omega) (by omega)
  have m2 := (area_bd (W := W) (H := H) (by omega) (by omega) (by omega) (by omega)).2
  obtain ⟨e, he⟩ : ∃ e : Nat, (y : Int) * W + x = e := ⟨((y : Int) * W + x).toNat, by omega⟩
  have hen : (e : Int) < n := by
    have h9 := h8.2.1
    rw [he, Int.mul_comm, ← hn] at h9
    exact h9
  have v1 : IntKind.i64.wrap ((y : Int) * W) = (y : Int) * W := IntWalk.i64_in _ (by have := Int.mul_nonneg (show (0 : Int) ≤ y by omega) (show (0 : Int) ≤ W by omega); omega)
  have v2 : IntKind.i64.wrap ((y : Int) * W + x) = (e : Int) := (IntWalk.i64_in _ (by omega)).trans he
  obtain ⟨b, off, rfl, hb, hc⟩ := ArrB.at_ hA (i := (e : Int)) (by omega) hen
  rw [Int.toNat_natCast] at hc
  rw [he]
  have xl : (x : Int) < W := by omega
  have yl : (y : Int) < H := by omega
  generalize p e = v at *
  have hc2 : (w.alloc (.cells #[.int .i64 W, .int .i64 H, .slice (some ⟨b, off, none⟩) n c] 24)).cell? ⟨b, off + e, none⟩ = some (.int .u8 v) := (((Below.refl _ w).alloc (Nat.le_refl _) _).cell (p := ⟨b, off + e, none⟩) hb).trans hc
  clear hA hn h8 he
  go_enter Tryz.func67, Tryz.ntmps67
  go_wp2
  go_ret
  exact ⟨rfl, by (repeat (first | exact Below.refl _ _ | assumption | refine Below.drew ?_ | refine below_drewN ?_ _ | refine Below.alloc ?_ (by first | omega | (simp; done) | (simp; omega)) _ | refine Below.setCell ?_ (by first | omega | (simp; done) | (simp; omega)) _ | refine below_setRow ?_ (by first | omega | (simp; done) | (simp; omega)) _ ))⟩
set_option maxHeartbeats 1000000 in
theorem col1_any (W H : Nat) (A : Option Addr) (n c x y bi : Nat) (p : Int → Int) (w : World) (hk : Blk w bi 24 #[.int .i64 W, .int .i64 H, .slice A n c]) (hA : ArrB w w.heap.size A n p) (hW : W ≤ 640) (hH : H ≤ 640) (hn : (n : Int) = (W : Int) * H) (hx : x < W) (hy : y < H) (hp : p ((y : Int) * W + x) = 0 ∨ p ((y : Int) * W + x) = 1) :
    Calls Tryz.prog 66 #[.int .i64 x, .int .i64 y, .pointer (some ⟨bi, 0, none⟩)] w fun e w' => e = .returned (.bool (inkB W H p x y)) ∧ Below w.heap.size w w' := by
  have AT := Lib.hid (at_in W H A n c x y p w hA hW hH hn hx hy)
  rw [inkB_in (by omega) (by omega) (by omega) (by omega)]
  obtain ⟨p1, p2, p3⟩ := hk.cells3
  clear hA hn
  generalize p ((y : Int) * W + x) = v at *
  rcases hp with rfl | rfl
  · go_enter Tryz.func66, Tryz.ntmps66
    go_wp2_with fail
    refine AT.out.mono ?_
    rintro e w2 ⟨rfl, hb2⟩
    go_wp2
    go_ret
    exact ⟨rfl, hb2⟩
  · go_enter Tryz.func66, Tryz.ntmps66
    go_wp2_with fail
    refine AT.out.mono ?_
    rintro e w2 ⟨rfl, hb2⟩
    go_wp2
    go_ret
    exact ⟨rfl, hb2⟩
theorem runs_fn (l n : Int) (fn : Fn) (lb : Array Value) (w : World) : Calls Tryz.prog 65 #[.int .i64 l, .int .i64 n, .func fn #[] lb] w fun e w' => e = .returned (.func (.func 107) #[] #[.pointer (some ⟨w.heap.size, 0, none⟩), .pointer (some ⟨w.heap.size + 1, 0, none⟩), .pointer (some ⟨w.heap.size + 1 + 1, 0, none⟩)]) ∧
    Below w.heap.size w w' ∧ Blk w' w.heap.size 3 #[.int .i64 l] ∧ Blk w' (w.heap.size + 1) 3 #[.int .i64 n] ∧ (∃ T, Blk w' (w.heap.size + 1 + 1) T #[.func fn #[] lb]) ∧ w'.heap.size = w.heap.size + 3 := by
  go_enter Tryz.func65, Tryz.ntmps65
  have hmf : ∀ (fn : Fn) (first cap : Array Value) (w : World), (Instr.makeFunc fn first cap).run Tryz.prog w = .ok (.func fn first cap) w := fun _ _ _ _ => rfl
  go_wp2
  go_ret
  exact ⟨rfl, by (repeat (first | exact Below.refl _ _ | assumption | refine Below.drew ?_ | refine below_drewN ?_ _ | refine Below.alloc ?_ (by first | omega | (simp; done) | (simp; omega)) _ | refine Below.setCell ?_ (by first | omega | (simp; done) | (simp; omega)) _ | refine below_setRow ?_ (by first | omega | (simp; done) | (simp; omega)) _ )), ((Blk.new _ _ _).alloc _).alloc _, (Blk.new' (by simp) _ _).alloc _, ⟨_, Blk.new' (by simp) _ _⟩, by first | rfl | simp | (rw [World.size_alloc, World.size_alloc, World.size_alloc])⟩

/-- all blocks below B0 but b5 are as they were -/
structure KpJ (B0 b5 : Nat) (W1 W2 : World) : Prop where
  size : W1.heap.size ≤ W2.heap.size
  same : ∀ j, j < B0 → j ≠ b5 → W2.heap[j]? = W1.heap[j]?
theorem KpJ.trans {B0 b5 : Nat} {A B C : World} (h : KpJ B0 b5 A B) (h' : KpJ B0 b5 B C) : KpJ B0 b5 A C := ⟨Nat.le_trans h.size h'.size, fun j a b => (h'.same j a b).trans (h.same j a b)⟩
theorem KpJ.below {B0 b5 : Nat} {A B C : World} (h : KpJ B0 b5 A B) (hB : B0 ≤ B.heap.size) (h' : Below B.heap.size B C) : KpJ B0 b5 A C := ⟨Nat.le_trans h.size h'.size, fun j a b => (h'.block j (by omega)).trans (h.same j a b)⟩
theorem ArrB.moveH {w w' : World} {B n : Nat} {A : Option Addr} {q : Int → Int} (h : ArrB w B A n q) (hk : ∀ j, j < B → w'.heap[j]? = w.heap[j]?) : ArrB w' B A n q := fun hn => by
  obtain ⟨b, off, e, hb, hc⟩ := h hn
  refine ⟨b, off, e, hb, fun i i0 i1 => ?_⟩
  rw [← hc i i0 i1]
  unfold World.cell?
  rw [hk b hb]

set_option maxRecDepth 100000 in
set_option maxHeartbeats 4000000 in
theorem cols_stops (n0 W H n c bl bn bf bi b5 B1 T : Nat) (A : Option Addr) (p : Int → Int) (w : World) (h10 : 1 ≤ n0) (hW : W ≤ 640) (hH : H ≤ 640) (hn : (n : Int) = (W : Int) * H) (hp : ∀ i : Int, 0 ≤ i → i < n → p i = 0 ∨ p i = 1)
    (kl : Blk w bl 3 #[.int .i64 W]) (kn : Blk w bn 3 #[.int .i64 H]) (kf : Blk w bf T #[.func (.func 66) #[] #[.pointer (some ⟨bi, 0, none⟩)]]) (ki : Blk w bi 24 #[.int .i64 W, .int .i64 H, .slice A n c]) (hA : ArrB w B1 A n p)
    (n1 : bl ≠ b5) (n2 : bn ≠ b5) (n3 : bf ≠ b5) (n4 : bi ≠ b5) (z1 : B1 ≤ b5) (z2 : B1 ≤ bi) :
    SeqStopsK Fence.wide n0 Tryz.prog 107 #[.pointer (some ⟨bl, 0, none⟩), .pointer (some ⟨bn, 0, none⟩), .pointer (some ⟨bf, 0, none⟩)] (fun r : Rn => #[.agg #[.int .i64 r.1, .int .i64 r.2.1, .int .i64 r.2.2]])
      (KpJ w.heap.size b5) (fun xs => xs = rLs (fun x y => inkB W H p x y) H W) (fun _ => True) (W * 640 + 1) w := fun l J Jx Wd hbW hJ hJx hY h0 => by
  have CL := Lib.hid fun (x y : Nat) (hx : x < W) (hy : y < H) w' (hk : Blk w' bi 24 #[.int .i64 W, .int .i64 H, .slice A n c]) (hA' : ArrB w' w'.heap.size A n p) => col1_any W H A n c x y bi p w' hk hA' hW hH hn hx hy (hp _ (idx_lt (x := (x : Int)) (y := (y : Int)) (W := W) (H := H) (by omega) (by omega) (by omega) (by omega)).1 (by
    have := (idx_lt (x := (x : Int)) (y := (y : Int)) (W := W) (H := H) (by omega) (by omega) (by omega) (by omega)).2.1
    rw [hn, Int.mul_comm (W : Int) H]; exact this))
  have HY := Lib.hid hY; have HJ := Lib.hid hJ
  have HAA := Lib.hid hA
  have kp0 : KpJ w.heap.size b5 w Wd := ⟨hbW.size, fun j hj _ => hbW.block j hj⟩
  have zl := kl.lt; have zn := kn.lt; have zf := kf.lt; have zi := ki.lt
  clear hY hJ hA hp hn hbW hJx
  obtain ⟨B0, hB0⟩ : ∃ B0, w.heap.size = B0 := ⟨_, rfl⟩
  rw [hB0] at kp0 zl zn zf zi
  have HB0 := Lib.hid hB0
  clear hB0
  refine callsIn_of_wp Tryz.func107 rfl trivial ?_ rfl
  simp only [Tryz.ntmps107, List.size_toArray, List.length_cons, List.length_nil, Nat.reduceAdd, Nat.reduceSub, Array.replicate_succ, Array.replicate_zero, List.push_toArray, List.append_toArray, List.nil_append, List.cons_append]
  have r1 := (kl.move (kp0.same bl zl n1)).cells1
  gi_wp2_with (refine wpListIn_skip rfl rfl ?_; simp only [Act.put, List.setIfInBounds_toArray, List.set_cons_succ, List.set_cons_zero])
  clear r1
  gi_loopw [10] (fun s wr => ∃ x : Nat, x ≤ W ∧ s = .int .i64 x ∧ KpJ B0 b5 w wr ∧ J (rLs (fun x y => inkB W H p x y) H x) wr) (fun s _ => W - (intOf s).toNat)
  case atStart => exact ⟨0, by omega, rfl, kp0, h0⟩
  case round =>
    obtain ⟨x, hx, rfl, kp, hj⟩ := hrel
    by_cases xl : (x : Int) < W
    · have r2 := (kn.move (kp.same bn zn n2)).cells1
      have vH : IntKind.i64.wrap ((H : Int) + 1) = ((H + 1 : Nat) : Int) := (IntWalk.i64_in _ (by omega)).trans (by omega)
      gi_wp2_with (refine wpListIn_skip rfl rfl ?_; simp only [Act.put, List.setIfInBounds_toArray, List.set_cons_succ, List.set_cons_zero])
      obtain ⟨a, ha⟩ : ∃ a : Nat → Bool, a = fun y : Nat => inkB W H p x y := ⟨_, rfl⟩
      have HAX := Lib.hid ha
      have LEN := Lib.hid fun (f : Nat) (hf : f ≤ H) => (show (rLs (fun x y => inkB W H p x y) H x ++ rL a H x f).length ≤ W * 640 from by
        rw [List.length_append]
        have h1 := rLs_len (fun x y => inkB W H p x y) H x
        have h2 := rL_len a H x f
        have h3 : (x + 1) * H ≤ W * H := Nat.mul_le_mul_right H (by omega)
        have h4 : W * H ≤ W * 640 := Nat.mul_le_mul_left W hH
        rw [Nat.succ_mul] at h3
        omega)
      clear ha r2
      gi_loopw [15, 6] (fun s fr wr => ∃ i : Nat, i ≤ H + 1 ∧ s = .int .i64 i ∧ KpJ B0 b5 w wr ∧
        ((fr = .int .i64 (-1) ∧ Hid (i = 0 ∨ H < i ∨ a (i - 1) = false) ∧ J (rLs (fun x y => inkB W H p x y) H x ++ rL a H x (min i H)) wr) ∨
         (∃ f : Nat, fr = .int .i64 f ∧ f < i ∧ i ≤ H ∧ Hid (stB a f = true ∧ ∀ j, f ≤ j → j < i → a j = true) ∧ J (rLs (fun x y => inkB W H p x y) H x ++ rL a H x f) wr))) (fun s _ _ => H + 1 - (intOf s).toNat)
      case atStart => exact ⟨0, by omega, rfl, kp, .inl ⟨rfl, Lib.hid (.inl rfl), by simpa [rL] using hj⟩⟩
      case round =>
        obtain ⟨i, hi, rfl, kq, hst⟩ := hrel
        have r2 := (kn.move (kq.same bn zn n2)).cells1
        have r3 := (kf.move (kq.same bf zf n3)).cells1
        by_cases il : (i : Int) < ((H + 1 : Nat) : Int)
        · by_cases ih : (i : Int) < H
          · have ki' := ki.move (kq.same bi zi n4)
            have hA' : ArrB wr wr.heap.size A n p := (HAA.out.moveH fun j hj => kq.same j (by omega) (by omega)).more (by have := ki'.lt; omega)
            have CX := Lib.hid (CL.out x i (by omega) (by omega) wr ki' hA')
            obtain ⟨ib, hib⟩ : ∃ ib, inkB W H p x i = ib := ⟨_, rfl⟩
            have HIB := Lib.hid (show a i = ib from by rw [HAX.out]; exact hib)
            rw [hib] at CX
            clear hib ki' hA'
            rcases hst with ⟨rfl, hpr, hJ1⟩ | ⟨f, rfl, hfi, hiH, hrun, hJ1⟩
            · gi_wp2_with fail
              refine ⟨trivial, ?_⟩
              refine (callsIn_wide.2 CX.out).mono ?_
              rintro e w5 ⟨rfl, hb5⟩
              have kq5 := kq.below (by have := kq.size; have := HB0.out; omega) hb5
              have hJ5 := Lib.hid (HJ.out _ wr w5 none hJ1 ⟨hb5.os, hb5.tape, hb5.output, hb5.size, fun k hk _ => hb5.block k hk⟩ (fun r e => by cases e))
              clear hJ1 r2 r3 CX hb5
              cases ib
              · gi_wp2_with (refine wpListIn_skip rfl rfl ?_; simp only [Act.put, List.setIfInBounds_toArray, List.set_cons_succ, List.set_cons_zero])
                go_roundw
                case rel => exact ⟨i + 1, by omega, by go_num, kq5, .inl ⟨rfl, Lib.hid (.inr (.inr HIB.out)), by
                  have h := hJ5.out
                  rw [show min (i + 1) H = i + 1 by omega, rL_no (stB_no HIB.out)]
                  rwa [show min i H = i by omega] at h⟩⟩
                case measure => simp [intOf]; omega
              · gi_wp2_with (refine wpListIn_skip rfl rfl ?_; simp only [Act.put, List.setIfInBounds_toArray, List.set_cons_succ, List.set_cons_zero])
                go_roundw
                case rel => exact ⟨i + 1, by omega, by go_num, kq5, .inr ⟨i, rfl, by omega, by omega, Lib.hid ⟨stB_yes HIB.out (by rcases hpr.out with h | h | h; exact .inl h; omega; exact .inr h), fun j h1 h2 => by
                  obtain rfl : j = i := by omega
                  exact HIB.out⟩, by
                  have h := hJ5.out
                  rwa [show min i H = i by omega] at h⟩⟩
                case measure => simp [intOf]; omega
            · have hf0 : (0 : Int) ≤ f := by omega
              gi_wp2_with fail
              refine ⟨trivial, ?_⟩
              refine (callsIn_wide.2 CX.out).mono ?_
              rintro e w5 ⟨rfl, hb5⟩
              have kq5 := kq.below (by have := kq.size; have := HB0.out; omega) hb5
              have hJ5 := HJ.out _ wr w5 none hJ1 ⟨hb5.os, hb5.tape, hb5.output, hb5.size, fun k hk _ => hb5.block k hk⟩ (fun r e => by cases e)
              clear hJ1 r2 r3 CX hb5
              cases ib
              · obtain ⟨t', ht'⟩ : ∃ t', i = t' + 1 := ⟨i - 1, by omega⟩
                have u1 : IntKind.i64.wrap ((i : Int) - 1) = (t' : Int) := (IntWalk.i64_in _ (by omega)).trans (by omega)
                obtain ⟨f1, q1, a1, b1, hy1, hR1⟩ := HY.out _ ((x : Int), (f : Int), (t' : Int)) w5 hJ5 (by have := LEN.out f (by omega); omega)
                have RS := Lib.hid (show rL a H x (min (i + 1) H) = rL a H x f ++ [((x : Int), (f : Int), (t' : Int))] from by
                  rw [show min (i + 1) H = i + 1 by omega, rL_no (stB_no HIB.out), rL_skip hrun.out.1 hrun.out.2 hfi (Nat.le_refl _), enB_run (len := H) (by omega) hfi (by omega) hrun.out.2 (fun _ => HIB.out), show i - 1 = t' by omega])
                have HTT := Lib.hid ht'
                clear hJ5 ht'
                simp only at hy1
                gi_wp2_with (refine wpListIn_skip rfl rfl ?_; simp only [Act.put, List.setIfInBounds_toArray, List.set_cons_succ, List.set_cons_zero])
                refine hR1.mono ?_
                rintro e W1 (⟨rfl, hJ6, hk6⟩ | ⟨rfl, hx1⟩)
                · have kq6 := kq5.trans (HB0.out ▸ hk6)
                  gi_wp2_with (refine wpListIn_skip rfl rfl ?_; simp only [Act.put, List.setIfInBounds_toArray, List.set_cons_succ, List.set_cons_zero])
                  go_roundw
                  case rel => exact ⟨i + 1, by omega, by go_num, kq6, .inl ⟨rfl, Lib.hid (.inr (.inr HIB.out)), by rw [RS.out, ← List.append_assoc]; exact hJ6⟩⟩
                  case measure => simp [intOf]; omega
                · gi_wp2_with (refine wpListIn_skip rfl rfl ?_; simp only [Act.put, List.setIfInBounds_toArray, List.set_cons_succ, List.set_cons_zero])
                  refine bodyPost_ret (results_none rfl _ _ _) rfl ?_
                  exact ⟨⟨_, rfl⟩, .inr ⟨_, trivial, hx1⟩⟩
              · gi_wp2_with (refine wpListIn_skip rfl rfl ?_; simp only [Act.put, List.setIfInBounds_toArray, List.set_cons_succ, List.set_cons_zero])
                go_roundw
                case rel => exact ⟨i + 1, by omega, by go_num, kq5, .inr ⟨f, rfl, by omega, by omega, Lib.hid ⟨hrun.out.1, fun j h1 h2 => by
                  by_cases e : j = i
                  · subst e; exact HIB.out
                  · exact hrun.out.2 j h1 (by omega)⟩, hJ5⟩⟩
                case measure => simp [intOf]; omega
          · have hiH : i = H := by omega
            rcases hst with ⟨rfl, hpr, hJ1⟩ | ⟨f, rfl, hfi, hiH2, hrun, hJ1⟩
            · have HJ1 := Lib.hid hJ1
              have HIH := Lib.hid hiH
              clear hJ1 hiH
              gi_wp2_with (refine wpListIn_skip rfl rfl ?_; simp only [Act.put, List.setIfInBounds_toArray, List.set_cons_succ, List.set_cons_zero])
              go_roundw
              case rel => exact ⟨i + 1, by omega, by go_num, kq, .inl ⟨rfl, Lib.hid (.inr (.inl (by have := HIH.out; omega))), by
                have h := HJ1.out
                rw [show min (i + 1) H = min i H by have := HIH.out; omega]
                exact h⟩⟩
              case measure => simp [intOf]; omega
            · have hf0 : (0 : Int) ≤ f := by omega
              obtain ⟨t', ht'⟩ : ∃ t', i = t' + 1 := ⟨i - 1, by omega⟩
              have u1 : IntKind.i64.wrap ((i : Int) - 1) = (t' : Int) := (IntWalk.i64_in _ (by omega)).trans (by omega)
              obtain ⟨f1, q1, a1, b1, hy1, hR1⟩ := HY.out _ ((x : Int), (f : Int), (t' : Int)) wr hJ1 (by have := LEN.out f (by omega); omega)
              have RS := Lib.hid (show rL a H x (min (i + 1) H) = rL a H x f ++ [((x : Int), (f : Int), (t' : Int))] from by
                rw [show min (i + 1) H = i by omega, rL_skip hrun.out.1 hrun.out.2 hfi (Nat.le_refl _), enB_run (len := H) (by omega) hfi (by omega) hrun.out.2 (fun h => by omega), show i - 1 = t' by omega])
              have HTT := Lib.hid ht'
              have HIH := Lib.hid hiH
              clear hJ1 ht' hiH
              simp only at hy1
              gi_wp2_with (refine wpListIn_skip rfl rfl ?_; simp only [Act.put, List.setIfInBounds_toArray, List.set_cons_succ, List.set_cons_zero])
              refine hR1.mono ?_
              rintro e W1 (⟨rfl, hJ6, hk6⟩ | ⟨rfl, hx1⟩)
              · have kq6 := kq.trans (HB0.out ▸ hk6)
                gi_wp2_with (refine wpListIn_skip rfl rfl ?_; simp only [Act.put, List.setIfInBounds_toArray, List.set_cons_succ, List.set_cons_zero])
                go_roundw
                case rel => exact ⟨i + 1, by omega, by go_num, kq6, .inl ⟨rfl, Lib.hid (.inr (.inl (by have := HIH.out; omega))), by rw [RS.out, ← List.append_assoc]; exact hJ6⟩⟩
                case measure => simp [intOf]; omega
              · gi_wp2_with (refine wpListIn_skip rfl rfl ?_; simp only [Act.put, List.setIfInBounds_toArray, List.set_cons_succ, List.set_cons_zero])
                refine bodyPost_ret (results_none rfl _ _ _) rfl ?_
                exact ⟨⟨_, rfl⟩, .inr ⟨_, trivial, hx1⟩⟩
        · have hiH : i = H + 1 := by omega
          rcases hst with ⟨rfl, hpr, hJ1⟩ | ⟨f, rfl, hfi, hiH2, hrun, hJ1⟩
          · have HJ1 := Lib.hid (show J (rLs (fun x y => inkB W H p x y) H (x + 1)) wr from by
              rw [hiH, show min (H + 1) H = H by omega, HAX.out] at hJ1
              exact hJ1)
            clear hJ1 hiH
            gi_wp2_with (refine wpListIn_skip rfl rfl ?_; simp only [Act.put, List.setIfInBounds_toArray, List.set_cons_succ, List.set_cons_zero])
            go_roundw
            case rel => exact ⟨x + 1, by omega, by go_num, kq, HJ1.out⟩
            case measure => simp [intOf]; omega
          · omega
    · have hxW : x = W := by omega
      have HJ1 := Lib.hid (show J (rLs (fun x y => inkB W H p x y) H W) wr from hxW ▸ hj)
      clear hj hxW
      gi_wp2_with (refine wpListIn_skip rfl rfl ?_; simp only [Act.put, List.setIfInBounds_toArray, List.set_cons_succ, List.set_cons_zero])
      go_end0
      exact ⟨⟨_, rfl⟩, .inl HJ1.out⟩
end Go.Proofs.YtdimlpcbbkokiaaGreat
