/- Texts of mine in build order: T52, B0, T53, S18, T45, T38, S11. Conditions: each theorem's own. -/
import Derived.Test.YtdimlpcbbkokiaaMStaveFoundx7
import Derived.Deep.DeepCutAuto
import Derived.Deep.Cut
import Derived.Deep.CutBlock
import Derived.Laws.CopyOwn
import Derived.StillTailTactics
/- Walk: the runs that lines of staves meet (stave.Runs). -/
namespace Go.Proofs.Ytdimlpcbbkokiaa
open Go.RowKit Go.Shelf
set_option linter.unusedVariables false
attribute [local go_sem] Oper.semAt_some

/-- staves that came in -/
def StavesIn (w : World) (B : Nat) (A : Option Addr) (k : Nat) (K : Nat → Nat) (m : Nat → Nat → Nat) (ln : Nat → Nat → Nat → Int) : Prop :=
  ∀ i, i < k → ∃ b off AL cL, A = some ⟨b, off, none⟩ ∧ b < B ∧ w.cell? ⟨b, off + i, none⟩ = some (.slice AL (K i) cL) ∧ Lines w B AL (K i) (m i) (ln i)
theorem Lines.more {w : World} {B B' : Nat} {A : Option Addr} {K : Nat} {m : Nat → Nat} {ln : Nat → Nat → Int} (h : Lines w B A K m ln) (hB : B ≤ B') : Lines w B' A K m ln := by
  obtain ⟨vs, h1, h2⟩ := h
  exact ⟨vs, Arr.more h1 hB, fun i hi => by obtain ⟨A', c', e, ha⟩ := h2 i hi; exact ⟨A', c', e, ArrI.more ha hB⟩⟩
theorem Lines.belowB {w w' : World} {B : Nat} {A : Option Addr} {K : Nat} {m : Nat → Nat} {ln : Nat → Nat → Int} (h : Lines w B A K m ln) (hb : Below B w w') : Lines w' B A K m ln := by
  obtain ⟨vs, h1, h2⟩ := h
  exact ⟨vs, Arr.below h1 hb, fun i hi => by obtain ⟨A', c', e, ha⟩ := h2 i hi; exact ⟨A', c', e, ArrI.below ha hb⟩⟩
/-- a number in a cell -/
def cellN (w : World) (a : Addr) : Nat := match w.cell? a with | some v => (intOf v).toNat | none => 0
theorem cellN_of {w : World} {a : Addr} {n : Nat} (h : w.cell? a = some (.int .i64 n)) : cellN w a = n := by unfold cellN; rw [h]; rfl
theorem RunRow.base {w : World} {B B' : Nat} {v : Value} {l : List Rn} (h : RunRow w B v l) (hB : B' ≤ B) : RunRow w B' v l := ⟨h.1, h.2.imp id fun ⟨g, c, cur, a, b, r⟩ => ⟨g, c, cur, a, Nat.le_trans hB b, r⟩⟩
theorem rnAt_len (p : Int → Int) (W : Int) (H : Nat) (most : Int) (x y : Nat) : (rnAt p W H most x y).length ≤ 1 := by unfold rnAt; split <;> simp

set_option maxRecDepth 100000 in
set_option maxHeartbeats 4000000 in
theorem runs_ok (W most : Int) (H N : Nat) (A AS : Option Addr) (n c kS cS : Nat) (p : Int → Int) (K : Nat → Nat) (m : Nat → Nat → Nat) (ln : Nat → Nat → Nat → Int) (w : World)
    (hW : W = N) (hN : N ≤ 640) (hH : H ≤ 640) (hA : ArrB w w.heap.size A n p) (hn : n = N * H) (hp : ∀ i : Int, 0 ≤ i → i < n → p i = 0 ∨ p i = 1) (hk : kS ≤ 1000) (hmost : -1099511627776 ≤ most ∧ most ≤ 1099511627776)
    (hS : StavesIn w w.heap.size AS kS K m ln) (hm : ∀ i j, i < kS → j < K i → m i j ≤ maxLen) (hfit : ∀ i, i < kS → stFits W H (K i) (m i) (ln i) = true) :
    Calls Try.prog 48 #[.agg #[.int .i64 W, .int .i64 H, .slice A n c], .slice AS kS cS, .int .i64 most] w fun e w' => ∃ v l, e = .returned (.tuple #[v, .int .i64 0]) ∧ RunRow w' w.heap.size v (dd l) ∧ l.Perm (colI p W H most ln N kS) ∧ l.Pairwise leR ∧ Below w.heap.size w w' := by
  have hn640 : n ≤ 409600 := by rw [hn]; exact Nat.mul_le_mul hN hH
  have CK := Lib.hid fun w' hA' => check_any W H A n c p w' hA' (by unfold maxLen; omega)
  have hchk : chk W H n p = 0 := chk_mk (by omega) (by omega) (by omega) (by omega) (by rw [hn, hW]; push_cast; rfl) fun i a b => by have := hp i a b; omega
  rw [hchk] at CK
  clear hchk
  have FT := Lib.hid fun i (hi : i < kS) AL cL w' hL => fits_st W H A AL n c (K i) cL (m i) (ln i) w' (by omega) (by omega) hL (fun j hj => hm i j hi hj)
  have HF := Lib.hid hfit
  have HM := Lib.hid hm
  have HP := Lib.hid hp
  have HNN := Lib.hid hn
  have HS := Lib.hid hS
  have HA := Lib.hid hA
  have HMO := Lib.hid hmost
  have HW := Lib.hid hW
  have hw0 : 0 ≤ W := by omega
  have hw1 : W ≤ 640 := by omega
  obtain ⟨r0, hr0, hrz0, hrz1, hrz2⟩ := info_parts infoRun
  clear hS hm hfit hp hA hmost hn hW
  go_enter Try.func48, Try.ntmps48
  go_wp2_with fail
  have k1 := Blk.new w 24 #[.int .i64 W, .int .i64 H, .slice A n c]
  have b1 : Below w.heap.size w (w.alloc (.cells #[.int .i64 W, .int .i64 H, .slice A n c] 24)) := (Below.refl _ _).alloc (Nat.le_refl _) _
  generalize w.alloc (.cells #[.int .i64 W, .int .i64 H, .slice A n c] 24) = w1 at *
  have ha1 := HA.out.to b1
  refine (CK.out w1 ha1).mono ?_
  rintro e w2 ⟨rfl, hb2⟩
  have k2 := k1.below' hb2
  have b2 := below_call b1 b1.size hb2
  obtain ⟨B, hB⟩ : ∃ B, w2.heap.size = B := ⟨_, rfl⟩
  have hgB : w.heap.size < B := by rw [← hB]; exact k2.lt
  clear k1 b1 ha1 hb2
  go_wp2_with fail
  go_loopw [24, 9] (fun s v9 wr => ∃ (i : Nat) (L : List Rn), i ≤ kS ∧ s = .int .i64 i ∧ RunRow wr B v9 L ∧ Below B w2 wr ∧ Hid (L = colI p W H most ln N i) ∧ L.length ≤ i * 3200) (fun s _ _ => kS - (intOf s).toNat)
  case atStart => exact ⟨0, [], by omega, rfl, RunRow.nil _ _, Below.refl _ _, Lib.hid rfl, by simp⟩
  case round =>
    obtain ⟨i, L, hi, rfl, hR, hb3, HL, hLl⟩ := hrel
    by_cases hlt : (i : Int) < kS
    · obtain ⟨bS, oS, AL, cL, rfl, hbS, hcS, hLS⟩ := HS.out i (by omega)
      have b3 : Below w.heap.size w wr := b2.trans (hb3.mono (by omega))
      have hc3 := (b3.cell (p := ⟨bS, oS + i, none⟩) hbS).trans hcS
      have hL3 := (hLS.belowB b3).more b3.size
      have hK5 := (stFits_iff.1 (HF.out i (by omega))).1
      have FTi := Lib.hid fun cL w' hL => FT.out i (by omega) AL cL w' hL
      rw [HF.out i (by omega), hK5] at FTi
      rw [hK5] at hc3 hL3
      obtain ⟨ln1, hln1⟩ : ∃ l1, ln i = l1 := ⟨_, rfl⟩
      obtain ⟨m1, hm1⟩ : ∃ l1, m i = l1 := ⟨_, rfl⟩
      have FI := Lib.hid (stFits_iff.1 (HF.out i (by omega)))
      rw [hln1, hm1] at hL3 FTi FI
      have HLN1 := Lib.hid hln1; have HM1 := Lib.hid hm1
      have HLS := Lib.hid hL3
      rw [(stFits_iff.1 (HF.out i (by omega))).1, hln1, hm1] at hLS
      have HLL := Lib.hid hLS
      have k3 := k2.below' (hB ▸ hb3)
      obtain ⟨p1, p2, p3⟩ := k3.cells3
      clear hln1 hm1 hK5 hcS hLS hbS
      go_upto_region 8 with fail
      have k4 := k3.alloc (.cells #[.slice AL 5 cL] 54)
      have ks := Blk.new wr 54 #[.slice AL 5 cL]
      have bs : Below wr.heap.size wr (wr.alloc (.cells #[.slice AL 5 cL] 54)) := (Below.refl _ _).alloc (Nat.le_refl _) _
      obtain ⟨gs, hgs⟩ : ∃ g, wr.heap.size = g := ⟨_, rfl⟩
      generalize wr.alloc (.cells #[.slice AL 5 cL] 54) = w4 at *
      clear p1 p2 p3
      obtain ⟨p1, p2, p3⟩ := k4.cells3
      have s1 := ks.cells0
      rw [hgs] at s1
      go_wp2_with fail
      refine (FTi.out cL w4 (HLS.out.below bs)).mono ?_
      rintro e w5 ⟨rfl, hb5⟩
      have ks5 := ks.below' hb5
      have z5 := hb5.size
      have z3 := b3.size
      have hb5' : Below gs wr w5 := by rw [← hgs]; exact bs.trans (hb5.mono bs.size)
      have hB3 : B ≤ gs := by rw [← hgs, ← hB]; exact hb3.size |> fun h => hB ▸ h
      have b5 : Below B w2 w5 := hb3.trans (hb5'.mono hB3)
      have R5 := hR.below (hgs ▸ hb5')
      have r1 := ks5.cells0
      rw [hgs] at r1
      clear bs hb5 ks k4 k3 p1 p2 p3 s1 hb3 hR hL3 b3 hc3
      go_wp2_with fail
      clear r1 ks5 hb5'
      go_loopw [35, 9] (fun s v9 wr => ∃ (j : Nat) (L2 : List Rn), j ≤ 5 ∧ s = .int .i64 j ∧ RunRow wr B v9 L2 ∧ Below B w2 wr ∧ Hid (L2 = L ++ colJ p W H most ln1 N j) ∧ L2.length ≤ i * 3200 + j * 640) (fun s _ _ => 5 - (intOf s).toNat)
      case atStart => exact ⟨0, L, by omega, rfl, R5, b5, Lib.hid (by simp [colJ]), by omega⟩
      case round =>
        obtain ⟨j, L2, hj, rfl, hR2, hb6, HL2, hLl2⟩ := hrel
        clear R5 b5
        by_cases jlt : (j : Int) < 5
        · obtain ⟨bA, oA, A1, c1, rfl, hbA, hcA, haA⟩ := HLL.out.at_ (i := j) (by omega)
          have b6 : Below w.heap.size w wr := b2.trans (hb6.mono (by omega))
          have hc6 := (b6.cell (p := ⟨bA, oA + j, none⟩) hbA).trans hcA
          obtain ⟨⟨g1, g2, g3⟩, g4⟩ := isPathB_iff.1 (FI.out.2.1 j (by omega))
          have hmN : m1 j = N := by have := HW.out; omega
          rw [hmN] at hc6 haA g4
          obtain ⟨q, hq⟩ : ∃ q : Nat → Int, ln1 j = q := ⟨_, rfl⟩
          rw [hq] at haA g4
          have BD := Lib.hid fun (x : Nat) (hx : x < N) => (show 0 ≤ q x ∧ q x < H from by
            have h9 := stepB_iff.1 (g4 x (by omega) (by omega))
            simp only [Int.toNat_natCast] at h9
            exact ⟨h9.1, h9.2.1⟩)
          have HQ := Lib.hid hq
          have HAA := Lib.hid haA
          clear hq haA g4 g3 hmN hcA
          go_wp2_with fail
          go_loopw [41, 9] (fun s v9 wr => ∃ (x : Nat) (L3 : List Rn), x ≤ N ∧ s = .int .i64 x ∧ RunRow wr B v9 L3 ∧ Below B w2 wr ∧ Hid (L3 = L2 ++ colX p W H most q x) ∧ L3.length ≤ i * 3200 + j * 640 + x) (fun s _ _ => N - (intOf s).toNat)
          case atStart => exact ⟨0, L2, by omega, rfl, hR2, hb6, Lib.hid (by simp [colX]), by omega⟩
          case round =>
            obtain ⟨x, L3, hx, rfl, hR3, hb7, HL3, hLl3⟩ := hrel
            clear hR2 hb6 b6 hc6
            by_cases xlt : (x : Int) < N
            · obtain ⟨y, hy⟩ : ∃ y : Nat, q x = y := ⟨(q x).toNat, by have := BD.out x (by omega); omega⟩
              have hyH : y < H := by have := BD.out x (by omega); omega
              have b7 : Below w.heap.size w wr := b2.trans (hb7.mono (by omega))
              obtain ⟨bx, ox, rfl, hbx, hcx⟩ := ArrI.at_ HAA.out (i := (x : Int)) (by omega) (by omega)
              rw [Int.toNat_natCast, hy] at hcx
              have hcx7 := (b7.cell (p := ⟨bx, ox + x, none⟩) hbx).trans hcx
              have k7 := k2.below' (hB ▸ hb7)
              obtain ⟨p1, p2, p3⟩ := k7.cells3
              obtain ⟨e, he⟩ : ∃ e : Nat, (y : Int) * W + x = e := ⟨y * N + x, by rw [HW.out]; push_cast; rfl⟩
              have hen : e < n := by
                have h8 := (idx_lt (x := x) (y := y) (W := W) (H := H) (by omega) (by have := HW.out; omega) (by omega) (by omega)).2.1
                rw [he, HW.out] at h8
                have h9 := HNN.out
                have h10 : (n : Int) = (H : Int) * N := by rw [h9]; push_cast; exact Int.mul_comm _ _
                omega
              have hPA := HA.out.to b7
              obtain ⟨bp, op, rfl, hbp, hcp⟩ := ArrB.at_ hPA (i := (e : Int)) (by omega) (by omega)
              rw [Int.toNat_natCast] at hcp
              have v1 : IntKind.i64.wrap ((y : Int) * W) = (y : Int) * W := IntWalk.i64_in _ (by have := Int.mul_nonneg (show (0 : Int) ≤ y by omega) hw0; omega)
              have v2 : IntKind.i64.wrap ((y : Int) * W + x) = (e : Int) := (IntWalk.i64_in _ (by omega)).trans he
              have HY := Lib.hid hy; have HE := Lib.hid he
              have HPV := Lib.hid (HP.out e (by omega) (by omega))
              have hen' : (e : Int) < n := by omega
              clear hy he hcx hbx
              by_cases hpe : p e = 0
              · rw [hpe] at hcp
                have HPE := Lib.hid hpe
                clear hpe
                go_wp2_with fail
                go_round
                case rel => exact ⟨x + 1, L3, by omega, by go_num, hR3, hb7, Lib.hid (by
                  rw [HL3.out]
                  show L2 ++ colX p W H most q x = L2 ++ (colX p W H most q x ++ rnAt p W H most x (q x).toNat)
                  rw [HY.out, Int.toNat_natCast]
                  unfold rnAt
                  rw [HE.out, HPE.out, if_neg (by omega), List.append_nil]), by omega⟩
                case measure => simp [intOf]; omega
              · have hp1 : p e = 1 := by have := HPV.out; omega
                rw [hp1] at hcp
                have HPE := Lib.hid hp1
                clear hpe hp1
                obtain ⟨gr, hgr⟩ : ∃ g, wr.heap.size = g := ⟨_, rfl⟩
                have hgw : w.heap.size < gr := by rw [← hgr]; exact k7.lt
                have hgB7 : B ≤ gr := by rw [← hgr, ← hB]; exact hb7.size |> fun h => hB ▸ h
                go_upto_block 6 with fail
                have kr := Blk.new wr 84 #[.int .i64 x, .int .i64 y, .int .i64 y]
                have br : Below wr.heap.size wr (wr.alloc (.cells #[.int .i64 x, .int .i64 y, .int .i64 y] 84)) := (Below.refl _ _).alloc (Nat.le_refl _) _
                have k8 := k7.below' br
                have HB7 := Lib.hid hb7; have HR3 := Lib.hid hR3
                have hA8 : ArrB _ wr.heap.size _ n p := ArrB.below hPA br
                generalize wr.alloc (.cells #[.int .i64 x, .int .i64 y, .int .i64 y] 84) = w8 at *
                have hsr := br.size
                rw [hgr] at kr br hsr hA8
                clear p1 p2 p3 hcx7 hcp k7 hR3 hb7 hPA
                go_cut [61] from 61 to 82 (fun _ wx => Below gr w8 wx ∧ Blk wx gr 84 #[.int .i64 x, .int .i64 (topN p W x y : Nat), .int .i64 y])
                case first =>
                  go_wp2_with fail
                  go_loopw [61] (fun _ wx => ∃ f : Nat, f ≤ y ∧ Hid (topN p W x f = topN p W x y) ∧ Below gr w8 wx ∧ Blk wx gr 84 #[.int .i64 x, .int .i64 f, .int .i64 y]) (fun _ wx => cellN wx ⟨gr, 1, none⟩)
                  case atStart => exact ⟨y, by omega, Lib.hid rfl, Below.refl _ _, kr⟩
                  case round =>
                    obtain ⟨f, hfy, HT, b9, kf⟩ := hrel
                    have k9 := k8.move (b9.block _ hgw)
                    obtain ⟨p1, p2, p3⟩ := k9.cells3
                    obtain ⟨c1, c2, c3⟩ := kf.cells3
                    have q2 := kf.frozen 1
                    have hA9 := ArrB.below hA8 b9
                    by_cases f0 : f = 0
                    · have HF0 : Hid (0 = topN p W x y) := by have := HT.out; rw [f0] at this; exact this
                      subst f0
                      have KF := Lib.hid kf
                      clear HT kf hA9
                      go_wp2_with fail
                      go_meet
                      exact ⟨b9, by rw [← HF0.out]; exact KF.out⟩
                    · obtain ⟨f', hf'⟩ : ∃ f', f = f' + 1 := ⟨f - 1, by omega⟩
                      have hf1 : (f : Int) > 0 := by omega
                      have u1 : IntKind.i64.wrap ((f : Int) - 1) = (f' : Int) := (IntWalk.i64_in _ (by omega)).trans (by omega)
                      have h8 := idx_lt (x := x) (y := f') (W := W) (H := H) (by omega) (by have := HW.out; omega) (by omega) (by omega)
                      obtain ⟨e2, he2⟩ : ∃ e2 : Nat, (f' : Int) * W + x = e2 := ⟨((f' : Int) * W + x).toNat, by omega⟩
                      have he2n : e2 < n := by
                        have h9 := HNN.out
                        have h10 : (n : Int) = (H : Int) * N := by rw [h9]; push_cast; exact Int.mul_comm _ _
                        rw [he2, HW.out] at h8
                        omega
                      have u2 : IntKind.i64.wrap ((f' : Int) * W) = (f' : Int) * W := IntWalk.i64_in _ (by omega)
                      have u3 : IntKind.i64.wrap ((f' : Int) * W + x) = (e2 : Int) := (IntWalk.i64_in _ (by omega)).trans he2
                      obtain ⟨bp', op', eA, hbp', hcp'⟩ := ArrB.at_ hA9 (i := (e2 : Int)) (by omega) (by omega)
                      cases eA
                      rw [Int.toNat_natCast] at hcp'
                      have he2n' : (e2 : Int) < n := by omega
                      have HPV2 := HP.out e2 (by omega) (by omega)
                      have HE2 := Lib.hid he2
                      have HF2 := Lib.hid hf'
                      have KF := Lib.hid kf
                      have B9 := Lib.hid b9
                      have HN0 := cellN_of c2
                      clear h8 he2 hf' hA9 f0 kf
                      rcases HPV2 with hv | hv
                      · rw [hv] at hcp'
                        have HV := Lib.hid hv
                        clear hv
                        go_wp2_with fail
                        go_meet
                        have ht : topN p W x y = f := by
                          rw [← HT.out, HF2.out]
                          show (if p ((f' : Int) * W + x) = 1 then _ else f' + 1) = _
                          rw [HE2.out, HV.out, if_neg (by omega)]
                        exact ⟨B9.out, by rw [ht]; exact KF.out⟩
                      · rw [hv] at hcp'
                        have HV := Lib.hid hv
                        clear hv
                        go_wp2_with fail
                        refine ⟨⟨f', by have := HF2.out; omega, Lib.hid ?_, B9.out.setCell (Nat.le_refl gr) _, KF.out.set_ 1 (.int .i64 f')⟩, ?_⟩
                        · rw [← HT.out, HF2.out]
                          show _ = (if p ((f' : Int) * W + x) = 1 then _ else f' + 1)
                          rw [HE2.out, HV.out, if_pos rfl]
                        · have c9 := (KF.out.set_ 1 (.int .i64 f')).cell 1
                          have h9 : cellN (wr.setCell ⟨gr, 1, none⟩ (.int .i64 f')) ⟨gr, 1, none⟩ = f' := cellN_of c9
                          rw [h9, HN0]
                          have := HF2.out; omega
                case rest =>
                  obtain ⟨b9, kf⟩ := hcut
                  have ht := topN_le p W x y
                  obtain ⟨tp, htp⟩ : ∃ tp : Nat, topN p W x y = tp := ⟨_, rfl⟩
                  rw [htp] at kf ht
                  have HTP := Lib.hid htp
                  clear htp
                  have k9 := k8.move (b9.block _ hgw)
                  have hA9 := ArrB.below hA8 b9
                  go_upto_block 8 with fail
                  go_cut [83] from 83 to 107 (fun _ wx => Below gr w8 wx ∧ Blk wx gr 84 #[.int .i64 x, .int .i64 tp, .int .i64 (botN p W x (H - 1 - y) y : Nat)])
                  case first =>
                    go_wp2_with fail
                    go_loopw [83] (fun _ wx => ∃ t : Nat, y ≤ t ∧ t < H ∧ Hid (botN p W x (H - 1 - t) t = botN p W x (H - 1 - y) y) ∧ Below gr w8 wx ∧ Blk wx gr 84 #[.int .i64 x, .int .i64 tp, .int .i64 t]) (fun _ wx => H - cellN wx ⟨gr, 2, none⟩)
                    case atStart => exact ⟨y, by omega, hyH, Lib.hid rfl, b9, kf⟩
                    case round =>
                      obtain ⟨t, hyt, htH, HT, b10, kt⟩ := hrel
                      clear k9 hA9 b9 kf
                      have k10 := k8.move (b10.block _ hgw)
                      obtain ⟨p1, p2, p3⟩ := k10.cells3
                      obtain ⟨c1, c2, c3⟩ := kt.cells3
                      have q2 := kt.frozen 2
                      have hA10 := ArrB.below hA8 b10
                      have uH : IntKind.i64.wrap ((H : Int) - 1) = (H : Int) - 1 := IntWalk.i64_in _ (by omega)
                      by_cases f0 : (t : Int) < (H : Int) - 1
                      · have u1 : IntKind.i64.wrap ((t : Int) + 1) = ((t + 1 : Nat) : Int) := (IntWalk.i64_in _ (by omega)).trans (by omega)
                        have h8 := idx_lt (x := x) (y := ((t + 1 : Nat) : Int)) (W := W) (H := H) (by omega) (by have := HW.out; omega) (by omega) (by omega)
                        obtain ⟨e2, he2⟩ : ∃ e2 : Nat, ((t + 1 : Nat) : Int) * W + x = e2 := ⟨(((t + 1 : Nat) : Int) * W + x).toNat, by omega⟩
                        have he2n : e2 < n := by
                          have h9 := HNN.out
                          have h10 : (n : Int) = (H : Int) * N := by rw [h9]; push_cast; exact Int.mul_comm _ _
                          rw [he2, HW.out] at h8
                          omega
                        obtain ⟨t', ht'⟩ : ∃ t', t + 1 = t' := ⟨_, rfl⟩
                        rw [ht'] at u1 h8 he2
                        have u2 : IntKind.i64.wrap ((t' : Int) * W) = (t' : Int) * W := IntWalk.i64_in _ (by omega)
                        have u3 : IntKind.i64.wrap ((t' : Int) * W + x) = (e2 : Int) := (IntWalk.i64_in _ (by omega)).trans he2
                        obtain ⟨bp', op', eA, hbp', hcp'⟩ := ArrB.at_ hA10 (i := (e2 : Int)) (by omega) (by omega)
                        cases eA
                        rw [Int.toNat_natCast] at hcp'
                        have he2n' : (e2 : Int) < n := by omega
                        have HPV2 := HP.out e2 (by omega) (by omega)
                        have HE2 := Lib.hid he2
                        have HF2 := Lib.hid ht'
                        have KF := Lib.hid kt
                        have B9 := Lib.hid b10
                        have HN0 := cellN_of c3
                        have HB := Lib.hid (show botN p W x (H - 1 - t) t = if p ((t' : Int) * W + x) = 1 then botN p W x (H - 1 - t') t' else t from by
                          obtain ⟨k, hk⟩ : ∃ k, H - 1 - t = k + 1 := ⟨H - 1 - t - 1, by omega⟩
                          rw [hk, show H - 1 - t' = k by omega, ← ht']
                          push_cast
                          rfl)
                        clear h8 he2 ht' hA10 kt
                        rcases HPV2 with hv | hv
                        · rw [hv] at hcp'
                          have HV := Lib.hid hv
                          clear hv
                          go_wp2_with fail
                          go_meet
                          have ht : botN p W x (H - 1 - y) y = t := by
                            rw [← HT.out, HB.out, HE2.out, HV.out, if_neg (by omega)]
                          exact ⟨B9.out, by rw [ht]; exact KF.out⟩
                        · rw [hv] at hcp'
                          have HV := Lib.hid hv
                          clear hv
                          go_wp2_with fail
                          refine ⟨⟨t', by have := HF2.out; omega, by have := HF2.out; omega, Lib.hid ?_, B9.out.setCell (Nat.le_refl gr) _, KF.out.set_ 2 (.int .i64 t')⟩, ?_⟩
                          · rw [← HT.out, HB.out, HE2.out, HV.out, if_pos rfl]
                          · have c9 := (KF.out.set_ 2 (.int .i64 t')).cell 2
                            have h9 : cellN (wr.setCell ⟨gr, 2, none⟩ (.int .i64 t')) ⟨gr, 2, none⟩ = t' := cellN_of c9
                            rw [h9, HN0]
                            have := HF2.out; omega
                      · have htl : t = H - 1 := by omega
                        have HF0 : Hid (botN p W x (H - 1 - y) y = t) := Lib.hid (by
                          rw [← HT.out, show H - 1 - t = 0 by omega]; rfl)
                        have KF := Lib.hid kt
                        have f1 : ¬ (t : Int) < (H : Int) - 1 := f0
                        clear HT kt hA10 htl
                        go_wp2_with fail
                        go_meet
                        exact ⟨b10, by rw [HF0.out]; exact KF.out⟩
                  case rest =>
                    clear b9 k9 kf hA9
                    obtain ⟨b9, kf⟩ := hcut
                    have k9 := k8.move (b9.block _ hgw)
                    have hbd := botN_bd p W x (H - 1 - y) y
                    obtain ⟨bo, hbo⟩ : ∃ bo : Nat, botN p W x (H - 1 - y) y = bo := ⟨_, rfl⟩
                    rw [hbo] at kf hbd
                    have HBO := Lib.hid hbo
                    clear hbo
                    have hL3l : L3.length ≤ 1000000000 := by omega
                    have R9 := RunRow.below HR3.out (show Below _ _ _ from by rw [hgr]; exact br.trans b9)
                    have b11 := HB7.out.trans ((br.trans b9).mono hgB7)
                    have z11 := b11.size
                    have u1 : IntKind.i64.wrap ((bo : Int) - tp) = (bo : Int) - tp := IntWalk.i64_in _ (by omega)
                    obtain ⟨c1, c2, c3⟩ := kf.cells3
                    clear b9 k9
                    by_cases hms : (bo : Int) - tp < most
                    · go_wp2_with (at_builtin; refine wpList_append_own _ rfl (.tmp 115) (.tmp 117) 75 rfl B 84 r0 (.agg #[.int .i64 0, .int .i64 0, .int .i64 0]) 3 24 Try.underlying75 hr0 hrz0 hrz1 hrz2 rfl (by decide) _ _ _ rfl (R9.alloc _) ⟨wc.heap.size, 0, none⟩ 1 1 [.int .i64 x, .int .i64 tp, .int .i64 bo] rfl rfl ?c1 ?c2 ?c3 ?c4 ?c5 ?_)
                      case c1 =>
                        intro j u hj
                        match j, hj with
                        | 0, hj => cases hj; exact (Blk.new wc 84 #[.int .i64 x, .int .i64 tp, .int .i64 bo]).cell 0
                        | 1, hj => cases hj; exact (Blk.new wc 84 #[.int .i64 x, .int .i64 tp, .int .i64 bo]).cell 1
                        | 2, hj => cases hj; exact (Blk.new wc 84 #[.int .i64 x, .int .i64 tp, .int .i64 bo]).cell 2
                        | j + 3, hj => simp at hj
                      case c2 => simp [Value.oneCell']
                      case c3 => unfold maxLen; omega
                      case c4 => omega
                      case c5 => simp; omega
                      intro v' w12 own12 hg12 _
                      have b12 : Below B w2 w12 := (b11.alloc (by omega) _).grown hg12 (by simp; omega) (fun j hj => (own_ge R9 hj).1)
                      have R12 : RunRow w12 B v' (L3 ++ [((x : Int), (tp : Int), (bo : Int))]) := by
                        unfold RunRow
                        rw [flatR_snoc, List.length_append]
                        exact own12
                      have HMS := Lib.hid hms
                      clear own12 hg12 hms
                      go_wp2
                      go_round
                      case rel => exact ⟨x + 1, _, by omega, by go_num, R12, b12, Lib.hid (by
                        rw [HL3.out]
                        show L2 ++ colX p W H most q x ++ _ = L2 ++ (colX p W H most q x ++ rnAt p W H most x (q x).toNat)
                        rw [HY.out, Int.toNat_natCast]
                        unfold rnAt
                        rw [HE.out, HPE.out, HTP.out, HBO.out, if_pos ⟨rfl, HMS.out⟩, List.append_assoc]), by simp; omega⟩
                      case measure => simp [intOf]; omega
                    · have HMS := Lib.hid hms
                      go_wp2_with fail
                      go_round
                      case rel => exact ⟨x + 1, L3, by omega, by go_num, R9, b11, Lib.hid (by
                        rw [HL3.out]
                        show L2 ++ colX p W H most q x = L2 ++ (colX p W H most q x ++ rnAt p W H most x (q x).toNat)
                        rw [HY.out, Int.toNat_natCast]
                        unfold rnAt
                        rw [HE.out, HPE.out, HTP.out, HBO.out, if_neg (fun h => HMS.out h.2), List.append_nil]), by omega⟩
                      case measure => simp [intOf]; omega
            · have hxN : x = N := by omega
              have HXN := Lib.hid hxN
              clear hxN
              go_wp2
              go_round
              case rel => exact ⟨j + 1, L3, by omega, by go_num, hR3, hb7, Lib.hid (by rw [HL3.out, HL2.out, HXN.out, ← HQ.out, List.append_assoc]; rfl), by omega⟩
              case measure => simp [intOf]; omega
        · have hj5 : j = 5 := by omega
          have HJ5 := Lib.hid hj5
          clear hj5
          go_wp2
          go_round
          case rel => exact ⟨i + 1, L2, by omega, by go_num, hR2, hb6, Lib.hid (by rw [HL2.out, HL.out, HJ5.out, ← HLN1.out]; rfl), by omega⟩
          case measure => simp [intOf]; omega
    · have hik : i = kS := by omega
      rw [hik] at HL hLl
      have hL32 : L.length ≤ 1000000000 := by omega
      have zz := hb3.size
      have hSm : ∀ r ∈ L, Small r.1 ∧ Small r.2.1 := fun r hr => by
        rw [HL.out, mem_colI] at hr
        obtain ⟨i', j', x', a1, a2, a3, hr⟩ := hr
        obtain ⟨-, -, rfl⟩ := mem_rnAt.1 hr
        obtain ⟨⟨g1, g2, g3⟩, g4⟩ := isPathB_iff.1 ((stFits_iff.1 (HF.out i' a1)).2.1 j' (by omega))
        have hw9 := HW.out
        have h9 := stepB_iff.1 (g4 x' (by omega) (by omega))
        simp only [Int.toNat_natCast] at h9
        have t9 := topN_le p W x' (ln i' j' x').toNat
        unfold Small
        refine ⟨⟨?_, ?_⟩, ?_, ?_⟩ <;> simp only <;> omega
      have hBr : B ≤ wr.heap.size := by rw [← hB]; exact hb3.size |> fun h => hB ▸ h
      have b3 : Below w.heap.size w wr := b2.trans (hb3.mono (by omega))
      go_wp2_with fail
      refine (sortRow_any B _ L wr hR hBr hSm hL32).mono ?_
      rintro e w7 ⟨rfl, L7, hp7, hs7, hR7, hb7⟩
      have z7 := hb7.size
      have hl7 := hp7.length_eq
      go_wp2_with fail
      refine (compactRow_any B _ L7 w7 hR7 (Nat.le_trans hBr z7) (by omega)).mono ?_
      rintro e w8 ⟨v8, rfl, hR8, hb8⟩
      go_wp2
      refine bodyPost_ret (results_tmp2 rfl _ _ _) rfl ?_
      exact ⟨_, L7, rfl, hR8.base (by omega), HL.out ▸ hp7, hs7, (b3.trans (hb7.mono (by omega))).trans (hb8.mono (by omega))⟩
end Go.Proofs.Ytdimlpcbbkokiaa

/- Plain: an image that is made, or none, with an error. No program in sight. -/
namespace Go.Proofs.Ytdimlpcbbkokiaa
open Go.RowKit
set_option linter.unusedVariables false
/-- an image over memory made by the call, and an error -/
def OutT (w w' : World) (E W H : Int) (N : Nat) (q : Int → Int) (v : Value) : Prop := ∃ A c, v = .tuple #[.agg #[.int .i64 W, .int .i64 H, .slice A N c], .int .i64 E] ∧ (∀ a, A = some a → w.heap.size ≤ a.block) ∧ ArrB w' w'.heap.size A N q
/-- the sides of an image that is made, or of none -/
def RSize (E W h W2 H2 : Int) (N : Nat) : Prop := (E = 0 → W2 = W ∧ H2 = h ∧ (N : Int) = W * h) ∧ (E ≠ 0 → W2 = 0 ∧ H2 = 0 ∧ N = 0)
theorem rsize_ex (E W h : Int) (hp : E = 0 → 0 ≤ W * h) : ∃ W2 H2 N, RSize E W h W2 H2 N := by
  by_cases hE : E = 0
  · exact ⟨W, h, (W * h).toNat, fun _ => ⟨rfl, rfl, Int.toNat_of_nonneg (hp hE)⟩, fun h => absurd hE h⟩
  · exact ⟨0, 0, 0, fun h => absurd h hE, fun _ => ⟨rfl, rfl, rfl⟩⟩
theorem rsize_le {E W h W2 H2 : Int} {N : Nat} (hs : RSize E W h W2 H2 N) (hb : E = 0 → 0 ≤ W ∧ W ≤ 640 ∧ 0 ≤ h ∧ h ≤ 640) : N ≤ 409600 := by
  by_cases hE : E = 0
  · obtain ⟨-, -, h1⟩ := hs.1 hE
    obtain ⟨a, b, c, d⟩ := hb hE
    have := (area_bd a b c d).2
    omega
  · obtain ⟨-, -, h1⟩ := hs.2 hE
    omega
theorem outT_bad {w w' : World} {E W h W2 H2 : Int} {N : Nat} {q : Int → Int} (hs : RSize E W h W2 H2 N) (hE : E ≠ 0) : OutT w w' E W2 H2 N q (.tuple #[noImg, .int .i64 E]) := by
  obtain ⟨rfl, rfl, rfl⟩ := hs.2 hE
  exact ⟨none, 0, rfl, (fun _ h => by cases h), ArrB.nil⟩
theorem OutN.outT {w w' : World} {W H : Int} {N : Nat} {q : Int → Int} {v : Value} (h : OutN w w' W H N q v) : OutT w w' 0 W H N q (.tuple #[v, .int .i64 0]) := by
  obtain ⟨g, rfl, hg, hk⟩ := h
  exact ⟨_, _, rfl, (fun a e => by cases e; exact hg), hk.arrB hk.lt⟩
theorem OutT.conv {w w' : World} {E W H : Int} {N : Nat} {q r : Int → Int} {v : Value} (h : OutT w w' E W H N q v) (he : ∀ i : Int, 0 ≤ i → i < N → q i = r i) : OutT w w' E W H N r v := by
  obtain ⟨A, c, rfl, hg, ha⟩ := h
  exact ⟨A, c, rfl, hg, ha.congr he⟩
end Go.Proofs.Ytdimlpcbbkokiaa

/- Walk: an image without the line runs of staves (stave.Remove), when the image is fine and all staves fit. -/
namespace Go.Proofs.Ytdimlpcbbkokiaa
open Go.RowKit Go.Shelf
set_option linter.unusedVariables false
attribute [local go_sem] Oper.semAt_some

theorem StavesIn.to {w w' : World} {A : Option Addr} {k : Nat} {K : Nat → Nat} {m : Nat → Nat → Nat} {ln : Nat → Nat → Nat → Int} (h : StavesIn w w.heap.size A k K m ln) (hb : Below w.heap.size w w') : StavesIn w' w'.heap.size A k K m ln := fun i hi => by
  obtain ⟨b, off, AL, cL, rfl, h1, h2, h3⟩ := h i hi
  exact ⟨b, off, AL, cL, rfl, Nat.lt_of_lt_of_le h1 hb.size, (hb.cell (p := ⟨b, off + i, none⟩) h1).trans h2, (h3.belowB hb).more hb.size⟩
theorem RunRow.cells {w : World} {B : Nat} {v : Value} {l : List Rn} (h : RunRow w B v l) : ∃ A c, v = .slice A l.length c ∧ (∀ a, A = some a → B ≤ a.block) ∧ RunArr w A l := by
  by_cases hl : l = []
  · obtain ⟨A, c, e, -⟩ := h.val
    subst hl
    rcases h.2 with ⟨rfl, -⟩ | ⟨g, c2, cur, rfl, hb, -⟩
    · exact ⟨none, 0, rfl, (fun a e => by cases e), fun h => absurd rfl h⟩
    · exact ⟨_, _, rfl, (fun a e => by cases e; exact hb), fun h => absurd rfl h⟩
  · obtain ⟨g, c, cs, rfl, hc, hg, hk, hsz, hm, ht⟩ := h.blk hl
    refine ⟨_, _, rfl, (fun a e => by cases e; exact hg), fun _ => ⟨g, rfl, hk.lt, fun i r hi => ?_⟩⟩
    have hil : i < l.length := (List.getElem?_eq_some_iff.1 hi).1
    obtain ⟨c1, c2, c3⟩ := (runC_of ht).cells hk hil
    have hg2 : l.toArray[i]! = r := by
      have := List.getElem?_eq_some_iff.1 hi
      simp [this.1, this.2]
    rw [hg2] at c1 c2 c3
    exact ⟨c1, c2, c3⟩
theorem strike_congr {l l' : List Rn} {W : Int} {p : Int → Int} (h : ∀ r, r ∈ l ↔ r ∈ l') (i : Int) : strike l W p i = strike l' W p i := by
  unfold strike
  have e : l.any (fun r => hitB r W i) = l'.any (fun r => hitB r W i) := by
    apply Bool.eq_iff_iff.2
    rw [List.any_eq_true, List.any_eq_true]
    exact ⟨fun ⟨r, a, b⟩ => ⟨r, (h r).1 a, b⟩, fun ⟨r, a, b⟩ => ⟨r, (h r).2 a, b⟩⟩
  rw [e]

theorem but_setRow {w : World} {g : Nat} (cs : Array Value) : But w.heap.size g w (w.setRow g cs) :=
  ⟨rfl, rfl, rfl, by simp [World.setRow], fun k _ hk => setRow_other w g k cs hk⟩
/-- all bytes of a slice copied over a block of so many -/
theorem wpList_copy_all {P : Program} {w : World} {ops : Array Oper} {rest : List Oper} {o : Oper} {a : Act} {Q : Exit → Act → World → Prop} (hgd : o.guard = none) (d s : Operand) (dT sT : TypeId)
    (ho : o.op = .call { callee := .builtin .copy, args := #[d, s], argTypes := #[dT, sT] }) (elem : TypeId) (hu : P.underlying dT = some (.slice elem)) (hsz : (P.info? elem).map (·.size) = some 1)
    (g n dCap sCap B : Nat) (A : Option Addr) (hd : a.eval d = .slice (some ⟨g, 0, none⟩) n dCap) (hs : a.eval s = .slice A n sCap)
    (p q : Int → Int) (t : TypeId) (hg : Blk w g t (u8s n q)) (hA : ArrB w B A n p)
    (h : ∀ w', Hid (Blk w' g t (u8s n p)) → Hid (But w.heap.size g w w') → wpList P ops Q rest (a.put o.dst (goInt n)) w') : wpList P ops Q (o :: rest) a w := by
  have e1 : (u8s n p).toList.length = n := by rw [Array.length_toList, u8s_size]
  have e2 : (u8s n q).toList.length = n := by rw [Array.length_toList, u8s_size]
  by_cases h0 : n = 0
  · subst h0
    refine wpList_copy_nothing hgd d s dT sT ho elem hu hsz _ _ _ _ _ _ hd hs rfl ?_
    exact h w (Lib.hid (hg.u8conv fun j a b => by omega)) (Lib.hid (But.refl _ (Nat.le_refl _)))
  · obtain ⟨b, off, rfl, hb, hc⟩ := hA.fn (by omega)
    have X := wpList_copy_own (P := P) (w := w) (ops := ops) (rest := rest) (o := o) (a := a) (Q := Q) hgd d s dT sT ho elem hu hsz g 0 n dCap ⟨b, off, none⟩ n sCap hd hs (u8s n q) t hg (u8s n p).toList (by rw [e1]; exact (Nat.min_self n).symm) (fun j v hj => ?_) (by rw [e1, u8s_size]; omega) ?_ ?_
    · exact X
    · rw [Array.getElem?_toList] at hj
      have hjn : j < n := by
        have := (Array.getElem?_eq_some_iff.1 hj).1
        rw [u8s_size] at this; exact this
      have h2 := u8s_at (n := n) (q := p) (i := (j : Int)) (by omega) (by omega)
      rw [Int.toNat_natCast] at h2
      rw [h2] at hj
      cases hj
      have h5 := hc j (by omega) (by omega)
      rw [Int.toNat_natCast] at h5
      rw [show (⟨b, off, none⟩ : Addr).add j = ⟨b, off + j, none⟩ from by unfold Addr.add; split <;> simp_all]
      exact h5
    · have h3 := u8s_one n p
      rw [Array.all_eq_true_iff_forall_mem] at h3
      exact fun v hv => h3 v (by simpa using hv)
    · have e3 : ((u8s n q).toList.take 0 ++ ((u8s n p).toList ++ (u8s n q).toList.drop (0 + (u8s n p).toList.length))).toArray = u8s n p := by
        rw [List.take_zero, List.nil_append, List.drop_eq_nil_of_le (by rw [e1, e2]; omega), List.append_nil]
      rw [e3, e1]
      exact h _ (Lib.hid (hg.setRow _)) (Lib.hid (but_setRow _))

set_option maxRecDepth 100000 in
set_option maxHeartbeats 4000000 in
theorem remove_ok (W most : Int) (H N : Nat) (A AS : Option Addr) (n c kS cS : Nat) (p : Int → Int) (K : Nat → Nat) (m : Nat → Nat → Nat) (ln : Nat → Nat → Nat → Int) (w : World)
    (hW : W = N) (hN : N ≤ 640) (hH : H ≤ 640) (hA : ArrB w w.heap.size A n p) (hn : n = N * H) (hp : ∀ i : Int, 0 ≤ i → i < n → p i = 0 ∨ p i = 1) (hk : kS ≤ 1000) (hmost : -1099511627776 ≤ most ∧ most ≤ 1099511627776)
    (hS : StavesIn w w.heap.size AS kS K m ln) (hm : ∀ i j, i < kS → j < K i → m i j ≤ maxLen) (hfit : ∀ i, i < kS → stFits W H (K i) (m i) (ln i) = true) :
    Calls Try.prog 42 #[.agg #[.int .i64 W, .int .i64 H, .slice A n c], .slice AS kS cS, .int .i64 most] w (New w fun v w' => OutT w w' 0 W H n (strike (colI p W H most ln N kS) W p) v) := by
  have hn640 : n ≤ 409600 := by rw [hn]; exact Nat.mul_le_mul hN hH
  have RU := Lib.hid fun w' hA' hS' => runs_ok W most H N A AS n c kS cS p K m ln w' hW hN hH hA' hn hp hk hmost hS' hm hfit
  have hmk := makeB (n : Int) (by omega) (by omega)
  simp only [Int.toNat_natCast] at hmk
  -- the members of the list
  have MB := Lib.hid (fun (r : Rn) (hr : r ∈ colI p W H most ln N kS) => (show 0 ≤ r.1 ∧ r.1 < W ∧ 0 ≤ r.2.1 ∧ r.2.1 ≤ r.2.2 ∧ r.2.2 < H from by
    rw [mem_colI] at hr
    obtain ⟨i', j', x', a1, a2, a3, hr⟩ := hr
    obtain ⟨-, -, rfl⟩ := mem_rnAt.1 hr
    obtain ⟨⟨g1, g2, g3⟩, g4⟩ := isPathB_iff.1 ((stFits_iff.1 (hfit i' a1)).2.1 j' (by omega))
    have h9 := stepB_iff.1 (g4 x' (by omega) (by omega))
    simp only [Int.toNat_natCast] at h9
    obtain ⟨y, hy⟩ : ∃ y : Nat, ln i' j' x' = y := ⟨(ln i' j' x').toNat, by omega⟩
    simp only [hy, Int.toNat_natCast] at h9 ⊢
    have t9 := topN_le p W x' y
    have t8 := botN_bd p W x' (H - 1 - y) y
    refine ⟨?_, ?_, ?_, ?_, ?_⟩ <;> omega))
  obtain ⟨S0, hS0⟩ : ∃ S0, colI p W H most ln N kS = S0 := ⟨_, rfl⟩
  rw [hS0] at RU MB ⊢
  clear hS0
  have HW := Lib.hid hW; have HNN := Lib.hid hn; have HA := Lib.hid hA; have HS := Lib.hid hS
  have hw0 : 0 ≤ W := by omega
  have hw1 : W ≤ 640 := by omega
  clear hS hm hfit hp hA hmost hn hW
  go_enter Try.func42, Try.ntmps42
  go_wp2_with fail
  have k1 : Blk ((w.alloc (.cells #[.int .i64 W, .int .i64 H, .slice A n c] 24)).alloc (.cells #[.int .i64 0, .int .i64 0, .slice none 0 0] 24)) w.heap.size 24 #[.int .i64 W, .int .i64 H, .slice A n c] := (Blk.new _ _ _).alloc _
  have k2 : Blk ((w.alloc (.cells #[.int .i64 W, .int .i64 H, .slice A n c] 24)).alloc (.cells #[.int .i64 0, .int .i64 0, .slice none 0 0] 24)) (w.heap.size + 1) 24 #[.int .i64 0, .int .i64 0, .slice none 0 0] := Blk.new' (by simp) _ _
  have b1 : Below w.heap.size w ((w.alloc (.cells #[.int .i64 W, .int .i64 H, .slice A n c] 24)).alloc (.cells #[.int .i64 0, .int .i64 0, .slice none 0 0] 24)) := by (repeat (first | exact Below.refl _ _ | assumption | refine Below.drew ?_ | refine below_drewN ?_ _ | refine Below.alloc ?_ (by first | omega | (simp; done) | (simp; omega)) _ | refine Below.setCell ?_ (by first | omega | (simp; done) | (simp; omega)) _ | refine below_setRow ?_ (by first | omega | (simp; done) | (simp; omega)) _ ))
  generalize (w.alloc (.cells #[.int .i64 W, .int .i64 H, .slice A n c] 24)).alloc (.cells #[.int .i64 0, .int .i64 0, .slice none 0 0] 24) = w1 at *
  refine (RU.out w1 (HA.out.to b1) (HS.out.to b1)).mono ?_
  rintro e w2 ⟨v, l0, rfl, hR, hpm, -, hb2⟩
  obtain ⟨L, hL⟩ : ∃ L, dd l0 = L := ⟨_, rfl⟩
  rw [hL] at hR
  have HML := Lib.hid (fun (r : Rn) => (show r ∈ L ↔ r ∈ S0 from by rw [← hL, mem_dd, hpm.mem_iff]))
  have hLl : L.length ≤ maxLen := by
    by_cases hl : L = []
    · rw [hl]; exact Nat.zero_le _
    · obtain ⟨_, _, _, -, h1, -, -, -, h2, -⟩ := hR.blk hl; omega
  obtain ⟨AL, cL, rfl, -, hRA⟩ := hR.cells
  have b2 := below_call b1 b1.size hb2
  replace k1 := k1.below' hb2
  replace k2 := k2.below' hb2
  clear hb2 b1 RU hpm hL hR
  have Z1 := k1.lt; have Z2 := k2.lt
  obtain ⟨p1, p2, p3⟩ := k1.cells3
  go_upto_region 4 with fail
  go_cut [10] (fun f wx => ∃ B g, f = .pointer (some ⟨B, 0, none⟩) ∧ Below w2.heap.size w2 wx ∧ w2.heap.size ≤ g ∧ g ≠ B ∧ w2.heap.size ≤ B ∧ Blk wx B 24 #[.int .i64 W, .int .i64 H, .slice (some ⟨g, 0, none⟩) n n] ∧ Blk wx g 5 (u8s n (fun _ => 0)))
  case first =>
    go_region_held3 (fun w' => w'.cell? ⟨w.heap.size, 0, none⟩ = some (.int .i64 W) ∧ w'.cell? ⟨w.heap.size, 1, none⟩ = some (.int .i64 H) ∧ w'.cell? ⟨w.heap.size, 2, none⟩ = some (.slice A n c))
      (simp [go_sem, *]) (fail)
    all_goals
      go_wp2_with fail
      go_meet
    · exact ⟨w2.heap.size + 1, w2.heap.size, rfl, by (repeat (first | exact Below.refl _ _ | assumption | refine Below.drew ?_ | refine below_drewN ?_ _ | refine Below.alloc ?_ (by first | omega | (simp; done) | (simp; omega)) _ | refine Below.setCell ?_ (by first | omega | (simp; done) | (simp; omega)) _ | refine below_setRow ?_ (by first | omega | (simp; done) | (simp; omega)) _ )), by omega, by omega, by omega, (Blk.new' (by simp) _ _).drew, ((Blk.new _ _ _).alloc _).drew⟩
    · exact ⟨w2.heap.size, w2.heap.size + 1, rfl, by (repeat (first | exact Below.refl _ _ | assumption | refine Below.drew ?_ | refine below_drewN ?_ _ | refine Below.alloc ?_ (by first | omega | (simp; done) | (simp; omega)) _ | refine Below.setCell ?_ (by first | omega | (simp; done) | (simp; omega)) _ | refine below_setRow ?_ (by first | omega | (simp; done) | (simp; omega)) _ )), by omega, by omega, by omega, ((Blk.new _ _ _).alloc _).drew, (Blk.new' (by simp) _ _).drew⟩
  case rest =>
    obtain ⟨B, g, rfl, hb3, hg, hgB, hBB, kB, kg⟩ := hcut
    replace k1 := k1.below' hb3
    replace k2 := k2.below' hb3
    have b3 := below_call b2 b2.size hb3
    have hA3 := HA.out.to b3
    have z3 := hb3.size
    have zB := kB.lt
    have zg := kg.lt
    have HRA := Lib.hid hRA; have HB3 := Lib.hid hb3; have HMB := MB
    clear p1 p2 p3 hb3 b2 hmk hRA
    obtain ⟨p1, p2, p3⟩ := k1.cells3
    obtain ⟨q1, q2, q3⟩ := kB.cells3
    clear MB
    unfold maxLen at hLl
    go_wp2_with (with_reducible show wpList _ _ _ _ _ _; refine wpList_copy_all (o := ⟨some 38, _, _, _, _, _⟩) rfl (.tmp 35) (.tmp 37) 22 22 rfl 5 Try.underlying22 (by kernel_rfl) g n n c wc.heap.size A rfl rfl p _ 5 kg hA3 ?_)
    intro w4 KG4 BU4
    obtain ⟨B3, hB3⟩ : ∃ B3, wc.heap.size = B3 := ⟨_, rfl⟩
    rw [hB3] at BU4 z3 zB zg
    have HB33 := Lib.hid hB3
    clear p1 p2 p3 q1 q2 q3 hA3 hB3
    have kk := k1.lt
    rw [HB33.out] at kk
    have hgi : g ≠ w.heap.size := by omega
    go_wp2_with fail
    go_loopw [41] (fun s wr => ∃ i : Nat, i ≤ L.length ∧ s = .int .i64 i ∧ But B3 g wc wr ∧ Blk wr g 5 (u8s n (strike (L.take i) W p))) (fun s _ => L.length - (intOf s).toNat)
    case atStart => exact ⟨0, by omega, rfl, BU4.out, KG4.out.u8conv fun j _ _ => by rw [List.take_zero]; exact strike_nil.symm⟩
    case round =>
      obtain ⟨i, hi, rfl, bu, kp⟩ := hrel
      have m1 := k1.but bu (by omega) (Ne.symm hgi)
      have mB := kB.but bu (by omega) (Ne.symm hgB)
      have rA := HRA.out.to (HB3.out.trans (bu.to HB33.out hg z3))
      by_cases il : (i : Int) < L.length
      · have ilN : i < L.length := by omega
        obtain ⟨gR, rfl, hgR, rc⟩ := rA (by intro h; rw [h] at ilN; simp at ilN)
        obtain ⟨r, hr⟩ : ∃ r, L[i]? = some r := ⟨L[i], List.getElem?_eq_getElem ilN⟩
        have htk : L.take (i + 1) = L.take i ++ [r] := by rw [List.take_add_one, hr]; rfl
        obtain ⟨c1, c2, c3⟩ := rc i r hr
        obtain ⟨b1', b2', b3', b4', b5'⟩ := HMB.out r ((HML.out r).1 (List.mem_of_getElem? hr))
        obtain ⟨rx, rf, rt⟩ := r
        simp only at c1 c2 c3 b1' b2' b3' b4' b5'
        obtain ⟨x, rfl⟩ := Int.eq_ofNat_of_zero_le b1'
        obtain ⟨f, rfl⟩ := Int.eq_ofNat_of_zero_le b3'
        obtain ⟨t, rfl⟩ := Int.eq_ofNat_of_zero_le (Int.le_trans b3' b4')
        have HTK := Lib.hid htk
        obtain ⟨q, hq⟩ : ∃ q, strike (L.take i) W p = q := ⟨_, rfl⟩
        rw [hq] at kp
        have HQ := Lib.hid hq
        clear htk hr rc hq
        obtain ⟨gb, hgb⟩ : ∃ g, wr.heap.size = g := ⟨_, rfl⟩
        go_upto_region 9 with fail
        have bw := bu.then ((Below.refl _ wr).alloc bu.size (.cells #[.int .i64 (x : Int), .int .i64 (f : Int), .int .i64 (t : Int)] 84))
        have BX := Blk.new wr 84 #[.int .i64 (x : Int), .int .i64 (f : Int), .int .i64 (t : Int)]
        have n1 := m1.alloc (.cells #[.int .i64 (x : Int), .int .i64 (f : Int), .int .i64 (t : Int)] 84)
        have nB := mB.alloc (.cells #[.int .i64 (x : Int), .int .i64 (f : Int), .int .i64 (t : Int)] 84)
        have np := kp.alloc (.cells #[.int .i64 (x : Int), .int .i64 (f : Int), .int .i64 (t : Int)] 84)
        have zw := bu.size
        have zw5 : (wr.alloc (.cells #[.int .i64 (x : Int), .int .i64 (f : Int), .int .i64 (t : Int)] 84)).heap.size = gb + 1 := by simp [hgb]
        generalize wr.alloc (.cells #[.int .i64 (x : Int), .int .i64 (f : Int), .int .i64 (t : Int)] 84) = w5 at *
        rw [hgb] at BX zw
        have HGB := Lib.hid hgb
        clear bu kp m1 mB c1 c2 c3 rA hgR hgb
        obtain ⟨c1, c2, c3⟩ := BX.cells3
        go_wp2_with fail
        clear c1 c2 c3
        go_loopw [13] (fun s wr => ∃ y : Nat, f ≤ y ∧ y ≤ t + 1 ∧ s = .int .i64 y ∧ But (gb + 1) g w5 wr ∧ Blk wr g 5 (u8s n (strikeY ((x : Int), (f : Int), (t : Int)) y W q))) (fun s _ => t + 1 - (intOf s).toNat)
        case atStart => exact ⟨f, by omega, by omega, rfl, But.refl _ (by omega), np.u8conv fun j _ _ => strikeY_start.symm⟩
        case round =>
          obtain ⟨y, hfy, hyt, rfl, bu, kp⟩ := hrel
          have m1 := n1.but bu (by omega) (Ne.symm hgi)
          have mB := nB.but bu (by omega) (Ne.symm hgB)
          have mX := BX.but bu (by omega) (by omega)
          clear np
          obtain ⟨p1, p2, p3⟩ := m1.cells3
          obtain ⟨q1, q2, q3⟩ := mB.cells3
          obtain ⟨c1, c2, c3⟩ := mX.cells3
          by_cases yl : (y : Int) ≤ t
          · obtain ⟨e, he⟩ : ∃ e : Nat, (y : Int) * W + x = e := ⟨y * N + x, by rw [HW.out]; push_cast; rfl⟩
            have hen : (e : Int) < n := by
              have h8 := (idx_lt (x := x) (y := y) (W := W) (H := H) (by omega) b2' (by omega) (by omega)).2.1
              rw [he, HW.out] at h8
              have h9 := HNN.out
              have h10 : (n : Int) = (H : Int) * N := by rw [h9]; push_cast; exact Int.mul_comm _ _
              omega
            have v1 : IntKind.i64.wrap ((y : Int) * W) = (y : Int) * W := IntWalk.i64_in _ (by have := Int.mul_nonneg (show (0 : Int) ≤ y by omega) hw0; omega)
            have v2 : IntKind.i64.wrap ((y : Int) * W + x) = (e : Int) := (IntWalk.i64_in _ (by omega)).trans he
            have cg := kp.u8at (i := (e : Int)) (by omega) hen
            have fg := kp.frozen e
            rw [Int.toNat_natCast] at cg
            have KS := Lib.hid (kp.u8set (e : Int) (by omega) 0)
            have HE := Lib.hid he
            have HSS := Lib.hid fun i => strikeY_set (r := ((x : Int), (f : Int), (t : Int))) (q := q) (i := i) (y := (y : Int)) (W := W) (by show (0 : Int) ≤ x; omega) (show (x : Int) < W from b2') (show (f : Int) ≤ y by omega)
            generalize hsv : strikeY ((x : Int), (f : Int), (t : Int)) y W q e = sv at *
            clear he hsv
            go_wp2_with fail
            go_round
            case rel => exact ⟨y + 1, by omega, by omega, by go_num, bu.set _ _, by
              have h := KS.out
              rw [Int.toNat_natCast] at h
              refine h.u8conv fun i _ _ => ?_
              have h2 := HSS.out i
              rw [← HE.out, h2]
              push_cast
              rfl⟩
            case measure => simp [intOf]; omega
          · have hyt1 : y = t + 1 := by omega
            have kp2 : Blk wr g 5 (u8s n (strike (L.take (i + 1)) W p)) := kp.u8conv fun j _ _ => by
              rw [HTK.out, strike_snoc, HQ.out, hyt1]
              push_cast
              rfl
            have bz : But B3 g wc wr := bw.trans bu (by omega)
            clear kp hyt1
            go_wp2_with fail
            go_round
            case rel => exact ⟨i + 1, by omega, by go_num, bz, kp2⟩
            case measure => simp [intOf]; omega
      · have hiL : i = L.length := by omega
        have kp2 : Blk wr g 5 (u8s n (strike S0 W p)) := kp.u8conv fun j _ _ => by
          rw [hiL, List.take_length]
          exact strike_congr HML.out j
        have m2 := k2.but bu (by have := k2.lt; have := HB33.out; omega) (by omega)
        obtain ⟨p1, p2, p3⟩ := m1.cells3
        obtain ⟨q1, q2, q3⟩ := mB.cells3
        obtain ⟨f1, f2, f3⟩ := m2.frozen3
        obtain ⟨y1, y2, y3⟩ := m2.cells3
        have k5 := ((m2.set_ 0 (.int .i64 W)).set_ 1 (.int .i64 H)).set_ 2 (.slice (some ⟨g, 0, none⟩) n n)
        obtain ⟨s1, s2, s3⟩ := Blk.cells3 (a := .int .i64 W) (b := .int .i64 H) (c := .slice (some ⟨g, 0, none⟩) n n) k5
        have bE : Below w.heap.size w wr := b3.trans (bu.to HB33.out (by omega) (by omega))
        clear kp hiL rA
        go_wp2_with fail
        refine bodyPost_ret (v := .tuple #[.agg #[.int .i64 W, .int .i64 H, .slice (some ⟨g, 0, none⟩) n n], .int .i64 0]) (by simp [results, Try.results42, go_sem, s1, s2, s3]) rfl ?_
        refine ⟨_, rfl, ⟨_, _, rfl, (fun a e => by cases e; show w.heap.size ≤ g; omega), ?_⟩, by (repeat (first | exact Below.refl _ _ | assumption | refine Below.drew ?_ | refine below_drewN ?_ _ | refine Below.alloc ?_ (by first | omega | (simp; done) | (simp; omega)) _ | refine Below.setCell ?_ (by first | omega | (simp; done) | (simp; omega)) _ | refine below_setRow ?_ (by first | omega | (simp; done) | (simp; omega)) _ ))⟩
        have g1 : g ≠ w.heap.size + 1 := by omega
        have kF := Blk.far (Blk.far (Blk.far kp2 (p := ⟨w.heap.size + 1, 0, none⟩) g1 (.int .i64 W)) (p := ⟨w.heap.size + 1, 1, none⟩) g1 (.int .i64 H)) (p := ⟨w.heap.size + 1, 2, none⟩) g1 (.slice (some ⟨g, 0, none⟩) n n)
        exact kF.arrB kF.lt
end Go.Proofs.Ytdimlpcbbkokiaa

/- Plain: an image without the runs of lines, seen run by run of a column. No program in sight. -/
namespace Go.Proofs.Ytdimlpcbbkokiaa
open Go.RowKit
set_option linter.unusedVariables false
section
variable {p : Int → Int} {W x : Int}
/-- in a run of ink the first row is the same from everywhere -/
theorem topN_run {f : Nat} : ∀ {y : Nat}, f ≤ y → (∀ j : Nat, f ≤ j → j < y → p ((j : Int) * W + x) = 1) → topN p W x y = topN p W x f
  | 0, h, _ => by
    obtain rfl : f = 0 := by omega
    rfl
  | y + 1, h, hi => by
    by_cases e : f = y + 1
    · subst e; rfl
    · rw [show topN p W x (y + 1) = if p ((y : Int) * W + x) = 1 then topN p W x y else y + 1 from rfl, if_pos (hi y (by omega) (by omega))]
      exact topN_run (by omega) fun j a b => hi j a (by omega)
theorem topN_start {f : Nat} (h : ∀ g : Nat, f = g + 1 → p ((g : Int) * W + x) ≠ 1) : topN p W x f = f := by
  match f, h with
  | 0, _ => rfl
  | g + 1, h => rw [show topN p W x (g + 1) = if p ((g : Int) * W + x) = 1 then topN p W x g else g + 1 from rfl, if_neg (h g rfl)]
/-- and so is the last row -/
theorem botN_run (n : Nat) : ∀ {k y : Nat}, y + k + 1 = n → ∀ {t : Nat}, y < t → t ≤ n → (∀ j : Nat, y ≤ j → j < t → p ((j : Int) * W + x) = 1) → (t < n → p ((t : Int) * W + x) ≠ 1) → botN p W x k y = t - 1
  | 0, y, hn, t, a, b, _, _ => by
    rw [show botN p W x 0 y = y from rfl]; omega
  | k + 1, y, hn, t, a, b, hi, he => by
    rw [show botN p W x (k + 1) y = if p (((y : Int) + 1) * W + x) = 1 then botN p W x k (y + 1) else y from rfl]
    by_cases e : t = y + 1
    · subst e
      have h2 : p (((y : Int) + 1) * W + x) ≠ 1 := by simpa using he (by omega)
      rw [if_neg h2]; omega
    · have h2 := hi (y + 1) (by omega) (by omega)
      rw [if_pos (by simpa using h2)]
      exact botN_run n (by omega) (by omega) b (fun j c d => hi j (by omega) d) he
end
/-- a run of ink in column x: rows f to t -/
structure RunOf (p : Int → Int) (W : Int) (H : Nat) (x : Int) (f t : Nat) : Prop where
  lt : f < t
  le : t ≤ H
  up : ∀ g : Nat, f = g + 1 → p ((g : Int) * W + x) ≠ 1
  ink : ∀ j : Nat, f ≤ j → j < t → p ((j : Int) * W + x) = 1
  down : t < H → p ((t : Int) * W + x) ≠ 1
theorem RunOf.top {p W H x f t y} (h : RunOf p W H x f t) (h1 : f ≤ y) (h2 : y < t) : topN p W x y = f := by
  rw [topN_run h1 fun j a b => h.ink j a (by omega), topN_start h.up]
theorem RunOf.bot {p W H x f t y} (h : RunOf p W H x f t) (h1 : f ≤ y) (h2 : y < t) : botN p W x (H - 1 - y) y = t - 1 :=
  botN_run H (by have := h.le; omega) h2 h.le (fun j a b => h.ink j (by omega) b) h.down
/-- each ink pixel lies in a run -/
theorem run_ex {p : Int → Int} {W : Int} {H : Nat} {x : Int} {y : Nat} (hy : y < H) (hp : p ((y : Int) * W + x) = 1) : ∃ f t, RunOf p W H x f t ∧ f ≤ y ∧ y < t := by
  have h1 := topN_le p W x y
  have h2 := botN_bd p W x (H - 1 - y) y
  refine ⟨topN p W x y, botN p W x (H - 1 - y) y + 1, ⟨by omega, by omega, fun g e => topN_up p W x y g e.symm, fun j a b => ?_, fun c => ?_⟩, h1, by omega⟩
  · rcases Nat.lt_trichotomy j y with c | c | c
    · exact topN_ink p W x y j a c
    · subst c; exact hp
    · exact botN_ink p W x (H - 1 - y) y j c (by omega)
  · have := botN_down p W x (H - 1 - y) y (by omega)
    simpa using this
section
variable {p : Int → Int} {W : Int} {H : Nat} {most : Int} {N k : Nat} {ln : Nat → Nat → Nat → Int} {l : List Rn}
/-- a line of the staves goes through a pixel -/
def OnLine (ln : Nat → Nat → Nat → Int) (k N : Nat) (W i : Int) : Prop := ∃ a j x : Nat, a < k ∧ j < 5 ∧ x < N ∧ ln a j x * W + x = i
theorem strike_hit {i : Int} (hp : p i = 1) : strike l W p i = 0 ↔ ∃ r ∈ l, r.1 = i % W ∧ r.2.1 ≤ i / W ∧ i / W ≤ r.2.2 := by
  unfold strike
  by_cases c : l.any (fun r => hitB r W i) = true
  · rw [if_pos c]
    obtain ⟨r, h1, h2⟩ := List.any_eq_true.1 c
    exact ⟨fun _ => ⟨r, h1, of_decide_eq_true h2⟩, fun _ => rfl⟩
  · rw [if_neg c, hp]
    constructor
    · intro h; omega
    · rintro ⟨r, h1, h2⟩
      exact absurd (List.any_eq_true.2 ⟨r, h1, decide_eq_true h2⟩) c
/-- of a run all pixels go, if a line goes through it and it is short enough; else all stay -/
theorem strike_run (hN : W = N) (hl : ∀ r, r ∈ l ↔ r ∈ colI p W H most ln N k) (hb : ∀ a j x : Nat, a < k → j < 5 → x < N → 0 ≤ ln a j x ∧ ln a j x < H)
    {x f t : Nat} (hx : x < N) (hr : RunOf p W H x f t) {y : Nat} (h1 : f ≤ y) (h2 : y < t) :
    strike l W p ((y : Int) * W + x) = 0 ↔ (∃ j : Nat, f ≤ j ∧ j < t ∧ OnLine ln k N W ((j : Int) * W + x)) ∧ (t : Int) - f ≤ most := by
  have hxW : (x : Int) < W := by omega
  rw [strike_hit (hr.ink y h1 h2), idx_mod (by omega) hxW, idx_div (by omega) hxW]
  constructor
  · rintro ⟨r, a, b, c, d⟩
    rw [hl, mem_colI] at a
    obtain ⟨i, j, x', i1, j1, x1, e⟩ := a
    obtain ⟨e1, e2, rfl⟩ := mem_rnAt.1 e
    simp only at b c d
    obtain rfl : x' = x := by omega
    obtain ⟨b1, b2⟩ := hb i j x' i1 j1 hx
    obtain ⟨m, hm⟩ : ∃ m : Nat, ln i j x' = m := ⟨(ln i j x').toNat, by omega⟩
    rw [hm, Int.toNat_natCast] at c d e1 e2
    have g1 := topN_le p W x' m
    have g2 := botN_bd p W x' (H - 1 - m) m
    have m1 : f ≤ m := by
      rcases Nat.lt_or_ge m f with h | h
      · exfalso
        have u := hr.up (f - 1) (by omega)
        by_cases q : m = f - 1
        · rw [← q] at u; exact u e1
        · exact u (botN_ink p W x' (H - 1 - m) m (f - 1) (by omega) (by omega))
      · exact h
    have m2 : m < t := by
      rcases Nat.lt_or_ge m t with h | h
      · exact h
      · exfalso
        have u := hr.down (by omega)
        by_cases q : m = t
        · rw [q] at e1; exact u e1
        · exact u (topN_ink p W x' m t (by omega) (by omega))
    rw [hr.top m1 m2, hr.bot m1 m2] at e2
    exact ⟨⟨m, m1, m2, i, j, x', i1, j1, hx, by rw [hm]⟩, by have := hr.lt; omega⟩
  · rintro ⟨⟨m, m1, m2, i, j, x', i1, j1, x1, e⟩, h3⟩
    obtain ⟨b1, b2⟩ := hb i j x' i1 j1 x1
    have ex : x' = x := by
      have q1 := idx_mod (y := ln i j x') (x := x') (W := W) (by omega) (by omega)
      have q2 := idx_mod (y := (m : Int)) (x := x) (W := W) (by omega) (by omega)
      rw [e, q2] at q1; omega
    subst ex
    have em : ln i j x' = m := by
      have q1 := idx_div (y := ln i j x') (x := x') (W := W) (by omega) (by omega)
      have q2 := idx_div (y := (m : Int)) (x := x') (W := W) (by omega) (by omega)
      rw [e, q2] at q1; omega
    refine ⟨_, (hl _).2 (mem_colI.2 ⟨i, j, x', i1, j1, hx, mem_rnAt.2 ⟨?_, ?_, rfl⟩⟩), rfl, ?_, ?_⟩
    · rw [em, Int.toNat_natCast]; exact hr.ink m m1 m2
    · rw [em, Int.toNat_natCast, hr.top m1 m2, hr.bot m1 m2]; have := hr.lt; omega
    · simp only; rw [em, Int.toNat_natCast, hr.top m1 m2]; omega
    · simp only; rw [em, Int.toNat_natCast, hr.bot m1 m2]; have := hr.lt; omega
theorem strike_paper {i : Int} (hp : p i = 0) : strike l W p i = 0 := by unfold strike; split; rfl; exact hp
/-- nothing is left to strike -/
theorem strike_again (hN : W = N) (h01 : Is01 p) (hl : ∀ r, r ∈ l ↔ r ∈ colI p W H most ln N k) (hb : ∀ a j x : Nat, a < k → j < 5 → x < N → 0 ≤ ln a j x ∧ ln a j x < H) :
    colI (strike l W p) W H most ln N k = [] := by
  apply List.eq_nil_iff_forall_not_mem.2
  intro r hr
  rw [mem_colI] at hr
  obtain ⟨i, j, x, i1, j1, x1, e⟩ := hr
  obtain ⟨e1, e2, rfl⟩ := mem_rnAt.1 e
  obtain ⟨b1, b2⟩ := hb i j x i1 j1 x1
  obtain ⟨m, hm⟩ : ∃ m : Nat, ln i j x = m := ⟨(ln i j x).toNat, by omega⟩
  rw [hm, Int.toNat_natCast] at e1 e2
  have hp1 : p ((m : Int) * W + x) = 1 := by
    rcases h01 ((m : Int) * W + x) with h | h
    · rw [strike_paper h] at e1; omega
    · exact h
  obtain ⟨f, t, hr, m1, m2⟩ := run_ex (H := H) (by omega) hp1
  have no : ¬ ((∃ j : Nat, f ≤ j ∧ j < t ∧ OnLine ln k N W ((j : Int) * W + x)) ∧ (t : Int) - f ≤ most) := fun h => by
    have := (strike_run hN hl hb x1 hr m1 m2).2 h
    omega
  have hq : RunOf (strike l W p) W H x f t := by
    refine ⟨hr.lt, hr.le, fun g e h => ?_, fun j a b => ?_, fun c h => ?_⟩
    · rcases h01 ((g : Int) * W + x) with q | q
      · rw [strike_paper q] at h; omega
      · exact hr.up g e q
    · rcases strike_01 (l := l) (W := W) h01 ((j : Int) * W + x) with q | q
      · exact absurd ((strike_run hN hl hb x1 hr a b).1 q) no
      · exact q
    · rcases h01 ((t : Int) * W + x) with q | q
      · rw [strike_paper q] at h; omega
      · exact hr.down c q
  rw [hq.top m1 m2, hq.bot m1 m2] at e2
  exact no ⟨⟨m, m1, m2, i, j, x, i1, j1, x1, by rw [hm]⟩, by have := hr.lt; omega⟩
end
end Go.Proofs.Ytdimlpcbbkokiaa

/- Walk: images with staves whose lines bend (custoslaw03.Wavy). -/
namespace Go.Proofs.Ytdimlpcbbkokiaa
open Go.RowKit Go.Shelf
set_option linter.unusedVariables false
attribute [local go_sem] Oper.semAt_some

/-- what Wavy returns -/
def WavyOut (w w' : World) (W H : Int) (N n : Nat) (L : Nat → Nat → Int) (v : Value) : Prop :=
  ∃ g Bs vo vs, v = .tuple #[.agg #[.int .i64 W, .int .i64 H, .slice (some ⟨g, 0, none⟩) N N], vo] ∧ w.heap.size ≤ g ∧ g < Bs ∧ Blk w' g 5 (u8s N (wvQ W L (5 * n) 0)) ∧ StOut Bs w' (fun _ => W.toNat) L ((List.range n).map (5 * ·)) vo vs
theorem min14 (n M : Nat) (h : (M : Int) = min (n : Int) 14) : M ≤ 14 ∧ M ≤ n ∧ min n 14 = M := by omega

set_option maxRecDepth 100000 in
set_option maxHeartbeats 8000000 in
theorem wavy_any (wd sv W low high H : Int) (A : Option Addr) (n c k M nn N : Nat) (p : Int → Int) (w : World) (hA : ArrB w w.heap.size A n p) (hn : n ≤ maxLen) (hnc : n ≤ c) (hB : IsB p) (hwd : 0 ≤ wd ∧ wd ≤ 255) (hsv : 0 ≤ sv ∧ sv ≤ 255)
    (hW : 40 + wd % 120 = W) (hk : W = (k : Int) + 1) (hM : (M : Int) = min (n : Int) 14) (hlow : minA (rsF p M) k = low) (hhigh : maxA (rsF p M) k = high) (hnn : 1 + sv % 3 = (nn : Int)) (hH : H = 5 + (high - low) + (nn : Int) * 24 + ((nn : Int) - 1) * 12 + 6) (hN : (N : Int) = W * H) :
    Calls Try.prog 41 #[.int .u8 wd, .int .u8 sv, .slice A n c] w (New w fun v w' => WavyOut w w' W H N nn (wvL low (rsF p M)) v) := by
  unfold maxLen at hn
  obtain ⟨hw1, hw2⟩ := hwd
  obtain ⟨hs1, hs2⟩ := hsv
  obtain ⟨hM14, hMn, -⟩ := min14 n M hM
  have hW0 : 40 ≤ W ∧ W ≤ 159 := by omega
  have hn3 : 1 ≤ nn ∧ nn ≤ 3 := by omega
  have hlo : -14 ≤ low ∧ low ≤ 14 := by
    obtain ⟨-, j, -, -, e⟩ := minAq_le (q := rsF p M) (minA := minA) (fun _ => rfl) (fun _ _ => rfl) k
    have := rsF_bd (p := p) M j
    rw [← hlow, e]; omega
  have hhi : low ≤ high ∧ high ≤ 14 := by
    obtain ⟨-, j, -, -, e⟩ := maxAq_ge (q := rsF p M) (maxA := maxA) (fun _ => rfl) (fun _ _ => rfl) k
    have h1 := rsF_bd (p := p) M j
    have h2 := (minAq_le (q := rsF p M) (minA := minA) (fun _ => rfl) (fun _ _ => rfl) k).1 0 (by omega) (by omega)
    have h3 := (maxAq_ge (q := rsF p M) (maxA := maxA) (fun _ => rfl) (fun _ _ => rfl) k).1 0 (by omega) (by omega)
    rw [hlow] at h2
    rw [hhigh] at h3
    rw [hhigh] at e
    omega
  have LR : Hid (∀ x : Int, 0 ≤ x → x < W → low ≤ rsF p M x ∧ rsF p M x ≤ high) := by
    show ∀ _, _
    intro x x0 x1
    have h2 := (minAq_le (q := rsF p M) (minA := minA) (fun _ => rfl) (fun _ _ => rfl) k).1 x x0 (by omega)
    have h3 := (maxAq_ge (q := rsF p M) (maxA := maxA) (fun _ => rfl) (fun _ _ => rfl) k).1 x x0 (by omega)
    rw [hlow] at h2
    rw [hhigh] at h3
    exact ⟨h2, h3⟩
  have hWn : W.toNat = k + 1 := by omega
  have hmkI := makeI W (by omega) (by omega)
  rw [hWn] at hmkI
  have HMK := Lib.hid hmkI
  have HM := Lib.hid hM; have HW := Lib.hid hW; have HK := Lib.hid hk; have HLO := Lib.hid hlow; have HHI := Lib.hid hhigh; have HNN := Lib.hid hnn; have HHH := Lib.hid hH; have HN := Lib.hid hN; have HWN := Lib.hid hWn
  clear hmkI hM hlow hhigh hnn hH hN hWn hk hW
  go_enter Try.func41, Try.ntmps41
  go_upto_region 1 with fail
  go_cut [8] (fun t wx => t = .int .i64 W ∧ wx = w.alloc (.cells #[.int .i64 0, .int .i64 0, .slice none 0 0] 24))
  case first =>
    go_wp2_with fail
    go_meet
    exact ⟨by rw [← HW.out], rfl⟩
  case rest =>
  obtain ⟨rfl, rfl⟩ := hcut
  have hmkI := HMK.out
  have z0 : w.heap.size < (w.alloc (.cells #[.int .i64 0, .int .i64 0, .slice none 0 0] 24)).heap.size := by simp
  have k0 : Blk (w.alloc (.cells #[.int .i64 0, .int .i64 0, .slice none 0 0] 24)) w.heap.size 24 #[.int .i64 0, .int .i64 0, .slice none 0 0] := Blk.new _ _ _
  have b0 : Below w.heap.size w (w.alloc (.cells #[.int .i64 0, .int .i64 0, .slice none 0 0] 24)) := by (repeat (first | exact Below.refl _ _ | assumption | refine Below.drew ?_ | refine below_drewN ?_ _ | refine Below.alloc ?_ (by first | omega | (simp; done) | (simp; omega)) _ | refine Below.setCell ?_ (by first | omega | (simp; done) | (simp; omega)) _ | refine below_setRow ?_ (by first | omega | (simp; done) | (simp; omega)) _ ))
  generalize w.alloc (.cells #[.int .i64 0, .int .i64 0, .slice none 0 0] 24) = w1 at *
  go_upto_region 4 with fail
  have kR : Blk (w1.alloc (.cells (i64s (k + 1) (fun _ => 0)) 3)) w1.heap.size 3 (i64s (k + 1) (fun _ => 0)) := Blk.new _ _ _
  have k0 := k0.alloc (.cells (i64s (k + 1) (fun _ => 0)) 3)
  have b0 : Below w.heap.size w (w1.alloc (.cells (i64s (k + 1) (fun _ => 0)) 3)) := b0.alloc (by omega) _
  clear hmkI
  generalize w1.alloc (.cells (i64s (k + 1) (fun _ => 0)) 3) = w2 at *
  generalize hgR : w1.heap.size = gR at *
  go_cut [36, 37, 38] (fun a b s wx => a = .slice A M c ∧ b = .int .i64 M ∧ s = .int .i64 0 ∧ wx = w2)
  case first =>
    have e1 : min (n : Int) 14 = (M : Int) := HM.out.symm
    have e2 : max (M : Int) 0 = (M : Int) := by omega
    have e3 : (M : Int) ≤ c := by omega
    go_wp2_with fail
    go_meet
    exact ⟨rfl, rfl, rfl, rfl⟩
  case rest =>
  obtain ⟨rfl, rfl, rfl, rfl⟩ := hcut
  have hA' : ArrB w w.heap.size A M p := fun h => by
    obtain ⟨b, off, e, hb, hc⟩ := hA (by omega)
    exact ⟨b, off, e, hb, fun i a b => hc i a (by omega)⟩
  clear hA
  go_upto_block 0 with fail
  go_cut [8] from 32 to 68 (fun t wx => t = .int .i64 W ∧ Below w.heap.size w wx ∧ Blk wx w.heap.size 24 #[.int .i64 0, .int .i64 0, .slice none 0 0] ∧ Blk wx gR 3 (i64s (k + 1) (rsF p M)))
  case first =>
    go_wp2
    go_loopw [10, 11, 38] (fun y x s wr => ∃ j : Nat, j ≤ M ∧ s = .int .i64 j ∧ y = .int .i64 (byF p j) ∧ x = .int .i64 (bxF p j) ∧ bxF p j < W ∧ Below w.heap.size w wr ∧ Blk wr w.heap.size 24 #[.int .i64 0, .int .i64 0, .slice none 0 0] ∧ Blk wr gR 3 (i64s (k + 1) (rsF p j))) (fun _ _ s _ => M - (intOf s).toNat)
    case atStart => exact ⟨0, by omega, rfl, rfl, rfl, by show (0 : Int) < W; omega, b0, k0, kR⟩
    case round =>
      obtain ⟨j, hj, rfl, rfl, rfl, hx, b1, t0, tR⟩ := hrel
      clear b0 k0 kR
      by_cases jl : (j : Int) < M
      · obtain ⟨bb, off, rfl, hbB, hcell⟩ := ArrB.at_ (ArrB.below hA' b1) (show (0 : Int) ≤ j by omega) jl
        rw [Int.toNat_natCast] at hcell
        obtain ⟨rb1, rb2⟩ := hB j
        have HX : Hid (bxF p (j + 1) = bxF p j + (8 + p j % 16)) := rfl
        have HY : Hid (byF p (j + 1) = byF p j + (p j / 16 % 3 - 1)) := rfl
        have hxlo := bxF_lo (p := p) j
        have hyb := byF_bd (p := p) j
        have ST := Lib.hid fun (i : Int) (hi : i < bxF p (j + 1)) => rsF_stop (p := p) (k := j) (m := M) hi (by omega)
        have AH := Lib.hid fun (i : Int) (hi : i < bxF p (j + 1)) => rsF_ahead (p := p) (k := j) hi
        have DR := Lib.hid fun (i : Int) (hi : bxF p (j + 1) ≤ i) => rsF_draw (p := p) (k := j) hi
        rw [HX.out] at ST AH DR
        rw [HY.out] at DR
        generalize bxF p j = X at *
        generalize byF p j = Y at *
        generalize p j = pv at *
        by_cases hge : W ≤ X + (8 + pv % 16)
        · have d1 : decide (W ≤ X + (8 + pv % 16)) = true := decide_eq_true hge
          have tR2 := tR.i64conv (r := rsF p M) fun i i0 i1 => (ST.out i (by have := HK.out; omega)).symm
          clear tR
          go_wp2_with fail
          go_meet
          exact ⟨rfl, b1, t0, tR2⟩
        · have d1 : decide (W ≤ X + (8 + pv % 16)) = false := decide_eq_false hge
          have hlt : X + (8 + pv % 16) < W := by omega
          have v1 : IntKind.i64.wrap (Y + (pv / 16 % 3 - 1)) = Y + (pv / 16 % 3 - 1) := IntWalk.i64_in _ (by omega)
          clear hge
          go_wp2_with fail
          have tR2 := tR.i64conv (r := fun t => if t < X + (8 + pv % 16) then rsF p (j + 1) t else rsF p j t) fun i i0 i1 => by
            show rsF p j i = if _ then _ else _
            split
            · rename_i h; exact (AH.out i h).symm
            · rfl
          clear tR v1
          generalize wr = w5 at *
          go_loopw [14] (fun s w9 => ∃ i : Int, X + (8 + pv % 16) ≤ i ∧ i ≤ W ∧ s = .int .i64 i ∧ Below w.heap.size w w9 ∧ Blk w9 w.heap.size 24 #[.int .i64 0, .int .i64 0, .slice none 0 0] ∧ Blk w9 gR 3 (i64s (k + 1) (fun t => if t < i then rsF p (j + 1) t else rsF p j t))) (fun s _ => (W - intOf s).toNat)
          case atStart => exact ⟨_, Int.le_refl _, by omega, rfl, b1, t0, tR2⟩
          case round =>
            obtain ⟨i, i0, iW, rfl, b2, u0, uR⟩ := hrel
            clear b1 t0 tR2
            by_cases il : i < W
            · have DI := Lib.hid (DR.out i i0)
              have g0 : (0 : Int) ≤ i := by omega
              have g1 : i < ((k + 1 : Nat) : Int) := by have := HK.out; omega
              have cR := uR.i64at g0 g1
              have fR := uR.frozen i.toNat
              have UR := Lib.hid (uR.i64set i g0 (Y + (pv / 16 % 3 - 1)))
              have hRz : gR ≠ w.heap.size := by omega
              have il2 : i < (k : Int) + 1 := by have := HK.out; omega
              go_wp2_with fail
              go_roundw
              case rel =>
                refine ⟨i + 1, by omega, by omega, by go_num, b2.setCell (by show w.heap.size ≤ gR; omega) _, u0.far (p := ⟨gR, i.toNat, none⟩) (fun e => hRz e.symm) _, UR.out.i64conv fun t _ _ => ?_⟩
                by_cases e : t = i
                · subst e
                  rw [upd_at, if_pos (by omega), DI.out]
                · rw [upd_ne e]
                  by_cases c1 : t < i
                  · rw [if_pos c1, if_pos (by omega)]
                  · rw [if_neg c1, if_neg (by omega)]
              case measure => simp [intOf]; omega
            · have uR2 := uR.i64conv (r := rsF p (j + 1)) fun t _ t1 => by rw [if_pos (by have := HK.out; omega)]
              clear uR
              go_wp2_with fail
              go_roundw
              case rel => exact ⟨j + 1, by omega, by go_num, by rw [HY.out], by rw [HX.out], by rw [HX.out]; omega, b2, u0, uR2⟩
              case measure => simp [intOf]; omega
      · obtain rfl : j = M := by omega
        go_wp2_with fail
        go_meet
        exact ⟨rfl, b1, t0, tR⟩
  case rest =>
  obtain ⟨rfl, b3, k3, kR3⟩ := hcut
  generalize wc = wz at *
  clear b0 k0 kR hA'
  have hkb : k ≤ 1000000 := by have := HK.out; omega
  have MN : Hid (Calls Try.prog 80 #[.slice (some ⟨gR, 0, none⟩) (k + 1) (k + 1)] wz fun e w' => e = .returned (.int .i64 (minA (rsF p M) k)) ∧ wz = w') := (min_any (some ⟨gR, 0, none⟩) k (k + 1) (rsF p M) wz (kR3.arrI kR3.lt) hkb).mono fun _ _ h => ⟨h.1, h.2.symm⟩
  have MX : Hid (Calls Try.prog 81 #[.slice (some ⟨gR, 0, none⟩) (k + 1) (k + 1)] wz fun e w' => e = .returned (.int .i64 (maxA (rsF p M) k)) ∧ wz = w') := (max_any (some ⟨gR, 0, none⟩) k (k + 1) (rsF p M) wz (kR3.arrI kR3.lt) hkb).mono fun _ _ h => ⟨h.1, h.2.symm⟩
  rw [HLO.out] at MN
  rw [HHI.out] at MX
  go_wp2_with fail
  refine MN.out.mono ?_
  rintro e w' ⟨rfl, rfl⟩
  go_wp2_with fail
  refine MX.out.mono ?_
  rintro e w' ⟨rfl, rfl⟩
  clear MN MX
  go_upto_region 16 with fail
  go_cut [17] (fun t wx => t = .int .i64 nn ∧ wx = wz)
  case first =>
    go_wp2_with fail
    go_meet
    exact ⟨by rw [← HNN.out], rfl⟩
  case rest =>
  obtain ⟨rfl, hwc⟩ := hcut
  obtain rfl : wz = wc := hwc.symm
  clear hwc
  go_upto_region 17 with fail
  go_cut [18] (fun s wx => s = .int .i64 H ∧ wx = wz)
  case first =>
    go_wp2_with fail
    go_meet
    exact ⟨by rw [← HHH.out], rfl⟩
  case rest =>
  obtain ⟨rfl, hwc⟩ := hcut
  obtain rfl : wz = wc := hwc.symm
  clear hwc
  have hH0 : 1 ≤ H ∧ H ≤ 640 := by have := HHH.out; omega
  have nb := area_bd (W := W) (H := H) (by omega) (by omega) (by omega) hH0.2
  have hmkB := makeB (W * H) nb.1 (by omega)
  rw [show (W * H).toNat = N by have := HN.out; omega] at hmkB
  have v1 : IntKind.i64.wrap (W * H) = W * H := IntWalk.i64_in _ (by omega)
  have kp : Blk ((wz.alloc (.cells (u8s N (fun _ => 0)) 5)).alloc (.cells #[.int .i64 W, .int .i64 H, .slice (some ⟨wz.heap.size, 0, none⟩) N N] 24)) wz.heap.size 5 (u8s N (wvQ W (wvL low (rsF p M)) (5 * 0) 0)) := ((Blk.new _ _ _).alloc _).u8conv fun i _ _ => (wvQ_start (by omega)).symm
  have kx : Blk ((wz.alloc (.cells (u8s N (fun _ => 0)) 5)).alloc (.cells #[.int .i64 W, .int .i64 H, .slice (some ⟨wz.heap.size, 0, none⟩) N N] 24)) (wz.heap.size + 1) 24 #[.int .i64 W, .int .i64 H, .slice (some ⟨wz.heap.size, 0, none⟩) N N] := Blk.new' (by simp) _ _
  have k4 := (k3.alloc (.cells (u8s N (fun _ => 0)) 5)).alloc (.cells #[.int .i64 W, .int .i64 H, .slice (some ⟨wz.heap.size, 0, none⟩) N N] 24)
  have kR4 := (kR3.alloc (.cells (u8s N (fun _ => 0)) 5)).alloc (.cells #[.int .i64 W, .int .i64 H, .slice (some ⟨wz.heap.size, 0, none⟩) N N] 24)
  have zb := b3.size
  have b4 : Below w.heap.size w ((wz.alloc (.cells (u8s N (fun _ => 0)) 5)).alloc (.cells #[.int .i64 W, .int .i64 H, .slice (some ⟨wz.heap.size, 0, none⟩) N N] 24)) := by (repeat (first | exact Below.refl _ _ | assumption | refine Below.drew ?_ | refine below_drewN ?_ _ | refine Below.alloc ?_ (by first | omega | (simp; done) | (simp; omega)) _ | refine Below.setCell ?_ (by first | omega | (simp; done) | (simp; omega)) _ | refine below_setRow ?_ (by first | omega | (simp; done) | (simp; omega)) _ ))
  have z3 := k3.lt
  have z4 := kR3.lt
  have zs : ((wz.alloc (.cells (u8s N (fun _ => 0)) 5)).alloc (.cells #[.int .i64 W, .int .i64 H, .slice (some ⟨wz.heap.size, 0, none⟩) N N] 24)).heap.size = wz.heap.size + 2 := by simp
  go_wp2_with fail
  clear hmkB v1 k3 kR3 b3
  generalize (wz.alloc (.cells (u8s N (fun _ => 0)) 5)).alloc (.cells #[.int .i64 W, .int .i64 H, .slice (some ⟨wz.heap.size, 0, none⟩) N N] 24) = w3 at *
  generalize hgp : wz.heap.size = gp at *
  obtain ⟨L, hL⟩ : ∃ L, wvL low (rsF p M) = L := ⟨_, rfl⟩
  have LV : Hid (∀ (i j x : Nat), j < 5 → L (5 * i + j) x = 5 - low + (i : Int) * 36 + 6 * (j : Int) + rsF p M x) := by
    show ∀ _, _
    intro i j x hj
    rw [← hL]; exact wvL_at low _ i j x hj
  rw [hL] at kp
  have HL := Lib.hid hL
  have KMAX : k + 1 ≤ maxLen := by unfold maxLen; omega
  have RB := Lib.hid fun (x : Int) => rsF_bd (p := p) M x
  obtain ⟨i0, hi0, hz0, hz1, hz2⟩ := info_parts infoInts
  obtain ⟨s0, hs0, hsz0, hsz1, hsz2⟩ := info_parts infoLines
  have hnn2 : (nn : Int) ≤ 3 := by omega
  go_loopw [20, 97] (fun vo s wr => ∃ (i : Nat) (vs : Nat → Value), i ≤ nn ∧ s = .int .i64 i ∧ Below w.heap.size w wr ∧ gp + 2 ≤ wr.heap.size ∧ Blk wr w.heap.size 24 #[.int .i64 0, .int .i64 0, .slice none 0 0] ∧ Blk wr gR 3 (i64s (k + 1) (rsF p M)) ∧ Blk wr (gp + 1) 24 #[.int .i64 W, .int .i64 H, .slice (some ⟨gp, 0, none⟩) N N] ∧ Blk wr gp 5 (u8s N (wvQ W L (5 * i) 0)) ∧ StOut (gp + 2) wr (fun _ => k + 1) L ((List.range i).map (5 * ·)) vo vs) (fun _ s _ => nn - (intOf s).toNat)
  case atStart => exact ⟨0, fun _ => default, by omega, rfl, b4, by omega, k4, kR4, kx, kp, StOut.nil _ _ _ _ _⟩
  case round =>
    obtain ⟨i, vs, hi, rfl, b5, hsz, t0, tR, tx, tp, hS⟩ := hrel
    clear b4 k4 kR4 kx kp
    obtain ⟨Ao, co, eo, -, -⟩ := own_arr hS.row
    rw [List.length_map, List.length_range] at eo
    subst eo
    by_cases il : (i : Int) < nn
    · have ks := Blk.new wr 54 #[.slice none 0 0]
      have bs : But wr.heap.size gp wr (wr.alloc (.cells #[.slice none 0 0] 54)) := (But.refl gp (Nat.le_refl _)).then ((Below.refl _ _).alloc (Nat.le_refl _) _)
      have tp2 := tp.alloc (.cells #[.slice none 0 0] 54)
      go_wp2_with fail
      generalize wr.alloc (.cells #[.slice none 0 0] 54) = w4 at *
      generalize wr = wo at *
      generalize hgs : wo.heap.size = gs at *
      go_loopw [100] (fun s w9 => ∃ (j : Nat) (v2 : Value) (v : Nat → Value), j ≤ 5 ∧ s = .int .i64 j ∧ But gs gp wo w9 ∧ Blk w9 gs 54 #[v2] ∧ FoundM gs w9 (fun _ => k + 1) (fun t => L (5 * i + t)) j v2 v ∧ Blk w9 gp 5 (u8s N (wvQ W L (5 * i + j) 0))) (fun s _ => 5 - (intOf s).toNat)
      case atStart => exact ⟨0, _, fun _ => default, by omega, rfl, bs, ks, FoundM.nil _ _ _ _ _, tp2⟩
      case round =>
        obtain ⟨j, v2, v, hj, rfl, bu, us, hF, up⟩ := hrel
        clear bs ks tp2
        have u0 := t0.but bu (by rw [← hgs]; exact t0.lt) (by omega)
        have uR := tR.but bu (by rw [← hgs]; exact tR.lt) (by omega)
        have ux := tx.but bu (by rw [← hgs]; exact tx.lt) (by omega)
        obtain ⟨A2, c2, rfl, -, -⟩ := own_arr hF.row
        have gsw : gs < wr.heap.size := us.lt
        by_cases jl : (j : Int) < 5
        · have hmkI := HMK.out
          have kl := Blk.new wr 3 (i64s (k + 1) (fun _ => 0))
          have bl : But wr.heap.size gp wr (wr.alloc (.cells (i64s (k + 1) (fun _ => 0)) 3)) := (But.refl gp (Nat.le_refl _)).then ((Below.refl _ _).alloc (Nat.le_refl _) _)
          have up2 := up.alloc (.cells (i64s (k + 1) (fun _ => 0)) 3)
          go_wp2_with fail
          clear hmkI
          generalize wr.alloc (.cells (i64s (k + 1) (fun _ => 0)) 3) = w7 at *
          generalize wr = wi at *
          generalize hgl : wi.heap.size = gl at *
          have kl2 := kl.i64conv (r := fun t => if t < ((0 : Nat) : Int) then L (5 * i + j) t.toNat else 0) fun t t0 _ => by rw [if_neg (by omega)]
          go_loopw [107] (fun s w9 => ∃ x : Nat, (x : Int) ≤ W ∧ s = .int .i64 x ∧ But gl gp wi w9 ∧ Blk w9 gl 3 (i64s (k + 1) (fun t => if t < (x : Int) then L (5 * i + j) t.toNat else 0)) ∧ Blk w9 gp 5 (u8s N (wvQ W L (5 * i + j) x))) (fun s _ => (W - intOf s).toNat)
          case atStart => exact ⟨0, by omega, rfl, bl, kl2, up2⟩
          case round =>
            obtain ⟨x, hx, rfl, bw, cl, cp⟩ := hrel
            clear bl kl kl2 up2
            have cR := uR.but bw (by rw [← hgl]; exact uR.lt) (by omega)
            have cx := ux.but bw (by rw [← hgl]; exact ux.lt) (by omega)
            have hxk : (x : Int) ≤ (k : Int) + 1 := by have := HK.out; omega
            by_cases xl : (x : Int) < W
            · have xk : (x : Int) < ((k + 1 : Nat) : Int) := by have := HK.out; omega
              have xk2 : (x : Int) < (k : Int) + 1 := by have := HK.out; omega
              have c1 := cR.i64at (show (0 : Int) ≤ x by omega) xk
              rw [Int.toNat_natCast] at c1
              have c2' := cl.i64at (show (0 : Int) ≤ x by omega) xk
              rw [Int.toNat_natCast] at c2'
              have f2 := cl.frozen x
              have LX := Lib.hid (LV.out i j x (by omega))
              obtain ⟨rb1, rb2⟩ := RB.out x
              have CL := Lib.hid (cl.i64set (x : Int) (by omega) (L (5 * i + j) x))
              have CP := Lib.hid fun t => wvQ_set (W := W) (L := L) (t := 5 * i + j) (x := (x : Int)) (i := t) (by omega) xl
              rw [Int.toNat_natCast] at CL CP
              obtain ⟨lr1, lr2⟩ := LR.out x (by omega) xl
              have hLb : 0 ≤ L (5 * i + j) x ∧ L (5 * i + j) x < H := by rw [LX.out, HHH.out]; omega
              obtain ⟨hl1, hl2⟩ := hLb
              rw [LX.out] at CL CP hl1 hl2
              generalize rsF p M x = rv at *
              have hgg : gl ≠ gp ∧ gl ≠ gR ∧ gl ≠ gp + 1 := by refine ⟨?_, ?_, ?_⟩ <;> omega
              obtain ⟨g1, g2, g3⟩ := hgg
              have C8 := Lib.hid (cp.far (p := ⟨gl, x, none⟩) (fun e => g1 e.symm) (.int .i64 (5 - low + (i : Int) * 36 + 6 * (j : Int) + rv)))
              have X8 := Lib.hid (cx.far (p := ⟨gl, x, none⟩) (fun e => g3 e.symm) (.int .i64 (5 - low + (i : Int) * 36 + 6 * (j : Int) + rv)))
              have B8 := Lib.hid (bw.then ((Below.refl gl wr).setCell (p := ⟨gl, x, none⟩) (Nat.le_refl gl) (.int .i64 (5 - low + (i : Int) * 36 + 6 * (j : Int) + rv))))
              clear cR cx cl cp bw
              go_upto_region 32 with fail
              generalize wr.setCell ⟨gl, x, none⟩ (.int .i64 (5 - low + (i : Int) * 36 + 6 * (j : Int) + rv)) = w8 at *
              clear c1 c2' f2
              have cl8 := CL.out
              have cp8 := C8.out
              have bw8 := B8.out
              obtain ⟨x1, x2, x3⟩ := X8.out.cells3
              have c2 := cl8.i64at (show (0 : Int) ≤ x by omega) xk
              rw [Int.toNat_natCast, show upd (fun t => if t < (x : Int) then L (5 * i + j) t.toNat else 0) (x : Int) (5 - low + (i : Int) * 36 + 6 * (j : Int) + rv) (x : Int) = (5 - low + (i : Int) * 36 + 6 * (j : Int) + rv) from upd_at _ _ _] at c2
              obtain ⟨j1, j2, j3⟩ := idx_lt (x := (x : Int)) (y := (5 - low + (i : Int) * 36 + 6 * (j : Int) + rv)) (W := W) (H := H) (by omega) xl hl1 hl2
              rw [Int.mul_comm H W] at j2
              have j4 : (5 - low + (i : Int) * 36 + 6 * (j : Int) + rv) * W + x < (N : Int) := by have := HN.out; omega
              have nbb := nb.2
              have v7 : IntKind.i64.wrap ((5 - low + (i : Int) * 36 + 6 * (j : Int) + rv) * W) = (5 - low + (i : Int) * 36 + 6 * (j : Int) + rv) * W := IntWalk.i64_in _ (by omega)
              have v8 : IntKind.i64.wrap ((5 - low + (i : Int) * 36 + 6 * (j : Int) + rv) * W + x) = (5 - low + (i : Int) * 36 + 6 * (j : Int) + rv) * W + x := IntWalk.i64_in _ (by omega)
              have cg := cp8.u8at j1 j4
              have fg := cp8.frozen ((5 - low + (i : Int) * 36 + 6 * (j : Int) + rv) * W + x).toNat
              have KS := Lib.hid (cp8.u8set ((5 - low + (i : Int) * 36 + 6 * (j : Int) + rv) * W + x) j1 1)
              go_wp2_with fail
              go_still_tail 11, (by kernel_rfl)
              change wpList _ _ _ _ _ w8.drew
              clear v7 v8
              go_wp2
              go_roundw
              case rel =>
                refine ⟨x + 1, by omega, by go_num, (bw8.then (Below.refl gl w8).drew).set _ _, cl8.drew.far (p := ⟨gp, ((5 - low + (i : Int) * 36 + 6 * (j : Int) + rv) * W + x).toNat, none⟩) g1 _ |>.i64conv fun t _ _ => ?_, Blk.u8conv (by simpa using KS.out.drew) fun t _ _ => by rw [Int.natCast_add]; exact CP.out t⟩
                by_cases e : t = (x : Int)
                · subst e
                  rw [upd_at, if_pos (by omega), Int.toNat_natCast, LX.out]
                · rw [upd_ne e]
                  by_cases h1 : t < (x : Int)
                  · rw [if_pos h1, if_pos (by omega)]
                  · rw [if_neg h1, if_neg (by omega)]
              case measure => simp [intOf]; omega
            · have ex : (x : Int) = W := by omega
              have cl2 := cl.i64conv (r := fun t => L (5 * i + j) t.toNat) fun t _ t1 => by rw [if_pos (by have := HK.out; omega)]
              have up2 := cp.u8conv (r := wvQ W L (5 * i + (j + 1)) 0) fun t _ _ => by rw [ex]; exact wvQ_line (by omega)
              have ownl := own_i64s cl2 (base := gs) (by omega) KMAX
              have F2 := hF.but bw hgl (show gp < gs by omega)
              have us2 := us.but bw (by omega) (by omega)
              have bu2 := bu.trans bw (show gs ≤ gl by omega)
              have q1 := us2.at0
              have q2 := us2.frozen 0
              have hzw : gs < wr.heap.size := us2.lt
              have n1 := World.new_ne wr _ q1
              have d9 : decide ((x : Int) < (k : Int) + 1) = false := decide_eq_false (by have := HK.out; omega)
              have d8 : ¬ ((x : Int) < (k : Int) + 1) := by have := HK.out; omega
              clear cl cp hF us bu bw u0 uR ux up cR cx ex
              go_wp2_with (at_builtin; refine wpList_append_own _ rfl (.tmp 139) (.tmp 141) 34 rfl gs 25 i0 (.slice none 0 0) 1 24 Try.underlying34 hi0 hz0 hz1 hz2 rfl (by decide) _ _ _ rfl (F2.row.alloc _) ⟨wr.heap.size, 0, none⟩ 1 1 [.slice (some ⟨gl, 0, none⟩) (k + 1) (k + 1)] rfl rfl ?c1 ?c2 ?c3 ?c4 ?c5 ?_)
              try case c1 => exact cell_one_new _ _ _
              try case c2 => simp [Value.oneCell']
              try case c3 => unfold maxLen; omega
              try case c4 => omega
              try case c5 => first | omega | (simp; done) | (simp; omega)
              intro v' w9 own9 hg9 _
              have F9 := (F2.alloc (.cells #[.slice (some ⟨gl, 0, none⟩) (k + 1) (k + 1)] 25)).snoc (ownl.alloc _) hg9 own9
              have b9 : Below gs wr w9 := ((Below.refl gs wr).alloc (by omega) (.cells #[.slice (some ⟨gl, 0, none⟩) (k + 1) (k + 1)] 25)).grown hg9 (by simp; omega) (fun t ht => (own_ge F2.row ht).1)
              have bu9 := bu2.then b9
              have us9 := (us2.alloc (.cells #[.slice (some ⟨gl, 0, none⟩) (k + 1) (k + 1)] 25)).grown hg9 (own_neB F2.row us2 (by decide))
              have up9 := (up2.alloc (.cells #[.slice (some ⟨gl, 0, none⟩) (k + 1) (k + 1)] 25)).grown hg9 (own_neB F2.row up2 (by decide))
              obtain ⟨A9, c9, rfl, -, -⟩ := own_arr own9
              have y1 := us9.at0
              have y2 := us9.frozen 0
              have B9 := Lib.hid (bu9.then ((Below.refl gs w9).setCell (p := ⟨gs, 0, none⟩) (Nat.le_refl gs) (.slice A9 (j + 1) c9)))
              have U9 := Lib.hid (us9.set_ 0 (.slice A9 (j + 1) c9))
              have FF9 : FoundM gs (w9.setCell ⟨gs, 0, none⟩ (.slice A9 (j + 1) c9)) (fun _ => k + 1) (fun t => L (5 * i + t)) (j + 1) (.slice A9 (j + 1) c9) (fun t => if t = j then .slice (some ⟨gl, 0, none⟩) (k + 1) (k + 1) else v t) :=
                ⟨own_far F9.row us9 (by decide) _ _, fun t ht => own_far (F9.lines t ht) us9 (by decide) _ _⟩
              have P9 := Lib.hid (up9.far (p := ⟨gs, 0, none⟩) (show gp ≠ gs by omega) (.slice A9 (j + 1) c9))
              clear own9 hg9 F2 us2 bu2 bu9 b9 us9 up9 up2 ownl cl2 q1 q2 F9
              go_wp2
              go_roundw
              case rel => exact ⟨j + 1, _, _, by omega, by go_num, B9.out, U9.out, FF9, P9.out⟩
              case measure => simp [intOf]; omega
        · obtain rfl : j = 5 := by omega
          have S2 := hS.but bu hgs (show gp < gp + 2 by omega)
          have R2 := S2.row
          rw [List.length_map, List.length_range] at R2
          have c0 := us.at0
          have bB : Below w.heap.size w wr := b5.trans (bu.to hgs (show w.heap.size ≤ gp by omega) (by omega))
          have hzw : gs < wr.heap.size := us.lt
          go_wp2_with (at_builtin; refine wpList_append_own _ rfl (.tmp 145) (.tmp 147) 56 rfl (gp + 2) 54 s0 (.agg #[.slice none 0 0]) 1 24 Try.underlying56 hs0 hsz0 hsz1 hsz2 rfl (by decide) _ _ _ rfl (R2.alloc _) ⟨wr.heap.size, 0, none⟩ 1 1 [.slice A2 5 c2] rfl rfl ?d1 ?d2 ?d3 ?d4 ?d5 ?_)
          try case d1 => exact cell_one_new _ _ _
          try case d2 => simp [Value.oneCell']
          try case d3 => unfold maxLen; omega
          try case d4 => omega
          try case d5 => first | omega | (simp; done) | (simp; omega)
          intro v' w9 own9 hg9 _
          have b9 : Below w.heap.size w w9 := (bB.alloc bB.size (.cells #[.slice A2 5 c2] 54)).grown hg9 (by simp; omega) (fun t ht => by have := (own_ge S2.row ht).1; omega)
          have S9 := (S2.below ((Below.refl _ _).alloc (Nat.le_refl _) (.cells #[.slice A2 5 c2] 54))).snoc (i := 5 * i) ((hF.base (show gp + 2 ≤ gs by omega)).alloc _) hg9 (by rw [List.length_map, List.length_range]; exact own9)
          have e0 := (u0.alloc (.cells #[.slice A2 5 c2] 54)).grown hg9 (own_neB S2.row u0 (by decide))
          have eR := (uR.alloc (.cells #[.slice A2 5 c2] 54)).grown hg9 (own_neB S2.row uR (by decide))
          have ex := (ux.alloc (.cells #[.slice A2 5 c2] 54)).grown hg9 (own_neB S2.row ux (by decide))
          have ep := (up.alloc (.cells #[.slice A2 5 c2] 54)).grown hg9 (own_neB S2.row up (by decide))
          have hz9 : gp + 2 ≤ w9.heap.size := by have := hg9.size; simp at this; omega
          obtain ⟨A9, c9, rfl, -, -⟩ := own_arr own9
          clear own9 hg9 S2 R2 hF us bu hS u0 uR ux up
          go_wp2
          go_roundw
          case rel => exact ⟨i + 1, _, by omega, by go_num, b9, hz9, e0, eR, ex, ep, by rw [range_snoc]; exact S9⟩
          case measure => simp [intOf]; omega
    · obtain rfl : i = nn := by omega
      obtain ⟨x1, x2, x3⟩ := tx.cells3
      obtain ⟨u1, u2, u3⟩ := t0.cells3
      obtain ⟨f1, f2, f3⟩ := t0.frozen3
      have k9 := ((t0.set_ 0 (.int .i64 W)).set_ 1 (.int .i64 H)).set_ 2 (.slice (some ⟨gp, 0, none⟩) N N)
      obtain ⟨s4, s5, s6⟩ := Blk.cells3 (a := .int .i64 W) (b := .int .i64 H) (c := .slice (some ⟨gp, 0, none⟩) N N) k9
      have S9 := hS
      have zz := b5.size
      go_wp2_with fail
      refine bodyPost_ret (v := .tuple #[.agg #[.int .i64 W, .int .i64 H, .slice (some ⟨gp, 0, none⟩) N N], .slice Ao i co]) (by simp [results, Try.results41, go_sem, s4, s5, s6]) rfl ?_
      refine ⟨_, rfl, ?_, by (repeat (first | exact Below.refl _ _ | assumption | refine Below.drew ?_ | refine below_drewN ?_ _ | refine Below.alloc ?_ (by first | omega | (simp; done) | (simp; omega)) _ | refine Below.setCell ?_ (by first | omega | (simp; done) | (simp; omega)) _ | refine below_setRow ?_ (by first | omega | (simp; done) | (simp; omega)) _ ))⟩
      have g1 : gp ≠ w.heap.size := by omega
      show WavyOut _ _ _ _ _ _ _ _
      try rw [HL.out]
      refine ⟨gp, gp + 2, _, vs, rfl, by omega, by omega, Blk.far (Blk.far (Blk.far tp (p := ⟨w.heap.size, 0, none⟩) g1 (.int .i64 W)) (p := ⟨w.heap.size, 1, none⟩) g1 (.int .i64 H)) (p := ⟨w.heap.size, 2, none⟩) g1 (.slice (some ⟨gp, 0, none⟩) N N), ?_⟩
      rw [HWN.out]
      exact ((S9.far t0 (show w.heap.size < gp + 2 by omega) 0 (.int .i64 W)).far (t0.set_ 0 (.int .i64 W)) (show w.heap.size < gp + 2 by omega) 1 (.int .i64 H)).far ((t0.set_ 0 (.int .i64 W)).set_ 1 (.int .i64 H)) (show w.heap.size < gp + 2 by omega) 2 (.slice (some ⟨gp, 0, none⟩) N N)
end Go.Proofs.Ytdimlpcbbkokiaa

/- Walk: a strip put back (stave.Restore), where it is refused. Written by gen/t38.py. -/
namespace Go.Proofs.Ytdimlpcbbkokiaa
open Go.RowKit Go.Shelf
set_option linter.unusedVariables false
attribute [local go_sem] Oper.semAt_some

/-- which error Restore returns -/
def resE (W H : Int) (n : Nat) (p : Int → Int) (SW SH : Int) (sn : Nat) (sp : Int → Int) (K : Nat) (m : Nat → Nat) (ln : Nat → Nat → Int) (up : Int) : Int :=
  if orE (chk W H n p) (chk SW SH sn sp) ≠ 0 then orE (chk W H n p) (chk SW SH sn sp) else if stFits W H K m ln = false then 10 else if up < 0 ∨ SH ≤ up then 1 else if SW ≠ W then 2 else 0
theorem orE_zero {a b : Int} : orE a b = 0 ↔ a = 0 ∧ b = 0 := by
  unfold orE
  by_cases h : a = 0
  · rw [if_pos h]; simp [h]
  · rw [if_neg h]; simp [h]

set_option maxRecDepth 100000 in
set_option maxHeartbeats 4000000 in
theorem restore_bad (W H SW SH : Int) (A SA AL : Option Addr) (n c sn sc K cL : Nat) (p sp : Int → Int) (m : Nat → Nat) (ln : Nat → Nat → Int) (up : Int) (w : World) (hA : ArrB w w.heap.size A n p) (hn : n ≤ maxLen) (hS : ArrB w w.heap.size SA sn sp) (hsn : sn ≤ maxLen) (hL : Lines w w.heap.size AL K m ln) (hm : ∀ i, i < K → m i ≤ maxLen) (E : Int) (hE : resE W H n p SW SH sn sp K m ln up = E) (hE0 : E ≠ 0) :
    Calls Try.prog 45 #[.agg #[.int .i64 W, .int .i64 H, .slice A n c], .agg #[.int .i64 SW, .int .i64 SH, .slice SA sn sc], .agg #[.slice AL K cL], .int .i64 up] w fun e w' => e = .returned (.tuple #[noImg, .int .i64 E]) ∧ Below w.heap.size w w' := by
  have HE := Lib.hid hE; have HE0 := Lib.hid hE0
  clear hE hE0
  have C1 := Lib.hid fun w' hA' => check_any W H A n c p w' hA' hn
  have C2 := Lib.hid fun w' hA' => check_any SW SH SA sn sc sp w' hA' hsn
  have b1 : Below w.heap.size w ((((w.alloc (.cells #[.int .i64 W, .int .i64 H, .slice A n c] 24)).alloc (.cells #[.int .i64 SW, .int .i64 SH, .slice SA sn sc] 24)).alloc (.cells #[.slice AL K cL] 54)).alloc (.cells #[.int .i64 0, .int .i64 0, .slice none 0 0] 24)) := by (repeat (first | exact Below.refl _ _ | assumption | refine Below.drew ?_ | refine below_drewN ?_ _ | refine Below.alloc ?_ (by first | omega | (simp; done) | (simp; omega)) _ | refine Below.setCell ?_ (by first | omega | (simp; done) | (simp; omega)) _ | refine below_setRow ?_ (by first | omega | (simp; done) | (simp; omega)) _ ))
  have k4 : Blk ((((w.alloc (.cells #[.int .i64 W, .int .i64 H, .slice A n c] 24)).alloc (.cells #[.int .i64 SW, .int .i64 SH, .slice SA sn sc] 24)).alloc (.cells #[.slice AL K cL] 54)).alloc (.cells #[.int .i64 0, .int .i64 0, .slice none 0 0] 24)) (w.heap.size + 1 + 1 + 1) 24 #[.int .i64 0, .int .i64 0, .slice none 0 0] := Blk.new' (by simp) _ _
  have k1 : Blk ((((w.alloc (.cells #[.int .i64 W, .int .i64 H, .slice A n c] 24)).alloc (.cells #[.int .i64 SW, .int .i64 SH, .slice SA sn sc] 24)).alloc (.cells #[.slice AL K cL] 54)).alloc (.cells #[.int .i64 0, .int .i64 0, .slice none 0 0] 24)) w.heap.size 24 #[.int .i64 W, .int .i64 H, .slice A n c] := (((Blk.new _ _ _).alloc _).alloc _).alloc _
  have k2 : Blk ((((w.alloc (.cells #[.int .i64 W, .int .i64 H, .slice A n c] 24)).alloc (.cells #[.int .i64 SW, .int .i64 SH, .slice SA sn sc] 24)).alloc (.cells #[.slice AL K cL] 54)).alloc (.cells #[.int .i64 0, .int .i64 0, .slice none 0 0] 24)) (w.heap.size + 1) 24 #[.int .i64 SW, .int .i64 SH, .slice SA sn sc] := ((Blk.new' (by simp) _ _).alloc _).alloc _
  have k3 : Blk ((((w.alloc (.cells #[.int .i64 W, .int .i64 H, .slice A n c] 24)).alloc (.cells #[.int .i64 SW, .int .i64 SH, .slice SA sn sc] 24)).alloc (.cells #[.slice AL K cL] 54)).alloc (.cells #[.int .i64 0, .int .i64 0, .slice none 0 0] 24)) (w.heap.size + 1 + 1) 54 #[.slice AL K cL] := (Blk.new' (by simp) _ _).alloc _
  generalize hz1 : chk W H n p = z1 at *
  generalize hz2 : chk SW SH sn sp = z2 at *
  have HZ1 := Lib.hid hz1; have HZ2 := Lib.hid hz2
  clear hz1 hz2
  go_enter Try.func45, Try.ntmps45
  go_wp2_with fail
  generalize ((((w.alloc (.cells #[.int .i64 W, .int .i64 H, .slice A n c] 24)).alloc (.cells #[.int .i64 SW, .int .i64 SH, .slice SA sn sc] 24)).alloc (.cells #[.slice AL K cL] 54)).alloc (.cells #[.int .i64 0, .int .i64 0, .slice none 0 0] 24)) = w1 at *
  obtain ⟨p1, p2, p3⟩ := k1.cells3
  obtain ⟨q1, q2, q3⟩ := k2.cells3
  have HA := hA.to b1
  have HS := hS.to b1
  go_upto_region 1 with fail
  go_cut [10] (fun f wx => f = .int .i64 (orE z1 z2) ∧ Below w1.heap.size w1 wx)
  case first =>
    go_region_held3 (fun w' => (w'.cell? ⟨w.heap.size, 0, none⟩ = some (.int .i64 W) ∧ w'.cell? ⟨w.heap.size, 1, none⟩ = some (.int .i64 H) ∧ w'.cell? ⟨w.heap.size, 2, none⟩ = some (.slice A n c)) ∧ w'.cell? ⟨w.heap.size + 1, 0, none⟩ = some (.int .i64 SW) ∧ w'.cell? ⟨w.heap.size + 1, 1, none⟩ = some (.int .i64 SH) ∧ w'.cell? ⟨w.heap.size + 1, 2, none⟩ = some (.slice SA sn sc))
      (first | (simp [go_sem, *]; done) | (go_keep; done))
      (first
      | (go_at_call 58
         with_reducible refine Calls.mono (C1.out _ ?_) ?_
         focus (repeat (first | with_reducible assumption | with_reducible refine ArrB.alloc1 ?_ _ | with_reducible refine ArrB.drew1 ?_ | (with_reducible apply ArrB.fillN; (focus (with_reducible assumption)); (focus omega)) | (with_reducible apply ArrB.fillL; (focus (with_reducible assumption)); (focus (first | omega | (simp; done) | (simp; omega)))) | (with_reducible apply ArrB.to'; focus (with_reducible assumption))))
         rintro e v1 ⟨rfl, hb1⟩
         have kk1 : Blk v1 w.heap.size 24 #[.int .i64 W, .int .i64 H, .slice A n c] := by (repeat (first | with_reducible assumption | with_reducible exact Blk.new _ _ _ | with_reducible exact Blk.new' (World.size_alloc _ _) _ _ | (with_reducible refine Blk.new' ?_ _ _; focus (simp; done)) | with_reducible apply Blk.fill3 | (with_reducible refine Blk.far3' ?_ ?_; focus omega) | with_reducible refine Blk.alloc ?_ _ | with_reducible refine Blk.drew ?_ | (with_reducible apply Blk.below2; focus (with_reducible assumption))))
         have ll1 : Blk v1 (w.heap.size + 1) 24 #[.int .i64 SW, .int .i64 SH, .slice SA sn sc] := by (repeat (first | with_reducible assumption | with_reducible exact Blk.new _ _ _ | with_reducible exact Blk.new' (World.size_alloc _ _) _ _ | (with_reducible refine Blk.new' ?_ _ _; focus (simp; done)) | with_reducible apply Blk.fill3 | (with_reducible refine Blk.far3' ?_ ?_; focus omega) | with_reducible refine Blk.alloc ?_ _ | with_reducible refine Blk.drew ?_ | (with_reducible apply Blk.below2; focus (with_reducible assumption))))
         obtain ⟨x11, x12, x13⟩ := kk1.cells3
         obtain ⟨x14, x15, x16⟩ := ll1.cells3
         have zz1 := hb1.size; try simp at zz1)
      | (go_at_call 58
         with_reducible refine Calls.mono (C2.out _ ?_) ?_
         focus (repeat (first | with_reducible assumption | with_reducible refine ArrB.alloc1 ?_ _ | with_reducible refine ArrB.drew1 ?_ | (with_reducible apply ArrB.fillN; (focus (with_reducible assumption)); (focus omega)) | (with_reducible apply ArrB.fillL; (focus (with_reducible assumption)); (focus (first | omega | (simp; done) | (simp; omega)))) | (with_reducible apply ArrB.to'; focus (with_reducible assumption))))
         rintro e v2 ⟨rfl, hb2⟩
         have kk2 : Blk v2 w.heap.size 24 #[.int .i64 W, .int .i64 H, .slice A n c] := by (repeat (first | with_reducible assumption | with_reducible exact Blk.new _ _ _ | with_reducible exact Blk.new' (World.size_alloc _ _) _ _ | (with_reducible refine Blk.new' ?_ _ _; focus (simp; done)) | with_reducible apply Blk.fill3 | (with_reducible refine Blk.far3' ?_ ?_; focus omega) | with_reducible refine Blk.alloc ?_ _ | with_reducible refine Blk.drew ?_ | (with_reducible apply Blk.below2; focus (with_reducible assumption))))
         have ll2 : Blk v2 (w.heap.size + 1) 24 #[.int .i64 SW, .int .i64 SH, .slice SA sn sc] := by (repeat (first | with_reducible assumption | with_reducible exact Blk.new _ _ _ | with_reducible exact Blk.new' (World.size_alloc _ _) _ _ | (with_reducible refine Blk.new' ?_ _ _; focus (simp; done)) | with_reducible apply Blk.fill3 | (with_reducible refine Blk.far3' ?_ ?_; focus omega) | with_reducible refine Blk.alloc ?_ _ | with_reducible refine Blk.drew ?_ | (with_reducible apply Blk.below2; focus (with_reducible assumption))))
         obtain ⟨x21, x22, x23⟩ := kk2.cells3
         obtain ⟨x24, x25, x26⟩ := ll2.cells3
         have zz2 := hb2.size; try simp at zz2)
      | (go_at_call 85; with_reducible refine (or2_any _ _ _ _ (Blk.new _ _ _)).mono ?_; rintro e v3 ⟨rfl, rfl⟩))
    all_goals
      go_wp2_with fail
      go_meet
      exact ⟨rfl, by (repeat (first | with_reducible exact Below.refl _ _ | with_reducible assumption | with_reducible refine Below.drew ?_ | (with_reducible refine below_alloc' ?_ ?_; focus (first | omega | (simp; done) | (simp; omega))) | (with_reducible refine below_fill3' ?_ ?_; focus omega) | (with_reducible refine below_setCell' ?_ ?_; focus (first | omega | (simp; done) | (simp; omega))) | (with_reducible apply below_call'; (focus (with_reducible assumption)); (focus (first | omega | (simp; done) | (simp; omega))))))⟩
  case rest =>
  obtain ⟨rfl, hb2⟩ := hcut
  have b2 := below_call b1 b1.size hb2
  replace k1 := k1.below' hb2
  replace k2 := k2.below' hb2
  replace k3 := k3.below' hb2
  replace k4 := k4.below' hb2
  clear p1 p2 p3 q1 q2 q3 hb2 b1 C1 C2 HA HS
  obtain ⟨z, hzz⟩ : ∃ z, orE z1 z2 = z := ⟨_, rfl⟩
  rw [hzz]
  have HZ := Lib.hid hzz
  clear hzz
  by_cases h0 : z = 0
  · subst h0
    obtain ⟨e1, e2⟩ := orE_zero.1 HZ.out
    subst e1
    subst e2
    obtain ⟨hW1, hW2, hH1, hH2, -, -⟩ := chk_ok HZ1.out
    have FT := Lib.hid fun w' hL' => fits_st W H A AL n c K cL m ln w' hW2 hH2 hL' hm
    have RE : Hid (E = if stFits W H K m ln = false then 10 else if up < 0 ∨ SH ≤ up then 1 else if SW ≠ W then 2 else 0) := by
      show _ = _
      rw [← HE.out]; unfold resE; rw [HZ1.out, HZ2.out, HZ.out, if_neg (by simp)]
    cases hs : stFits W H K m ln with
    | false =>
      rw [hs] at RE FT
      have hE : E = 10 := by rw [RE.out, if_pos rfl]
      subst hE
      clear hs RE HE
      obtain ⟨p1, p2, p3⟩ := k1.cells3
      have p4 := k3.cells0
      go_wp2_with fail
      refine (FT.out _ (hL.below b2)).mono ?_
      rintro e w3 ⟨rfl, hb3⟩
      have b3 := below_call b2 b2.size hb3
      replace k1 := k1.below' hb3
      replace k2 := k2.below' hb3
      replace k3 := k3.below' hb3
      replace k4 := k4.below' hb3
      clear p1 p2 p3 p4 hb3 b2
      obtain ⟨r1, r2, r3⟩ := k4.cells3
      obtain ⟨f1, f2, f3⟩ := k4.frozen3
      have k9 := ((k4.set_ 0 (.int .i64 0)).set_ 1 (.int .i64 0)).set_ 2 (.slice none 0 0)
      obtain ⟨s1, s2, s3⟩ := Blk.cells3 (a := .int .i64 0) (b := .int .i64 0) (c := .slice none 0 0) k9
      go_wp2_with fail
      refine bodyPost_ret (v := .tuple #[noImg, .int .i64 10]) (by simp [results, Try.results45, go_sem, noImg, s1, s2, s3]) rfl ?_
      exact ⟨rfl, by (repeat (first | with_reducible exact Below.refl _ _ | with_reducible assumption | with_reducible refine Below.drew ?_ | (with_reducible refine below_alloc' ?_ ?_; focus (first | omega | (simp; done) | (simp; omega))) | (with_reducible refine below_fill3' ?_ ?_; focus omega) | (with_reducible refine below_setCell' ?_ ?_; focus (first | omega | (simp; done) | (simp; omega))) | (with_reducible apply below_call'; (focus (with_reducible assumption)); (focus (first | omega | (simp; done) | (simp; omega))))))⟩
    | true =>
      rw [hs] at RE FT
      by_cases hup : up < 0 ∨ SH ≤ up
      · have hE : E = 1 := by rw [RE.out, if_neg (by simp), if_pos hup]
        subst hE
        clear hs RE HE
        by_cases hu : up < 0
        · have d1 : decide (up < 0) = true := decide_eq_true hu
          clear hup
          obtain ⟨p1, p2, p3⟩ := k1.cells3
          have p4 := k3.cells0
          go_wp2_with fail
          refine (FT.out _ (hL.below b2)).mono ?_
          rintro e w3 ⟨rfl, hb3⟩
          have b3 := below_call b2 b2.size hb3
          replace k1 := k1.below' hb3
          replace k2 := k2.below' hb3
          replace k3 := k3.below' hb3
          replace k4 := k4.below' hb3
          clear p1 p2 p3 p4 hb3 b2
          obtain ⟨q1, q2, q3⟩ := k2.cells3
          obtain ⟨r1, r2, r3⟩ := k4.cells3
          obtain ⟨f1, f2, f3⟩ := k4.frozen3
          have k9 := ((k4.set_ 0 (.int .i64 0)).set_ 1 (.int .i64 0)).set_ 2 (.slice none 0 0)
          obtain ⟨s1, s2, s3⟩ := Blk.cells3 (a := .int .i64 0) (b := .int .i64 0) (c := .slice none 0 0) k9
          go_wp2_with fail
          refine bodyPost_ret (v := .tuple #[noImg, .int .i64 1]) (by simp [results, Try.results45, go_sem, noImg, s1, s2, s3]) rfl ?_
          exact ⟨rfl, by (repeat (first | with_reducible exact Below.refl _ _ | with_reducible assumption | with_reducible refine Below.drew ?_ | (with_reducible refine below_alloc' ?_ ?_; focus (first | omega | (simp; done) | (simp; omega))) | (with_reducible refine below_fill3' ?_ ?_; focus omega) | (with_reducible refine below_setCell' ?_ ?_; focus (first | omega | (simp; done) | (simp; omega))) | (with_reducible apply below_call'; (focus (with_reducible assumption)); (focus (first | omega | (simp; done) | (simp; omega))))))⟩
        · have d1 : decide (up < 0) = false := decide_eq_false hu
          have hu2 : SH ≤ up := by omega
          have d2 : decide (SH ≤ up) = true := decide_eq_true hu2
          have hu3 : 0 ≤ up := by omega
          clear hup hu
          obtain ⟨p1, p2, p3⟩ := k1.cells3
          have p4 := k3.cells0
          go_wp2_with fail
          refine (FT.out _ (hL.below b2)).mono ?_
          rintro e w3 ⟨rfl, hb3⟩
          have b3 := below_call b2 b2.size hb3
          replace k1 := k1.below' hb3
          replace k2 := k2.below' hb3
          replace k3 := k3.below' hb3
          replace k4 := k4.below' hb3
          clear p1 p2 p3 p4 hb3 b2
          obtain ⟨q1, q2, q3⟩ := k2.cells3
          obtain ⟨r1, r2, r3⟩ := k4.cells3
          obtain ⟨f1, f2, f3⟩ := k4.frozen3
          have k9 := ((k4.set_ 0 (.int .i64 0)).set_ 1 (.int .i64 0)).set_ 2 (.slice none 0 0)
          obtain ⟨s1, s2, s3⟩ := Blk.cells3 (a := .int .i64 0) (b := .int .i64 0) (c := .slice none 0 0) k9
          go_wp2_with fail
          refine bodyPost_ret (v := .tuple #[noImg, .int .i64 1]) (by simp [results, Try.results45, go_sem, noImg, s1, s2, s3]) rfl ?_
          exact ⟨rfl, by (repeat (first | with_reducible exact Below.refl _ _ | with_reducible assumption | with_reducible refine Below.drew ?_ | (with_reducible refine below_alloc' ?_ ?_; focus (first | omega | (simp; done) | (simp; omega))) | (with_reducible refine below_fill3' ?_ ?_; focus omega) | (with_reducible refine below_setCell' ?_ ?_; focus (first | omega | (simp; done) | (simp; omega))) | (with_reducible apply below_call'; (focus (with_reducible assumption)); (focus (first | omega | (simp; done) | (simp; omega))))))⟩
      · have hw : SW ≠ W := fun h => HE0.out (by rw [RE.out, if_neg (by simp), if_neg hup, if_neg (by simp [h])])
        have hE : E = 2 := by rw [RE.out, if_neg (by simp), if_neg hup, if_pos hw]
        subst hE
        have hw2 : (SW != W) = true := by simp [hw]
        have HW := Lib.hid hw
        have d1 : decide (up < 0) = false := decide_eq_false (by omega)
        have d2 : decide (SH ≤ up) = false := decide_eq_false (by omega)
        have hu1 : 0 ≤ up := by omega
        have hu2 : up < SH := by omega
        clear hs RE HE hup hw
        obtain ⟨p1, p2, p3⟩ := k1.cells3
        have p4 := k3.cells0
        go_wp2_with fail
        refine (FT.out _ (hL.below b2)).mono ?_
        rintro e w3 ⟨rfl, hb3⟩
        have b3 := below_call b2 b2.size hb3
        replace k1 := k1.below' hb3
        replace k2 := k2.below' hb3
        replace k3 := k3.below' hb3
        replace k4 := k4.below' hb3
        clear p1 p2 p3 p4 hb3 b2
        obtain ⟨q1, q2, q3⟩ := k2.cells3
        obtain ⟨p1, p2, p3⟩ := k1.cells3
        obtain ⟨r1, r2, r3⟩ := k4.cells3
        obtain ⟨f1, f2, f3⟩ := k4.frozen3
        have k9 := ((k4.set_ 0 (.int .i64 0)).set_ 1 (.int .i64 0)).set_ 2 (.slice none 0 0)
        obtain ⟨s1, s2, s3⟩ := Blk.cells3 (a := .int .i64 0) (b := .int .i64 0) (c := .slice none 0 0) k9
        go_wp2_with fail
        refine bodyPost_ret (v := .tuple #[noImg, .int .i64 2]) (by simp [results, Try.results45, go_sem, noImg, s1, s2, s3]) rfl ?_
        exact ⟨rfl, by (repeat (first | with_reducible exact Below.refl _ _ | with_reducible assumption | with_reducible refine Below.drew ?_ | (with_reducible refine below_alloc' ?_ ?_; focus (first | omega | (simp; done) | (simp; omega))) | (with_reducible refine below_fill3' ?_ ?_; focus omega) | (with_reducible refine below_setCell' ?_ ?_; focus (first | omega | (simp; done) | (simp; omega))) | (with_reducible apply below_call'; (focus (with_reducible assumption)); (focus (first | omega | (simp; done) | (simp; omega))))))⟩
  · have hE : E = z := by
      rw [← HE.out]; unfold resE; rw [HZ1.out, HZ2.out, HZ.out, if_pos h0]
    subst hE
    have hz2 : (E != 0) = true := by simp [h0]
    have HH := Lib.hid h0
    clear h0 HE
    obtain ⟨r1, r2, r3⟩ := k4.cells3
    obtain ⟨f1, f2, f3⟩ := k4.frozen3
    have k9 := ((k4.set_ 0 (.int .i64 0)).set_ 1 (.int .i64 0)).set_ 2 (.slice none 0 0)
    obtain ⟨s1, s2, s3⟩ := Blk.cells3 (a := .int .i64 0) (b := .int .i64 0) (c := .slice none 0 0) k9
    go_wp2_with fail
    refine bodyPost_ret (v := .tuple #[noImg, .int .i64 E]) (by simp [results, Try.results45, go_sem, noImg, s1, s2, s3]) rfl ?_
    exact ⟨rfl, by (repeat (first | with_reducible exact Below.refl _ _ | with_reducible assumption | with_reducible refine Below.drew ?_ | (with_reducible refine below_alloc' ?_ ?_; focus (first | omega | (simp; done) | (simp; omega))) | (with_reducible refine below_fill3' ?_ ?_; focus omega) | (with_reducible refine below_setCell' ?_ ?_; focus (first | omega | (simp; done) | (simp; omega))) | (with_reducible apply below_call'; (focus (with_reducible assumption)); (focus (first | omega | (simp; done) | (simp; omega))))))⟩
end Go.Proofs.Ytdimlpcbbkokiaa

/- Plain: a strip put back column by column. No program in sight. -/
namespace Go.Proofs.Ytdimlpcbbkokiaa
open Go.RowKit
set_option linter.unusedVariables false
/-- put back: the columns before x, and of column x the strip's rows above y -/
def rsP (W h : Int) (p q : Int → Int) (l : Nat → Int) (up x y : Int) : Int → Int := fun i =>
  if i % W < x ∨ (i % W = x ∧ i / W - l x.toNat + up < y) then resQ W 0 h p q l up i else p i
section
variable {W H h : Int} {p q : Int → Int} {l : Nat → Int} {up x y i : Int}
theorem resQ_out (hi : ¬ (0 ≤ i / W - l (i % W).toNat + up ∧ i / W - l (i % W).toNat + up < h)) : resQ W H h p q l up i = p i := by unfold resQ; rw [if_neg hi]
theorem resQ_H : resQ W H h p q l up i = resQ W 0 h p q l up i := rfl
theorem rsP_zero (hW : 0 < W) : rsP W h p q l up 0 0 i = p i := by
  have h1 : 0 ≤ i % W := Int.emod_nonneg _ (by omega)
  unfold rsP
  by_cases c : i % W < 0 ∨ (i % W = 0 ∧ i / W - l (0 : Int).toNat + up < 0)
  · rw [if_pos c]
    have c2 : i % W = 0 := by omega
    apply resQ_out
    rw [c2]; omega
  · rw [if_neg c]
theorem rsP_set (x0 : 0 ≤ x) (x1 : x < W) (y0 : 0 ≤ y) (y1 : y < h) : upd (rsP W h p q l up x y) ((l x.toNat - up + y) * W + x) (q (y * W + x)) i = rsP W h p q l up x (y + 1) i := by
  have a := idx_mod (y := l x.toNat - up + y) x0 x1
  have b := idx_div (y := l x.toNat - up + y) x0 x1
  unfold upd rsP
  by_cases e : i = (l x.toNat - up + y) * W + x
  · subst e
    rw [if_pos rfl, a, b, if_pos (.inr ⟨rfl, by omega⟩)]
    unfold resQ
    rw [a, b, if_pos (by omega), show l x.toNat - up + y - l x.toNat + up = y by omega]
  · rw [if_neg e]
    have hne : i % W = x → i / W ≠ l x.toNat - up + y := fun h3 h4 => e (by
      have := Int.emod_add_mul_ediv i W
      rw [h3, h4, Int.mul_comm] at this; omega)
    by_cases c : i % W < x ∨ (i % W = x ∧ i / W - l x.toNat + up < y)
    · rw [if_pos c, if_pos (by omega)]
    · rw [if_neg c, if_neg (by omega)]
theorem rsP_skip (hW : 0 < W) (h0 : 0 ≤ i) (hi : i < W * H) (hat : ¬ (0 ≤ l x.toNat - up + y ∧ l x.toNat - up + y < H)) : rsP W h p q l up x y i = rsP W h p q l up x (y + 1) i := by
  have h1 : i / W < H := Int.ediv_lt_of_lt_mul hW (by rw [Int.mul_comm]; exact hi)
  have h2 : 0 ≤ i / W := Int.ediv_nonneg h0 (by omega)
  unfold rsP
  by_cases c : i % W < x ∨ (i % W = x ∧ i / W - l x.toNat + up < y)
  · rw [if_pos c, if_pos (by omega)]
  · rw [if_neg c, if_neg (by omega)]
theorem rsP_col : rsP W h p q l up x h i = rsP W h p q l up (x + 1) 0 i := by
  unfold rsP
  by_cases c : i % W = x
  · rw [if_pos (.inl (by omega) : i % W < x + 1 ∨ _)]
    by_cases d : i / W - l x.toNat + up < h
    · rw [if_pos (.inr ⟨c, d⟩)]
    · rw [if_neg (by omega)]
      exact (resQ_out (by rw [c]; omega)).symm
  · by_cases d : i % W < x
    · rw [if_pos (.inl d), if_pos (.inl (by omega))]
    · rw [if_neg (by omega)]
      by_cases g : i % W < x + 1 ∨ (i % W = x + 1 ∧ i / W - l (x + 1).toNat + up < 0)
      · rw [if_pos g]
        exact (resQ_out (by
          have : i % W = x + 1 := by omega
          rw [this]; omega)).symm
      · rw [if_neg g]
theorem rsP_end (hW : 0 < W) : rsP W h p q l up W 0 i = resQ W 0 h p q l up i := by
  unfold rsP
  have h1 : i % W < W := Int.emod_lt_of_pos _ hW
  rw [if_pos (by omega)]
end
end Go.Proofs.Ytdimlpcbbkokiaa
