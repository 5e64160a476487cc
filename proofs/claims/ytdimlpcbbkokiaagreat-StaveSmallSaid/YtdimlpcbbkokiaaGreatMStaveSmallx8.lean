/- Texts of mine in build order: T52, B0, T53, T38, S11, T39, S12. Conditions: each theorem's own. -/
import Derived.Test.YtdimlpcbbkokiaaGreatMStaveSmallx7
import Derived.Deep.DeepCutAuto
import Derived.Deep.Cut
import Derived.Deep.CutBlock
import Derived.Laws.CopyOwn
import Derived.StillTailTactics
/- Walk: the runs that lines of staves meet (stave.Runs). -/
namespace Go.Proofs.YtdimlpcbbkokiaaGreat
open Go.RowKit Go.Shelf
set_option linter.unusedVariables false
attribute [local go_sem] Oper.semAt_some

/-- staves that came in -/
def StavesIn (w : World) (B : Nat) (A : Option Addr) (k : Nat) (K : Nat → Nat) (m : Nat → Nat → Nat) (ln : Nat → Nat → Nat → Int) : Prop :=
  ∀ i, i < k → ∃ b off AL cL, A = some ⟨b, off, none⟩ ∧ b < B ∧ w.cell? ⟨b, off + i, none⟩ = some (.slice AL (K i) cL) ∧ Lines w B AL (K i) (m i) (ln i)
theorem Lines.more {w : World} {B B' : Nat} {A : Option Addr} {K : Nat} {m : Nat → Nat} {ln : Nat → Nat → Int} (h : Lines w B A K m ln) (hB : B ≤ B') : Lines w B' A K m ln := by
  obtain ⟨vs, h1, h2⟩ := h
  exact ⟨vs, Arr.more h1 hB, fun i hi => by obtain ⟨A', c', e, ha⟩ := h2 i hi; exact ⟨A', c', e, ArrI.more ha hB⟩⟩
theorem Lines.belowB {w w' : World} {B : Nat} {A : Option Addr} {K : Nat} {m : Nat → Nat} {ln : Nat → Nat → Int} (h : Lines w B A K m ln) (hb : Below B w w') : Lines w' B A K m ln := by
  obtain ⟨vs, h1, h2⟩ := h
  exact ⟨vs, Arr.below h1 hb, fun i hi => by obtain ⟨A', c', e, ha⟩ := h2 i hi; exact ⟨A', c', e, ArrI.below ha hb⟩⟩
/-- a number in a cell -/
def cellN (w : World) (a : Addr) : Nat := match w.cell? a with | some v => (intOf v).toNat | none => 0
theorem cellN_of {w : World} {a : Addr} {n : Nat} (h : w.cell? a = some (.int .i64 n)) : cellN w a = n := by unfold cellN; rw [h]; rfl
theorem RunRow.base {w : World} {B B' : Nat} {v : Value} {l : List Rn} (h : RunRow w B v l) (hB : B' ≤ B) : RunRow w B' v l := ⟨h.1, h.2.imp id fun ⟨g, c, cur, a, b, r⟩ => ⟨g, c, cur, a, Nat.le_trans hB b, r⟩⟩
theorem rnAt_len (p : Int → Int) (W : Int) (H : Nat) (most : Int) (x y : Nat) : (rnAt p W H most x y).length ≤ 1 := by unfold rnAt; split <;> simp

set_option maxRecDepth 100000 in
set_option maxHeartbeats 4000000 in
theorem runs_gen (W most : Int) (H N : Nat) (A AS : Option Addr) (n c kS cS kF : Nat) (p : Int → Int) (K : Nat → Nat) (m : Nat → Nat → Nat) (ln : Nat → Nat → Nat → Int) (w : World)
    (hW : W = N) (hN : N ≤ 640) (hH : H ≤ 640) (hA : ArrB w w.heap.size A n p) (hn : n = N * H) (hp : ∀ i : Int, 0 ≤ i → i < n → p i = 0 ∨ p i = 1) (hk : kS ≤ 1000)
    (hS : StavesIn w w.heap.size AS kS K m ln) (hm : ∀ i j, i < kS → j < K i → m i j ≤ maxLen) (hkF : kF ≤ kS) (hfit : ∀ i, i < kF → stFits W H (K i) (m i) (ln i) = true) (hend : kF < kS → stFits W H (K kF) (m kF) (ln kF) = false) :
    Calls Tryz.prog 52 #[.agg #[.int .i64 W, .int .i64 H, .slice A n c], .slice AS kS cS, .int .i64 most] w fun e w' => (kF = kS ∧ ∃ v l, e = .returned (.tuple #[v, .int .i64 0]) ∧ RunRow w' w.heap.size v (dd l) ∧ l.Perm (colI p W H most ln N kS) ∧ l.Pairwise leR ∧ Below w.heap.size w w') ∨
      (kF < kS ∧ e = .returned (.tuple #[.slice none 0 0, .int .i64 10]) ∧ Below w.heap.size w w') := by
  have hn640 : n ≤ 409600 := by rw [hn]; exact Nat.mul_le_mul hN hH
  have CK := Lib.hid fun w' hA' => check_any W H A n c p w' hA' (by unfold maxLen; omega)
  have hchk : chk W H n p = 0 := chk_mk (by omega) (by omega) (by omega) (by omega) (by rw [hn, hW]; push_cast; rfl) fun i a b => by have := hp i a b; omega
  rw [hchk] at CK
  clear hchk
  have FT := Lib.hid fun i (hi : i < kS) AL cL w' hL => fits_st W H A AL n c (K i) cL (m i) (ln i) w' (by omega) (by omega) hL (fun j hj => hm i j hi hj)
  have HF := Lib.hid hfit
  have HM := Lib.hid hm
  have HP := Lib.hid hp
  have HNN := Lib.hid hn
  have HS := Lib.hid hS
  have HA := Lib.hid hA
  have HEND := Lib.hid hend
  have HW := Lib.hid hW
  have hw0 : 0 ≤ W := by omega
  have hw1 : W ≤ 640 := by omega
  obtain ⟨r0, hr0, hrz0, hrz1, hrz2⟩ := info_parts infoRun
  clear hS hm hfit hp hA hn hW hend
  go_enter Tryz.func52, Tryz.ntmps52
  go_wp2_with fail
  have k1 := Blk.new w 24 #[.int .i64 W, .int .i64 H, .slice A n c]
  have b1 : Below w.heap.size w (w.alloc (.cells #[.int .i64 W, .int .i64 H, .slice A n c] 24)) := (Below.refl _ _).alloc (Nat.le_refl _) _
  generalize w.alloc (.cells #[.int .i64 W, .int .i64 H, .slice A n c] 24) = w1 at *
  have ha1 := HA.out.to b1
  refine (CK.out w1 ha1).mono ?_
  rintro e w2 ⟨rfl, hb2⟩
  have k2 := k1.below' hb2
  have b2 := below_call b1 b1.size hb2
  obtain ⟨B, hB⟩ : ∃ B, w2.heap.size = B := ⟨_, rfl⟩
  have hgB : w.heap.size < B := by rw [← hB]; exact k2.lt
  clear k1 b1 ha1 hb2
  go_wp2_with fail
  go_loopw [24, 9] (fun s v9 wr => ∃ (i : Nat) (L : List Rn), i ≤ kF ∧ s = .int .i64 i ∧ RunRow wr B v9 L ∧ Below B w2 wr ∧ Hid (L = colI p W H most ln N i) ∧ L.length ≤ i * 3200) (fun s _ _ => kS - (intOf s).toNat)
  case atStart => exact ⟨0, [], by omega, rfl, RunRow.nil _ _, Below.refl _ _, Lib.hid rfl, by simp⟩
  case round =>
    obtain ⟨i, L, hi, rfl, hR, hb3, HL, hLl⟩ := hrel
    by_cases hlt : (i : Int) < kS
    · by_cases hlF : i < kF
      · obtain ⟨bS, oS, AL, cL, rfl, hbS, hcS, hLS⟩ := HS.out i (by omega)
        have b3 : Below w.heap.size w wr := b2.trans (hb3.mono (by omega))
        have hc3 := (b3.cell (p := ⟨bS, oS + i, none⟩) hbS).trans hcS
        have hL3 := (hLS.belowB b3).more b3.size
        have hK5 := (stFits_iff.1 (HF.out i (by omega))).1
        have FTi := Lib.hid fun cL w' hL => FT.out i (by omega) AL cL w' hL
        rw [HF.out i (by omega), hK5] at FTi
        rw [hK5] at hc3 hL3
        obtain ⟨ln1, hln1⟩ : ∃ l1, ln i = l1 := ⟨_, rfl⟩
        obtain ⟨m1, hm1⟩ : ∃ l1, m i = l1 := ⟨_, rfl⟩
        have FI := Lib.hid (stFits_iff.1 (HF.out i (by omega)))
        rw [hln1, hm1] at hL3 FTi FI
        have HLN1 := Lib.hid hln1; have HM1 := Lib.hid hm1
        have HLS := Lib.hid hL3
        rw [(stFits_iff.1 (HF.out i (by omega))).1, hln1, hm1] at hLS
        have HLL := Lib.hid hLS
        have k3 := k2.below' (hB ▸ hb3)
        obtain ⟨p1, p2, p3⟩ := k3.cells3
        clear hln1 hm1 hK5 hcS hLS hbS
        go_upto_region 8 with fail
        have k4 := k3.alloc (.cells #[.slice AL 5 cL] 40)
        have ks := Blk.new wr 40 #[.slice AL 5 cL]
        have bs : Below wr.heap.size wr (wr.alloc (.cells #[.slice AL 5 cL] 40)) := (Below.refl _ _).alloc (Nat.le_refl _) _
        obtain ⟨gs, hgs⟩ : ∃ g, wr.heap.size = g := ⟨_, rfl⟩
        generalize wr.alloc (.cells #[.slice AL 5 cL] 40) = w4 at *
        clear p1 p2 p3
        obtain ⟨p1, p2, p3⟩ := k4.cells3
        have s1 := ks.cells0
        rw [hgs] at s1
        go_wp2_with fail
        refine (FTi.out cL w4 (HLS.out.below bs)).mono ?_
        rintro e w5 ⟨rfl, hb5⟩
        have ks5 := ks.below' hb5
        have z5 := hb5.size
        have z3 := b3.size
        have hb5' : Below gs wr w5 := by rw [← hgs]; exact bs.trans (hb5.mono bs.size)
        have hB3 : B ≤ gs := by rw [← hgs, ← hB]; exact hb3.size |> fun h => hB ▸ h
        have b5 : Below B w2 w5 := hb3.trans (hb5'.mono hB3)
        have R5 := hR.below (hgs ▸ hb5')
        have r1 := ks5.cells0
        rw [hgs] at r1
        clear bs hb5 ks k4 k3 p1 p2 p3 s1 hb3 hR hL3 b3 hc3
        go_wp2_with fail
        clear r1 ks5 hb5'
        go_loopw [35, 9] (fun s v9 wr => ∃ (j : Nat) (L2 : List Rn), j ≤ 5 ∧ s = .int .i64 j ∧ RunRow wr B v9 L2 ∧ Below B w2 wr ∧ Hid (L2 = L ++ colJ p W H most ln1 N j) ∧ L2.length ≤ i * 3200 + j * 640) (fun s _ _ => 5 - (intOf s).toNat)
        case atStart => exact ⟨0, L, by omega, rfl, R5, b5, Lib.hid (by simp [colJ]), by omega⟩
        case round =>
          obtain ⟨j, L2, hj, rfl, hR2, hb6, HL2, hLl2⟩ := hrel
          clear R5 b5
          by_cases jlt : (j : Int) < 5
          · obtain ⟨bA, oA, A1, c1, rfl, hbA, hcA, haA⟩ := HLL.out.at_ (i := j) (by omega)
            have b6 : Below w.heap.size w wr := b2.trans (hb6.mono (by omega))
            have hc6 := (b6.cell (p := ⟨bA, oA + j, none⟩) hbA).trans hcA
            obtain ⟨⟨g1, g2, g3⟩, g4⟩ := isPathB_iff.1 (FI.out.2.1 j (by omega))
            have hmN : m1 j = N := by have := HW.out; omega
            rw [hmN] at hc6 haA g4
            obtain ⟨q, hq⟩ : ∃ q : Nat → Int, ln1 j = q := ⟨_, rfl⟩
            rw [hq] at haA g4
            have BD := Lib.hid fun (x : Nat) (hx : x < N) => (show 0 ≤ q x ∧ q x < H from by
              have h9 := stepB_iff.1 (g4 x (by omega) (by omega))
              simp only [Int.toNat_natCast] at h9
              exact ⟨h9.1, h9.2.1⟩)
            have HQ := Lib.hid hq
            have HAA := Lib.hid haA
            clear hq haA g4 g3 hmN hcA
            go_wp2_with fail
            go_loopw [41, 9] (fun s v9 wr => ∃ (x : Nat) (L3 : List Rn), x ≤ N ∧ s = .int .i64 x ∧ RunRow wr B v9 L3 ∧ Below B w2 wr ∧ Hid (L3 = L2 ++ colX p W H most q x) ∧ L3.length ≤ i * 3200 + j * 640 + x) (fun s _ _ => N - (intOf s).toNat)
            case atStart => exact ⟨0, L2, by omega, rfl, hR2, hb6, Lib.hid (by simp [colX]), by omega⟩
            case round =>
              obtain ⟨x, L3, hx, rfl, hR3, hb7, HL3, hLl3⟩ := hrel
              clear hR2 hb6 b6 hc6
              by_cases xlt : (x : Int) < N
              · obtain ⟨y, hy⟩ : ∃ y : Nat, q x = y := ⟨(q x).toNat, by have := BD.out x (by omega); omega⟩
                have hyH : y < H := by have := BD.out x (by omega); omega
                have b7 : Below w.heap.size w wr := b2.trans (hb7.mono (by omega))
                obtain ⟨bx, ox, rfl, hbx, hcx⟩ := ArrI.at_ HAA.out (i := (x : Int)) (by omega) (by omega)
                rw [Int.toNat_natCast, hy] at hcx
                have hcx7 := (b7.cell (p := ⟨bx, ox + x, none⟩) hbx).trans hcx
                have k7 := k2.below' (hB ▸ hb7)
                obtain ⟨p1, p2, p3⟩ := k7.cells3
                obtain ⟨e, he⟩ : ∃ e : Nat, (y : Int) * W + x = e := ⟨y * N + x, by rw [HW.out]; push_cast; rfl⟩
                have hen : e < n := by
                  have h8 := (idx_lt (x := x) (y := y) (W := W) (H := H) (by omega) (by have := HW.out; omega) (by omega) (by omega)).2.1
                  rw [he, HW.out] at h8
                  have h9 := HNN.out
                  have h10 : (n : Int) = (H : Int) * N := by rw [h9]; push_cast; exact Int.mul_comm _ _
                  omega
                have hPA := HA.out.to b7
                obtain ⟨bp, op, rfl, hbp, hcp⟩ := ArrB.at_ hPA (i := (e : Int)) (by omega) (by omega)
                rw [Int.toNat_natCast] at hcp
                have v1 : IntKind.i64.wrap ((y : Int) * W) = (y : Int) * W := IntWalk.i64_in _ (by have := Int.mul_nonneg (show (0 : Int) ≤ y by omega) hw0; omega)
                have v2 : IntKind.i64.wrap ((y : Int) * W + x) = (e : Int) := (IntWalk.i64_in _ (by omega)).trans he
                have HY := Lib.hid hy; have HE := Lib.hid he
                have HPV := Lib.hid (HP.out e (by omega) (by omega))
                have hen' : (e : Int) < n := by omega
                clear hy he hcx hbx
                by_cases hpe : p e = 0
                · rw [hpe] at hcp
                  have HPE := Lib.hid hpe
                  clear hpe
                  go_wp2_with fail
                  go_round
                  case rel => exact ⟨x + 1, L3, by omega, by go_num, hR3, hb7, Lib.hid (by
                    rw [HL3.out]
                    show L2 ++ colX p W H most q x = L2 ++ (colX p W H most q x ++ rnAt p W H most x (q x).toNat)
                    rw [HY.out, Int.toNat_natCast]
                    unfold rnAt
                    rw [HE.out, HPE.out, if_neg (by omega), List.append_nil]), by omega⟩
                  case measure => simp [intOf]; omega
                · have hp1 : p e = 1 := by have := HPV.out; omega
                  rw [hp1] at hcp
                  have HPE := Lib.hid hp1
                  clear hpe hp1
                  obtain ⟨gr, hgr⟩ : ∃ g, wr.heap.size = g := ⟨_, rfl⟩
                  have hgw : w.heap.size < gr := by rw [← hgr]; exact k7.lt
                  have hgB7 : B ≤ gr := by rw [← hgr, ← hB]; exact hb7.size |> fun h => hB ▸ h
                  go_upto_block 6 with fail
                  have kr := Blk.new wr 57 #[.int .i64 x, .int .i64 y, .int .i64 y]
                  have br : Below wr.heap.size wr (wr.alloc (.cells #[.int .i64 x, .int .i64 y, .int .i64 y] 57)) := (Below.refl _ _).alloc (Nat.le_refl _) _
                  have k8 := k7.below' br
                  have HB7 := Lib.hid hb7; have HR3 := Lib.hid hR3
                  have hA8 : ArrB _ wr.heap.size _ n p := ArrB.below hPA br
                  generalize wr.alloc (.cells #[.int .i64 x, .int .i64 y, .int .i64 y] 57) = w8 at *
                  have hsr := br.size
                  rw [hgr] at kr br hsr hA8
                  clear p1 p2 p3 hcx7 hcp k7 hR3 hb7 hPA
                  go_cut [61] from 61 to 82 (fun _ wx => Below gr w8 wx ∧ Blk wx gr 57 #[.int .i64 x, .int .i64 (topN p W x y : Nat), .int .i64 y])
                  case first =>
                    go_wp2_with fail
                    go_loopw [61] (fun _ wx => ∃ f : Nat, f ≤ y ∧ Hid (topN p W x f = topN p W x y) ∧ Below gr w8 wx ∧ Blk wx gr 57 #[.int .i64 x, .int .i64 f, .int .i64 y]) (fun _ wx => cellN wx ⟨gr, 1, none⟩)
                    case atStart => exact ⟨y, by omega, Lib.hid rfl, Below.refl _ _, kr⟩
                    case round =>
                      obtain ⟨f, hfy, HT, b9, kf⟩ := hrel
                      have k9 := k8.move (b9.block _ hgw)
                      obtain ⟨p1, p2, p3⟩ := k9.cells3
                      obtain ⟨c1, c2, c3⟩ := kf.cells3
                      have q2 := kf.frozen 1
                      have hA9 := ArrB.below hA8 b9
                      by_cases f0 : f = 0
                      · have HF0 : Hid (0 = topN p W x y) := by have := HT.out; rw [f0] at this; exact this
                        subst f0
                        have KF := Lib.hid kf
                        clear HT kf hA9
                        go_wp2_with fail
                        go_meet
                        exact ⟨b9, by rw [← HF0.out]; exact KF.out⟩
                      · obtain ⟨f', hf'⟩ : ∃ f', f = f' + 1 := ⟨f - 1, by omega⟩
                        have hf1 : (f : Int) > 0 := by omega
                        have u1 : IntKind.i64.wrap ((f : Int) - 1) = (f' : Int) := (IntWalk.i64_in _ (by omega)).trans (by omega)
                        have h8 := idx_lt (x := x) (y := f') (W := W) (H := H) (by omega) (by have := HW.out; omega) (by omega) (by omega)
                        obtain ⟨e2, he2⟩ : ∃ e2 : Nat, (f' : Int) * W + x = e2 := ⟨((f' : Int) * W + x).toNat, by omega⟩
                        have he2n : e2 < n := by
                          have h9 := HNN.out
                          have h10 : (n : Int) = (H : Int) * N := by rw [h9]; push_cast; exact Int.mul_comm _ _
                          rw [he2, HW.out] at h8
                          omega
                        have u2 : IntKind.i64.wrap ((f' : Int) * W) = (f' : Int) * W := IntWalk.i64_in _ (by omega)
                        have u3 : IntKind.i64.wrap ((f' : Int) * W + x) = (e2 : Int) := (IntWalk.i64_in _ (by omega)).trans he2
                        obtain ⟨bp', op', eA, hbp', hcp'⟩ := ArrB.at_ hA9 (i := (e2 : Int)) (by omega) (by omega)
                        cases eA
                        rw [Int.toNat_natCast] at hcp'
                        have he2n' : (e2 : Int) < n := by omega
                        have HPV2 := HP.out e2 (by omega) (by omega)
                        have HE2 := Lib.hid he2
                        have HF2 := Lib.hid hf'
                        have KF := Lib.hid kf
                        have B9 := Lib.hid b9
                        have HN0 := cellN_of c2
                        clear h8 he2 hf' hA9 f0 kf
                        rcases HPV2 with hv | hv
                        · rw [hv] at hcp'
                          have HV := Lib.hid hv
                          clear hv
                          go_wp2_with fail
                          go_meet
                          have ht : topN p W x y = f := by
                            rw [← HT.out, HF2.out]
                            show (if p ((f' : Int) * W + x) = 1 then _ else f' + 1) = _
                            rw [HE2.out, HV.out, if_neg (by omega)]
                          exact ⟨B9.out, by rw [ht]; exact KF.out⟩
                        · rw [hv] at hcp'
                          have HV := Lib.hid hv
                          clear hv
                          go_wp2_with fail
                          refine ⟨⟨f', by have := HF2.out; omega, Lib.hid ?_, B9.out.setCell (Nat.le_refl gr) _, KF.out.set_ 1 (.int .i64 f')⟩, ?_⟩
                          · rw [← HT.out, HF2.out]
                            show _ = (if p ((f' : Int) * W + x) = 1 then _ else f' + 1)
                            rw [HE2.out, HV.out, if_pos rfl]
                          · have c9 := (KF.out.set_ 1 (.int .i64 f')).cell 1
                            have h9 : cellN (wr.setCell ⟨gr, 1, none⟩ (.int .i64 f')) ⟨gr, 1, none⟩ = f' := cellN_of c9
                            rw [h9, HN0]
                            have := HF2.out; omega
                  case rest =>
                    obtain ⟨b9, kf⟩ := hcut
                    have ht := topN_le p W x y
                    obtain ⟨tp, htp⟩ : ∃ tp : Nat, topN p W x y = tp := ⟨_, rfl⟩
                    rw [htp] at kf ht
                    have HTP := Lib.hid htp
                    clear htp
                    have k9 := k8.move (b9.block _ hgw)
                    have hA9 := ArrB.below hA8 b9
                    go_upto_block 8 with fail
                    go_cut [83] from 83 to 107 (fun _ wx => Below gr w8 wx ∧ Blk wx gr 57 #[.int .i64 x, .int .i64 tp, .int .i64 (botN p W x (H - 1 - y) y : Nat)])
                    case first =>
                      go_wp2_with fail
                      go_loopw [83] (fun _ wx => ∃ t : Nat, y ≤ t ∧ t < H ∧ Hid (botN p W x (H - 1 - t) t = botN p W x (H - 1 - y) y) ∧ Below gr w8 wx ∧ Blk wx gr 57 #[.int .i64 x, .int .i64 tp, .int .i64 t]) (fun _ wx => H - cellN wx ⟨gr, 2, none⟩)
                      case atStart => exact ⟨y, by omega, hyH, Lib.hid rfl, b9, kf⟩
                      case round =>
                        obtain ⟨t, hyt, htH, HT, b10, kt⟩ := hrel
                        clear k9 hA9 b9 kf
                        have k10 := k8.move (b10.block _ hgw)
                        obtain ⟨p1, p2, p3⟩ := k10.cells3
                        obtain ⟨c1, c2, c3⟩ := kt.cells3
                        have q2 := kt.frozen 2
                        have hA10 := ArrB.below hA8 b10
                        have uH : IntKind.i64.wrap ((H : Int) - 1) = (H : Int) - 1 := IntWalk.i64_in _ (by omega)
                        by_cases f0 : (t : Int) < (H : Int) - 1
                        · have u1 : IntKind.i64.wrap ((t : Int) + 1) = ((t + 1 : Nat) : Int) := (IntWalk.i64_in _ (by omega)).trans (by omega)
                          have h8 := idx_lt (x := x) (y := ((t + 1 : Nat) : Int)) (W := W) (H := H) (by omega) (by have := HW.out; omega) (by omega) (by omega)
                          obtain ⟨e2, he2⟩ : ∃ e2 : Nat, ((t + 1 : Nat) : Int) * W + x = e2 := ⟨(((t + 1 : Nat) : Int) * W + x).toNat, by omega⟩
                          have he2n : e2 < n := by
                            have h9 := HNN.out
                            have h10 : (n : Int) = (H : Int) * N := by rw [h9]; push_cast; exact Int.mul_comm _ _
                            rw [he2, HW.out] at h8
                            omega
                          obtain ⟨t', ht'⟩ : ∃ t', t + 1 = t' := ⟨_, rfl⟩
                          rw [ht'] at u1 h8 he2
                          have u2 : IntKind.i64.wrap ((t' : Int) * W) = (t' : Int) * W := IntWalk.i64_in _ (by omega)
                          have u3 : IntKind.i64.wrap ((t' : Int) * W + x) = (e2 : Int) := (IntWalk.i64_in _ (by omega)).trans he2
                          obtain ⟨bp', op', eA, hbp', hcp'⟩ := ArrB.at_ hA10 (i := (e2 : Int)) (by omega) (by omega)
                          cases eA
                          rw [Int.toNat_natCast] at hcp'
                          have he2n' : (e2 : Int) < n := by omega
                          have HPV2 := HP.out e2 (by omega) (by omega)
                          have HE2 := Lib.hid he2
                          have HF2 := Lib.hid ht'
                          have KF := Lib.hid kt
                          have B9 := Lib.hid b10
                          have HN0 := cellN_of c3
                          have HB := Lib.hid (show botN p W x (H - 1 - t) t = if p ((t' : Int) * W + x) = 1 then botN p W x (H - 1 - t') t' else t from by
                            obtain ⟨k, hk⟩ : ∃ k, H - 1 - t = k + 1 := ⟨H - 1 - t - 1, by omega⟩
                            rw [hk, show H - 1 - t' = k by omega, ← ht']
                            push_cast
                            rfl)
                          clear h8 he2 ht' hA10 kt
                          rcases HPV2 with hv | hv
                          · rw [hv] at hcp'
                            have HV := Lib.hid hv
                            clear hv
                            go_wp2_with fail
                            go_meet
                            have ht : botN p W x (H - 1 - y) y = t := by
                              rw [← HT.out, HB.out, HE2.out, HV.out, if_neg (by omega)]
                            exact ⟨B9.out, by rw [ht]; exact KF.out⟩
                          · rw [hv] at hcp'
                            have HV := Lib.hid hv
                            clear hv
                            go_wp2_with fail
                            refine ⟨⟨t', by have := HF2.out; omega, by have := HF2.out; omega, Lib.hid ?_, B9.out.setCell (Nat.le_refl gr) _, KF.out.set_ 2 (.int .i64 t')⟩, ?_⟩
                            · rw [← HT.out, HB.out, HE2.out, HV.out, if_pos rfl]
                            · have c9 := (KF.out.set_ 2 (.int .i64 t')).cell 2
                              have h9 : cellN (wr.setCell ⟨gr, 2, none⟩ (.int .i64 t')) ⟨gr, 2, none⟩ = t' := cellN_of c9
                              rw [h9, HN0]
                              have := HF2.out; omega
                        · have htl : t = H - 1 := by omega
                          have HF0 : Hid (botN p W x (H - 1 - y) y = t) := Lib.hid (by
                            rw [← HT.out, show H - 1 - t = 0 by omega]; rfl)
                          have KF := Lib.hid kt
                          have f1 : ¬ (t : Int) < (H : Int) - 1 := f0
                          clear HT kt hA10 htl
                          go_wp2_with fail
                          go_meet
                          exact ⟨b10, by rw [HF0.out]; exact KF.out⟩
                    case rest =>
                      clear b9 k9 kf hA9
                      obtain ⟨b9, kf⟩ := hcut
                      have k9 := k8.move (b9.block _ hgw)
                      have hbd := botN_bd p W x (H - 1 - y) y
                      obtain ⟨bo, hbo⟩ : ∃ bo : Nat, botN p W x (H - 1 - y) y = bo := ⟨_, rfl⟩
                      rw [hbo] at kf hbd
                      have HBO := Lib.hid hbo
                      clear hbo
                      have hL3l : L3.length ≤ 1000000000 := by omega
                      have R9 := RunRow.below HR3.out (show Below _ _ _ from by rw [hgr]; exact br.trans b9)
                      have b11 := HB7.out.trans ((br.trans b9).mono hgB7)
                      have z11 := b11.size
                      have u1 : IntKind.i64.wrap ((bo : Int) - tp) = (bo : Int) - tp := IntWalk.i64_in _ (by omega)
                      obtain ⟨c1, c2, c3⟩ := kf.cells3
                      clear b9 k9
                      by_cases hms : (bo : Int) - tp < most
                      · go_wp2_with (at_builtin; refine wpList_append_own _ rfl (.tmp 115) (.tmp 117) 53 rfl B 57 r0 (.agg #[.int .i64 0, .int .i64 0, .int .i64 0]) 3 24 Tryz.underlying53 hr0 hrz0 hrz1 hrz2 rfl (by decide) _ _ _ rfl (R9.alloc _) ⟨wc.heap.size, 0, none⟩ 1 1 [.int .i64 x, .int .i64 tp, .int .i64 bo] rfl rfl ?c1 ?c2 ?c3 ?c4 ?c5 ?_)
                        case c1 =>
                          intro j u hj
                          match j, hj with
                          | 0, hj => cases hj; exact (Blk.new wc 57 #[.int .i64 x, .int .i64 tp, .int .i64 bo]).cell 0
                          | 1, hj => cases hj; exact (Blk.new wc 57 #[.int .i64 x, .int .i64 tp, .int .i64 bo]).cell 1
                          | 2, hj => cases hj; exact (Blk.new wc 57 #[.int .i64 x, .int .i64 tp, .int .i64 bo]).cell 2
                          | j + 3, hj => simp at hj
                        case c2 => simp [Value.oneCell']
                        case c3 => unfold maxLen; omega
                        case c4 => omega
                        case c5 => simp; omega
                        intro v' w12 own12 hg12 _
                        have b12 : Below B w2 w12 := (b11.alloc (by omega) _).grown hg12 (by simp; omega) (fun j hj => (own_ge R9 hj).1)
                        have R12 : RunRow w12 B v' (L3 ++ [((x : Int), (tp : Int), (bo : Int))]) := by
                          unfold RunRow
                          rw [flatR_snoc, List.length_append]
                          exact own12
                        have HMS := Lib.hid hms
                        clear own12 hg12 hms
                        go_wp2
                        go_round
                        case rel => exact ⟨x + 1, _, by omega, by go_num, R12, b12, Lib.hid (by
                          rw [HL3.out]
                          show L2 ++ colX p W H most q x ++ _ = L2 ++ (colX p W H most q x ++ rnAt p W H most x (q x).toNat)
                          rw [HY.out, Int.toNat_natCast]
                          unfold rnAt
                          rw [HE.out, HPE.out, HTP.out, HBO.out, if_pos ⟨rfl, HMS.out⟩, List.append_assoc]), by simp; omega⟩
                        case measure => simp [intOf]; omega
                      · have HMS := Lib.hid hms
                        go_wp2_with fail
                        go_round
                        case rel => exact ⟨x + 1, L3, by omega, by go_num, R9, b11, Lib.hid (by
                          rw [HL3.out]
                          show L2 ++ colX p W H most q x = L2 ++ (colX p W H most q x ++ rnAt p W H most x (q x).toNat)
                          rw [HY.out, Int.toNat_natCast]
                          unfold rnAt
                          rw [HE.out, HPE.out, HTP.out, HBO.out, if_neg (fun h => HMS.out h.2), List.append_nil]), by omega⟩
                        case measure => simp [intOf]; omega
              · have hxN : x = N := by omega
                have HXN := Lib.hid hxN
                clear hxN
                go_wp2
                go_round
                case rel => exact ⟨j + 1, L3, by omega, by go_num, hR3, hb7, Lib.hid (by rw [HL3.out, HL2.out, HXN.out, ← HQ.out, List.append_assoc]; rfl), by omega⟩
                case measure => simp [intOf]; omega
          · have hj5 : j = 5 := by omega
            have HJ5 := Lib.hid hj5
            clear hj5
            go_wp2
            go_round
            case rel => exact ⟨i + 1, L2, by omega, by go_num, hR2, hb6, Lib.hid (by rw [HL2.out, HL.out, HJ5.out, ← HLN1.out]; rfl), by omega⟩
            case measure => simp [intOf]; omega
      · have hiF : i = kF := by omega
        subst hiF
        obtain ⟨bS, oS, AL, cL, rfl, hbS, hcS, hLS⟩ := HS.out i (by omega)
        have b3 : Below w.heap.size w wr := b2.trans (hb3.mono (by omega))
        have hc3 := (b3.cell (p := ⟨bS, oS + i, none⟩) hbS).trans hcS
        have hL3 := (hLS.belowB b3).more b3.size
        have FTi := Lib.hid fun cL w' hL => FT.out i (by omega) AL cL w' hL
        rw [HEND.out (by omega)] at FTi
        have k3 := k2.below' (hB ▸ hb3)
        obtain ⟨p1, p2, p3⟩ := k3.cells3
        clear hcS hLS hbS
        go_upto_region 8 with fail
        have k4 := k3.alloc (.cells #[.slice AL (K i) cL] 40)
        have ks := Blk.new wr 40 #[.slice AL (K i) cL]
        have bs : Below wr.heap.size wr (wr.alloc (.cells #[.slice AL (K i) cL] 40)) := (Below.refl _ _).alloc (Nat.le_refl _) _
        have b4 := b3.trans (bs.mono b3.size)
        have hL4 := hL3.below bs
        generalize wr.alloc (.cells #[.slice AL (K i) cL] 40) = w4 at *
        clear p1 p2 p3
        obtain ⟨p1, p2, p3⟩ := k4.cells3
        have s1 := ks.cells0
        go_wp2_with fail
        refine (FTi.out cL w4 hL4).mono ?_
        rintro e w5 ⟨rfl, hb5⟩
        have b5 := below_call b4 b4.size hb5
        go_wp2
        refine bodyPost_ret (results_tmp2 rfl _ _ _) rfl ?_
        exact .inr ⟨by omega, rfl, b5⟩
    · have hik : i = kS := by omega
      have hkk : kF = kS := by omega
      rw [hik] at HL hLl
      have hL32 : L.length ≤ 1000000000 := by omega
      have zz := hb3.size
      have hSm : ∀ r ∈ L, Small r.1 ∧ Small r.2.1 := fun r hr => by
        rw [HL.out, mem_colI] at hr
        obtain ⟨i', j', x', a1, a2, a3, hr⟩ := hr
        obtain ⟨-, -, rfl⟩ := mem_rnAt.1 hr
        obtain ⟨⟨g1, g2, g3⟩, g4⟩ := isPathB_iff.1 ((stFits_iff.1 (HF.out i' (by omega))).2.1 j' (by omega))
        have hw9 := HW.out
        have h9 := stepB_iff.1 (g4 x' (by omega) (by omega))
        simp only [Int.toNat_natCast] at h9
        have t9 := topN_le p W x' (ln i' j' x').toNat
        unfold Small
        refine ⟨⟨?_, ?_⟩, ?_, ?_⟩ <;> simp only <;> omega
      have hBr : B ≤ wr.heap.size := by rw [← hB]; exact hb3.size |> fun h => hB ▸ h
      have b3 : Below w.heap.size w wr := b2.trans (hb3.mono (by omega))
      go_wp2_with fail
      refine (sortRow_any B _ L wr hR hBr hSm hL32).mono ?_
      rintro e w7 ⟨rfl, L7, hp7, hs7, hR7, hb7⟩
      have z7 := hb7.size
      have hl7 := hp7.length_eq
      go_wp2_with fail
      refine (compactRow_any B _ L7 w7 hR7 (Nat.le_trans hBr z7) (by omega)).mono ?_
      rintro e w8 ⟨v8, rfl, hR8, hb8⟩
      go_wp2
      refine bodyPost_ret (results_tmp2 rfl _ _ _) rfl ?_
      exact .inl ⟨hkk, _, L7, rfl, hR8.base (by omega), HL.out ▸ hp7, hs7, (b3.trans (hb7.mono (by omega))).trans (hb8.mono (by omega))⟩
theorem runs_okA (W most : Int) (H N : Nat) (A AS : Option Addr) (n c kS cS : Nat) (p : Int → Int) (K : Nat → Nat) (m : Nat → Nat → Nat) (ln : Nat → Nat → Nat → Int) (w : World)
    (hW : W = N) (hN : N ≤ 640) (hH : H ≤ 640) (hA : ArrB w w.heap.size A n p) (hn : n = N * H) (hp : ∀ i : Int, 0 ≤ i → i < n → p i = 0 ∨ p i = 1) (hk : kS ≤ 1000)
    (hS : StavesIn w w.heap.size AS kS K m ln) (hm : ∀ i j, i < kS → j < K i → m i j ≤ maxLen) (hfit : ∀ i, i < kS → stFits W H (K i) (m i) (ln i) = true) :
    Calls Tryz.prog 52 #[.agg #[.int .i64 W, .int .i64 H, .slice A n c], .slice AS kS cS, .int .i64 most] w fun e w' => ∃ v l, e = .returned (.tuple #[v, .int .i64 0]) ∧ RunRow w' w.heap.size v (dd l) ∧ l.Perm (colI p W H most ln N kS) ∧ l.Pairwise leR ∧ Below w.heap.size w w' :=
  (runs_gen W most H N A AS n c kS cS kS p K m ln w hW hN hH hA hn hp hk hS hm (Nat.le_refl _) hfit (fun h => by omega)).mono fun e w' h => by
    rcases h with ⟨-, h⟩ | ⟨h, -⟩
    · exact h
    · omega
theorem runs_unfit (W most : Int) (H N : Nat) (A AS : Option Addr) (n c kS cS kF : Nat) (p : Int → Int) (K : Nat → Nat) (m : Nat → Nat → Nat) (ln : Nat → Nat → Nat → Int) (w : World)
    (hW : W = N) (hN : N ≤ 640) (hH : H ≤ 640) (hA : ArrB w w.heap.size A n p) (hn : n = N * H) (hp : ∀ i : Int, 0 ≤ i → i < n → p i = 0 ∨ p i = 1) (hk : kS ≤ 1000)
    (hS : StavesIn w w.heap.size AS kS K m ln) (hm : ∀ i j, i < kS → j < K i → m i j ≤ maxLen) (hkF : kF < kS) (hfit : ∀ i, i < kF → stFits W H (K i) (m i) (ln i) = true) (hend : stFits W H (K kF) (m kF) (ln kF) = false) :
    Calls Tryz.prog 52 #[.agg #[.int .i64 W, .int .i64 H, .slice A n c], .slice AS kS cS, .int .i64 most] w fun e w' => e = .returned (.tuple #[.slice none 0 0, .int .i64 10]) ∧ Below w.heap.size w w' :=
  (runs_gen W most H N A AS n c kS cS kF p K m ln w hW hN hH hA hn hp hk hS hm (Nat.le_of_lt hkF) hfit (fun _ => hend)).mono fun e w' h => by
    rcases h with ⟨h, -⟩ | ⟨-, h⟩
    · omega
    · exact h
theorem runs_ok (W most : Int) (H N : Nat) (A AS : Option Addr) (n c kS cS : Nat) (p : Int → Int) (K : Nat → Nat) (m : Nat → Nat → Nat) (ln : Nat → Nat → Nat → Int) (w : World)
    (hW : W = N) (hN : N ≤ 640) (hH : H ≤ 640) (hA : ArrB w w.heap.size A n p) (hn : n = N * H) (hp : ∀ i : Int, 0 ≤ i → i < n → p i = 0 ∨ p i = 1) (hk : kS ≤ 1000)
    (hS : StavesIn w w.heap.size AS kS K m ln) (hm : ∀ i j, i < kS → j < K i → m i j ≤ maxLen) (hfit : ∀ i, i < kS → stFits W H (K i) (m i) (ln i) = true) :
    Calls Tryz.prog 52 #[.agg #[.int .i64 W, .int .i64 H, .slice A n c], .slice AS kS cS, .int .i64 most] w fun e w' => ∃ v l, e = .returned (.tuple #[v, .int .i64 0]) ∧ RunRow w' w.heap.size v (dd l) ∧ l.Perm (colI p W H most ln N kS) ∧ l.Pairwise leR ∧ Below w.heap.size w w' :=
  runs_okA W most H N A AS n c kS cS p K m ln w hW hN hH hA hn hp hk hS hm hfit
set_option maxHeartbeats 1000000 in
theorem runs_bad (W H most z : Int) (A AS : Option Addr) (n c kS cS : Nat) (p : Int → Int) (w : World) (hA : ArrB w w.heap.size A n p) (hn : n ≤ maxLen) (hE : chk W H n p = z) (hz : z ≠ 0) :
    Calls Tryz.prog 52 #[.agg #[.int .i64 W, .int .i64 H, .slice A n c], .slice AS kS cS, .int .i64 most] w fun e w' => e = .returned (.tuple #[.slice none 0 0, .int .i64 z]) ∧ Below w.heap.size w w' := by
  have CK := Lib.hid fun w' hA' => check_any W H A n c p w' hA' hn
  rw [hE] at CK
  have hb : (z != 0) = true := by simp [hz]
  have HZ := Lib.hid hz; clear hz hE
  go_enter Tryz.func52, Tryz.ntmps52
  go_wp2_with fail
  refine (CK.out _ (hA.to (by (repeat (first | exact Below.refl _ _ | assumption | refine Below.drew ?_ | refine below_drewN ?_ _ | refine Below.alloc ?_ (by first | omega | (simp; done) | (simp; omega)) _ | refine Below.setCell ?_ (by first | omega | (simp; done) | (simp; omega)) _ | refine below_setRow ?_ (by first | omega | (simp; done) | (simp; omega)) _ ))))).mono ?_
  rintro e w1 ⟨rfl, hb1⟩
  have b1 : Below w.heap.size w w1 := below_call (by (repeat (first | exact Below.refl _ _ | assumption | refine Below.drew ?_ | refine below_drewN ?_ _ | refine Below.alloc ?_ (by first | omega | (simp; done) | (simp; omega)) _ | refine Below.setCell ?_ (by first | omega | (simp; done) | (simp; omega)) _ | refine below_setRow ?_ (by first | omega | (simp; done) | (simp; omega)) _ ))) (by simp; try omega) hb1
  go_wp2
  refine bodyPost_ret (results_tmp2 rfl _ _ _) rfl ?_
  exact ⟨rfl, b1⟩
end Go.Proofs.YtdimlpcbbkokiaaGreat

/- Plain: an image that is made, or none, with an error. No program in sight. -/
namespace Go.Proofs.YtdimlpcbbkokiaaGreat
open Go.RowKit
set_option linter.unusedVariables false
/-- an image over memory made by the call, and an error -/
def OutT (w w' : World) (E W H : Int) (N : Nat) (q : Int → Int) (v : Value) : Prop := ∃ A c, v = .tuple #[.agg #[.int .i64 W, .int .i64 H, .slice A N c], .int .i64 E] ∧ (∀ a, A = some a → w.heap.size ≤ a.block) ∧ ArrB w' w'.heap.size A N q
/-- the sides of an image that is made, or of none -/
def RSize (E W h W2 H2 : Int) (N : Nat) : Prop := (E = 0 → W2 = W ∧ H2 = h ∧ (N : Int) = W * h) ∧ (E ≠ 0 → W2 = 0 ∧ H2 = 0 ∧ N = 0)
theorem rsize_ex (E W h : Int) (hp : E = 0 → 0 ≤ W * h) : ∃ W2 H2 N, RSize E W h W2 H2 N := by
  by_cases hE : E = 0
  · exact ⟨W, h, (W * h).toNat, fun _ => ⟨rfl, rfl, Int.toNat_of_nonneg (hp hE)⟩, fun h => absurd hE h⟩
  · exact ⟨0, 0, 0, fun h => absurd h hE, fun _ => ⟨rfl, rfl, rfl⟩⟩
theorem rsize_le {E W h W2 H2 : Int} {N : Nat} (hs : RSize E W h W2 H2 N) (hb : E = 0 → 0 ≤ W ∧ W ≤ 640 ∧ 0 ≤ h ∧ h ≤ 640) : N ≤ 409600 := by
  by_cases hE : E = 0
  · obtain ⟨-, -, h1⟩ := hs.1 hE
    obtain ⟨a, b, c, d⟩ := hb hE
    have := (area_bd a b c d).2
    omega
  · obtain ⟨-, -, h1⟩ := hs.2 hE
    omega
theorem outT_bad {w w' : World} {E W h W2 H2 : Int} {N : Nat} {q : Int → Int} (hs : RSize E W h W2 H2 N) (hE : E ≠ 0) : OutT w w' E W2 H2 N q (.tuple #[noImg, .int .i64 E]) := by
  obtain ⟨rfl, rfl, rfl⟩ := hs.2 hE
  exact ⟨none, 0, rfl, (fun _ h => by cases h), ArrB.nil⟩
theorem OutN.outT {w w' : World} {W H : Int} {N : Nat} {q : Int → Int} {v : Value} (h : OutN w w' W H N q v) : OutT w w' 0 W H N q (.tuple #[v, .int .i64 0]) := by
  obtain ⟨g, rfl, hg, hk⟩ := h
  exact ⟨_, _, rfl, (fun a e => by cases e; exact hg), hk.arrB hk.lt⟩
theorem OutT.conv {w w' : World} {E W H : Int} {N : Nat} {q r : Int → Int} {v : Value} (h : OutT w w' E W H N q v) (he : ∀ i : Int, 0 ≤ i → i < N → q i = r i) : OutT w w' E W H N r v := by
  obtain ⟨A, c, rfl, hg, ha⟩ := h
  exact ⟨A, c, rfl, hg, ha.congr he⟩
end Go.Proofs.YtdimlpcbbkokiaaGreat

/- Walk: an image without the line runs of staves (stave.Remove), when the image is fine and all staves fit. -/
namespace Go.Proofs.YtdimlpcbbkokiaaGreat
open Go.RowKit Go.Shelf
set_option linter.unusedVariables false
attribute [local go_sem] Oper.semAt_some

theorem StavesIn.to {w w' : World} {A : Option Addr} {k : Nat} {K : Nat → Nat} {m : Nat → Nat → Nat} {ln : Nat → Nat → Nat → Int} (h : StavesIn w w.heap.size A k K m ln) (hb : Below w.heap.size w w') : StavesIn w' w'.heap.size A k K m ln := fun i hi => by
  obtain ⟨b, off, AL, cL, rfl, h1, h2, h3⟩ := h i hi
  exact ⟨b, off, AL, cL, rfl, Nat.lt_of_lt_of_le h1 hb.size, (hb.cell (p := ⟨b, off + i, none⟩) h1).trans h2, (h3.belowB hb).more hb.size⟩
theorem RunRow.cells {w : World} {B : Nat} {v : Value} {l : List Rn} (h : RunRow w B v l) : ∃ A c, v = .slice A l.length c ∧ (∀ a, A = some a → B ≤ a.block) ∧ RunArr w A l := by
  by_cases hl : l = []
  · obtain ⟨A, c, e, -⟩ := h.val
    subst hl
    rcases h.2 with ⟨rfl, -⟩ | ⟨g, c2, cur, rfl, hb, -⟩
    · exact ⟨none, 0, rfl, (fun a e => by cases e), fun h => absurd rfl h⟩
    · exact ⟨_, _, rfl, (fun a e => by cases e; exact hb), fun h => absurd rfl h⟩
  · obtain ⟨g, c, cs, rfl, hc, hg, hk, hsz, hm, ht⟩ := h.blk hl
    refine ⟨_, _, rfl, (fun a e => by cases e; exact hg), fun _ => ⟨g, rfl, hk.lt, fun i r hi => ?_⟩⟩
    have hil : i < l.length := (List.getElem?_eq_some_iff.1 hi).1
    obtain ⟨c1, c2, c3⟩ := (runC_of ht).cells hk hil
    have hg2 : l.toArray[i]! = r := by
      have := List.getElem?_eq_some_iff.1 hi
      simp [this.1, this.2]
    rw [hg2] at c1 c2 c3
    exact ⟨c1, c2, c3⟩
theorem strike_congr {l l' : List Rn} {W : Int} {p : Int → Int} (h : ∀ r, r ∈ l ↔ r ∈ l') (i : Int) : strike l W p i = strike l' W p i := by
  unfold strike
  have e : l.any (fun r => hitB r W i) = l'.any (fun r => hitB r W i) := by
    apply Bool.eq_iff_iff.2
    rw [List.any_eq_true, List.any_eq_true]
    exact ⟨fun ⟨r, a, b⟩ => ⟨r, (h r).1 a, b⟩, fun ⟨r, a, b⟩ => ⟨r, (h r).2 a, b⟩⟩
  rw [e]

theorem but_setRow {w : World} {g : Nat} (cs : Array Value) : But w.heap.size g w (w.setRow g cs) :=
  ⟨rfl, rfl, rfl, by simp [World.setRow], fun k _ hk => setRow_other w g k cs hk⟩
/-- all bytes of a slice copied over a block of so many -/
theorem wpList_copy_all {P : Program} {w : World} {ops : Array Oper} {rest : List Oper} {o : Oper} {a : Act} {Q : Exit → Act → World → Prop} (hgd : o.guard = none) (d s : Operand) (dT sT : TypeId)
    (ho : o.op = .call { callee := .builtin .copy, args := #[d, s], argTypes := #[dT, sT] }) (elem : TypeId) (hu : P.underlying dT = some (.slice elem)) (hsz : (P.info? elem).map (·.size) = some 1)
    (g n dCap sCap B : Nat) (A : Option Addr) (hd : a.eval d = .slice (some ⟨g, 0, none⟩) n dCap) (hs : a.eval s = .slice A n sCap)
    (p q : Int → Int) (t : TypeId) (hg : Blk w g t (u8s n q)) (hA : ArrB w B A n p)
    (h : ∀ w', Hid (Blk w' g t (u8s n p)) → Hid (But w.heap.size g w w') → wpList P ops Q rest (a.put o.dst (goInt n)) w') : wpList P ops Q (o :: rest) a w := by
  have e1 : (u8s n p).toList.length = n := by rw [Array.length_toList, u8s_size]
  have e2 : (u8s n q).toList.length = n := by rw [Array.length_toList, u8s_size]
  by_cases h0 : n = 0
  · subst h0
    refine wpList_copy_nothing hgd d s dT sT ho elem hu hsz _ _ _ _ _ _ hd hs rfl ?_
    exact h w (Lib.hid (hg.u8conv fun j a b => by omega)) (Lib.hid (But.refl _ (Nat.le_refl _)))
  · obtain ⟨b, off, rfl, hb, hc⟩ := hA.fn (by omega)
    have X := wpList_copy_own (P := P) (w := w) (ops := ops) (rest := rest) (o := o) (a := a) (Q := Q) hgd d s dT sT ho elem hu hsz g 0 n dCap ⟨b, off, none⟩ n sCap hd hs (u8s n q) t hg (u8s n p).toList (by rw [e1]; exact (Nat.min_self n).symm) (fun j v hj => ?_) (by rw [e1, u8s_size]; omega) ?_ ?_
    · exact X
    · rw [Array.getElem?_toList] at hj
      have hjn : j < n := by
        have := (Array.getElem?_eq_some_iff.1 hj).1
        rw [u8s_size] at this; exact this
      have h2 := u8s_at (n := n) (q := p) (i := (j : Int)) (by omega) (by omega)
      rw [Int.toNat_natCast] at h2
      rw [h2] at hj
      cases hj
      have h5 := hc j (by omega) (by omega)
      rw [Int.toNat_natCast] at h5
      rw [show (⟨b, off, none⟩ : Addr).add j = ⟨b, off + j, none⟩ from by unfold Addr.add; split <;> simp_all]
      exact h5
    · have h3 := u8s_one n p
      rw [Array.all_eq_true_iff_forall_mem] at h3
      exact fun v hv => h3 v (by simpa using hv)
    · have e3 : ((u8s n q).toList.take 0 ++ ((u8s n p).toList ++ (u8s n q).toList.drop (0 + (u8s n p).toList.length))).toArray = u8s n p := by
        rw [List.take_zero, List.nil_append, List.drop_eq_nil_of_le (by rw [e1, e2]; omega), List.append_nil]
      rw [e3, e1]
      exact h _ (Lib.hid (hg.setRow _)) (Lib.hid (but_setRow _))

set_option maxRecDepth 100000 in
set_option maxHeartbeats 4000000 in
theorem remove_ok (W most : Int) (H N : Nat) (A AS : Option Addr) (n c kS cS : Nat) (p : Int → Int) (K : Nat → Nat) (m : Nat → Nat → Nat) (ln : Nat → Nat → Nat → Int) (w : World)
    (hW : W = N) (hN : N ≤ 640) (hH : H ≤ 640) (hA : ArrB w w.heap.size A n p) (hn : n = N * H) (hp : ∀ i : Int, 0 ≤ i → i < n → p i = 0 ∨ p i = 1) (hk : kS ≤ 1000)
    (hS : StavesIn w w.heap.size AS kS K m ln) (hm : ∀ i j, i < kS → j < K i → m i j ≤ maxLen) (hfit : ∀ i, i < kS → stFits W H (K i) (m i) (ln i) = true) :
    Calls Tryz.prog 54 #[.agg #[.int .i64 W, .int .i64 H, .slice A n c], .slice AS kS cS, .int .i64 most] w (New w fun v w' => OutT w w' 0 W H n (strike (colI p W H most ln N kS) W p) v) := by
  have hn640 : n ≤ 409600 := by rw [hn]; exact Nat.mul_le_mul hN hH
  have RU := Lib.hid fun w' hA' hS' => runs_ok W most H N A AS n c kS cS p K m ln w' hW hN hH hA' hn hp hk hS' hm hfit
  have hmk := makeB (n : Int) (by omega) (by omega)
  simp only [Int.toNat_natCast] at hmk
  -- the members of the list
  have MB := Lib.hid (fun (r : Rn) (hr : r ∈ colI p W H most ln N kS) => (show 0 ≤ r.1 ∧ r.1 < W ∧ 0 ≤ r.2.1 ∧ r.2.1 ≤ r.2.2 ∧ r.2.2 < H from by
    rw [mem_colI] at hr
    obtain ⟨i', j', x', a1, a2, a3, hr⟩ := hr
    obtain ⟨-, -, rfl⟩ := mem_rnAt.1 hr
    obtain ⟨⟨g1, g2, g3⟩, g4⟩ := isPathB_iff.1 ((stFits_iff.1 (hfit i' a1)).2.1 j' (by omega))
    have h9 := stepB_iff.1 (g4 x' (by omega) (by omega))
    simp only [Int.toNat_natCast] at h9
    obtain ⟨y, hy⟩ : ∃ y : Nat, ln i' j' x' = y := ⟨(ln i' j' x').toNat, by omega⟩
    simp only [hy, Int.toNat_natCast] at h9 ⊢
    have t9 := topN_le p W x' y
    have t8 := botN_bd p W x' (H - 1 - y) y
    refine ⟨?_, ?_, ?_, ?_, ?_⟩ <;> omega))
  obtain ⟨S0, hS0⟩ : ∃ S0, colI p W H most ln N kS = S0 := ⟨_, rfl⟩
  rw [hS0] at RU MB ⊢
  clear hS0
  have HW := Lib.hid hW; have HNN := Lib.hid hn; have HA := Lib.hid hA; have HS := Lib.hid hS
  have hw0 : 0 ≤ W := by omega
  have hw1 : W ≤ 640 := by omega
  clear hS hm hfit hp hA hn hW
  go_enter Tryz.func54, Tryz.ntmps54
  go_wp2_with fail
  have k1 : Blk ((w.alloc (.cells #[.int .i64 W, .int .i64 H, .slice A n c] 24)).alloc (.cells #[.int .i64 0, .int .i64 0, .slice none 0 0] 24)) w.heap.size 24 #[.int .i64 W, .int .i64 H, .slice A n c] := (Blk.new _ _ _).alloc _
  have k2 : Blk ((w.alloc (.cells #[.int .i64 W, .int .i64 H, .slice A n c] 24)).alloc (.cells #[.int .i64 0, .int .i64 0, .slice none 0 0] 24)) (w.heap.size + 1) 24 #[.int .i64 0, .int .i64 0, .slice none 0 0] := Blk.new' (by simp) _ _
  have b1 : Below w.heap.size w ((w.alloc (.cells #[.int .i64 W, .int .i64 H, .slice A n c] 24)).alloc (.cells #[.int .i64 0, .int .i64 0, .slice none 0 0] 24)) := by (repeat (first | exact Below.refl _ _ | assumption | refine Below.drew ?_ | refine below_drewN ?_ _ | refine Below.alloc ?_ (by first | omega | (simp; done) | (simp; omega)) _ | refine Below.setCell ?_ (by first | omega | (simp; done) | (simp; omega)) _ | refine below_setRow ?_ (by first | omega | (simp; done) | (simp; omega)) _ ))
  generalize (w.alloc (.cells #[.int .i64 W, .int .i64 H, .slice A n c] 24)).alloc (.cells #[.int .i64 0, .int .i64 0, .slice none 0 0] 24) = w1 at *
  refine (RU.out w1 (HA.out.to b1) (HS.out.to b1)).mono ?_
  rintro e w2 ⟨v, l0, rfl, hR, hpm, -, hb2⟩
  obtain ⟨L, hL⟩ : ∃ L, dd l0 = L := ⟨_, rfl⟩
  rw [hL] at hR
  have HML := Lib.hid (fun (r : Rn) => (show r ∈ L ↔ r ∈ S0 from by rw [← hL, mem_dd, hpm.mem_iff]))
  have hLl : L.length ≤ maxLen := by
    by_cases hl : L = []
    · rw [hl]; exact Nat.zero_le _
    · obtain ⟨_, _, _, -, h1, -, -, -, h2, -⟩ := hR.blk hl; omega
  obtain ⟨AL, cL, rfl, -, hRA⟩ := hR.cells
  have b2 := below_call b1 b1.size hb2
  replace k1 := k1.below' hb2
  replace k2 := k2.below' hb2
  clear hb2 b1 RU hpm hL hR
  have Z1 := k1.lt; have Z2 := k2.lt
  obtain ⟨p1, p2, p3⟩ := k1.cells3
  go_upto_region 4 with fail
  go_cut [10] (fun f wx => ∃ B g, f = .pointer (some ⟨B, 0, none⟩) ∧ Below w2.heap.size w2 wx ∧ w2.heap.size ≤ g ∧ g ≠ B ∧ w2.heap.size ≤ B ∧ Blk wx B 24 #[.int .i64 W, .int .i64 H, .slice (some ⟨g, 0, none⟩) n n] ∧ Blk wx g 5 (u8s n (fun _ => 0)))
  case first =>
    go_region_held3 (fun w' => w'.cell? ⟨w.heap.size, 0, none⟩ = some (.int .i64 W) ∧ w'.cell? ⟨w.heap.size, 1, none⟩ = some (.int .i64 H) ∧ w'.cell? ⟨w.heap.size, 2, none⟩ = some (.slice A n c))
      (simp [go_sem, *]) (fail)
    all_goals
      go_wp2_with fail
      go_meet
    · exact ⟨w2.heap.size + 1, w2.heap.size, rfl, by (repeat (first | exact Below.refl _ _ | assumption | refine Below.drew ?_ | refine below_drewN ?_ _ | refine Below.alloc ?_ (by first | omega | (simp; done) | (simp; omega)) _ | refine Below.setCell ?_ (by first | omega | (simp; done) | (simp; omega)) _ | refine below_setRow ?_ (by first | omega | (simp; done) | (simp; omega)) _ )), by omega, by omega, by omega, (Blk.new' (by simp) _ _).drew, ((Blk.new _ _ _).alloc _).drew⟩
    · exact ⟨w2.heap.size, w2.heap.size + 1, rfl, by (repeat (first | exact Below.refl _ _ | assumption | refine Below.drew ?_ | refine below_drewN ?_ _ | refine Below.alloc ?_ (by first | omega | (simp; done) | (simp; omega)) _ | refine Below.setCell ?_ (by first | omega | (simp; done) | (simp; omega)) _ | refine below_setRow ?_ (by first | omega | (simp; done) | (simp; omega)) _ )), by omega, by omega, by omega, ((Blk.new _ _ _).alloc _).drew, (Blk.new' (by simp) _ _).drew⟩
  case rest =>
    obtain ⟨B, g, rfl, hb3, hg, hgB, hBB, kB, kg⟩ := hcut
    replace k1 := k1.below' hb3
    replace k2 := k2.below' hb3
    have b3 := below_call b2 b2.size hb3
    have hA3 := HA.out.to b3
    have z3 := hb3.size
    have zB := kB.lt
    have zg := kg.lt
    have HRA := Lib.hid hRA; have HB3 := Lib.hid hb3; have HMB := MB
    clear p1 p2 p3 hb3 b2 hmk hRA
    obtain ⟨p1, p2, p3⟩ := k1.cells3
    obtain ⟨q1, q2, q3⟩ := kB.cells3
    clear MB
    unfold maxLen at hLl
    go_wp2_with (with_reducible show wpList _ _ _ _ _ _; refine wpList_copy_all (o := ⟨some 38, _, _, _, _, _⟩) rfl (.tmp 35) (.tmp 37) 22 22 rfl 5 Tryz.underlying22 (by kernel_rfl) g n n c wc.heap.size A rfl rfl p _ 5 kg hA3 ?_)
    intro w4 KG4 BU4
    obtain ⟨B3, hB3⟩ : ∃ B3, wc.heap.size = B3 := ⟨_, rfl⟩
    rw [hB3] at BU4 z3 zB zg
    have HB33 := Lib.hid hB3
    clear p1 p2 p3 q1 q2 q3 hA3 hB3
    have kk := k1.lt
    rw [HB33.out] at kk
    have hgi : g ≠ w.heap.size := by omega
    go_wp2_with fail
    go_loopw [41] (fun s wr => ∃ i : Nat, i ≤ L.length ∧ s = .int .i64 i ∧ But B3 g wc wr ∧ Blk wr g 5 (u8s n (strike (L.take i) W p))) (fun s _ => L.length - (intOf s).toNat)
    case atStart => exact ⟨0, by omega, rfl, BU4.out, KG4.out.u8conv fun j _ _ => by rw [List.take_zero]; exact strike_nil.symm⟩
    case round =>
      obtain ⟨i, hi, rfl, bu, kp⟩ := hrel
      have m1 := k1.but bu (by omega) (Ne.symm hgi)
      have mB := kB.but bu (by omega) (Ne.symm hgB)
      have rA := HRA.out.to (HB3.out.trans (bu.to HB33.out hg z3))
      by_cases il : (i : Int) < L.length
      · have ilN : i < L.length := by omega
        obtain ⟨gR, rfl, hgR, rc⟩ := rA (by intro h; rw [h] at ilN; simp at ilN)
        obtain ⟨r, hr⟩ : ∃ r, L[i]? = some r := ⟨L[i], List.getElem?_eq_getElem ilN⟩
        have htk : L.take (i + 1) = L.take i ++ [r] := by rw [List.take_add_one, hr]; rfl
        obtain ⟨c1, c2, c3⟩ := rc i r hr
        obtain ⟨b1', b2', b3', b4', b5'⟩ := HMB.out r ((HML.out r).1 (List.mem_of_getElem? hr))
        obtain ⟨rx, rf, rt⟩ := r
        simp only at c1 c2 c3 b1' b2' b3' b4' b5'
        obtain ⟨x, rfl⟩ := Int.eq_ofNat_of_zero_le b1'
        obtain ⟨f, rfl⟩ := Int.eq_ofNat_of_zero_le b3'
        obtain ⟨t, rfl⟩ := Int.eq_ofNat_of_zero_le (Int.le_trans b3' b4')
        have HTK := Lib.hid htk
        obtain ⟨q, hq⟩ : ∃ q, strike (L.take i) W p = q := ⟨_, rfl⟩
        rw [hq] at kp
        have HQ := Lib.hid hq
        clear htk hr rc hq
        obtain ⟨gb, hgb⟩ : ∃ g, wr.heap.size = g := ⟨_, rfl⟩
        go_upto_region 9 with fail
        have bw := bu.then ((Below.refl _ wr).alloc bu.size (.cells #[.int .i64 (x : Int), .int .i64 (f : Int), .int .i64 (t : Int)] 57))
        have BX := Blk.new wr 57 #[.int .i64 (x : Int), .int .i64 (f : Int), .int .i64 (t : Int)]
        have n1 := m1.alloc (.cells #[.int .i64 (x : Int), .int .i64 (f : Int), .int .i64 (t : Int)] 57)
        have nB := mB.alloc (.cells #[.int .i64 (x : Int), .int .i64 (f : Int), .int .i64 (t : Int)] 57)
        have np := kp.alloc (.cells #[.int .i64 (x : Int), .int .i64 (f : Int), .int .i64 (t : Int)] 57)
        have zw := bu.size
        have zw5 : (wr.alloc (.cells #[.int .i64 (x : Int), .int .i64 (f : Int), .int .i64 (t : Int)] 57)).heap.size = gb + 1 := by simp [hgb]
        generalize wr.alloc (.cells #[.int .i64 (x : Int), .int .i64 (f : Int), .int .i64 (t : Int)] 57) = w5 at *
        rw [hgb] at BX zw
        have HGB := Lib.hid hgb
        clear bu kp m1 mB c1 c2 c3 rA hgR hgb
        obtain ⟨c1, c2, c3⟩ := BX.cells3
        go_wp2_with fail
        clear c1 c2 c3
        go_loopw [13] (fun s wr => ∃ y : Nat, f ≤ y ∧ y ≤ t + 1 ∧ s = .int .i64 y ∧ But (gb + 1) g w5 wr ∧ Blk wr g 5 (u8s n (strikeY ((x : Int), (f : Int), (t : Int)) y W q))) (fun s _ => t + 1 - (intOf s).toNat)
        case atStart => exact ⟨f, by omega, by omega, rfl, But.refl _ (by omega), np.u8conv fun j _ _ => strikeY_start.symm⟩
        case round =>
          obtain ⟨y, hfy, hyt, rfl, bu, kp⟩ := hrel
          have m1 := n1.but bu (by omega) (Ne.symm hgi)
          have mB := nB.but bu (by omega) (Ne.symm hgB)
          have mX := BX.but bu (by omega) (by omega)
          clear np
          obtain ⟨p1, p2, p3⟩ := m1.cells3
          obtain ⟨q1, q2, q3⟩ := mB.cells3
          obtain ⟨c1, c2, c3⟩ := mX.cells3
          by_cases yl : (y : Int) ≤ t
          · obtain ⟨e, he⟩ : ∃ e : Nat, (y : Int) * W + x = e := ⟨y * N + x, by rw [HW.out]; push_cast; rfl⟩
            have hen : (e : Int) < n := by
              have h8 := (idx_lt (x := x) (y := y) (W := W) (H := H) (by omega) b2' (by omega) (by omega)).2.1
              rw [he, HW.out] at h8
              have h9 := HNN.out
              have h10 : (n : Int) = (H : Int) * N := by rw [h9]; push_cast; exact Int.mul_comm _ _
              omega
            have v1 : IntKind.i64.wrap ((y : Int) * W) = (y : Int) * W := IntWalk.i64_in _ (by have := Int.mul_nonneg (show (0 : Int) ≤ y by omega) hw0; omega)
            have v2 : IntKind.i64.wrap ((y : Int) * W + x) = (e : Int) := (IntWalk.i64_in _ (by omega)).trans he
            have cg := kp.u8at (i := (e : Int)) (by omega) hen
            have fg := kp.frozen e
            rw [Int.toNat_natCast] at cg
            have KS := Lib.hid (kp.u8set (e : Int) (by omega) 0)
            have HE := Lib.hid he
            have HSS := Lib.hid fun i => strikeY_set (r := ((x : Int), (f : Int), (t : Int))) (q := q) (i := i) (y := (y : Int)) (W := W) (by show (0 : Int) ≤ x; omega) (show (x : Int) < W from b2') (show (f : Int) ≤ y by omega)
            generalize hsv : strikeY ((x : Int), (f : Int), (t : Int)) y W q e = sv at *
            clear he hsv
            go_wp2_with fail
            go_round
            case rel => exact ⟨y + 1, by omega, by omega, by go_num, bu.set _ _, by
              have h := KS.out
              rw [Int.toNat_natCast] at h
              refine h.u8conv fun i _ _ => ?_
              have h2 := HSS.out i
              rw [← HE.out, h2]
              push_cast
              rfl⟩
            case measure => simp [intOf]; omega
          · have hyt1 : y = t + 1 := by omega
            have kp2 : Blk wr g 5 (u8s n (strike (L.take (i + 1)) W p)) := kp.u8conv fun j _ _ => by
              rw [HTK.out, strike_snoc, HQ.out, hyt1]
              push_cast
              rfl
            have bz : But B3 g wc wr := bw.trans bu (by omega)
            clear kp hyt1
            go_wp2_with fail
            go_round
            case rel => exact ⟨i + 1, by omega, by go_num, bz, kp2⟩
            case measure => simp [intOf]; omega
      · have hiL : i = L.length := by omega
        have kp2 : Blk wr g 5 (u8s n (strike S0 W p)) := kp.u8conv fun j _ _ => by
          rw [hiL, List.take_length]
          exact strike_congr HML.out j
        have m2 := k2.but bu (by have := k2.lt; have := HB33.out; omega) (by omega)
        obtain ⟨p1, p2, p3⟩ := m1.cells3
        obtain ⟨q1, q2, q3⟩ := mB.cells3
        obtain ⟨f1, f2, f3⟩ := m2.frozen3
        obtain ⟨y1, y2, y3⟩ := m2.cells3
        have k5 := ((m2.set_ 0 (.int .i64 W)).set_ 1 (.int .i64 H)).set_ 2 (.slice (some ⟨g, 0, none⟩) n n)
        obtain ⟨s1, s2, s3⟩ := Blk.cells3 (a := .int .i64 W) (b := .int .i64 H) (c := .slice (some ⟨g, 0, none⟩) n n) k5
        have bE : Below w.heap.size w wr := b3.trans (bu.to HB33.out (by omega) (by omega))
        clear kp hiL rA
        go_wp2_with fail
        refine bodyPost_ret (v := .tuple #[.agg #[.int .i64 W, .int .i64 H, .slice (some ⟨g, 0, none⟩) n n], .int .i64 0]) (by simp [results, Tryz.results54, go_sem, s1, s2, s3]) rfl ?_
        refine ⟨_, rfl, ⟨_, _, rfl, (fun a e => by cases e; show w.heap.size ≤ g; omega), ?_⟩, by (repeat (first | exact Below.refl _ _ | assumption | refine Below.drew ?_ | refine below_drewN ?_ _ | refine Below.alloc ?_ (by first | omega | (simp; done) | (simp; omega)) _ | refine Below.setCell ?_ (by first | omega | (simp; done) | (simp; omega)) _ | refine below_setRow ?_ (by first | omega | (simp; done) | (simp; omega)) _ ))⟩
        have g1 : g ≠ w.heap.size + 1 := by omega
        have kF := Blk.far (Blk.far (Blk.far kp2 (p := ⟨w.heap.size + 1, 0, none⟩) g1 (.int .i64 W)) (p := ⟨w.heap.size + 1, 1, none⟩) g1 (.int .i64 H)) (p := ⟨w.heap.size + 1, 2, none⟩) g1 (.slice (some ⟨g, 0, none⟩) n n)
        exact kF.arrB kF.lt
end Go.Proofs.YtdimlpcbbkokiaaGreat

/- Walk: a strip put back (stave.Restore), where it is refused. Written by gen/t38.py. -/
namespace Go.Proofs.YtdimlpcbbkokiaaGreat
open Go.RowKit Go.Shelf
set_option linter.unusedVariables false
attribute [local go_sem] Oper.semAt_some

/-- which error Restore returns -/
def resE (W H : Int) (n : Nat) (p : Int → Int) (SW SH : Int) (sn : Nat) (sp : Int → Int) (K : Nat) (m : Nat → Nat) (ln : Nat → Nat → Int) (up : Int) : Int :=
  if orE (chk W H n p) (chk SW SH sn sp) ≠ 0 then orE (chk W H n p) (chk SW SH sn sp) else if stFits W H K m ln = false then 10 else if up < 0 ∨ SH ≤ up then 1 else if SW ≠ W then 2 else 0
theorem orE_zero {a b : Int} : orE a b = 0 ↔ a = 0 ∧ b = 0 := by
  unfold orE
  by_cases h : a = 0
  · rw [if_pos h]; simp [h]
  · rw [if_neg h]; simp [h]

set_option maxRecDepth 100000 in
set_option maxHeartbeats 4000000 in
theorem restore_bad (W H SW SH : Int) (A SA AL : Option Addr) (n c sn sc K cL : Nat) (p sp : Int → Int) (m : Nat → Nat) (ln : Nat → Nat → Int) (up : Int) (w : World) (hA : ArrB w w.heap.size A n p) (hn : n ≤ maxLen) (hS : ArrB w w.heap.size SA sn sp) (hsn : sn ≤ maxLen) (hL : Lines w w.heap.size AL K m ln) (hm : ∀ i, i < K → m i ≤ maxLen) (E : Int) (hE : resE W H n p SW SH sn sp K m ln up = E) (hE0 : E ≠ 0) :
    Calls Tryz.prog 44 #[.agg #[.int .i64 W, .int .i64 H, .slice A n c], .agg #[.int .i64 SW, .int .i64 SH, .slice SA sn sc], .agg #[.slice AL K cL], .int .i64 up] w fun e w' => e = .returned (.tuple #[noImg, .int .i64 E]) ∧ Below w.heap.size w w' := by
  have HE := Lib.hid hE; have HE0 := Lib.hid hE0
  clear hE hE0
  have C1 := Lib.hid fun w' hA' => check_any W H A n c p w' hA' hn
  have C2 := Lib.hid fun w' hA' => check_any SW SH SA sn sc sp w' hA' hsn
  have b1 : Below w.heap.size w ((((w.alloc (.cells #[.int .i64 W, .int .i64 H, .slice A n c] 24)).alloc (.cells #[.int .i64 SW, .int .i64 SH, .slice SA sn sc] 24)).alloc (.cells #[.slice AL K cL] 40)).alloc (.cells #[.int .i64 0, .int .i64 0, .slice none 0 0] 24)) := by (repeat (first | exact Below.refl _ _ | assumption | refine Below.drew ?_ | refine below_drewN ?_ _ | refine Below.alloc ?_ (by first | omega | (simp; done) | (simp; omega)) _ | refine Below.setCell ?_ (by first | omega | (simp; done) | (simp; omega)) _ | refine below_setRow ?_ (by first | omega | (simp; done) | (simp; omega)) _ ))
  have k4 : Blk ((((w.alloc (.cells #[.int .i64 W, .int .i64 H, .slice A n c] 24)).alloc (.cells #[.int .i64 SW, .int .i64 SH, .slice SA sn sc] 24)).alloc (.cells #[.slice AL K cL] 40)).alloc (.cells #[.int .i64 0, .int .i64 0, .slice none 0 0] 24)) (w.heap.size + 1 + 1 + 1) 24 #[.int .i64 0, .int .i64 0, .slice none 0 0] := Blk.new' (by simp) _ _
  have k1 : Blk ((((w.alloc (.cells #[.int .i64 W, .int .i64 H, .slice A n c] 24)).alloc (.cells #[.int .i64 SW, .int .i64 SH, .slice SA sn sc] 24)).alloc (.cells #[.slice AL K cL] 40)).alloc (.cells #[.int .i64 0, .int .i64 0, .slice none 0 0] 24)) w.heap.size 24 #[.int .i64 W, .int .i64 H, .slice A n c] := (((Blk.new _ _ _).alloc _).alloc _).alloc _
  have k2 : Blk ((((w.alloc (.cells #[.int .i64 W, .int .i64 H, .slice A n c] 24)).alloc (.cells #[.int .i64 SW, .int .i64 SH, .slice SA sn sc] 24)).alloc (.cells #[.slice AL K cL] 40)).alloc (.cells #[.int .i64 0, .int .i64 0, .slice none 0 0] 24)) (w.heap.size + 1) 24 #[.int .i64 SW, .int .i64 SH, .slice SA sn sc] := ((Blk.new' (by simp) _ _).alloc _).alloc _
  have k3 : Blk ((((w.alloc (.cells #[.int .i64 W, .int .i64 H, .slice A n c] 24)).alloc (.cells #[.int .i64 SW, .int .i64 SH, .slice SA sn sc] 24)).alloc (.cells #[.slice AL K cL] 40)).alloc (.cells #[.int .i64 0, .int .i64 0, .slice none 0 0] 24)) (w.heap.size + 1 + 1) 40 #[.slice AL K cL] := (Blk.new' (by simp) _ _).alloc _
  generalize hz1 : chk W H n p = z1 at *
  generalize hz2 : chk SW SH sn sp = z2 at *
  have HZ1 := Lib.hid hz1; have HZ2 := Lib.hid hz2
  clear hz1 hz2
  go_enter Tryz.func44, Tryz.ntmps44
  go_wp2_with fail
  generalize ((((w.alloc (.cells #[.int .i64 W, .int .i64 H, .slice A n c] 24)).alloc (.cells #[.int .i64 SW, .int .i64 SH, .slice SA sn sc] 24)).alloc (.cells #[.slice AL K cL] 40)).alloc (.cells #[.int .i64 0, .int .i64 0, .slice none 0 0] 24)) = w1 at *
  obtain ⟨p1, p2, p3⟩ := k1.cells3
  obtain ⟨q1, q2, q3⟩ := k2.cells3
  have HA := hA.to b1
  have HS := hS.to b1
  go_upto_region 1 with fail
  go_cut [10] (fun f wx => f = .int .i64 (orE z1 z2) ∧ Below w1.heap.size w1 wx)
  case first =>
    go_region_held3 (fun w' => (w'.cell? ⟨w.heap.size, 0, none⟩ = some (.int .i64 W) ∧ w'.cell? ⟨w.heap.size, 1, none⟩ = some (.int .i64 H) ∧ w'.cell? ⟨w.heap.size, 2, none⟩ = some (.slice A n c)) ∧ w'.cell? ⟨w.heap.size + 1, 0, none⟩ = some (.int .i64 SW) ∧ w'.cell? ⟨w.heap.size + 1, 1, none⟩ = some (.int .i64 SH) ∧ w'.cell? ⟨w.heap.size + 1, 2, none⟩ = some (.slice SA sn sc))
      (first | (simp [go_sem, *]; done) | (go_keep; done))
      (first
      | (go_at_call 16
         with_reducible refine Calls.mono (C1.out _ ?_) ?_
         focus (repeat (first | with_reducible assumption | with_reducible refine ArrB.alloc1 ?_ _ | with_reducible refine ArrB.drew1 ?_ | (with_reducible apply ArrB.fillN; (focus (with_reducible assumption)); (focus omega)) | (with_reducible apply ArrB.fillL; (focus (with_reducible assumption)); (focus (first | omega | (simp; done) | (simp; omega)))) | (with_reducible apply ArrB.to'; focus (with_reducible assumption))))
         rintro e v1 ⟨rfl, hb1⟩
         have kk1 : Blk v1 w.heap.size 24 #[.int .i64 W, .int .i64 H, .slice A n c] := by (repeat (first | with_reducible assumption | with_reducible exact Blk.new _ _ _ | with_reducible exact Blk.new' (World.size_alloc _ _) _ _ | (with_reducible refine Blk.new' ?_ _ _; focus (simp; done)) | with_reducible apply Blk.fill3 | (with_reducible refine Blk.far3' ?_ ?_; focus omega) | with_reducible refine Blk.alloc ?_ _ | with_reducible refine Blk.drew ?_ | (with_reducible apply Blk.below2; focus (with_reducible assumption))))
         have ll1 : Blk v1 (w.heap.size + 1) 24 #[.int .i64 SW, .int .i64 SH, .slice SA sn sc] := by (repeat (first | with_reducible assumption | with_reducible exact Blk.new _ _ _ | with_reducible exact Blk.new' (World.size_alloc _ _) _ _ | (with_reducible refine Blk.new' ?_ _ _; focus (simp; done)) | with_reducible apply Blk.fill3 | (with_reducible refine Blk.far3' ?_ ?_; focus omega) | with_reducible refine Blk.alloc ?_ _ | with_reducible refine Blk.drew ?_ | (with_reducible apply Blk.below2; focus (with_reducible assumption))))
         obtain ⟨x11, x12, x13⟩ := kk1.cells3
         obtain ⟨x14, x15, x16⟩ := ll1.cells3
         have zz1 := hb1.size; try simp at zz1)
      | (go_at_call 16
         with_reducible refine Calls.mono (C2.out _ ?_) ?_
         focus (repeat (first | with_reducible assumption | with_reducible refine ArrB.alloc1 ?_ _ | with_reducible refine ArrB.drew1 ?_ | (with_reducible apply ArrB.fillN; (focus (with_reducible assumption)); (focus omega)) | (with_reducible apply ArrB.fillL; (focus (with_reducible assumption)); (focus (first | omega | (simp; done) | (simp; omega)))) | (with_reducible apply ArrB.to'; focus (with_reducible assumption))))
         rintro e v2 ⟨rfl, hb2⟩
         have kk2 : Blk v2 w.heap.size 24 #[.int .i64 W, .int .i64 H, .slice A n c] := by (repeat (first | with_reducible assumption | with_reducible exact Blk.new _ _ _ | with_reducible exact Blk.new' (World.size_alloc _ _) _ _ | (with_reducible refine Blk.new' ?_ _ _; focus (simp; done)) | with_reducible apply Blk.fill3 | (with_reducible refine Blk.far3' ?_ ?_; focus omega) | with_reducible refine Blk.alloc ?_ _ | with_reducible refine Blk.drew ?_ | (with_reducible apply Blk.below2; focus (with_reducible assumption))))
         have ll2 : Blk v2 (w.heap.size + 1) 24 #[.int .i64 SW, .int .i64 SH, .slice SA sn sc] := by (repeat (first | with_reducible assumption | with_reducible exact Blk.new _ _ _ | with_reducible exact Blk.new' (World.size_alloc _ _) _ _ | (with_reducible refine Blk.new' ?_ _ _; focus (simp; done)) | with_reducible apply Blk.fill3 | (with_reducible refine Blk.far3' ?_ ?_; focus omega) | with_reducible refine Blk.alloc ?_ _ | with_reducible refine Blk.drew ?_ | (with_reducible apply Blk.below2; focus (with_reducible assumption))))
         obtain ⟨x21, x22, x23⟩ := kk2.cells3
         obtain ⟨x24, x25, x26⟩ := ll2.cells3
         have zz2 := hb2.size; try simp at zz2)
      | (go_at_call 84; with_reducible refine (or2_any _ _ _ _ (Blk.new _ _ _)).mono ?_; rintro e v3 ⟨rfl, rfl⟩))
    all_goals
      go_wp2_with fail
      go_meet
      exact ⟨rfl, by (repeat (first | with_reducible exact Below.refl _ _ | with_reducible assumption | with_reducible refine Below.drew ?_ | (with_reducible refine below_alloc' ?_ ?_; focus (first | omega | (simp; done) | (simp; omega))) | (with_reducible refine below_fill3' ?_ ?_; focus omega) | (with_reducible refine below_setCell' ?_ ?_; focus (first | omega | (simp; done) | (simp; omega))) | (with_reducible apply below_call'; (focus (with_reducible assumption)); (focus (first | omega | (simp; done) | (simp; omega))))))⟩
  case rest =>
  obtain ⟨rfl, hb2⟩ := hcut
  have b2 := below_call b1 b1.size hb2
  replace k1 := k1.below' hb2
  replace k2 := k2.below' hb2
  replace k3 := k3.below' hb2
  replace k4 := k4.below' hb2
  clear p1 p2 p3 q1 q2 q3 hb2 b1 C1 C2 HA HS
  obtain ⟨z, hzz⟩ : ∃ z, orE z1 z2 = z := ⟨_, rfl⟩
  rw [hzz]
  have HZ := Lib.hid hzz
  clear hzz
  by_cases h0 : z = 0
  · subst h0
    obtain ⟨e1, e2⟩ := orE_zero.1 HZ.out
    subst e1
    subst e2
    obtain ⟨hW1, hW2, hH1, hH2, -, -⟩ := chk_ok HZ1.out
    have FT := Lib.hid fun w' hL' => fits_st W H A AL n c K cL m ln w' hW2 hH2 hL' hm
    have RE : Hid (E = if stFits W H K m ln = false then 10 else if up < 0 ∨ SH ≤ up then 1 else if SW ≠ W then 2 else 0) := by
      show _ = _
      rw [← HE.out]; unfold resE; rw [HZ1.out, HZ2.out, HZ.out, if_neg (by simp)]
    cases hs : stFits W H K m ln with
    | false =>
      rw [hs] at RE FT
      have hE : E = 10 := by rw [RE.out, if_pos rfl]
      subst hE
      clear hs RE HE
      obtain ⟨p1, p2, p3⟩ := k1.cells3
      have p4 := k3.cells0
      go_wp2_with fail
      refine (FT.out _ (hL.below b2)).mono ?_
      rintro e w3 ⟨rfl, hb3⟩
      have b3 := below_call b2 b2.size hb3
      replace k1 := k1.below' hb3
      replace k2 := k2.below' hb3
      replace k3 := k3.below' hb3
      replace k4 := k4.below' hb3
      clear p1 p2 p3 p4 hb3 b2
      obtain ⟨r1, r2, r3⟩ := k4.cells3
      obtain ⟨f1, f2, f3⟩ := k4.frozen3
      have k9 := ((k4.set_ 0 (.int .i64 0)).set_ 1 (.int .i64 0)).set_ 2 (.slice none 0 0)
      obtain ⟨s1, s2, s3⟩ := Blk.cells3 (a := .int .i64 0) (b := .int .i64 0) (c := .slice none 0 0) k9
      go_wp2_with fail
      refine bodyPost_ret (v := .tuple #[noImg, .int .i64 10]) (by simp [results, Tryz.results44, go_sem, noImg, s1, s2, s3]) rfl ?_
      exact ⟨rfl, by (repeat (first | with_reducible exact Below.refl _ _ | with_reducible assumption | with_reducible refine Below.drew ?_ | (with_reducible refine below_alloc' ?_ ?_; focus (first | omega | (simp; done) | (simp; omega))) | (with_reducible refine below_fill3' ?_ ?_; focus omega) | (with_reducible refine below_setCell' ?_ ?_; focus (first | omega | (simp; done) | (simp; omega))) | (with_reducible apply below_call'; (focus (with_reducible assumption)); (focus (first | omega | (simp; done) | (simp; omega))))))⟩
    | true =>
      rw [hs] at RE FT
      by_cases hup : up < 0 ∨ SH ≤ up
      · have hE : E = 1 := by rw [RE.out, if_neg (by simp), if_pos hup]
        subst hE
        clear hs RE HE
        by_cases hu : up < 0
        · have d1 : decide (up < 0) = true := decide_eq_true hu
          clear hup
          obtain ⟨p1, p2, p3⟩ := k1.cells3
          have p4 := k3.cells0
          go_wp2_with fail
          refine (FT.out _ (hL.below b2)).mono ?_
          rintro e w3 ⟨rfl, hb3⟩
          have b3 := below_call b2 b2.size hb3
          replace k1 := k1.below' hb3
          replace k2 := k2.below' hb3
          replace k3 := k3.below' hb3
          replace k4 := k4.below' hb3
          clear p1 p2 p3 p4 hb3 b2
          obtain ⟨q1, q2, q3⟩ := k2.cells3
          obtain ⟨r1, r2, r3⟩ := k4.cells3
          obtain ⟨f1, f2, f3⟩ := k4.frozen3
          have k9 := ((k4.set_ 0 (.int .i64 0)).set_ 1 (.int .i64 0)).set_ 2 (.slice none 0 0)
          obtain ⟨s1, s2, s3⟩ := Blk.cells3 (a := .int .i64 0) (b := .int .i64 0) (c := .slice none 0 0) k9
          go_wp2_with fail
          refine bodyPost_ret (v := .tuple #[noImg, .int .i64 1]) (by simp [results, Tryz.results44, go_sem, noImg, s1, s2, s3]) rfl ?_
          exact ⟨rfl, by (repeat (first | with_reducible exact Below.refl _ _ | with_reducible assumption | with_reducible refine Below.drew ?_ | (with_reducible refine below_alloc' ?_ ?_; focus (first | omega | (simp; done) | (simp; omega))) | (with_reducible refine below_fill3' ?_ ?_; focus omega) | (with_reducible refine below_setCell' ?_ ?_; focus (first | omega | (simp; done) | (simp; omega))) | (with_reducible apply below_call'; (focus (with_reducible assumption)); (focus (first | omega | (simp; done) | (simp; omega))))))⟩
        · have d1 : decide (up < 0) = false := decide_eq_false hu
          have hu2 : SH ≤ up := by omega
          have d2 : decide (SH ≤ up) = true := decide_eq_true hu2
          have hu3 : 0 ≤ up := by omega
          clear hup hu
          obtain ⟨p1, p2, p3⟩ := k1.cells3
          have p4 := k3.cells0
          go_wp2_with fail
          refine (FT.out _ (hL.below b2)).mono ?_
          rintro e w3 ⟨rfl, hb3⟩
          have b3 := below_call b2 b2.size hb3
          replace k1 := k1.below' hb3
          replace k2 := k2.below' hb3
          replace k3 := k3.below' hb3
          replace k4 := k4.below' hb3
          clear p1 p2 p3 p4 hb3 b2
          obtain ⟨q1, q2, q3⟩ := k2.cells3
          obtain ⟨r1, r2, r3⟩ := k4.cells3
          obtain ⟨f1, f2, f3⟩ := k4.frozen3
          have k9 := ((k4.set_ 0 (.int .i64 0)).set_ 1 (.int .i64 0)).set_ 2 (.slice none 0 0)
          obtain ⟨s1, s2, s3⟩ := Blk.cells3 (a := .int .i64 0) (b := .int .i64 0) (c := .slice none 0 0) k9
          go_wp2_with fail
          refine bodyPost_ret (v := .tuple #[noImg, .int .i64 1]) (by simp [results, Tryz.results44, go_sem, noImg, s1, s2, s3]) rfl ?_
          exact ⟨rfl, by (repeat (first | with_reducible exact Below.refl _ _ | with_reducible assumption | with_reducible refine Below.drew ?_ | (with_reducible refine below_alloc' ?_ ?_; focus (first | omega | (simp; done) | (simp; omega))) | (with_reducible refine below_fill3' ?_ ?_; focus omega) | (with_reducible refine below_setCell' ?_ ?_; focus (first | omega | (simp; done) | (simp; omega))) | (with_reducible apply below_call'; (focus (with_reducible assumption)); (focus (first | omega | (simp; done) | (simp; omega))))))⟩
      · have hw : SW ≠ W := fun h => HE0.out (by rw [RE.out, if_neg (by simp), if_neg hup, if_neg (by simp [h])])
        have hE : E = 2 := by rw [RE.out, if_neg (by simp), if_neg hup, if_pos hw]
        subst hE
        have hw2 : (SW != W) = true := by simp [hw]
        have HW := Lib.hid hw
        have d1 : decide (up < 0) = false := decide_eq_false (by omega)
        have d2 : decide (SH ≤ up) = false := decide_eq_false (by omega)
        have hu1 : 0 ≤ up := by omega
        have hu2 : up < SH := by omega
        clear hs RE HE hup hw
        obtain ⟨p1, p2, p3⟩ := k1.cells3
        have p4 := k3.cells0
        go_wp2_with fail
        refine (FT.out _ (hL.below b2)).mono ?_
        rintro e w3 ⟨rfl, hb3⟩
        have b3 := below_call b2 b2.size hb3
        replace k1 := k1.below' hb3
        replace k2 := k2.below' hb3
        replace k3 := k3.below' hb3
        replace k4 := k4.below' hb3
        clear p1 p2 p3 p4 hb3 b2
        obtain ⟨q1, q2, q3⟩ := k2.cells3
        obtain ⟨p1, p2, p3⟩ := k1.cells3
        obtain ⟨r1, r2, r3⟩ := k4.cells3
        obtain ⟨f1, f2, f3⟩ := k4.frozen3
        have k9 := ((k4.set_ 0 (.int .i64 0)).set_ 1 (.int .i64 0)).set_ 2 (.slice none 0 0)
        obtain ⟨s1, s2, s3⟩ := Blk.cells3 (a := .int .i64 0) (b := .int .i64 0) (c := .slice none 0 0) k9
        go_wp2_with fail
        refine bodyPost_ret (v := .tuple #[noImg, .int .i64 2]) (by simp [results, Tryz.results44, go_sem, noImg, s1, s2, s3]) rfl ?_
        exact ⟨rfl, by (repeat (first | with_reducible exact Below.refl _ _ | with_reducible assumption | with_reducible refine Below.drew ?_ | (with_reducible refine below_alloc' ?_ ?_; focus (first | omega | (simp; done) | (simp; omega))) | (with_reducible refine below_fill3' ?_ ?_; focus omega) | (with_reducible refine below_setCell' ?_ ?_; focus (first | omega | (simp; done) | (simp; omega))) | (with_reducible apply below_call'; (focus (with_reducible assumption)); (focus (first | omega | (simp; done) | (simp; omega))))))⟩
  · have hE : E = z := by
      rw [← HE.out]; unfold resE; rw [HZ1.out, HZ2.out, HZ.out, if_pos h0]
    subst hE
    have hz2 : (E != 0) = true := by simp [h0]
    have HH := Lib.hid h0
    clear h0 HE
    obtain ⟨r1, r2, r3⟩ := k4.cells3
    obtain ⟨f1, f2, f3⟩ := k4.frozen3
    have k9 := ((k4.set_ 0 (.int .i64 0)).set_ 1 (.int .i64 0)).set_ 2 (.slice none 0 0)
    obtain ⟨s1, s2, s3⟩ := Blk.cells3 (a := .int .i64 0) (b := .int .i64 0) (c := .slice none 0 0) k9
    go_wp2_with fail
    refine bodyPost_ret (v := .tuple #[noImg, .int .i64 E]) (by simp [results, Tryz.results44, go_sem, noImg, s1, s2, s3]) rfl ?_
    exact ⟨rfl, by (repeat (first | with_reducible exact Below.refl _ _ | with_reducible assumption | with_reducible refine Below.drew ?_ | (with_reducible refine below_alloc' ?_ ?_; focus (first | omega | (simp; done) | (simp; omega))) | (with_reducible refine below_fill3' ?_ ?_; focus omega) | (with_reducible refine below_setCell' ?_ ?_; focus (first | omega | (simp; done) | (simp; omega))) | (with_reducible apply below_call'; (focus (with_reducible assumption)); (focus (first | omega | (simp; done) | (simp; omega))))))⟩
end Go.Proofs.YtdimlpcbbkokiaaGreat

/- Plain: a strip put back column by column. No program in sight. -/
namespace Go.Proofs.YtdimlpcbbkokiaaGreat
open Go.RowKit
set_option linter.unusedVariables false
/-- put back: the columns before x, and of column x the strip's rows above y -/
def rsP (W h : Int) (p q : Int → Int) (l : Nat → Int) (up x y : Int) : Int → Int := fun i =>
  if i % W < x ∨ (i % W = x ∧ i / W - l x.toNat + up < y) then resQ W 0 h p q l up i else p i
section
variable {W H h : Int} {p q : Int → Int} {l : Nat → Int} {up x y i : Int}
theorem resQ_out (hi : ¬ (0 ≤ i / W - l (i % W).toNat + up ∧ i / W - l (i % W).toNat + up < h)) : resQ W H h p q l up i = p i := by unfold resQ; rw [if_neg hi]
theorem resQ_H : resQ W H h p q l up i = resQ W 0 h p q l up i := rfl
theorem rsP_zero (hW : 0 < W) : rsP W h p q l up 0 0 i = p i := by
  have h1 : 0 ≤ i % W := Int.emod_nonneg _ (by omega)
  unfold rsP
  by_cases c : i % W < 0 ∨ (i % W = 0 ∧ i / W - l (0 : Int).toNat + up < 0)
  · rw [if_pos c]
    have c2 : i % W = 0 := by omega
    apply resQ_out
    rw [c2]; omega
  · rw [if_neg c]
theorem rsP_set (x0 : 0 ≤ x) (x1 : x < W) (y0 : 0 ≤ y) (y1 : y < h) : upd (rsP W h p q l up x y) ((l x.toNat - up + y) * W + x) (q (y * W + x)) i = rsP W h p q l up x (y + 1) i := by
  have a := idx_mod (y := l x.toNat - up + y) x0 x1
  have b := idx_div (y := l x.toNat - up + y) x0 x1
  unfold upd rsP
  by_cases e : i = (l x.toNat - up + y) * W + x
  · subst e
    rw [if_pos rfl, a, b, if_pos (.inr ⟨rfl, by omega⟩)]
    unfold resQ
    rw [a, b, if_pos (by omega), show l x.toNat - up + y - l x.toNat + up = y by omega]
  · rw [if_neg e]
    have hne : i % W = x → i / W ≠ l x.toNat - up + y := fun h3 h4 => e (by
      have := Int.emod_add_mul_ediv i W
      rw [h3, h4, Int.mul_comm] at this; omega)
    by_cases c : i % W < x ∨ (i % W = x ∧ i / W - l x.toNat + up < y)
    · rw [if_pos c, if_pos (by omega)]
    · rw [if_neg c, if_neg (by omega)]
theorem rsP_skip (hW : 0 < W) (h0 : 0 ≤ i) (hi : i < W * H) (hat : ¬ (0 ≤ l x.toNat - up + y ∧ l x.toNat - up + y < H)) : rsP W h p q l up x y i = rsP W h p q l up x (y + 1) i := by
  have h1 : i / W < H := Int.ediv_lt_of_lt_mul hW (by rw [Int.mul_comm]; exact hi)
  have h2 : 0 ≤ i / W := Int.ediv_nonneg h0 (by omega)
  unfold rsP
  by_cases c : i % W < x ∨ (i % W = x ∧ i / W - l x.toNat + up < y)
  · rw [if_pos c, if_pos (by omega)]
  · rw [if_neg c, if_neg (by omega)]
theorem rsP_col : rsP W h p q l up x h i = rsP W h p q l up (x + 1) 0 i := by
  unfold rsP
  by_cases c : i % W = x
  · rw [if_pos (.inl (by omega) : i % W < x + 1 ∨ _)]
    by_cases d : i / W - l x.toNat + up < h
    · rw [if_pos (.inr ⟨c, d⟩)]
    · rw [if_neg (by omega)]
      exact (resQ_out (by rw [c]; omega)).symm
  · by_cases d : i % W < x
    · rw [if_pos (.inl d), if_pos (.inl (by omega))]
    · rw [if_neg (by omega)]
      by_cases g : i % W < x + 1 ∨ (i % W = x + 1 ∧ i / W - l (x + 1).toNat + up < 0)
      · rw [if_pos g]
        exact (resQ_out (by
          have : i % W = x + 1 := by omega
          rw [this]; omega)).symm
      · rw [if_neg g]
theorem rsP_end (hW : 0 < W) : rsP W h p q l up W 0 i = resQ W 0 h p q l up i := by
  unfold rsP
  have h1 : i % W < W := Int.emod_lt_of_pos _ hW
  rw [if_pos (by omega)]
end
end Go.Proofs.YtdimlpcbbkokiaaGreat

/- Walk: a strip put back (stave.Restore), where it is made. Written by gen/t38.py. -/
namespace Go.Proofs.YtdimlpcbbkokiaaGreat
open Go.RowKit Go.Shelf
set_option linter.unusedVariables false
attribute [local go_sem] Oper.semAt_some

set_option maxRecDepth 100000 in
set_option maxHeartbeats 4000000 in
theorem restore_ok (W H SW SH : Int) (A SA AL : Option Addr) (n c sn sc K cL : Nat) (p sp : Int → Int) (m : Nat → Nat) (ln : Nat → Nat → Int) (up : Int) (w : World) (hA : ArrB w w.heap.size A n p) (hn : n ≤ maxLen) (hS : ArrB w w.heap.size SA sn sp) (hsn : sn ≤ maxLen) (hL : Lines w w.heap.size AL K m ln) (hm : ∀ i, i < K → m i ≤ maxLen) (hns : n ≤ 1000000) (hE : resE W H n p SW SH sn sp K m ln up = 0) :
    Calls Tryz.prog 44 #[.agg #[.int .i64 W, .int .i64 H, .slice A n c], .agg #[.int .i64 SW, .int .i64 SH, .slice SA sn sc], .agg #[.slice AL K cL], .int .i64 up] w (New w fun v w' => OutT w w' 0 W H n (resQ W H SH p sp (ln 4) up) v) := by
  have HE := Lib.hid hE
  clear hE
  have C1 := Lib.hid fun w' hA' => check_any W H A n c p w' hA' hn
  have C2 := Lib.hid fun w' hA' => check_any SW SH SA sn sc sp w' hA' hsn
  have b1 : Below w.heap.size w ((((w.alloc (.cells #[.int .i64 W, .int .i64 H, .slice A n c] 24)).alloc (.cells #[.int .i64 SW, .int .i64 SH, .slice SA sn sc] 24)).alloc (.cells #[.slice AL K cL] 40)).alloc (.cells #[.int .i64 0, .int .i64 0, .slice none 0 0] 24)) := by (repeat (first | exact Below.refl _ _ | assumption | refine Below.drew ?_ | refine below_drewN ?_ _ | refine Below.alloc ?_ (by first | omega | (simp; done) | (simp; omega)) _ | refine Below.setCell ?_ (by first | omega | (simp; done) | (simp; omega)) _ | refine below_setRow ?_ (by first | omega | (simp; done) | (simp; omega)) _ ))
  have k4 : Blk ((((w.alloc (.cells #[.int .i64 W, .int .i64 H, .slice A n c] 24)).alloc (.cells #[.int .i64 SW, .int .i64 SH, .slice SA sn sc] 24)).alloc (.cells #[.slice AL K cL] 40)).alloc (.cells #[.int .i64 0, .int .i64 0, .slice none 0 0] 24)) (w.heap.size + 1 + 1 + 1) 24 #[.int .i64 0, .int .i64 0, .slice none 0 0] := Blk.new' (by simp) _ _
  have k1 : Blk ((((w.alloc (.cells #[.int .i64 W, .int .i64 H, .slice A n c] 24)).alloc (.cells #[.int .i64 SW, .int .i64 SH, .slice SA sn sc] 24)).alloc (.cells #[.slice AL K cL] 40)).alloc (.cells #[.int .i64 0, .int .i64 0, .slice none 0 0] 24)) w.heap.size 24 #[.int .i64 W, .int .i64 H, .slice A n c] := (((Blk.new _ _ _).alloc _).alloc _).alloc _
  have k2 : Blk ((((w.alloc (.cells #[.int .i64 W, .int .i64 H, .slice A n c] 24)).alloc (.cells #[.int .i64 SW, .int .i64 SH, .slice SA sn sc] 24)).alloc (.cells #[.slice AL K cL] 40)).alloc (.cells #[.int .i64 0, .int .i64 0, .slice none 0 0] 24)) (w.heap.size + 1) 24 #[.int .i64 SW, .int .i64 SH, .slice SA sn sc] := ((Blk.new' (by simp) _ _).alloc _).alloc _
  have k3 : Blk ((((w.alloc (.cells #[.int .i64 W, .int .i64 H, .slice A n c] 24)).alloc (.cells #[.int .i64 SW, .int .i64 SH, .slice SA sn sc] 24)).alloc (.cells #[.slice AL K cL] 40)).alloc (.cells #[.int .i64 0, .int .i64 0, .slice none 0 0] 24)) (w.heap.size + 1 + 1) 40 #[.slice AL K cL] := (Blk.new' (by simp) _ _).alloc _
  generalize hz1 : chk W H n p = z1 at *
  generalize hz2 : chk SW SH sn sp = z2 at *
  have HZ1 := Lib.hid hz1; have HZ2 := Lib.hid hz2
  clear hz1 hz2
  go_enter Tryz.func44, Tryz.ntmps44
  go_wp2_with fail
  generalize ((((w.alloc (.cells #[.int .i64 W, .int .i64 H, .slice A n c] 24)).alloc (.cells #[.int .i64 SW, .int .i64 SH, .slice SA sn sc] 24)).alloc (.cells #[.slice AL K cL] 40)).alloc (.cells #[.int .i64 0, .int .i64 0, .slice none 0 0] 24)) = w1 at *
  obtain ⟨p1, p2, p3⟩ := k1.cells3
  obtain ⟨q1, q2, q3⟩ := k2.cells3
  have HA := hA.to b1
  have HS := hS.to b1
  go_upto_region 1 with fail
  go_cut [10] (fun f wx => f = .int .i64 (orE z1 z2) ∧ Below w1.heap.size w1 wx)
  case first =>
    go_region_held3 (fun w' => (w'.cell? ⟨w.heap.size, 0, none⟩ = some (.int .i64 W) ∧ w'.cell? ⟨w.heap.size, 1, none⟩ = some (.int .i64 H) ∧ w'.cell? ⟨w.heap.size, 2, none⟩ = some (.slice A n c)) ∧ w'.cell? ⟨w.heap.size + 1, 0, none⟩ = some (.int .i64 SW) ∧ w'.cell? ⟨w.heap.size + 1, 1, none⟩ = some (.int .i64 SH) ∧ w'.cell? ⟨w.heap.size + 1, 2, none⟩ = some (.slice SA sn sc))
      (first | (simp [go_sem, *]; done) | (go_keep; done))
      (first
      | (go_at_call 16
         with_reducible refine Calls.mono (C1.out _ ?_) ?_
         focus (repeat (first | with_reducible assumption | with_reducible refine ArrB.alloc1 ?_ _ | with_reducible refine ArrB.drew1 ?_ | (with_reducible apply ArrB.fillN; (focus (with_reducible assumption)); (focus omega)) | (with_reducible apply ArrB.fillL; (focus (with_reducible assumption)); (focus (first | omega | (simp; done) | (simp; omega)))) | (with_reducible apply ArrB.to'; focus (with_reducible assumption))))
         rintro e v1 ⟨rfl, hb1⟩
         have kk1 : Blk v1 w.heap.size 24 #[.int .i64 W, .int .i64 H, .slice A n c] := by (repeat (first | with_reducible assumption | with_reducible exact Blk.new _ _ _ | with_reducible exact Blk.new' (World.size_alloc _ _) _ _ | (with_reducible refine Blk.new' ?_ _ _; focus (simp; done)) | with_reducible apply Blk.fill3 | (with_reducible refine Blk.far3' ?_ ?_; focus omega) | with_reducible refine Blk.alloc ?_ _ | with_reducible refine Blk.drew ?_ | (with_reducible apply Blk.below2; focus (with_reducible assumption))))
         have ll1 : Blk v1 (w.heap.size + 1) 24 #[.int .i64 SW, .int .i64 SH, .slice SA sn sc] := by (repeat (first | with_reducible assumption | with_reducible exact Blk.new _ _ _ | with_reducible exact Blk.new' (World.size_alloc _ _) _ _ | (with_reducible refine Blk.new' ?_ _ _; focus (simp; done)) | with_reducible apply Blk.fill3 | (with_reducible refine Blk.far3' ?_ ?_; focus omega) | with_reducible refine Blk.alloc ?_ _ | with_reducible refine Blk.drew ?_ | (with_reducible apply Blk.below2; focus (with_reducible assumption))))
         obtain ⟨x11, x12, x13⟩ := kk1.cells3
         obtain ⟨x14, x15, x16⟩ := ll1.cells3
         have zz1 := hb1.size; try simp at zz1)
      | (go_at_call 16
         with_reducible refine Calls.mono (C2.out _ ?_) ?_
         focus (repeat (first | with_reducible assumption | with_reducible refine ArrB.alloc1 ?_ _ | with_reducible refine ArrB.drew1 ?_ | (with_reducible apply ArrB.fillN; (focus (with_reducible assumption)); (focus omega)) | (with_reducible apply ArrB.fillL; (focus (with_reducible assumption)); (focus (first | omega | (simp; done) | (simp; omega)))) | (with_reducible apply ArrB.to'; focus (with_reducible assumption))))
         rintro e v2 ⟨rfl, hb2⟩
         have kk2 : Blk v2 w.heap.size 24 #[.int .i64 W, .int .i64 H, .slice A n c] := by (repeat (first | with_reducible assumption | with_reducible exact Blk.new _ _ _ | with_reducible exact Blk.new' (World.size_alloc _ _) _ _ | (with_reducible refine Blk.new' ?_ _ _; focus (simp; done)) | with_reducible apply Blk.fill3 | (with_reducible refine Blk.far3' ?_ ?_; focus omega) | with_reducible refine Blk.alloc ?_ _ | with_reducible refine Blk.drew ?_ | (with_reducible apply Blk.below2; focus (with_reducible assumption))))
         have ll2 : Blk v2 (w.heap.size + 1) 24 #[.int .i64 SW, .int .i64 SH, .slice SA sn sc] := by (repeat (first | with_reducible assumption | with_reducible exact Blk.new _ _ _ | with_reducible exact Blk.new' (World.size_alloc _ _) _ _ | (with_reducible refine Blk.new' ?_ _ _; focus (simp; done)) | with_reducible apply Blk.fill3 | (with_reducible refine Blk.far3' ?_ ?_; focus omega) | with_reducible refine Blk.alloc ?_ _ | with_reducible refine Blk.drew ?_ | (with_reducible apply Blk.below2; focus (with_reducible assumption))))
         obtain ⟨x21, x22, x23⟩ := kk2.cells3
         obtain ⟨x24, x25, x26⟩ := ll2.cells3
         have zz2 := hb2.size; try simp at zz2)
      | (go_at_call 84; with_reducible refine (or2_any _ _ _ _ (Blk.new _ _ _)).mono ?_; rintro e v3 ⟨rfl, rfl⟩))
    all_goals
      go_wp2_with fail
      go_meet
      exact ⟨rfl, by (repeat (first | with_reducible exact Below.refl _ _ | with_reducible assumption | with_reducible refine Below.drew ?_ | (with_reducible refine below_alloc' ?_ ?_; focus (first | omega | (simp; done) | (simp; omega))) | (with_reducible refine below_fill3' ?_ ?_; focus omega) | (with_reducible refine below_setCell' ?_ ?_; focus (first | omega | (simp; done) | (simp; omega))) | (with_reducible apply below_call'; (focus (with_reducible assumption)); (focus (first | omega | (simp; done) | (simp; omega))))))⟩
  case rest =>
  obtain ⟨rfl, hb2⟩ := hcut
  have b2 := below_call b1 b1.size hb2
  replace k1 := k1.below' hb2
  replace k2 := k2.below' hb2
  replace k3 := k3.below' hb2
  replace k4 := k4.below' hb2
  clear p1 p2 p3 q1 q2 q3 hb2 b1 C1 C2 HA HS
  obtain ⟨z, hzz⟩ : ∃ z, orE z1 z2 = z := ⟨_, rfl⟩
  rw [hzz]
  have HZ := Lib.hid hzz
  clear hzz
  have z0 : z = 0 := by
    by_cases h0 : z = 0
    · exact h0
    · have := HE.out
      unfold resE at this
      rw [HZ1.out, HZ2.out, HZ.out, if_pos h0] at this
      exact this
  subst z0
  obtain ⟨e1, e2⟩ := orE_zero.1 HZ.out
  subst e1
  subst e2
  obtain ⟨hW1, hW2, hH1, hH2, hnn, -⟩ := chk_ok HZ1.out
  obtain ⟨hSW1, hSW2, hSH1, hSH2, hsnn, -⟩ := chk_ok HZ2.out
  have RE : Hid ((if stFits W H K m ln = false then (10 : Int) else if up < 0 ∨ SH ≤ up then 1 else if SW ≠ W then 2 else 0) = 0) := by
    show _ = _
    have := HE.out
    unfold resE at this
    rwa [HZ1.out, HZ2.out, HZ.out, if_neg (by simp)] at this
  have hst : stFits W H K m ln = true := by
    cases h : stFits W H K m ln with
    | true => rfl
    | false => have := RE.out; rw [h, if_pos rfl] at this; omega
  have FT := Lib.hid fun w' hL' => fits_st W H A AL n c K cL m ln w' hW2 hH2 hL' hm
  rw [hst] at RE FT
  have hup : ¬ (up < 0 ∨ SH ≤ up) := fun h => by have := RE.out; rw [if_neg (by simp), if_pos h] at this; omega
  have hw : SW = W := by
    rcases Int.decEq SW W with h | h
    · have := RE.out; rw [if_neg (by simp), if_neg hup, if_pos h] at this; omega
    · exact h
  subst hw
  have d1 : decide (up < 0) = false := decide_eq_false (by omega)
  have d2 : decide (SH ≤ up) = false := decide_eq_false (by omega)
  have hu1 : 0 ≤ up := by omega
  have hu2 : up < SH := by omega
  have hP := stFits_iff.1 hst
  obtain ⟨rfl, hpath, -⟩ := hP
  obtain ⟨⟨W1, H1, m4⟩, hst2⟩ := isPathB_iff.1 (hpath 4 (by omega))
  have PB := Lib.hid fun (x : Nat) (hx : (x : Int) < m 4) => stepB_iff.1 (hst2 x (by omega) hx)
  have npos : 0 < n := by
    have := Int.mul_pos (show 0 < SW by omega) (show 0 < H by omega)
    omega
  have BC := Lib.hid fun w' hA' => bclone_pos A n c p w' hA' (by omega) npos
  have HM4 := Lib.hid m4; have HNN := Lib.hid hnn; have HSN := Lib.hid hsnn
  clear hst hpath hst2 m4 hup RE HE hnn hsnn
  obtain ⟨p1, p2, p3⟩ := k1.cells3
  have p4 := k3.cells0
  go_wp2_with fail
  refine (FT.out _ (hL.below b2)).mono ?_
  rintro e w3 ⟨rfl, hb3⟩
  have b3 := below_call b2 b2.size hb3
  replace k1 := k1.below' hb3
  replace k2 := k2.below' hb3
  replace k3 := k3.below' hb3
  replace k4 := k4.below' hb3
  clear p1 p2 p3 p4 hb3 b2
  obtain ⟨p1, p2, p3⟩ := k1.cells3
  obtain ⟨q1, q2, q3⟩ := k2.cells3
  have z3 := k4.lt
  have HA := hA.to b3
  go_upto_region 10 with fail
  go_cut [11] (fun f wx => ∃ B g c', f = .pointer (some ⟨B, 0, none⟩) ∧ Below w3.heap.size w3 wx ∧ w3.heap.size ≤ g ∧ g ≠ B ∧ w3.heap.size ≤ B ∧ Blk wx B 24 #[.int .i64 SW, .int .i64 H, .slice (some ⟨g, 0, none⟩) n c'] ∧ ArrO wx g n p)
  case first =>
    go_region_held3 (fun w' => w'.cell? ⟨w.heap.size, 0, none⟩ = some (.int .i64 SW) ∧ w'.cell? ⟨w.heap.size, 1, none⟩ = some (.int .i64 H) ∧ w'.cell? ⟨w.heap.size, 2, none⟩ = some (.slice A n c))
      (first | (simp [go_sem, *]; done) | (go_keep; done))
      (first
      | (go_at_call 85
         with_reducible refine Calls.mono (BC.out _ ?_) ?_
         focus (repeat (first | with_reducible assumption | with_reducible refine ArrB.alloc1 ?_ _ | with_reducible refine ArrB.drew1 ?_ | (with_reducible apply ArrB.fillN; (focus (with_reducible assumption)); (focus omega)) | (with_reducible apply ArrB.fillL; (focus (with_reducible assumption)); (focus (first | omega | (simp; done) | (simp; omega)))) | (with_reducible apply ArrB.to'; focus (with_reducible assumption))))
         rintro e v1 ⟨_, rfl, ⟨g, c', rfl, hcc, hg, hk⟩, hb1⟩
         have kk1 : Blk v1 w.heap.size 24 #[.int .i64 SW, .int .i64 H, .slice A n c] := by (repeat (first | with_reducible assumption | with_reducible exact Blk.new _ _ _ | with_reducible exact Blk.new' (World.size_alloc _ _) _ _ | (with_reducible refine Blk.new' ?_ _ _; focus (simp; done)) | with_reducible apply Blk.fill3 | (with_reducible refine Blk.far3' ?_ ?_; focus omega) | with_reducible refine Blk.alloc ?_ _ | with_reducible refine Blk.drew ?_ | (with_reducible apply Blk.below2; focus (with_reducible assumption))))
         obtain ⟨x11, x12, x13⟩ := kk1.cells3
         have zz1 := hb1.size
         try simp at zz1
         have yy1 := kk1.lt
         have yy2 := hk.lt
         try simp at hg
         first | (have g1 : Blk v1 w3.heap.size 24 #[.int .i64 0, .int .i64 0, .slice none 0 0] := by ((repeat (first | with_reducible assumption | with_reducible exact Blk.new _ _ _ | with_reducible exact Blk.new' (World.size_alloc _ _) _ _ | (with_reducible refine Blk.new' ?_ _ _; focus (simp; done)) | with_reducible apply Blk.fill3 | (with_reducible refine Blk.far3' ?_ ?_; focus omega) | with_reducible refine Blk.alloc ?_ _ | with_reducible refine Blk.drew ?_ | (with_reducible apply Blk.below2; focus (with_reducible assumption)))); done)
                  obtain ⟨h1, h2, h3⟩ := g1.cells3; obtain ⟨f1, f2, f3⟩ := g1.frozen3; have lt1 := g1.lt) | skip))
    all_goals
      go_wp2_with fail
      go_meet
      refine ⟨_, g, c', rfl, ?_, ?_, ?_, ?_, ?_, ?_⟩
      focus (repeat (first | with_reducible exact Below.refl _ _ | with_reducible assumption | with_reducible refine Below.drew ?_ | (with_reducible refine below_alloc' ?_ ?_; focus (first | omega | (simp; done) | (simp; omega))) | (with_reducible refine below_fill3' ?_ ?_; focus omega) | (with_reducible refine below_setCell' ?_ ?_; focus (first | omega | (simp; done) | (simp; omega))) | (with_reducible apply below_call'; (focus (with_reducible assumption)); (focus (first | omega | (simp; done) | (simp; omega))))))
      focus (first | omega | (simp; omega))
      focus (first | omega | (simp; omega))
      focus (first | omega | (simp; omega))
      focus (repeat (first | with_reducible assumption | with_reducible exact Blk.new _ _ _ | with_reducible exact Blk.new' (World.size_alloc _ _) _ _ | (with_reducible refine Blk.new' ?_ _ _; focus (simp; done)) | with_reducible apply Blk.fill3 | (with_reducible refine Blk.far3' ?_ ?_; focus omega) | with_reducible refine Blk.alloc ?_ _ | with_reducible refine Blk.drew ?_ | (with_reducible apply Blk.below2; focus (with_reducible assumption))))
      focus (repeat (first | assumption | refine ArrO.drew ?_ | refine ArrO.alloc ?_ _ | refine ArrO.far ?_ (by first | (show g ≠ _; omega) | (simp; omega)) _))
  case rest =>
  obtain ⟨gx, gp, cp, rfl, hb4, hgp, hgx, hgx2, tx, tp⟩ := hcut
  clear p1 p2 p3 q1 q2 q3
  replace k1 := k1.below' hb4
  replace k2 := k2.below' hb4
  replace k3 := k3.below' hb4
  replace k4 := k4.below' hb4
  have b4 := below_call b3 b3.size hb4
  clear b3 hb4 HA FT BC
  have zb := b4.size
  obtain ⟨bA, oA, A4, c4, rfl, hbA, hcA, haA⟩ := hL.at_ (i := 4) (by omega)
  obtain ⟨b5, o5, rfl, hb5, hc5⟩ := ArrI.fn haA (by have := HM4.out; omega)
  have HC5 := Lib.hid hc5
  have r4 := k3.cells0
  have r5 := (b4.cell (p := ⟨bA, oA + 4, none⟩) hbA).trans hcA
  clear hc5 hcA
  go_wp2_with fail
  generalize hm4 : m 4 = M at *
  have sp0 : ArrO wc gp n (rsP SW SH p sp (ln 4) up (0 : Nat) (0 : Nat)) := tp.conv fun i _ _ => (rsP_zero (by omega)).symm
  go_loopw [62] (fun s wr => ∃ x : Nat, x ≤ M ∧ s = .int .i64 x ∧ Below w.heap.size w wr ∧ Blk wr w.heap.size 24 #[.int .i64 SW, .int .i64 H, .slice A n c] ∧ Blk wr (w.heap.size + 1) 24 #[.int .i64 SW, .int .i64 SH, .slice SA sn sc] ∧ Blk wr (w.heap.size + 1 + 1 + 1) 24 #[.int .i64 0, .int .i64 0, .slice none 0 0] ∧ Blk wr gx 24 #[.int .i64 SW, .int .i64 H, .slice (some ⟨gp, 0, none⟩) n cp] ∧ ArrO wr gp n (rsP SW SH p sp (ln 4) up x (0 : Nat))) (fun s _ => M - (intOf s).toNat)
  case atStart => exact ⟨0, by omega, rfl, b4, k1, k2, k4, tx, sp0⟩
  case round =>
    obtain ⟨x, hx, rfl, b6, t1, t2, t4, tx, tp⟩ := hrel
    clear r4 r5 b4 k1 k2 k3 k4 sp0
    obtain ⟨r1, r2, r3⟩ := t1.cells3
    obtain ⟨y1, y2, y3⟩ := t2.cells3
    by_cases xl : (x : Int) < M
    · have xW : (x : Int) < SW := by have := HM4.out; omega
      have lx := HC5.out x (by omega) xl
      rw [Int.toNat_natCast] at lx
      have cx := (b6.cell (p := ⟨b5, o5 + x, none⟩) hb5).trans lx
      obtain ⟨pb1, pb2, -⟩ := PB.out x xl
      rw [Int.toNat_natCast] at pb1 pb2
      generalize hlx : ln 4 x = l at *
      have HLX := Lib.hid hlx
      clear lx hlx
      go_wp2_with fail
      go_loopw [69] (fun s wr => ∃ y : Nat, (y : Int) ≤ SH ∧ s = .int .i64 y ∧ Below w.heap.size w wr ∧ Blk wr w.heap.size 24 #[.int .i64 SW, .int .i64 H, .slice A n c] ∧ Blk wr (w.heap.size + 1) 24 #[.int .i64 SW, .int .i64 SH, .slice SA sn sc] ∧ Blk wr (w.heap.size + 1 + 1 + 1) 24 #[.int .i64 0, .int .i64 0, .slice none 0 0] ∧ Blk wr gx 24 #[.int .i64 SW, .int .i64 H, .slice (some ⟨gp, 0, none⟩) n cp] ∧ ArrO wr gp n (rsP SW SH p sp (ln 4) up x y)) (fun s _ => (SH - intOf s).toNat)
      case atStart => exact ⟨0, by omega, rfl, b6, t1, t2, t4, tx, tp⟩
      case round =>
        obtain ⟨y, hy, rfl, b7, a1, a2, a4, ax, ap⟩ := hrel
        clear r1 r2 r3 y1 y2 y3 b6 t1 t2 t4 tx tp cx
        obtain ⟨r1, r2, r3⟩ := a1.cells3
        obtain ⟨y1, y2, y3⟩ := a2.cells3
        obtain ⟨x1, x2, x3⟩ := ax.cells3
        by_cases yl : (y : Int) < SH
        · have v3 : IntKind.i64.wrap (l - up) = l - up := IntWalk.i64_in _ (by omega)
          have v4 : IntKind.i64.wrap (l - up + y) = l - up + y := IntWalk.i64_in _ (by omega)
          by_cases hin : 0 ≤ l - up + (y : Int) ∧ l - up + (y : Int) < H
          · obtain ⟨hi1, hi2⟩ := hin
            have d1 : decide (0 ≤ l - up + (y : Int)) = true := decide_eq_true hi1
            have d2 : decide (l - up + (y : Int) < H) = true := decide_eq_true hi2
            obtain ⟨i1, i2, i3⟩ := idx_lt (x := (x : Int)) (y := l - up + (y : Int)) (W := SW) (H := H) (by omega) xW hi1 hi2
            rw [Int.mul_comm H SW] at i2
            obtain ⟨j1, j2, j3⟩ := idx_lt (x := (x : Int)) (y := (y : Int)) (W := SW) (H := SH) (by omega) xW (by omega) yl
            rw [Int.mul_comm SH SW] at j2
            have i4 : (l - up + (y : Int)) * SW + x < (n : Int) := by have := HNN.out; omega
            have j4 : (y : Int) * SW + x < (sn : Int) := by have := HSN.out; omega
            have nb := (area_bd hW1 hW2 hH1 hH2).2
            have nb2 := (area_bd hSW1 hSW2 hSH1 hSH2).2
            have v5 : IntKind.i64.wrap ((l - up + (y : Int)) * SW) = (l - up + (y : Int)) * SW := IntWalk.i64_in _ (by omega)
            have v6 : IntKind.i64.wrap ((l - up + (y : Int)) * SW + x) = (l - up + (y : Int)) * SW + x := IntWalk.i64_in _ (by omega)
            have v7 : IntKind.i64.wrap ((y : Int) * SW) = (y : Int) * SW := IntWalk.i64_in _ (by omega)
            have v8 : IntKind.i64.wrap ((y : Int) * SW + x) = (y : Int) * SW + x := IntWalk.i64_in _ (by omega)
            obtain ⟨bi, oi, rfl, hbi, hci⟩ := ArrB.at_ (ArrB.below hS b7) j1 j4
            have cg := ap.cell i1 i4
            have fg := ap.frozen ((l - up + (y : Int)) * SW + x).toNat
            have KS := Lib.hid (ap.set ((l - up + (y : Int)) * SW + x) i1 i4 (sp ((y : Int) * SW + x)))
            have BS := Lib.hid (fun i => rsP_set (p := p) (q := sp) (l := ln 4) (up := up) (x := (x : Int)) (y := (y : Int)) (h := SH) (i := i) (by omega) xW (by omega) yl)
            generalize hpv : sp ((y : Int) * SW + x) = pv at *
            have HPV := Lib.hid hpv
            clear hpv
            go_wp2_with fail
            go_still_tail 19, (by kernel_rfl)
            change wpList _ _ _ _ _ wr.drew
            clear v5 v6 v7 v8
            go_wp2
            go_roundw
            case rel => exact ⟨y + 1, by omega, by go_num, by (repeat (first | exact Below.refl _ _ | assumption | refine Below.drew ?_ | refine below_drewN ?_ _ | refine Below.alloc ?_ (by first | omega | (simp; done) | (simp; omega)) _ | refine Below.setCell ?_ (by first | omega | (simp; done) | (simp; omega)) _ | refine below_setRow ?_ (by first | omega | (simp; done) | (simp; omega)) _ )), a1.drew.far (p := ⟨gp, ((l - up + (y : Int)) * SW + x).toNat, none⟩) (by show w.heap.size ≠ gp; omega) _, a2.drew.far (p := ⟨gp, ((l - up + (y : Int)) * SW + x).toNat, none⟩) (by show w.heap.size + 1 ≠ gp; omega) _, a4.drew.far (p := ⟨gp, ((l - up + (y : Int)) * SW + x).toNat, none⟩) (by show w.heap.size + 1 + 1 + 1 ≠ gp; omega) _, ax.drew.far (p := ⟨gp, ((l - up + (y : Int)) * SW + x).toNat, none⟩) (fun e => hgx e.symm) _, ArrO.conv (by simpa using KS.out.drew) fun i _ _ => by have h := BS.out i; rw [Int.toNat_natCast, HLX.out] at h; rw [Int.natCast_add]; exact h⟩
            case measure => simp [intOf]; omega
          · have SK := Lib.hid (fun i (h0 : 0 ≤ i) (h1 : i < SW * H) => rsP_skip (p := p) (q := sp) (l := ln 4) (up := up) (x := (x : Int)) (y := (y : Int)) (h := SH) (H := H) (W := SW) (i := i) (by omega) h0 h1 (by rw [Int.toNat_natCast, HLX.out]; exact hin))
            by_cases h0 : 0 ≤ l - up + (y : Int)
            · have hh2 : ¬ l - up + (y : Int) < H := fun h3 => hin ⟨h0, h3⟩
              have d1 : decide (0 ≤ l - up + (y : Int)) = true := decide_eq_true h0
              have d2 : decide (l - up + (y : Int) < H) = false := decide_eq_false hh2
              clear hin
              go_wp2_with fail
              go_roundw
              case rel => exact ⟨y + 1, by omega, by go_num, b7, a1, a2, a4, ax, ap.conv fun i i0 i1 => SK.out i i0 (by have := HNN.out; omega)⟩
              case measure => simp [intOf]; omega
            · have d1 : decide (0 ≤ l - up + (y : Int)) = false := decide_eq_false h0
              clear hin
              go_wp2_with fail
              go_roundw
              case rel => exact ⟨y + 1, by omega, by go_num, b7, a1, a2, a4, ax, ap.conv fun i i0 i1 => SK.out i i0 (by have := HNN.out; omega)⟩
              case measure => simp [intOf]; omega
        · have ey : (y : Int) = SH := by omega
          have ap2 := ap.conv (r := rsP SW SH p sp (ln 4) up ((x : Int) + 1) (0 : Nat)) fun i _ _ => by rw [ey]; exact rsP_col
          clear ap ey
          go_wp2_with fail
          go_roundw
          case rel => exact ⟨x + 1, by omega, by go_num, b7, a1, a2, a4, ax, ap2⟩
          case measure => simp [intOf]; omega
    · obtain rfl : x = M := by omega
      obtain ⟨s1, s2, s3⟩ := tx.cells3
      obtain ⟨f1, f2, f3⟩ := t4.frozen3
      obtain ⟨u1, u2, u3⟩ := t4.cells3
      have k5 := ((t4.set_ 0 (.int .i64 SW)).set_ 1 (.int .i64 H)).set_ 2 (.slice (some ⟨gp, 0, none⟩) n cp)
      obtain ⟨s4, s5, s6⟩ := Blk.cells3 (a := .int .i64 SW) (b := .int .i64 H) (c := .slice (some ⟨gp, 0, none⟩) n cp) k5
      go_wp2_with fail
      refine bodyPost_ret (v := .tuple #[.agg #[.int .i64 SW, .int .i64 H, .slice (some ⟨gp, 0, none⟩) n cp], .int .i64 0]) (by simp [results, Tryz.results44, go_sem, s4, s5, s6]) rfl ?_
      refine ⟨_, rfl, ⟨_, _, rfl, (fun a e => by cases e; show w.heap.size ≤ gp; omega), ?_⟩, by (repeat (first | exact Below.refl _ _ | assumption | refine Below.drew ?_ | refine below_drewN ?_ _ | refine Below.alloc ?_ (by first | omega | (simp; done) | (simp; omega)) _ | refine Below.setCell ?_ (by first | omega | (simp; done) | (simp; omega)) _ | refine below_setRow ?_ (by first | omega | (simp; done) | (simp; omega)) _ ))⟩
      have g1 : gp ≠ w.heap.size + 1 + 1 + 1 := by omega
      refine ArrO.arr (ArrO.far (ArrO.far (ArrO.far (tp.conv fun i _ _ => ?_) g1 _) g1 _) g1 _)
      rw [HM4.out]
      exact rsP_end (by omega)
end Go.Proofs.YtdimlpcbbkokiaaGreat

/- Plain: an image filled row by row by a condition; the strips as such images. No program in sight. -/
namespace Go.Proofs.YtdimlpcbbkokiaaGreat
open Go.RowKit
set_option linter.unusedVariables false
/-- ink where the condition holds -/
def fillB (C : Int → Int → Bool) (W : Int) : Int → Int := fun i => if C (i % W) (i / W) = true then 1 else 0
section
variable {C : Int → Int → Bool} {W H h x y i : Int}
theorem fillB_at (x0 : 0 ≤ x) (x1 : x < W) : fillB C W (y * W + x) = if C x y = true then 1 else 0 := by
  unfold fillB; rw [idx_mod x0 x1, idx_div x0 x1]
theorem fill_yes (x0 : 0 ≤ x) (x1 : x < W) (hc : C x y = true) : upd (byRow W (fillB C W) (fun _ => 0) y x) (y * W + x) 1 i = byRow W (fillB C W) (fun _ => 0) y (x + 1) i := by
  have h := byRow_set (q := fillB C W) (z := fun _ => 0) (y := y) (i := i) x0 x1
  rwa [fillB_at x0 x1, if_pos hc] at h
theorem fill_no (x0 : 0 ≤ x) (x1 : x < W) (hc : C x y = false) : byRow W (fillB C W) (fun _ => 0) y x i = byRow W (fillB C W) (fun _ => 0) y (x + 1) i :=
  byRow_skip x0 x1 (by rw [fillB_at x0 x1, if_neg (by simp [hc])])
theorem fillB_is01 : Is01 (fillB C W) := fun i => by unfold fillB; split <;> simp
end
/-- the reference's condition for a strip -/
def recC (W H : Int) (p : Int → Int) (l : Nat → Int) (up : Int) : Int → Int → Bool := fun x y => inkB W H p x (l x.toNat - up + y)
def resC (W H h : Int) (p q : Int → Int) (l : Nat → Int) (up : Int) : Int → Int → Bool := fun x y =>
  if 0 ≤ y - l x.toNat + up ∧ y - l x.toNat + up < h then inkB W h q x (y - l x.toNat + up) else inkB W H p x y
theorem recC_eq {W H up : Int} {n : Nat} {p : Int → Int} {l : Nat → Int} {i : Int} (hE : chk W H n p = 0) (hB : IsB p) (hW : 1 ≤ W) (h0 : 0 ≤ i) : recQ W H p l up i = fillB (recC W H p l up) W i := by
  obtain ⟨-, -, -, -, hn, hp⟩ := chk_ok hE
  have m0 : 0 ≤ i % W := Int.emod_nonneg _ (by omega)
  have m1 : i % W < W := Int.emod_lt_of_pos _ (by omega)
  unfold recQ fillB recC
  by_cases c : 0 ≤ l (i % W).toNat - up + i / W ∧ l (i % W).toNat - up + i / W < H
  · rw [if_pos c, inkB_in m0 m1 c.1 c.2]
    obtain ⟨i1, i2, -⟩ := idx_lt m0 m1 c.1 c.2
    have a := hp _ i1 (by rw [hn, Int.mul_comm W H]; exact i2)
    have b := (hB ((l (i % W).toNat - up + i / W) * W + i % W)).1
    by_cases e : p ((l (i % W).toNat - up + i / W) * W + i % W) = 1
    · rw [if_pos (decide_eq_true e), e]
    · rw [if_neg (by simp [e])]; omega
  · rw [if_neg c, if_neg (fun h => c ⟨(inkB_iff.1 h).2.2.1, (inkB_iff.1 h).2.2.2.1⟩)]
theorem resC_eq {W H h up : Int} {n ns : Nat} {p q : Int → Int} {l : Nat → Int} {i : Int} (hE : chk W H n p = 0) (hS : chk W h ns q = 0) (hB : IsB p) (hBq : IsB q) (hW : 1 ≤ W) (h0 : 0 ≤ i) (hi : i < W * H) : resQ W H h p q l up i = fillB (resC W H h p q l up) W i := by
  obtain ⟨-, -, -, -, hn, hp⟩ := chk_ok hE
  obtain ⟨-, -, -, -, hns, hq⟩ := chk_ok hS
  have m0 : 0 ≤ i % W := Int.emod_nonneg _ (by omega)
  have m1 : i % W < W := Int.emod_lt_of_pos _ (by omega)
  have h2 : 0 ≤ i / W := Int.ediv_nonneg h0 (by omega)
  have h3 : i / W < H := Int.ediv_lt_of_lt_mul (by omega) (by rw [Int.mul_comm]; exact hi)
  have e1 : i / W * W + i % W = i := by have := Int.emod_add_mul_ediv i W; rw [Int.mul_comm] at this; omega
  unfold resQ fillB resC
  by_cases c : 0 ≤ i / W - l (i % W).toNat + up ∧ i / W - l (i % W).toNat + up < h
  · rw [if_pos c, if_pos c, inkB_in m0 m1 c.1 c.2]
    obtain ⟨i1, i2, -⟩ := idx_lt m0 m1 c.1 c.2
    have a := hq _ i1 (by rw [hns, Int.mul_comm W h]; exact i2)
    have b := (hBq ((i / W - l (i % W).toNat + up) * W + i % W)).1
    by_cases e : q ((i / W - l (i % W).toNat + up) * W + i % W) = 1
    · rw [if_pos (decide_eq_true e), e]
    · rw [if_neg (by simp [e])]; omega
  · rw [if_neg c, if_neg c, inkB_in m0 m1 h2 h3, e1]
    have a := hp i h0 (by omega)
    have b := (hB i).1
    by_cases e : p i = 1
    · rw [if_pos (decide_eq_true e), e]
    · rw [if_neg (by simp [e])]; omega
end Go.Proofs.YtdimlpcbbkokiaaGreat
