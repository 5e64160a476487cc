/- Texts of mine in build order: J10, J11, Open. Conditions: each theorem's own. -/
import Derived.Test.YtoonkpjddfiopaaDoorMImageSetsx7
import Derived.Deep.RegionHeld3
import Derived.Test.YtoonkpjddfiopaaDoorRows
import Derived.ProofKit
import Derived.OpenShut
import Derived.ShutString
import Derived.ChangeOld
import Derived.Lib.SmallJoins
/- Walks: Count of images whose slice has an address; the distance; ink within ink; an image of the sides of another one (Fitted). -/
namespace Go.Proofs.YtoonkpjddfiopaaDoor
open Go.RowKit Go.Shelf
set_option linter.unusedVariables false

set_option maxHeartbeats 2000000 in
set_option maxRecDepth 1000000 in
theorem bcount_some (b off n c b2 o2 d : Nat) (q : Int → Int) (cv : Int) (w : World) (hc : ∀ i : Int, 0 ≤ i → i < n → w.cell? ⟨b, off + i.toNat, none⟩ = some (.int .u8 (q i))) (hc2 : w.cell? ⟨b2, o2, none⟩ = some (.int .u8 cv)) :
    Calls Tryd.prog 116 #[.slice (some ⟨b, off, none⟩) n c, .slice (some ⟨b2, o2, none⟩) 1 d] w fun e w' => e = .returned (.int .i64 (Lib.countByte (Lib.bytesOf ((List.range n).map fun (j : Nat) => q j)) cv.toNat.toUInt8)) ∧ w' = w := by
  have hx : ((List.range n).map fun (j : Nat) => q j).length = n := by simp
  have hcs : ∀ i, i < n → w.cell? ⟨b, off + i, none⟩ = some (.int .u8 (((List.range n).map fun (j : Nat) => q j).getD i 0)) := fun i hi => by
    have h := hc (i : Int) (by omega) (by omega)
    rw [Int.toNat_natCast] at h
    rw [h, List.getD_eq_getElem?_getD, List.getElem?_map, List.getElem?_range hi]
    rfl
  have RC := Lib.hid (Lib.run_countSlice (P := Tryd.prog) w b off n c _ hx hcs cv)
  clear hx hcs hc
  generalize Lib.countByte (Lib.bytesOf ((List.range n).map fun (j : Nat) => q j)) cv.toNat.toUInt8 = r at *
  go_enter Tryd.func116, Tryd.ntmps116
  go_wp2
  rw [run_callFunc_extern Tryd.func142 (by kernel_rfl) (by kernel_rfl) (by kernel_rfl) (e := Extern.BytealgCount.count) (by kernel_rfl), RC.out]
  simp only [Result.andThen]
  rw [Oper.upon_value]
  go_wp2
  go_ret
  exact ⟨rfl, rfl⟩
set_option maxHeartbeats 2000000 in
theorem count_some (W H : Int) (b off n c : Nat) (q : Int → Int) (w : World) (hA : ArrB w w.heap.size (some ⟨b, off, none⟩) n q) (hnm : n ≤ maxLen) (hE : chk W H n q = 0) (hz : ∀ i : Int, 0 ≤ i → i < n → q i = 0 ∨ q i = 1) :
    Calls Tryd.prog 63 #[.agg #[.int .i64 W, .int .i64 H, .slice (some ⟨b, off, none⟩) n c]] w fun e w' => e = .returned (.tuple #[.int .i64 (sumN n q), .int .i64 0]) ∧ Below w.heap.size w w' := by
  have CK := Lib.hid fun w' hA' => check_any W H (some ⟨b, off, none⟩) n c q w' hA' hnm
  rw [hE] at CK
  have HA := Lib.hid hA
  have CZ := Lib.hid (count_sum hz)
  clear hE hz hA
  go_enter Tryd.func63, Tryd.ntmps63
  go_wp2_with fail
  have k1 := Blk.new w 24 #[.int .i64 W, .int .i64 H, .slice (some ⟨b, off, none⟩) n c]
  have b1 : Below w.heap.size w (w.alloc (.cells #[.int .i64 W, .int .i64 H, .slice (some ⟨b, off, none⟩) n c] 24)) := (Below.refl _ _).alloc (Nat.le_refl _) _
  generalize w.alloc (.cells #[.int .i64 W, .int .i64 H, .slice (some ⟨b, off, none⟩) n c] 24) = w1 at *
  refine (CK.out w1 (HA.out.to b1)).mono ?_
  rintro e w2 ⟨rfl, hb2⟩
  have k2 := k1.below' hb2
  have b2 := below_call b1 b1.size hb2
  obtain ⟨p1, p2, p3⟩ := k2.cells3
  have kn := Blk.new w2 5 #[.int .u8 1]
  have bn : Below w2.heap.size w2 (w2.alloc (.cells #[.int .u8 1] 5)) := (Below.refl _ _).alloc (Nat.le_refl _) _
  have hA3 := (HA.out.to b2).to bn
  have b3 := b2.trans (bn.mono b2.size)
  have hc3 : ∀ i : Int, 0 ≤ i → i < n → (w2.alloc (.cells #[.int .u8 1] 5)).cell? ⟨b, off + i.toNat, none⟩ = some (.int .u8 (q i)) := fun i i0 i1 => by
    obtain ⟨b', o', e, _, hc⟩ := ArrB.at_ hA3 i0 i1
    cases e
    exact hc
  have HC3 := Lib.hid hc3
  clear k1 b1 hb2 hc3 hA3
  go_wp2_with fail
  refine (bcount_some b off n c w2.heap.size 0 1 q 1 _ HC3.out (kn.cell 0)).mono ?_
  rintro e w4 ⟨rfl, rfl⟩
  rw [CZ.out]
  go_wp2
  refine bodyPost_ret (results_tmp2 rfl _ _ _) rfl ?_
  exact ⟨rfl, b3⟩

set_option maxHeartbeats 1000000 in
/-- the distance of two valid images of the same sides -/
theorem distance_ok (W H : Int) (A B : Option Addr) (n c d : Nat) (p q : Int → Int) (w : World) (hA : ArrB w w.heap.size A n p) (hB : ArrB w w.heap.size B n q) (hn : n ≤ maxLen) (hEa : chk W H n p = 0) (hEb : chk W H n q = 0) (hp : IsB p) (hq : IsB q) :
    Calls Tryd.prog 74 #[.agg #[.int .i64 W, .int .i64 H, .slice A n c], .agg #[.int .i64 W, .int .i64 H, .slice B n d]] w fun e w' => e = .returned (.tuple #[.int .i64 (sumN n (fun i => xorF (p i) (q i))), .int .i64 0]) ∧ Below w.heap.size w w' := by
  obtain ⟨c1, c2, c3, c4, c5, hpa⟩ := chk_ok hEa
  obtain ⟨-, -, -, -, -, hqa⟩ := chk_ok hEb
  have PR := Lib.hid fun w' h1 h2 => pair_ok W H A B n c d p q 125 xorF w' h1 h2 hn hEa hEb enter_xor (fun i a b w' => xor1_any _ _ (by have := hpa i a b; have := (hp i).1; omega) (by have := hqa i a b; have := (hq i).1; omega) w')
  have CN := Lib.hid fun b off c' w' h1 => count_some W H b off n c' (fun i => xorF (p i) (q i)) w' h1 hn (chk_mk c1 c2 c3 c4 c5 fun i _ _ => by rcases xorF_01 (p i) (q i) with e | e <;> omega) (fun i _ _ => xorF_01 _ _)
  have b1 : Below w.heap.size w ((w.alloc (.cells #[.int .i64 W, .int .i64 H, .slice A n c] 24)).alloc (.cells #[.int .i64 W, .int .i64 H, .slice B n d] 24)) := by (repeat (first | exact Below.refl _ _ | assumption | refine Below.drew ?_ | refine below_drewN ?_ _ | refine Below.alloc ?_ (by first | omega | (simp; done) | (simp; omega)) _ | refine Below.setCell ?_ (by first | omega | (simp; done) | (simp; omega)) _ | refine below_setRow ?_ (by first | omega | (simp; done) | (simp; omega)) _ ))
  have hA1 := hA.to b1
  have hB1 := hB.to b1
  clear hEa hEb hp hq hpa hqa hA hB c1 c2 c3 c4 c5
  go_enter Tryd.func74, Tryd.ntmps74
  go_wp2_with fail
  generalize (w.alloc (.cells #[.int .i64 W, .int .i64 H, .slice A n c] 24)).alloc (.cells #[.int .i64 W, .int .i64 H, .slice B n d] 24) = w1 at *
  refine (PR.out _ hA1 hB1).mono ?_
  rintro e w2 ⟨_, rfl, ⟨g, rfl, hg, kg⟩, hb2⟩
  have b2 := below_call b1 b1.size hb2
  have b3 := b2.alloc b2.size (.cells #[.int .i64 W, .int .i64 H, .slice (some ⟨g, 0, none⟩) n n] 24)
  have kg' := kg.alloc (.cells #[.int .i64 W, .int .i64 H, .slice (some ⟨g, 0, none⟩) n n] 24)
  have ag := kg'.arrB kg'.lt
  clear kg kg' b1 b2 hb2 hg PR hA1 hB1
  go_wp2_with fail
  refine (CN.out g 0 n _ ag).mono ?_
  rintro e w4 ⟨rfl, hb4⟩
  have b4 := below_call b3 b3.size hb4
  go_wp2
  refine bodyPost_ret (results_tmp2 rfl _ _ _) rfl ?_
  exact ⟨rfl, b4⟩

set_option maxHeartbeats 1000000 in
/-- whether all ink is ink of another image -/
theorem within_ok (W H : Int) (A B : Option Addr) (n c d : Nat) (p q : Int → Int) (w : World) (hA : ArrB w w.heap.size A n p) (hB : ArrB w w.heap.size B n q) (hn : n ≤ maxLen) (hEa : chk W H n p = 0) (hEb : chk W H n q = 0) (hp : IsB p) (hq : IsB q) (r : Bool) (hr : r = decide (sumN n (fun i => lessF (p i) (q i)) = 0)) :
    Calls Tryd.prog 66 #[.agg #[.int .i64 W, .int .i64 H, .slice A n c], .agg #[.int .i64 W, .int .i64 H, .slice B n d]] w fun e w' => e = .returned (.bool r) ∧ Below w.heap.size w w' := by
  obtain ⟨c1, c2, c3, c4, c5, hpa⟩ := chk_ok hEa
  have LS := Lib.hid fun w' h1 h2 => less_ok W H A B n c d p q w' h1 h2 hn hEa hEb hp hq
  have CN := Lib.hid fun b off c' w' h1 => count_some W H b off n c' (fun i => lessF (p i) (q i)) w' h1 hn (chk_mk c1 c2 c3 c4 c5 fun i _ _ => by rcases lessF_01 (p i) (q i) with e | e <;> omega) (fun i _ _ => lessF_01 _ _)
  have b1 : Below w.heap.size w ((w.alloc (.cells #[.int .i64 W, .int .i64 H, .slice A n c] 24)).alloc (.cells #[.int .i64 W, .int .i64 H, .slice B n d] 24)) := by (repeat (first | exact Below.refl _ _ | assumption | refine Below.drew ?_ | refine below_drewN ?_ _ | refine Below.alloc ?_ (by first | omega | (simp; done) | (simp; omega)) _ | refine Below.setCell ?_ (by first | omega | (simp; done) | (simp; omega)) _ | refine below_setRow ?_ (by first | omega | (simp; done) | (simp; omega)) _ ))
  have hA1 := hA.to b1
  have hB1 := hB.to b1
  clear hEa hEb hp hq hpa hA hB c1 c2 c3 c4 c5
  obtain ⟨sm, hsm⟩ : ∃ s, sumN n (fun i => lessF (p i) (q i)) = s := ⟨_, rfl⟩
  rw [hsm] at CN hr
  have hrb : (sm == 0) = r := by rw [hr]; by_cases e : sm = 0 <;> simp [e]
  clear hsm hr
  go_enter Tryd.func66, Tryd.ntmps66
  go_wp2_with fail
  generalize (w.alloc (.cells #[.int .i64 W, .int .i64 H, .slice A n c] 24)).alloc (.cells #[.int .i64 W, .int .i64 H, .slice B n d] 24) = w1 at *
  refine (LS.out _ hA1 hB1).mono ?_
  rintro e w2 ⟨_, rfl, ⟨g, rfl, hg, kg⟩, hb2⟩
  have b2 := below_call b1 b1.size hb2
  have b3 := b2.alloc b2.size (.cells #[.int .i64 W, .int .i64 H, .slice (some ⟨g, 0, none⟩) n n] 24)
  have kg' := kg.alloc (.cells #[.int .i64 W, .int .i64 H, .slice (some ⟨g, 0, none⟩) n n] 24)
  have ag := kg'.arrB kg'.lt
  clear kg kg' b1 b2 hb2 hg LS hA1 hB1
  go_wp2_with fail
  refine (CN.out g 0 n _ ag).mono ?_
  rintro e w4 ⟨rfl, hb4⟩
  have b4 := below_call b3 b3.size hb4
  clear CN ag
  go_wp2
  go_ret
  exact ⟨by first | rfl | (rw [hrb]), b4⟩

set_option maxRecDepth 100000 in
set_option maxHeartbeats 2000000 in
theorem fitted_any (W H : Int) (A C : Option Addr) (N c n d : Nat) (p r : Int → Int) (w : World) (hA : ArrB w w.heap.size A N p) (hC : ArrB w w.heap.size C n r) (hn : n ≤ maxLen) (hr : IsB r) (h1 : 0 ≤ W) (h2 : W ≤ 640) (h3 : 0 ≤ H) (h4 : H ≤ 640) (hN : (N : Int) = W * H) :
    Calls Tryd.prog 69 #[.agg #[.int .i64 W, .int .i64 H, .slice A N c], .slice C n d] w (New w fun v w' => OutN w w' W H N (bitQ n r) v) := by
  unfold maxLen at hn
  obtain ⟨m1, m2⟩ := area_bd h1 h2 h3 h4
  have hmk := makeB (W * H) m1 (by omega)
  rw [show (W * H).toNat = N by omega] at hmk
  have v1 : IntKind.i64.wrap (W * H) = W * H := IntWalk.i64_in _ (by omega)
  have HN := Lib.hid hN
  have HNb : Hid ((N : Int) ≤ 409600) := by show _ ≤ _; omega
  clear hN
  go_enter Tryd.func69, Tryd.ntmps69
  go_upto_region 1 with fail
  have k1 : Blk ((w.alloc (.cells #[.int .i64 W, .int .i64 H, .slice A N c] 24)).alloc (.cells #[.int .i64 0, .int .i64 0, .slice none 0 0] 24)) w.heap.size 24 #[.int .i64 W, .int .i64 H, .slice A N c] := (Blk.new _ _ _).alloc _
  have k2 : Blk ((w.alloc (.cells #[.int .i64 W, .int .i64 H, .slice A N c] 24)).alloc (.cells #[.int .i64 0, .int .i64 0, .slice none 0 0] 24)) (w.heap.size + 1) 24 #[.int .i64 0, .int .i64 0, .slice none 0 0] := Blk.new' (by simp) _ _
  have b1 : Below w.heap.size w ((w.alloc (.cells #[.int .i64 W, .int .i64 H, .slice A N c] 24)).alloc (.cells #[.int .i64 0, .int .i64 0, .slice none 0 0] 24)) := by (repeat (first | exact Below.refl _ _ | assumption | refine Below.drew ?_ | refine below_drewN ?_ _ | refine Below.alloc ?_ (by first | omega | (simp; done) | (simp; omega)) _ | refine Below.setCell ?_ (by first | omega | (simp; done) | (simp; omega)) _ | refine below_setRow ?_ (by first | omega | (simp; done) | (simp; omega)) _ ))
  generalize (w.alloc (.cells #[.int .i64 W, .int .i64 H, .slice A N c] 24)).alloc (.cells #[.int .i64 0, .int .i64 0, .slice none 0 0] 24) = w1 at *
  have Z1 := k1.lt; have Z2 := k2.lt
  obtain ⟨p1, p2, p3⟩ := k1.cells3
  go_cut [5] (fun f wx => ∃ B g, f = .pointer (some ⟨B, 0, none⟩) ∧ Below w1.heap.size w1 wx ∧ w1.heap.size ≤ g ∧ g ≠ B ∧ w1.heap.size ≤ B ∧ Blk wx B 24 #[.int .i64 W, .int .i64 H, .slice (some ⟨g, 0, none⟩) N N] ∧ Blk wx g 5 (u8s N (fun _ => 0)))
  case first =>
    go_region_held3 (fun w' => w'.cell? ⟨w.heap.size, 0, none⟩ = some (.int .i64 W) ∧ w'.cell? ⟨w.heap.size, 1, none⟩ = some (.int .i64 H) ∧ w'.cell? ⟨w.heap.size, 2, none⟩ = some (.slice A N c))
      (simp [go_sem, *]) (fail)
    all_goals
      go_wp2_with fail
      go_meet
    · exact ⟨w1.heap.size + 1, w1.heap.size, rfl, by (repeat (first | exact Below.refl _ _ | assumption | refine Below.drew ?_ | refine below_drewN ?_ _ | refine Below.alloc ?_ (by first | omega | (simp; done) | (simp; omega)) _ | refine Below.setCell ?_ (by first | omega | (simp; done) | (simp; omega)) _ | refine below_setRow ?_ (by first | omega | (simp; done) | (simp; omega)) _ )), by omega, by omega, by omega, (Blk.new' (by simp) _ _).drew, ((Blk.new _ _ _).alloc _).drew⟩
    · exact ⟨w1.heap.size, w1.heap.size + 1, rfl, by (repeat (first | exact Below.refl _ _ | assumption | refine Below.drew ?_ | refine below_drewN ?_ _ | refine Below.alloc ?_ (by first | omega | (simp; done) | (simp; omega)) _ | refine Below.setCell ?_ (by first | omega | (simp; done) | (simp; omega)) _ | refine below_setRow ?_ (by first | omega | (simp; done) | (simp; omega)) _ )), by omega, by omega, by omega, ((Blk.new _ _ _).alloc _).drew, (Blk.new' (by simp) _ _).drew⟩
  case rest =>
    obtain ⟨B, g, rfl, hb2, hg, hgB, hBB, kB, kg⟩ := hcut
    have k2 := k2.below' hb2
    have b2 := below_call b1 b1.size hb2
    have hB2 : B ≠ w.heap.size + 1 := by omega
    have hg2 : g ≠ w.heap.size + 1 := by omega
    have hg3 : w.heap.size ≤ g := by omega
    clear p1 p2 p3 hb2 b1 hmk k1 v1
    obtain ⟨x1, x2, x3⟩ := kB.cells3
    go_wp2_with fail
    go_loopw [21] (fun x wr => ∃ i : Nat, i ≤ N ∧ x = .int .i64 i ∧ Below w.heap.size w wr ∧ Blk wr (w.heap.size + 1) 24 #[.int .i64 0, .int .i64 0, .slice none 0 0] ∧ Blk wr B 24 #[.int .i64 W, .int .i64 H, .slice (some ⟨g, 0, none⟩) N N] ∧ Blk wr g 5 (u8s N (bitP n r i))) (fun x _ => N - (intOf x).toNat)
    case atStart => exact ⟨0, by omega, rfl, b2, k2, kB, kg.u8conv fun j h0 hj => by unfold bitP; rw [if_neg (by omega)]⟩
    case round =>
      obtain ⟨i, hi, rfl, b3, k4, k5, k6⟩ := hrel
      clear k2 kB kg b2 x1 x2 x3
      obtain ⟨x1, x2, x3⟩ := k5.cells3
      by_cases hlt : i < N
      · have hi0 : (0 : Int) ≤ (i : Int) := by omega
        have hin : (i : Int) < (N : Int) := by omega
        have hNb := HNb.out
        by_cases hb : (i : Int) / 8 < n
        · have d0 : 0 ≤ (i : Int) / 8 := by omega
          have e0 : 0 ≤ (i : Int) % 8 := by omega
          have e1 : (i : Int) % 8 < 8 := by omega
          obtain ⟨bA, off, rfl, hbA, hcell⟩ := ArrB.at_ (ArrB.below hC b3) d0 hb
          obtain ⟨hr2, hr3⟩ := hr ((i : Int) / 8)
          have hv : 0 ≤ r ((i : Int) / 8) / 2 ^ ((i : Int) % 8).toNat ∧ r ((i : Int) / 8) / 2 ^ ((i : Int) % 8).toNat ≤ 255 := by
            have h1 : (0 : Int) < 2 ^ ((i : Int) % 8).toNat := Int.pow_pos (by omega)
            exact ⟨Int.ediv_nonneg hr2 (by omega), Int.le_trans (Int.ediv_le_self _ hr2) hr3⟩
          obtain ⟨hv1, hv2⟩ := hv
          have BV : Hid (bits BinOp.and IntKind.u8 (r ((i : Int) / 8) / 2 ^ ((i : Int) % 8).toNat) 1 = bitV r i) := by show _ = _; rw [and_one_u8 _ hv1 hv2]; rfl
          have YS := Lib.hid (fun j => bitP_yes (r := r) hb j)
          have ho := k6.u8at hi0 hin
          have hf := k6.frozen i
          have U := Lib.hid (k6.u8set i hi0 (bitV r i))
          rw [Int.toNat_natCast] at ho
          have bv := BV.out
          have t1 : IntKind.i64.wrap ((i : Int) / 8) = (i : Int) / 8 := IntWalk.i64_in _ (by omega)
          have t2 : (i : Int).tmod 8 = (i : Int) % 8 := Int.tmod_eq_emod_of_nonneg hi0
          have e2 : (i : Int) % 8 ≤ 8 := by omega
          go_wp2_with fail
          go_still_tail 13, (by kernel_rfl)
          change wpList _ _ _ _ _ wr.drew
          clear t1 t2 bv
          go_wp2
          go_roundw
          case rel => exact ⟨i + 1, by omega, by go_num, by (repeat (first | exact Below.refl _ _ | assumption | refine Below.drew ?_ | refine below_drewN ?_ _ | refine Below.alloc ?_ (by first | omega | (simp; done) | (simp; omega)) _ | refine Below.setCell ?_ (by first | omega | (simp; done) | (simp; omega)) _ | refine below_setRow ?_ (by first | omega | (simp; done) | (simp; omega)) _ )), k4.far (by simp; omega) _, k5.far (by simp; omega) _, Blk.u8conv (by simpa using U.out.drew) fun j _ _ => YS.out j⟩
          case measure => simp [intOf]; omega
        · have NS := Lib.hid (fun j => bitP_no (r := r) hb j)
          go_wp2
          go_roundw
          case rel => exact ⟨i + 1, by omega, by go_num, b3, k4, k5, k6.u8conv fun j _ _ => NS.out j⟩
          case measure => simp [intOf]; omega
      · obtain rfl : i = N := by omega
        obtain ⟨s1, s2, s3⟩ := k4.cells3
        obtain ⟨f1, f2, f3⟩ := k4.frozen3
        go_wp2
        refine bodyPost_ret (v := .agg #[.int .i64 W, .int .i64 H, .slice (some ⟨g, 0, none⟩) i i]) (by simp [results, Tryd.results69, go_sem, s1, s2, s3]) rfl ?_
        refine ⟨_, rfl, OutN.mk (w := w) (g := g) (by omega) ?_, by (repeat (first | exact Below.refl _ _ | assumption | refine Below.drew ?_ | refine below_drewN ?_ _ | refine Below.alloc ?_ (by first | omega | (simp; done) | (simp; omega)) _ | refine Below.setCell ?_ (by first | omega | (simp; done) | (simp; omega)) _ | refine below_setRow ?_ (by first | omega | (simp; done) | (simp; omega)) _ ))⟩
        exact (((k6.u8conv fun j h0 hj => bitP_end hj).far (by simp; omega) _).far (by simp; omega) _).far (by simp; omega) _
end Go.Proofs.YtoonkpjddfiopaaDoor

/- Walk of the law ImageSets. -/
namespace Go.Proofs.YtoonkpjddfiopaaDoor
open Go.RowKit
set_option linter.unusedVariables false

theorem bit01 (n : Nat) (r : Int → Int) (i : Int) : bitQ n r i = 0 ∨ bitQ n r i = 1 := by have := bitQ_01 n r i; omega
theorem sumN_plus {n : Nat} {f g h : Int → Int} (e : ∀ i : Int, 0 ≤ i → i < n → f i + g i = h i) : sumN n f + sumN n g = sumN n h := by
  induction n with
  | zero => rfl
  | succ n ih =>
    have := ih fun i a b => e i a (by omega)
    have := e n (by omega) (by omega)
    simp only [sumN]; omega
theorem sumN_nil {n : Nat} {f : Int → Int} (h : ∀ i : Int, 0 ≤ i → i < n → f i = 0) : sumN n f = 0 := by
  induction n with
  | zero => rfl
  | succ n ih => rw [sumN, ih fun i a b => h i a (by omega), h n (by omega) (by omega)]; rfl
theorem sum01 {n : Nat} {f : Int → Int} (h : ∀ i, f i = 0 ∨ f i = 1) : 0 ≤ sumN n f ∧ sumN n f ≤ n := by
  have := sumN_bd (n := n) (f := f) (m := 1) fun i _ _ => by rcases h i with e | e <;> omega
  omega
set_option maxRecDepth 100000 in
set_option maxHeartbeats 4000000 in
theorem imageSets_any (s : Int) (A C : Option Addr) (n c m d : Nat) (r t : Int → Int) (w : World) (hA : ArrB w w.heap.size A n r) (hn : n ≤ maxLen) (hr : IsB r) (hC : ArrB w w.heap.size C m t) (hm : m ≤ maxLen) (ht : IsB t) (hs : 0 ≤ s ∧ s ≤ 65535) :
    Calls Tryd.prog 13 #[.int .u16 s, .slice A n c, .slice C m d] w fun e w' => e = .returned (.bool true) ∧ Below w.heap.size w w' := by
  obtain ⟨hs0, hs1⟩ := hs
  obtain ⟨W, hW⟩ : ∃ W, s % 41 = W := ⟨_, rfl⟩
  obtain ⟨H, hH⟩ : ∃ H, s / 41 % 31 = H := ⟨_, rfl⟩
  have W0 : 0 ≤ W := by omega
  have W1 : W ≤ 40 := by omega
  have H0 : 0 ≤ H := by omega
  have H1 : H ≤ 30 := by omega
  obtain ⟨ab1, ab2⟩ := mul_bd W0 W1 H0 H1
  obtain ⟨N, hN⟩ : ∃ N : Nat, (N : Int) = W * H := ⟨(W * H).toNat, by omega⟩
  have hN9 : N ≤ 1200 := by omega
  have hnm : N ≤ maxLen := by unfold maxLen; omega
  obtain ⟨p, hp⟩ : ∃ p, bitQ n r = p := ⟨_, rfl⟩
  obtain ⟨q, hq⟩ : ∃ q, bitQ m t = q := ⟨_, rfl⟩
  have p01 : ∀ i, p i = 0 ∨ p i = 1 := fun i => by rw [← hp]; exact bit01 n r i
  have q01 : ∀ i, q i = 0 ∨ q i = 1 := fun i => by rw [← hq]; exact bit01 m t i
  have ck : ∀ f : Int → Int, (∀ i, f i = 0 ∨ f i = 1) → chk W H N f = 0 := fun f h => chk_mk W0 (by omega) H0 (by omega) hN fun i _ _ => by rcases h i with e | e <;> omega
  have n01 : ∀ f : Int → Int, (∀ i, f i = 0 ∨ f i = 1) → ∀ i, (fun i => 1 - f i) i = 0 ∨ (fun i => 1 - f i) i = 1 := fun f h i => by rcases h i with e | e <;> simp [e]
  have MA := Lib.hid fun w' h' => made_any s W H A n c r w' h' hn hr hs0 hs1 hW hH N hN
  have FI := Lib.hid fun A' c' w' h1 h2 => fitted_any W H A' C N c' m d p t w' h1 h2 hm ht W0 (by omega) H0 (by omega) hN
  rw [hp] at MA
  rw [hq] at FI
  have OR := Lib.hid fun A' B' c' d' w' h1 h2 => or_ok W H A' B' N c' d' p q w' h1 h2 hnm (ck p p01) (ck q q01) (isB_01 p01) (isB_01 q01)
  have AN := Lib.hid fun A' B' c' d' w' h1 h2 => and_ok W H A' B' N c' d' p q w' h1 h2 hnm (ck p p01) (ck q q01) (isB_01 p01) (isB_01 q01)
  have L1 := Lib.hid fun A' B' c' d' w' h1 h2 => less_ok W H A' B' N c' d' p q w' h1 h2 hnm (ck p p01) (ck q q01) (isB_01 p01) (isB_01 q01)
  have L2 := Lib.hid fun A' B' c' d' w' h1 h2 => less_ok W H A' B' N c' d' q p w' h1 h2 hnm (ck q q01) (ck p p01) (isB_01 q01) (isB_01 p01)
  have NO := Lib.hid fun (f : Int → Int) (hf : ∀ i, f i = 0 ∨ f i = 1) A' c' w' h1 => not_all W H A' N c' f 0 W H N w' h1 hnm (isB_01 hf) (ck f hf) ⟨fun _ => ⟨rfl, rfl, hN⟩, fun h => absurd rfl h⟩
  have A2 := Lib.hid fun A' B' c' d' w' h1 h2 => and_ok W H A' B' N c' d' (fun i => 1 - p i) (fun i => 1 - q i) w' h1 h2 hnm (ck _ (n01 p p01)) (ck _ (n01 q q01)) (isB_01 (n01 p p01)) (isB_01 (n01 q q01))
  have DI := Lib.hid fun A' B' c' d' w' h1 h2 => distance_ok W H A' B' N c' d' p q w' h1 h2 hnm (ck p p01) (ck q q01) (isB_01 p01) (isB_01 q01)
  have CT := Lib.hid fun (f : Int → Int) (hf : ∀ i, f i = 0 ∨ f i = 1) (g : Nat) w' h1 => count_some W H g 0 N N f w' h1 hnm (ck f hf) (fun i _ _ => hf i)
  have WI := Lib.hid fun (f g : Int → Int) (hf : ∀ i, f i = 0 ∨ f i = 1) (hg : ∀ i, g i = 0 ∨ g i = 1) (hfg : ∀ i, f i = 1 → g i = 1) A' B' c' d' w' h1 h2 => within_ok W H A' B' N c' d' f g w' h1 h2 hnm (ck f hf) (ck g hg) (isB_01 hf) (isB_01 hg) true (by
    symm; rw [decide_eq_true_iff]
    refine sumN_nil fun i _ _ => ?_
    show lessF (f i) (g i) = 0
    unfold lessF
    rw [if_neg]
    rintro ⟨a, b⟩
    exact b (hfg i a))
  obtain ⟨sl, hsl⟩ : ∃ x, sumN N (fun i => lessF (p i) (q i)) = x := ⟨_, rfl⟩
  obtain ⟨sr, hsr⟩ : ∃ x, sumN N (fun i => lessF (q i) (p i)) = x := ⟨_, rfl⟩
  obtain ⟨sx, hsx⟩ : ∃ x, sumN N (fun i => xorF (p i) (q i)) = x := ⟨_, rfl⟩
  obtain ⟨so, hso⟩ : ∃ x, sumN N (fun i => orF (p i) (q i)) = x := ⟨_, rfl⟩
  obtain ⟨sa, hsa⟩ : ∃ x, sumN N (fun i => andF (p i) (q i)) = x := ⟨_, rfl⟩
  have e1 : sl + sr = sx := by
    rw [← hsl, ← hsr, ← hsx]
    refine sumN_plus fun i _ _ => ?_
    rcases p01 i with a | a <;> rcases q01 i with b | b <;> (rw [a, b]; decide)
  have e2 : sa + sx = so := by
    rw [← hsa, ← hsx, ← hso]
    refine sumN_plus fun i _ _ => ?_
    rcases p01 i with a | a <;> rcases q01 i with b | b <;> (rw [a, b]; decide)
  have bl := sum01 (n := N) (fun i => lessF_01 (p i) (q i))
  have br := sum01 (n := N) (fun i => lessF_01 (q i) (p i))
  have ba := sum01 (n := N) (fun i => andF_01 (p i) (q i))
  have bx := sum01 (n := N) (fun i => xorF_01 (p i) (q i))
  rw [hsl] at bl; rw [hsr] at br; rw [hsa] at ba; rw [hsx] at bx
  have u1 : IntKind.i64.wrap (sl + sr) = sx := by rw [e1]; exact IntWalk.i64_in _ (by omega)
  have u2 : IntKind.i64.wrap (sa + sx) = so := by rw [e2]; exact IntWalk.i64_in _ (by omega)
  have C1 := Lib.hid fun g w' h1 => CT.out (fun i => lessF (p i) (q i)) (fun i => lessF_01 _ _) g w' h1
  have C2 := Lib.hid fun g w' h1 => CT.out (fun i => lessF (q i) (p i)) (fun i => lessF_01 _ _) g w' h1
  have C3 := Lib.hid fun g w' h1 => CT.out (fun i => orF (p i) (q i)) (fun i => orF_01 _ _) g w' h1
  have C4 := Lib.hid fun g w' h1 => CT.out (fun i => andF (p i) (q i)) (fun i => andF_01 _ _) g w' h1
  rw [hsl] at C1; rw [hsr] at C2; rw [hso] at C3; rw [hsa] at C4; rw [hsx] at DI
  have W1' := Lib.hid fun A' B' c' d' w' h1 h2 => WI.out (fun i => andF (p i) (q i)) p (fun i => andF_01 _ _) p01 (fun i h => by unfold andF at h; split at h <;> omega) A' B' c' d' w' h1 h2
  have W2' := Lib.hid fun A' B' c' d' w' h1 h2 => WI.out p (fun i => orF (p i) (q i)) p01 (fun i => orF_01 _ _) (fun i h => by unfold orF; rw [if_pos (.inl h)]) A' B' c' d' w' h1 h2
  have W3' := Lib.hid fun A' B' c' d' w' h1 h2 => WI.out (fun i => lessF (p i) (q i)) p (fun i => lessF_01 _ _) p01 (fun i h => by unfold lessF at h; split at h <;> omega) A' B' c' d' w' h1 h2
  have N1 := Lib.hid fun A' c' w' h1 => NO.out p p01 A' c' w' h1
  have N2 := Lib.hid fun A' c' w' h1 => NO.out (fun i => orF (p i) (q i)) (fun i => orF_01 _ _) A' c' w' h1
  have N3 := Lib.hid fun A' c' w' h1 => NO.out q q01 A' c' w' h1
  have EQ : Hid (∀ i : Int, 0 ≤ i → i < N → 1 - orF (p i) (q i) = andF (1 - p i) (1 - q i)) := by
    intro i _ _
    rcases p01 i with a | a <;> rcases q01 i with b | b <;> (rw [a, b]; decide)
  have HA := Lib.hid hA
  have HC := Lib.hid hC
  clear hA hC hn hm hr ht hs0 hs1 hW hH hN ab1 ab2 W0 W1 H0 H1 hp hq p01 q01 ck n01 CT WI NO hsl hsr hsx hso hsa bl br ba bx e1 e2
  have K0 := Kp.nil w
  have b0 := Below.refl w.heap.size w
  go_enter Tryd.func13, Tryd.ntmps13
  go_wp2_with fail
  refine (MA.out _ HA.out).mono ?_
  rintro e v1 ⟨_, rfl, ⟨gva, rfl, hgva, kva⟩, hb1⟩
  have K1a := (K0.below hb1).addA (kva.arrB kva.lt)
  have b1a := below_call b0 b0.size hb1
  have z1 := b1a.size
  have b1 : Below w.heap.size w (v1.alloc (.cells #[.int .i64 W, .int .i64 H, .slice (some ⟨gva, 0, none⟩) N N] 24)) := by (repeat (first | exact Below.refl _ _ | assumption | refine Below.drew ?_ | refine below_drewN ?_ _ | refine Below.alloc ?_ (by first | omega | (simp; done) | (simp; omega)) _ | refine Below.setCell ?_ (by first | omega | (simp; done) | (simp; omega)) _ | refine below_setRow ?_ (by first | omega | (simp; done) | (simp; omega)) _ ))
  have K1 := K1a.new 24 #[.int .i64 W, .int .i64 H, .slice (some ⟨gva, 0, none⟩) N N]
  clear K0 b0 K1a b1a hb1  z1 MA hgva kva
  obtain ⟨p1, p2, p3⟩ := (K1.b 0 rfl).cells3
  go_wp2_with fail
  generalize v1.alloc (.cells #[.int .i64 W, .int .i64 H, .slice (some ⟨gva, 0, none⟩) N N] 24) = w1 at *
  refine (FI.out _ _ _ (K1.a 0 rfl) (HC.out.to b1)).mono ?_
  rintro e v2 ⟨_, rfl, ⟨gvb, rfl, hgvb, kvb⟩, hb2⟩
  have K2a := (K1.below hb2).addA (kvb.arrB kvb.lt)
  have b2a := below_call b1 b1.size hb2
  have z2 := b2a.size
  have b2 : Below w.heap.size w (v2.alloc (.cells #[.int .i64 W, .int .i64 H, .slice (some ⟨gvb, 0, none⟩) N N] 24)) := by (repeat (first | exact Below.refl _ _ | assumption | refine Below.drew ?_ | refine below_drewN ?_ _ | refine Below.alloc ?_ (by first | omega | (simp; done) | (simp; omega)) _ | refine Below.setCell ?_ (by first | omega | (simp; done) | (simp; omega)) _ | refine below_setRow ?_ (by first | omega | (simp; done) | (simp; omega)) _ ))
  have K2 := K2a.new 24 #[.int .i64 W, .int .i64 H, .slice (some ⟨gvb, 0, none⟩) N N]
  clear K1 b1 K2a b2a hb2 p1 p2 p3 z2 FI hgvb kvb
  obtain ⟨p1, p2, p3⟩ := (K2.b 1 rfl).cells3
  obtain ⟨r1, r2, r3⟩ := (K2.b 0 rfl).cells3
  go_wp2_with fail
  generalize v2.alloc (.cells #[.int .i64 W, .int .i64 H, .slice (some ⟨gvb, 0, none⟩) N N] 24) = w2 at *
  refine (OR.out _ _ _ _ _ (K2.a 1 rfl) (K2.a 0 rfl)).mono ?_
  rintro e v3 ⟨_, rfl, ⟨gvo, rfl, hgvo, kvo⟩, hb3⟩
  have K3a := (K2.below hb3).addA (kvo.arrB kvo.lt)
  have b3a := below_call b2 b2.size hb3
  have z3 := b3a.size
  have b3 : Below w.heap.size w (v3.alloc (.cells #[.int .i64 W, .int .i64 H, .slice (some ⟨gvo, 0, none⟩) N N] 24)) := by (repeat (first | exact Below.refl _ _ | assumption | refine Below.drew ?_ | refine below_drewN ?_ _ | refine Below.alloc ?_ (by first | omega | (simp; done) | (simp; omega)) _ | refine Below.setCell ?_ (by first | omega | (simp; done) | (simp; omega)) _ | refine below_setRow ?_ (by first | omega | (simp; done) | (simp; omega)) _ ))
  have K3 := K3a.new 24 #[.int .i64 W, .int .i64 H, .slice (some ⟨gvo, 0, none⟩) N N]
  clear K2 b2 K3a b3a hb3 p1 p2 p3 r1 r2 r3 z3 OR hgvo kvo
  obtain ⟨p1, p2, p3⟩ := (K3.b 2 rfl).cells3
  obtain ⟨r1, r2, r3⟩ := (K3.b 1 rfl).cells3
  go_wp2_with fail
  generalize v3.alloc (.cells #[.int .i64 W, .int .i64 H, .slice (some ⟨gvo, 0, none⟩) N N] 24) = w3 at *
  refine (AN.out _ _ _ _ _ (K3.a 2 rfl) (K3.a 1 rfl)).mono ?_
  rintro e v4 ⟨_, rfl, ⟨gvn, rfl, hgvn, kvn⟩, hb4⟩
  have K4a := (K3.below hb4).addA (kvn.arrB kvn.lt)
  have b4a := below_call b3 b3.size hb4
  have z4 := b4a.size
  have b4 : Below w.heap.size w (v4.alloc (.cells #[.int .i64 W, .int .i64 H, .slice (some ⟨gvn, 0, none⟩) N N] 24)) := by (repeat (first | exact Below.refl _ _ | assumption | refine Below.drew ?_ | refine below_drewN ?_ _ | refine Below.alloc ?_ (by first | omega | (simp; done) | (simp; omega)) _ | refine Below.setCell ?_ (by first | omega | (simp; done) | (simp; omega)) _ | refine below_setRow ?_ (by first | omega | (simp; done) | (simp; omega)) _ ))
  have K4 := K4a.new 24 #[.int .i64 W, .int .i64 H, .slice (some ⟨gvn, 0, none⟩) N N]
  clear K3 b3 K4a b4a hb4 p1 p2 p3 r1 r2 r3 z4 AN hgvn kvn
  obtain ⟨p1, p2, p3⟩ := (K4.b 3 rfl).cells3
  obtain ⟨r1, r2, r3⟩ := (K4.b 2 rfl).cells3
  go_wp2_with fail
  generalize v4.alloc (.cells #[.int .i64 W, .int .i64 H, .slice (some ⟨gvn, 0, none⟩) N N] 24) = w4 at *
  refine (L1.out _ _ _ _ _ (K4.a 3 rfl) (K4.a 2 rfl)).mono ?_
  rintro e v5 ⟨_, rfl, ⟨gvl, rfl, hgvl, kvl⟩, hb5⟩
  have K5a := (K4.below hb5).addA (kvl.arrB kvl.lt)
  have b5a := below_call b4 b4.size hb5
  have z5 := b5a.size
  have b5 : Below w.heap.size w (v5.alloc (.cells #[.int .i64 W, .int .i64 H, .slice (some ⟨gvl, 0, none⟩) N N] 24)) := by (repeat (first | exact Below.refl _ _ | assumption | refine Below.drew ?_ | refine below_drewN ?_ _ | refine Below.alloc ?_ (by first | omega | (simp; done) | (simp; omega)) _ | refine Below.setCell ?_ (by first | omega | (simp; done) | (simp; omega)) _ | refine below_setRow ?_ (by first | omega | (simp; done) | (simp; omega)) _ ))
  have K5 := K5a.new 24 #[.int .i64 W, .int .i64 H, .slice (some ⟨gvl, 0, none⟩) N N]
  clear K4 b4 K5a b5a hb5 p1 p2 p3 r1 r2 r3 z5 L1 hgvl kvl
  obtain ⟨p1, p2, p3⟩ := (K5.b 4 rfl).cells3
  obtain ⟨r1, r2, r3⟩ := (K5.b 3 rfl).cells3
  go_wp2_with fail
  generalize v5.alloc (.cells #[.int .i64 W, .int .i64 H, .slice (some ⟨gvl, 0, none⟩) N N] 24) = w5 at *
  refine (L2.out _ _ _ _ _ (K5.a 3 rfl) (K5.a 4 rfl)).mono ?_
  rintro e v6 ⟨_, rfl, ⟨gvr, rfl, hgvr, kvr⟩, hb6⟩
  have K6a := (K5.below hb6).addA (kvr.arrB kvr.lt)
  have b6a := below_call b5 b5.size hb6
  have z6 := b6a.size
  have b6 : Below w.heap.size w (v6.alloc (.cells #[.int .i64 W, .int .i64 H, .slice (some ⟨gvr, 0, none⟩) N N] 24)) := by (repeat (first | exact Below.refl _ _ | assumption | refine Below.drew ?_ | refine below_drewN ?_ _ | refine Below.alloc ?_ (by first | omega | (simp; done) | (simp; omega)) _ | refine Below.setCell ?_ (by first | omega | (simp; done) | (simp; omega)) _ | refine below_setRow ?_ (by first | omega | (simp; done) | (simp; omega)) _ ))
  have K6 := K6a.new 24 #[.int .i64 W, .int .i64 H, .slice (some ⟨gvr, 0, none⟩) N N]
  clear K5 b5 K6a b6a hb6 p1 p2 p3 r1 r2 r3 z6 L2 hgvr kvr
  obtain ⟨p1, p2, p3⟩ := (K6.b 5 rfl).cells3
  go_wp2_with fail
  generalize v6.alloc (.cells #[.int .i64 W, .int .i64 H, .slice (some ⟨gvr, 0, none⟩) N N] 24) = w6 at *
  refine (N1.out _ _ _ (K6.a 5 rfl)).mono ?_
  rintro e v7 ⟨_, rfl, ⟨Axn, cxn, rfl, hgxn, axn⟩, hb7⟩
  have K7a := (K6.below hb7).addA axn
  have b7a := below_call b6 b6.size hb7
  have z7 := b7a.size
  have b7 : Below w.heap.size w (v7.alloc (.cells #[.int .i64 W, .int .i64 H, .slice Axn N cxn] 24)) := by (repeat (first | exact Below.refl _ _ | assumption | refine Below.drew ?_ | refine below_drewN ?_ _ | refine Below.alloc ?_ (by first | omega | (simp; done) | (simp; omega)) _ | refine Below.setCell ?_ (by first | omega | (simp; done) | (simp; omega)) _ | refine below_setRow ?_ (by first | omega | (simp; done) | (simp; omega)) _ ))
  have K7 := K7a.new 24 #[.int .i64 W, .int .i64 H, .slice Axn N cxn]
  clear K6 b6 K7a b7a hb7 axn hgxn p1 p2 p3 z7 N1
  obtain ⟨p1, p2, p3⟩ := (K7.b 4 rfl).cells3
  go_wp2_with fail
  generalize v7.alloc (.cells #[.int .i64 W, .int .i64 H, .slice Axn N cxn] 24) = w7 at *
  refine (N2.out _ _ _ (K7.a 4 rfl)).mono ?_
  rintro e v8 ⟨_, rfl, ⟨Axo, cxo, rfl, hgxo, axo⟩, hb8⟩
  have K8a := (K7.below hb8).addA axo
  have b8a := below_call b7 b7.size hb8
  have z8 := b8a.size
  have b8 : Below w.heap.size w (v8.alloc (.cells #[.int .i64 W, .int .i64 H, .slice Axo N cxo] 24)) := by (repeat (first | exact Below.refl _ _ | assumption | refine Below.drew ?_ | refine below_drewN ?_ _ | refine Below.alloc ?_ (by first | omega | (simp; done) | (simp; omega)) _ | refine Below.setCell ?_ (by first | omega | (simp; done) | (simp; omega)) _ | refine below_setRow ?_ (by first | omega | (simp; done) | (simp; omega)) _ ))
  have K8 := K8a.new 24 #[.int .i64 W, .int .i64 H, .slice Axo N cxo]
  clear K7 b7 K8a b8a hb8 axo hgxo p1 p2 p3 z8 N2
  obtain ⟨p1, p2, p3⟩ := (K8.b 6 rfl).cells3
  go_wp2_with fail
  generalize v8.alloc (.cells #[.int .i64 W, .int .i64 H, .slice Axo N cxo] 24) = w8 at *
  refine (N3.out _ _ _ (K8.a 6 rfl)).mono ?_
  rintro e v9 ⟨_, rfl, ⟨Axb, cxb, rfl, hgxb, axb⟩, hb9⟩
  have K9a := (K8.below hb9).addA axb
  have b9a := below_call b8 b8.size hb9
  have z9 := b9a.size
  have b9 : Below w.heap.size w (v9.alloc (.cells #[.int .i64 W, .int .i64 H, .slice Axb N cxb] 24)) := by (repeat (first | exact Below.refl _ _ | assumption | refine Below.drew ?_ | refine below_drewN ?_ _ | refine Below.alloc ?_ (by first | omega | (simp; done) | (simp; omega)) _ | refine Below.setCell ?_ (by first | omega | (simp; done) | (simp; omega)) _ | refine below_setRow ?_ (by first | omega | (simp; done) | (simp; omega)) _ ))
  have K9 := K9a.new 24 #[.int .i64 W, .int .i64 H, .slice Axb N cxb]
  clear K8 b8 K9a b9a hb9 axb hgxb p1 p2 p3 z9 N3
  obtain ⟨p1, p2, p3⟩ := (K9.b 2 rfl).cells3
  obtain ⟨r1, r2, r3⟩ := (K9.b 0 rfl).cells3
  go_wp2_with fail
  generalize v9.alloc (.cells #[.int .i64 W, .int .i64 H, .slice Axb N cxb] 24) = w9 at *
  refine (A2.out _ _ _ _ _ (K9.a 2 rfl) (K9.a 0 rfl)).mono ?_
  rintro e v10 ⟨_, rfl, ⟨gvi, rfl, hgvi, kvi⟩, hb10⟩
  have K10a := (K9.below hb10).addA (kvi.arrB kvi.lt)
  have b10a := below_call b9 b9.size hb10
  have z10 := b10a.size
  have b10 : Below w.heap.size w (v10.alloc (.cells #[.int .i64 W, .int .i64 H, .slice (some ⟨gvi, 0, none⟩) N N] 24)) := by (repeat (first | exact Below.refl _ _ | assumption | refine Below.drew ?_ | refine below_drewN ?_ _ | refine Below.alloc ?_ (by first | omega | (simp; done) | (simp; omega)) _ | refine Below.setCell ?_ (by first | omega | (simp; done) | (simp; omega)) _ | refine below_setRow ?_ (by first | omega | (simp; done) | (simp; omega)) _ ))
  have K10 := K10a.new 24 #[.int .i64 W, .int .i64 H, .slice (some ⟨gvi, 0, none⟩) N N]
  clear K9 b9 K10a b10a hb10 p1 p2 p3 r1 r2 r3 z10 A2 hgvi kvi
  obtain ⟨p1, p2, p3⟩ := (K10.b 9 rfl).cells3
  obtain ⟨r1, r2, r3⟩ := (K10.b 8 rfl).cells3
  go_wp2_with fail
  generalize v10.alloc (.cells #[.int .i64 W, .int .i64 H, .slice (some ⟨gvi, 0, none⟩) N N] 24) = w10 at *
  refine (DI.out _ _ _ _ _ (K10.a 9 rfl) (K10.a 8 rfl)).mono ?_
  rintro e v11 ⟨rfl, hb11⟩
  have K11 := K10.below hb11
  have b11 := below_call b10 b10.size hb11
  clear K10 b10 hb11 p1 p2 p3 r1 r2 r3 DI
  obtain ⟨p1, p2, p3⟩ := (K11.b 2 rfl).cells3
  obtain ⟨r1, r2, r3⟩ := (K11.b 0 rfl).cells3
  go_wp2_with fail
  refine (sameInk_true W H Axo (some ⟨gvi, 0, none⟩) N cxo N (fun i => 1 - orF (p i) (q i)) (fun i => andF (1 - p i) (1 - q i)) _ (K11.a 2 rfl) (K11.a 0 rfl) hnm EQ.out).mono ?_
  rintro e v12 ⟨rfl, hb12⟩
  have K12 := K11.below hb12
  have b12 := below_call b11 b11.size hb12
  clear K11 b11 hb12 p1 p2 p3 r1 r2 r3 
  obtain ⟨p1, p2, p3⟩ := (K12.b 5 rfl).cells3
  go_wp2_with fail
  refine (C1.out _ _ (K12.a 5 rfl)).mono ?_
  rintro e v13 ⟨rfl, hb13⟩
  have K13 := K12.below hb13
  have b13 := below_call b12 b12.size hb13
  clear K12 b12 hb13 p1 p2 p3 C1
  obtain ⟨p1, p2, p3⟩ := (K13.b 4 rfl).cells3
  go_wp2_with fail
  refine (C2.out _ _ (K13.a 4 rfl)).mono ?_
  rintro e v14 ⟨rfl, hb14⟩
  have K14 := K13.below hb14
  have b14 := below_call b13 b13.size hb14
  clear K13 b13 hb14 p1 p2 p3 C2
  obtain ⟨p1, p2, p3⟩ := (K14.b 7 rfl).cells3
  go_wp2_with fail
  refine (C3.out _ _ (K14.a 7 rfl)).mono ?_
  rintro e v15 ⟨rfl, hb15⟩
  have K15 := K14.below hb15
  have b15 := below_call b14 b14.size hb15
  clear K14 b14 hb15 p1 p2 p3 C3
  obtain ⟨p1, p2, p3⟩ := (K15.b 6 rfl).cells3
  go_wp2_with fail
  refine (C4.out _ _ (K15.a 6 rfl)).mono ?_
  rintro e v16 ⟨rfl, hb16⟩
  have K16 := K15.below hb16
  have b16 := below_call b15 b15.size hb16
  clear K15 b15 hb16 p1 p2 p3 C4
  obtain ⟨p1, p2, p3⟩ := (K16.b 6 rfl).cells3
  obtain ⟨r1, r2, r3⟩ := (K16.b 9 rfl).cells3
  go_wp2_with fail
  refine (W1'.out _ _ _ _ _ (K16.a 6 rfl) (K16.a 9 rfl)).mono ?_
  rintro e v17 ⟨rfl, hb17⟩
  have K17 := K16.below hb17
  have b17 := below_call b16 b16.size hb17
  clear K16 b16 hb17 p1 p2 p3 r1 r2 r3 W1'
  obtain ⟨p1, p2, p3⟩ := (K17.b 9 rfl).cells3
  obtain ⟨r1, r2, r3⟩ := (K17.b 7 rfl).cells3
  go_wp2_with fail
  refine (W2'.out _ _ _ _ _ (K17.a 9 rfl) (K17.a 7 rfl)).mono ?_
  rintro e v18 ⟨rfl, hb18⟩
  have K18 := K17.below hb18
  have b18 := below_call b17 b17.size hb18
  clear K17 b17 hb18 p1 p2 p3 r1 r2 r3 W2'
  obtain ⟨p1, p2, p3⟩ := (K18.b 5 rfl).cells3
  obtain ⟨r1, r2, r3⟩ := (K18.b 9 rfl).cells3
  go_wp2_with fail
  refine (W3'.out _ _ _ _ _ (K18.a 5 rfl) (K18.a 9 rfl)).mono ?_
  rintro e v19 ⟨rfl, hb19⟩
  have K19 := K18.below hb19
  have b19 := below_call b18 b18.size hb19
  clear K18 b18 hb19 p1 p2 p3 r1 r2 r3 W3'
  go_wp2_with fail
  refine (awake1_any _).mono ?_
  rintro e v20 ⟨rfl, hb20⟩
  have b20 := below_call b19 b19.size hb20
  go_wp2
  go_ret
  exact ⟨rfl, b20⟩
end Go.Proofs.YtoonkpjddfiopaaDoor

/- How an argument of a statement is opened: slices of integers and images, as functions of the index. -/
namespace Go.Proofs.YtoonkpjddfiopaaDoor
open Go.ChangeShapes Go.WideShapes Go.ChangeAt Go.RowKit Go.Deep
set_option linter.unusedVariables false

theorem Tryd.own : ownKnob Tryd.prog.godebug = none := by kernel_rfl
theorem Tryd.laidOut : laidOutB Tryd.prog = true := by kernel_rfl

theorem addr_plain {w : World} {a : Addr} {v : Value} (h : w.cell? a = some v) : ∃ b off, a = ⟨b, off, none⟩ := by
  obtain ⟨b, off, spot⟩ := a
  have hs : spot = none := by simpa using World.cell?_spot h
  subst hs
  exact ⟨b, off, rfl⟩

section
variable {H : Type} {enc : TypeId × Value → H} {P : Program} {w : World}
theorem ints_of {t e : TypeId} {k : IntKind} {fuel : Nat} {v : Value} {x : DataW H × List MemPlace} (ht : P.underlying t = some (.slice e)) (he : P.underlying e = some (.int k)) (hc : P.cellsOf e = 1) (h0 : (Lit.int k 0).wf = true)
    (h : DataW.trod enc P w 0 (fun _ => true) true fuel t [v] = some x) :
    ∃ A n c zs, v = .slice A n c ∧ (A = none → c = 0) ∧ n ≤ c ∧ c ≤ maxLen ∧ Arr w w.heap.size A n (fun i => .int k (lit zs i)) ∧ ∀ i, (Lit.int k (lit zs i)).wf = true := by
  rcases open_ints ht he hc h with ⟨hcs, _⟩ | ⟨a, l, c, zs, hcs, _, hl, hm, hz, _, hcell, hwz⟩
  · simp at hcs
    exact ⟨none, 0, 0, [], hcs, fun _ => rfl, Nat.le_refl _, Nat.zero_le _, Arr.nil, fun i => by simpa [lit] using h0⟩
  · simp at hcs
    refine ⟨some a, l, c, zs, hcs, (fun e => by cases e), hl, hm, fun hn => ?_, fun i => ?_⟩
    · have hz' : zs.length = c := by simpa using hz
      have c0 := hcell 0 (by omega)
      obtain ⟨b, off, e⟩ := addr_plain c0
      have ha : a = ⟨b, off, none⟩ := by simpa [Addr.add] using e
      subst ha
      refine ⟨b, off, rfl, block_lt_of_cell c0, fun i h0 hi => ?_⟩
      have := hcell i.toNat (by omega)
      have hadd : (⟨b, off, none⟩ : Addr).add i.toNat = ⟨b, off + i.toNat, none⟩ := by
        unfold Addr.add; split
        · rename_i e; rw [e]; rfl
        · rfl
      rw [hadd] at this
      exact this
    · unfold lit
      rw [List.getD_eq_getElem?_getD]
      by_cases hi : i.toNat < zs.length
      · rw [List.getElem?_eq_getElem hi]; exact hwz _ (List.getElem_mem hi)
      · rw [List.getElem?_eq_none (by omega)]; exact h0
theorem open_sl {t e : TypeId} {k : IntKind} {v : Value} {d : DataW H} {p : List MemPlace} {base : Nat} (ht : P.underlying t = some (.slice e)) (he : P.underlying e = some (.int k)) (hc : P.cellsOf e = 1) (h0 : (Lit.int k 0).wf = true)
    (hv : Value.okWide P w .any base t v) (h : DataW.Trod enc P w 0 (fun _ => true) true t v d p) :
    ∃ A n c zs, v = .slice A n c ∧ (A = none → c = 0) ∧ n ≤ c ∧ c ≤ maxLen ∧ Arr w w.heap.size A n (fun i => .int k (lit zs i)) ∧ ∀ i, (Lit.int k (lit zs i)).wf = true := by
  obtain ⟨a0, l0, c0, rfl⟩ := okWide_slice ht hv
  obtain ⟨fuel, hf⟩ := h
  exact ints_of ht he hc h0 (by simpa [Value.cells] using hf)
/-- a struct of two ints and a slice of bytes: Ink, Grey -/
theorem open_img {t tI tB eB : TypeId} {f0 f1 f2 : Field} {v : Value} {d : DataW H} {p : List MemPlace} {base : Nat} (hs : P.underlying t = some (.struct #[f0, f1, f2])) (e0 : f0.type = tI) (e1 : f1.type = tI) (e2 : f2.type = tB)
    (hone : oneCellFields P #[f0, f1, f2] = true) (hC : P.cellsOf t = 3) (hI : P.underlying tI = some (.int .i64)) (hB : P.underlying tB = some (.slice eB)) (hE : P.underlying eB = some (.int .u8)) (hcE : P.cellsOf eB = 1)
    (hv : Value.okWide P w .any base t v) (h : DataW.Trod enc P w 0 (fun _ => true) true t v d p) :
    ∃ W Hh A n c zs, v = .agg #[.int .i64 W, .int .i64 Hh, .slice A n c] ∧ (Lit.int .i64 W).wf = true ∧ (Lit.int .i64 Hh).wf = true ∧ (A = none → c = 0) ∧ n ≤ c ∧ c ≤ maxLen ∧ ArrB w w.heap.size A n (lit zs) ∧ IsB (lit zs) := by
  obtain ⟨v0, v1, v2, y0, y1, y2, n, rfl, -, -, h0, h1, h2⟩ := Go.Joins.open_agg3 hs hone hC hv h
  rw [e0] at h0; rw [e1] at h1; rw [e2] at h2
  obtain ⟨W, hw, -, wW⟩ := DataW.trod_int hI h0
  obtain ⟨Hh, hh, -, wH⟩ := DataW.trod_int hI h1
  simp at hw hh
  subst hw; subst hh
  obtain ⟨A, m, c, zs, rfl, z, a, b, d, e⟩ := ints_of hB hE hcE (by decide) h2
  exact ⟨W, Hh, A, m, c, zs, rfl, wW, wH, z, a, b, d, fun i => bounds_u8 (e i)⟩
end
end Go.Proofs.YtoonkpjddfiopaaDoor
