/- Walks: images made of bits; lists of numbers compared. -/
import Derived.Test.YtdimlpcbbkokiaaW11
import Derived.Test.YtdimlpcbbkokiaaLib3
import Derived.Test.YtdimlpcbbkokiaaW10
import Derived.StillTailTactics
import Derived.BigQuiet
import Derived.Deep.QuietTactic
namespace Go.Proofs.Ytdimlpcbbkokiaa
open Go.RowKit
set_option linter.unusedVariables false

theorem and_one_u8 (E : Int) (h0 : 0 ≤ E) (h1 : E ≤ 255) : bits BinOp.and IntKind.u8 E 1 = E % 2 := by
  have h : ∀ k : Fin 256, bits BinOp.and IntKind.u8 (k.val : Int) 1 = (k.val : Int) % 2 := by decide +kernel
  have := h ⟨E.toNat, by omega⟩
  simpa [Int.toNat_of_nonneg h0] using this
/-- the bit i of a list of bytes; 0 behind its end -/
def bitV (r : Int → Int) (i : Int) : Int := r (i / 8) / 2 ^ (i % 8).toNat % 2
def bitQ (n : Nat) (r : Int → Int) : Int → Int := fun i => if i / 8 < n then bitV r i else 0
def bitP (n : Nat) (r : Int → Int) (k : Nat) : Int → Int := fun i => if i < k then bitQ n r i else 0
theorem bitV_01 (r : Int → Int) (i : Int) : 0 ≤ bitV r i ∧ bitV r i ≤ 1 := by unfold bitV; omega
theorem bitQ_01 (n : Nat) (r : Int → Int) (i : Int) : 0 ≤ bitQ n r i ∧ bitQ n r i ≤ 1 := by
  unfold bitQ; split
  · exact bitV_01 r i
  · omega
theorem bitP_yes {n : Nat} {r : Int → Int} {k : Nat} (h : (k : Int) / 8 < n) (i : Int) : upd (bitP n r k) k (bitV r k) i = bitP n r (k + 1) i := by
  unfold upd bitP
  by_cases e : i = k
  · subst e; rw [if_pos rfl, if_pos (by omega)]; unfold bitQ; rw [if_pos h]
  · rw [if_neg e]
    by_cases h2 : i < k
    · rw [if_pos h2, if_pos (by omega)]
    · rw [if_neg h2, if_neg (by omega)]
theorem bitP_no {n : Nat} {r : Int → Int} {k : Nat} (h : ¬ (k : Int) / 8 < n) (i : Int) : bitP n r k i = bitP n r (k + 1) i := by
  unfold bitP
  by_cases e : i = k
  · subst e; rw [if_neg (by omega), if_pos (by omega)]; unfold bitQ; rw [if_neg h]
  · by_cases h2 : i < k
    · rw [if_pos h2, if_pos (by omega)]
    · rw [if_neg h2, if_neg (by omega)]
theorem bitP_end {n : Nat} {r : Int → Int} {k : Nat} {i : Int} (h : i < k) : bitP n r k i = bitQ n r i := by unfold bitP; rw [if_pos h]

set_option maxRecDepth 100000 in
set_option maxHeartbeats 1000000 in
theorem made_any (s W H : Int) (A : Option Addr) (n c : Nat) (r : Int → Int) (w : World) (hA : ArrB w w.heap.size A n r) (hn : n ≤ maxLen) (hr : IsB r) (hs0 : 0 ≤ s) (hs1 : s ≤ 65535) (hW : s % 41 = W) (hH : s / 41 % 31 = H) (N : Nat) (hN : (N : Int) = W * H) :
    Calls Try.prog 24 #[.int .u16 s, .slice A n c] w (New w fun v w' => OutN w w' W H N (bitQ n r) v) := by
  unfold maxLen at hn
  have q1 : 0 ≤ W ∧ W ≤ 40 := by omega
  have q2 : 0 ≤ H ∧ H ≤ 30 := by omega
  obtain ⟨q11, q12⟩ := q1
  obtain ⟨q21, q22⟩ := q2
  obtain ⟨m1, m2⟩ := mul_bd q11 q12 q21 q22
  have hmk := makeB (W * H) m1 (by omega)
  rw [show (W * H).toNat = N by omega] at hmk
  have HN := Lib.hid hN; clear hN
  have u1 : IntKind.u16.wrap (s.tdiv 41) = s / 41 := by rw [Int.tdiv_eq_ediv_of_nonneg hs0]; exact IntWalk.u16_in _ (by omega)
  have u2 : (s / 41).tmod 31 = H := by rw [Int.tmod_eq_emod_of_nonneg (by omega)]; exact hH
  go_enter Try.func24, Try.ntmps24
  go_wp2_with fail
  clear hmk hs0 hs1 u1 u2 hW hH
  go_loopw [26] (fun x wr => ∃ i : Nat, i ≤ N ∧ x = .int .i64 i ∧ Below w.heap.size w wr ∧ Blk wr w.heap.size 24 #[.int .i64 0, .int .i64 0, .slice none 0 0] ∧
    Blk wr (w.heap.size + 1 + 1) 24 #[.int .i64 W, .int .i64 H, .slice (some ⟨w.heap.size + 1, 0, none⟩) N N] ∧ Blk wr (w.heap.size + 1) 5 (u8s N (bitP n r i))) (fun x _ => N - (intOf x).toNat)
  case atStart =>
    exact ⟨0, by omega, rfl, by (repeat (first | exact Below.refl _ _ | assumption | refine Below.drew ?_ | refine below_drewN ?_ _ | refine Below.alloc ?_ (by first | omega | (simp; done) | (simp; omega)) _ | refine Below.setCell ?_ (by first | omega | (simp; done) | (simp; omega)) _ | refine below_setRow ?_ (by first | omega | (simp; done) | (simp; omega)) _ )), ((Blk.new _ _ _).alloc _).alloc _, Blk.new' (by simp) _ _, Blk.u8conv ((Blk.new' (by simp) _ _).alloc _) fun i h0 hi => by unfold bitP; rw [if_neg (by omega)]⟩
  case round =>
    obtain ⟨i, hi, rfl, b1, k1, k2, k3⟩ := hrel
    obtain ⟨p1, p2, p3⟩ := k2.cells3
    by_cases hlt : i < N
    · have hi0 : (0 : Int) ≤ (i : Int) := by omega
      have hin : (i : Int) < (N : Int) := by omega
      have hNb : (N : Int) ≤ 1200 := by rw [HN.out]; omega
      by_cases hb : (i : Int) / 8 < n
      · have d0 : 0 ≤ (i : Int) / 8 := by omega
        have e0 : 0 ≤ (i : Int) % 8 := by omega
        have e1 : (i : Int) % 8 < 8 := by omega
        obtain ⟨bA, off, rfl, hbA, hcell⟩ := ArrB.at_ (ArrB.below hA b1) d0 hb
        have hr1 := hr ((i : Int) / 8)
        obtain ⟨hr2, hr3⟩ := hr1
        have hv : 0 ≤ r ((i : Int) / 8) / 2 ^ ((i : Int) % 8).toNat ∧ r ((i : Int) / 8) / 2 ^ ((i : Int) % 8).toNat ≤ 255 := by
          have h1 : (0 : Int) < 2 ^ ((i : Int) % 8).toNat := Int.pow_pos (by omega)
          exact ⟨Int.ediv_nonneg hr2 (by omega), Int.le_trans (Int.ediv_le_self _ hr2) hr3⟩
        obtain ⟨hv1, hv2⟩ := hv
        have BV : Hid (bits BinOp.and IntKind.u8 (r ((i : Int) / 8) / 2 ^ ((i : Int) % 8).toNat) 1 = bitV r i) := by show _ = _; rw [and_one_u8 _ hv1 hv2]; rfl
        have YS := Lib.hid (fun j => bitP_yes (r := r) hb j)
        have ho := k3.u8at hi0 hin
        have hf := k3.frozen i
        have U := Lib.hid (k3.u8set i hi0 (bitV r i))
        rw [Int.toNat_natCast] at ho
        have bv := BV.out
        have t1 : IntKind.i64.wrap ((i : Int) / 8) = (i : Int) / 8 := IntWalk.i64_in _ (by omega)
        have t2 : (i : Int).tmod 8 = (i : Int) % 8 := Int.tmod_eq_emod_of_nonneg hi0
        have e2 : (i : Int) % 8 ≤ 8 := by omega
        go_wp2_with fail
        go_still_tail 13, (by kernel_rfl)
        change wpList _ _ _ _ _ wr.drew
        clear t1 t2 bv
        go_wp2
        go_roundw
        case rel => exact ⟨i + 1, by omega, by go_num, by (repeat (first | exact Below.refl _ _ | assumption | refine Below.drew ?_ | refine below_drewN ?_ _ | refine Below.alloc ?_ (by first | omega | (simp; done) | (simp; omega)) _ | refine Below.setCell ?_ (by first | omega | (simp; done) | (simp; omega)) _ | refine below_setRow ?_ (by first | omega | (simp; done) | (simp; omega)) _ )), k1.far (by (first | omega | (simp; done) | (simp; omega))) _, k2.far (by (first | omega | (simp; done) | (simp; omega))) _, Blk.u8conv (by simpa using U.out.drew) fun j _ _ => YS.out j⟩
        case measure => simp [intOf]; omega
      · have NS := Lib.hid (fun j => bitP_no (r := r) hb j)
        go_wp2
        go_roundw
        case rel => exact ⟨i + 1, by omega, by go_num, b1, k1, k2, k3.u8conv fun j _ _ => NS.out j⟩
        case measure => simp [intOf]; omega
    · obtain rfl : i = N := by omega
      obtain ⟨s1, s2, s3⟩ := k1.cells3
      obtain ⟨f1, f2, f3⟩ := k1.frozen3
      have z1 := k1.lt
      go_wp2
      refine bodyPost_ret (v := .agg #[.int .i64 W, .int .i64 H, .slice (some ⟨w.heap.size + 1, 0, none⟩) i i]) (by simp [results, Try.results24, go_sem, s1, s2, s3]) rfl ?_
      refine ⟨_, rfl, OutN.mk (w := w) (g := w.heap.size + 1) (by omega) ?_, by (repeat (first | exact Below.refl _ _ | assumption | refine Below.drew ?_ | refine below_drewN ?_ _ | refine Below.alloc ?_ (by first | omega | (simp; done) | (simp; omega)) _ | refine Below.setCell ?_ (by first | omega | (simp; done) | (simp; omega)) _ | refine below_setRow ?_ (by first | omega | (simp; done) | (simp; omega)) _ ))⟩
      exact (((k3.u8conv fun j h0 hj => bitP_end hj).far (by simp) _).far (by simp) _).far (by simp) _

def sameI (n m : Nat) (p q : Int → Int) : Bool := decide (n = m) && allN n fun i => decide (p i = q i)
theorem sameI_iff {n m : Nat} {p q : Int → Int} : sameI n m p q = true ↔ n = m ∧ ∀ i : Int, 0 ≤ i → i < n → p i = q i := by
  simp [sameI, allN_iff]
set_option maxHeartbeats 1000000 in
theorem equalI_any (A B : Option Addr) (n m c d : Nat) (p q : Int → Int) (w : World) (hA : ArrI w w.heap.size A n p) (hB : ArrI w w.heap.size B m q) (hn : n ≤ maxLen) (hm : m ≤ maxLen) :
    Calls Try.prog 18 #[.slice A n c, .slice B m d] w fun e w' => e = .returned (.bool (sameI n m p q)) ∧ ∃ k, w' = w.drewN k := by
  unfold maxLen at hn hm
  by_cases hnm : n = m
  · subst hnm
    have HD : Hid (sameI n n p q = allN n fun i => decide (p i = q i)) := by show _ = _; simp [sameI]
    go_enter Try.func18, Try.ntmps18
    go_wp2_with fail
    go_loopw [13] (fun s wr => ∃ i : Nat, i ≤ n ∧ s = .int .i64 i ∧ (∃ k, wr = w.drewN k) ∧ ∀ j : Int, 0 ≤ j → j < i → p j = q j) (fun s _ => n - (intOf s).toNat)
    case atStart => exact ⟨0, by omega, rfl, ⟨0, rfl⟩, fun j a b => by omega⟩
    case round =>
      obtain ⟨i, hi, rfl, ⟨k, rfl⟩, hall⟩ := hrel
      have HALL := Lib.hid hall; clear hall
      by_cases hlt : i < n
      · have hi0 : (0 : Int) ≤ (i : Int) := by omega
        have hin : (i : Int) < (n : Int) := by omega
        obtain ⟨ba, oa, rfl, hba, hca⟩ := ArrI.at_ hA hi0 hin
        obtain ⟨bb, ob, rfl, hbb, hcb⟩ := ArrI.at_ hB hi0 hin
        rw [Int.toNat_natCast] at hca hcb
        by_cases e : p i = q i
        · have hb : (p i != q i) = false := by simp [e]
          have E := Lib.hid e; clear e
          go_wp2_with fail
          go_quiet (fail)
          go_wp2
          go_roundw
          case rel => exact ⟨i + 1, by omega, by go_num, ⟨_, rfl⟩, fun j a b => if e : j = i then by rw [e, E.out] else HALL.out j a (by omega)⟩
          case measure => simp [intOf]; omega
        · have hb : (p i != q i) = true := by simp [e]
          have hr : Hid (sameI n n p q = false) := by
            show _ = _
            exact Bool.eq_false_iff.2 fun h => e ((sameI_iff.1 h).2 i hi0 hin)
          have E := Lib.hid e; clear e
          go_wp2_with fail
          go_quiet (fail)
          go_wp2
          go_ret
          exact ⟨ret_bool hr.out.symm, _, World.drewN_drewN _ _ _⟩
      · obtain rfl : i = n := by omega
        have hr : Hid (sameI i i p q = true) := by show _ = _; exact sameI_iff.2 ⟨rfl, HALL.out⟩
        go_wp2
        go_ret
        exact ⟨ret_bool hr.out.symm, _, rfl⟩
  · have hr : Hid (sameI n m p q = false) := by show _ = _; simp [sameI, hnm]
    have hb : ((n : Int) != (m : Int)) = true := by simp; omega
    have HN := Lib.hid hnm; clear hnm
    go_enter Try.func18, Try.ntmps18
    go_wp2
    go_ret
    exact ⟨ret_bool hr.out.symm, 0, rfl⟩
end Go.Proofs.Ytdimlpcbbkokiaa
