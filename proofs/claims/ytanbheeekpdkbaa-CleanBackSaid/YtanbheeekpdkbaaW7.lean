/- Walks: how many pixels have each level; the threshold of a grey image. -/
import Derived.Test.YtanbheeekpdkbaaW6
namespace Go.Proofs.Ytanbheeekpdkbaa
open Go.RowKit
set_option linter.unusedVariables false

def cntS (n : Nat) (p : Int → Int) (v : Int) : Int := sumN n fun j => if p j = v then 1 else 0
theorem cntS_bd (n : Nat) (p : Int → Int) (v : Int) : 0 ≤ cntS n p v ∧ cntS n p v ≤ n := by
  have := sumN_bd (n := n) (f := fun j => if p j = v then 1 else 0) (m := 1) (fun i a b => by
    show 0 ≤ (if p i = v then (1 : Int) else 0) ∧ (if p i = v then (1 : Int) else 0) ≤ 1
    split <;> omega)
  unfold cntS; omega
theorem cntS_step {n : Nat} {p : Int → Int} (v : Int) : upd (cntS n p) (p n) (cntS n p (p n) + 1) v = cntS (n + 1) p v := by
  show (if v = p n then _ else _) = sumN (n + 1) _
  rw [sumN]
  by_cases e : v = p n
  · subst e; rw [if_pos rfl, if_pos rfl]; rfl
  · rw [if_neg e, if_neg (fun h => e h.symm)]; simp [cntS]

theorem make256 (w : World) : (Instr.makeSlice 52 (.int .i64 256) (.int .i64 256)).run Try.prog w =
    .ok (.slice (some ⟨w.heap.size, 0, none⟩) 256 256) (w.alloc (.cells (i64s 256 (fun _ => 0)) 3)) := makeI 256 (by omega) (by omega) w

set_option maxHeartbeats 1000000 in
theorem levels_ok (W H : Int) (A : Option Addr) (n c : Nat) (p : Int → Int) (w : World) (hA : ArrB w w.heap.size A n p) (hn : n ≤ maxLen) (hB : IsB p) (hE : sidesB W H n = true) :
    Calls Try.prog 59 #[.agg #[.int .i64 W, .int .i64 H, .slice A n c]] w
      (New w fun v w' => ∃ g, v = .tuple #[.slice (some ⟨g, 0, none⟩) 256 256, .int .i64 0] ∧ w.heap.size ≤ g ∧ Blk w' g 3 (i64s 256 (cntS n p))) := by
  have CA := fun w' => checkGrey_any W H A n c w'
  rw [hE, if_pos rfl] at CA
  clear hE
  have CA := Lib.hid CA
  have hmk := make256
  unfold maxLen at hn
  go_enter Try.func59, Try.ntmps59
  go_wp2_with fail
  refine (CA.out _).mono ?_
  rintro e w1 ⟨rfl, hb1⟩
  have k1 : Blk w1 w.heap.size 42 #[.int .i64 W, .int .i64 H, .slice A n c] := (Blk.new _ _ _).below' hb1
  have z1 : w.heap.size < w1.heap.size := by have := hb1.size; simp at this; omega
  have b1 : Below w.heap.size w w1 := below_call (by (repeat (first | exact Below.refl _ _ | assumption | refine Below.drew ?_ | refine below_drewN ?_ _ | refine Below.alloc ?_ (by first | omega | (simp; done) | (simp; omega)) _ | refine Below.setCell ?_ (by first | omega | (simp; done) | (simp; omega)) _ | refine below_setRow ?_ (by first | omega | (simp; done) | (simp; omega)) _ ))) (by simp; try omega) hb1
  obtain ⟨p1, p2, p3⟩ := k1.cells3
  clear hb1
  go_wp2_with fail
  go_loopw [17] (fun s wr => ∃ i : Nat, i ≤ n ∧ s = .int .i64 i ∧ Below w.heap.size w wr ∧ Blk wr w1.heap.size 3 (i64s 256 (cntS i p))) (fun s _ => n - (intOf s).toNat)
  case atStart => exact ⟨0, by omega, rfl, by (repeat (first | exact Below.refl _ _ | assumption | refine Below.drew ?_ | refine below_drewN ?_ _ | refine Below.alloc ?_ (by first | omega | (simp; done) | (simp; omega)) _ | refine Below.setCell ?_ (by first | omega | (simp; done) | (simp; omega)) _ | refine below_setRow ?_ (by first | omega | (simp; done) | (simp; omega)) _ )), Blk.new _ _ _⟩
  case round =>
    obtain ⟨i, hi, rfl, b2, kr⟩ := hrel
    clear hmk
    by_cases hlt : i < n
    · have hi0 : (0 : Int) ≤ i := by omega
      have hiN : (i : Int) < n := by omega
      obtain ⟨pb1, pb2⟩ := hB i
      obtain ⟨b, off, rfl, hbB, hcell⟩ := ArrB.at_ (ArrB.below hA b2) hi0 hiN
      rw [Int.toNat_natCast] at hcell
      have hr := kr.i64at pb1 (by omega)
      have fr := kr.frozen (p i).toNat
      have SR := Lib.hid (fun v => cntS_step (n := i) (p := p) v)
      obtain ⟨c1, c2⟩ := cntS_bd i p (p i)
      have UR := Lib.hid (kr.i64set _ pb1 (cntS i p (p i) + 1))
      go_wp2
      go_roundw
      case rel => exact ⟨i + 1, by omega, by go_num, by (repeat (first | exact Below.refl _ _ | assumption | refine Below.drew ?_ | refine below_drewN ?_ _ | refine Below.alloc ?_ (by first | omega | (simp; done) | (simp; omega)) _ | refine Below.setCell ?_ (by first | omega | (simp; done) | (simp; omega)) _ | refine below_setRow ?_ (by first | omega | (simp; done) | (simp; omega)) _ )), UR.out.i64conv fun v _ _ => SR.out v⟩
      case measure => simp [intOf]; omega
    · obtain rfl : i = n := by omega
      go_wp2
      go_ret2
      exact ⟨_, rfl, ⟨_, rfl, by omega, kr⟩, b2⟩

set_option maxHeartbeats 400000 in
theorem levels_bad (W H : Int) (A : Option Addr) (n c : Nat) (w : World) (hE : sidesB W H n = false) :
    Calls Try.prog 59 #[.agg #[.int .i64 W, .int .i64 H, .slice A n c]] w
      fun e w' => e = .returned (.tuple #[.slice none 0 0, .int .i64 2]) ∧ Below w.heap.size w w' := by
  have CA := fun w' => checkGrey_any W H A n c w'
  rw [hE, if_neg (by simp)] at CA
  clear hE
  have CA := Lib.hid CA
  go_enter Try.func59, Try.ntmps59
  go_wp2_with fail
  refine (CA.out _).mono ?_
  rintro e w1 ⟨rfl, hb1⟩
  have b1 : Below w.heap.size w w1 := below_call (by (repeat (first | exact Below.refl _ _ | assumption | refine Below.drew ?_ | refine below_drewN ?_ _ | refine Below.alloc ?_ (by first | omega | (simp; done) | (simp; omega)) _ | refine Below.setCell ?_ (by first | omega | (simp; done) | (simp; omega)) _ | refine below_setRow ?_ (by first | omega | (simp; done) | (simp; omega)) _ ))) (by simp; try omega) hb1
  go_wp2_with fail
  go_ret2
  exact ⟨rfl, b1⟩

/-- threshold, gap and last level behind m levels -/
def levP (c : Int → Int) : Nat → Int × Int × Int
  | 0 => (128, 0, -1)
  | m + 1 =>
    if c m = 0 then levP c m
    else if 0 ≤ (levP c m).2.2 ∧ (levP c m).2.1 < m - (levP c m).2.2 then (((levP c m).2.2 + m + 1) / 2, m - (levP c m).2.2, m)
    else ((levP c m).1, (levP c m).2.1, m)
def levelS (n : Nat) (p : Int → Int) : Int := (levP (cntS n p) 256).1
theorem levP_bd (c : Int → Int) (m : Nat) : 0 ≤ (levP c m).1 ∧ (levP c m).1 ≤ 128 + m ∧ 0 ≤ (levP c m).2.1 ∧ (levP c m).2.1 ≤ m ∧ -1 ≤ (levP c m).2.2 ∧ (levP c m).2.2 < m := by
  induction m with
  | zero => simp [levP]
  | succ m ih =>
    rw [levP]
    split
    · omega
    · split
      · simp only; omega
      · simp only; omega

set_option maxRecDepth 100000 in
set_option maxHeartbeats 1000000 in
theorem level_ok (W H : Int) (A : Option Addr) (n c : Nat) (p : Int → Int) (w : World) (hA : ArrB w w.heap.size A n p) (hn : n ≤ maxLen) (hB : IsB p) (hE : sidesB W H n = true) :
    Calls Try.prog 27 #[.agg #[.int .i64 W, .int .i64 H, .slice A n c]] w
      fun e w' => e = .returned (.tuple #[.int .i64 (levelS n p), .int .i64 0]) ∧ Below w.heap.size w w' := by
  have PA := fun w' hA' => levels_ok W H A n c p w' hA' hn hB hE
  clear hE
  unfold levelS
  generalize cntS n p = cn at *
  have PA := Lib.hid PA
  go_enter Try.func27, Try.ntmps27
  go_wp2_with fail
  refine (PA.out _ (hA.to (by (repeat (first | exact Below.refl _ _ | assumption | refine Below.drew ?_ | refine below_drewN ?_ _ | refine Below.alloc ?_ (by first | omega | (simp; done) | (simp; omega)) _ | refine Below.setCell ?_ (by first | omega | (simp; done) | (simp; omega)) _ | refine below_setRow ?_ (by first | omega | (simp; done) | (simp; omega)) _ ))))).mono ?_
  rintro e w1 ⟨_, rfl, ⟨g, rfl, hg, kg⟩, hb1⟩
  have b1 : Below w.heap.size w w1 := below_call (by (repeat (first | exact Below.refl _ _ | assumption | refine Below.drew ?_ | refine below_drewN ?_ _ | refine Below.alloc ?_ (by first | omega | (simp; done) | (simp; omega)) _ | refine Below.setCell ?_ (by first | omega | (simp; done) | (simp; omega)) _ | refine below_setRow ?_ (by first | omega | (simp; done) | (simp; omega)) _ ))) (by simp; try omega) hb1
  clear hb1
  go_wp2_with fail
  go_loop [6, 7, 8, 21] (fun o gp l s => ∃ i : Nat, i ≤ 256 ∧ s = .int .i64 i ∧ o = .int .i64 (levP cn i).1 ∧ gp = .int .i64 (levP cn i).2.1 ∧ l = .int .i64 (levP cn i).2.2) (fun _ _ _ s => 256 - (intOf s).toNat)
  case atStart => exact ⟨0, by omega, rfl, rfl, rfl, rfl⟩
  case round =>
    obtain ⟨i, hi, rfl, rfl, rfl, rfl⟩ := hrel
    by_cases hlt : i < 256
    · have hr := kg.i64at (i := (i : Int)) (by omega) (by omega)
      rw [Int.toNat_natCast] at hr
      obtain ⟨d1, d2, d3, d4, d5, d6⟩ := levP_bd cn i
      have ST : Hid (levP cn (i + 1) = if cn i = 0 then levP cn i else if 0 ≤ (levP cn i).2.2 ∧ (levP cn i).2.1 < i - (levP cn i).2.2 then (((levP cn i).2.2 + i + 1) / 2, i - (levP cn i).2.2, i) else ((levP cn i).1, (levP cn i).2.1, i)) := by show _ = _; rw [levP]
      generalize levP cn i = q at *
      obtain ⟨o, gp, l⟩ := q
      simp only at d1 d2 d3 d4 d5 d6 ST ⊢
      generalize cn i = ci at *
      by_cases hc : ci = 0
      · have hcb : (ci == 0) = true := by simp [hc]
        have HC := Lib.hid hc; clear hc
        go_wp2
        go_round
        case rel => exact ⟨i + 1, by omega, by go_num, by rw [ST.out, if_pos HC.out], by rw [ST.out, if_pos HC.out], by rw [ST.out, if_pos HC.out]⟩
        case measure => simp [intOf]; omega
      · have hcb : (ci == 0) = false := by simp [hc]
        have HC := Lib.hid hc; clear hc
        by_cases hl : 0 ≤ l
        · by_cases hgp : gp < i - l
          · have S2 : Hid (levP cn (i + 1) = ((l + i + 1) / 2, i - l, (i : Int))) := by show _ = _; rw [ST.out, if_neg HC.out, if_pos ⟨hl, hgp⟩]
            clear ST
            go_wp2
            go_round
            case rel => exact ⟨i + 1, by omega, by go_num, by rw [S2.out], by rw [S2.out], by rw [S2.out]⟩
            case measure => simp [intOf]; omega
          · have S2 : Hid (levP cn (i + 1) = (o, gp, (i : Int))) := by show _ = _; rw [ST.out, if_neg HC.out, if_neg (fun h => hgp h.2)]
            clear ST
            go_wp2
            go_round
            case rel => exact ⟨i + 1, by omega, by go_num, by rw [S2.out], by rw [S2.out], by rw [S2.out]⟩
            case measure => simp [intOf]; omega
        · have S2 : Hid (levP cn (i + 1) = (o, gp, (i : Int))) := by show _ = _; rw [ST.out, if_neg HC.out, if_neg (fun h => hl h.1)]
          clear ST
          go_wp2
          go_round
          case rel => exact ⟨i + 1, by omega, by go_num, by rw [S2.out], by rw [S2.out], by rw [S2.out]⟩
          case measure => simp [intOf]; omega
    · obtain rfl : i = 256 := by omega
      go_wp2
      go_ret2
      exact ⟨rfl, b1⟩

set_option maxHeartbeats 400000 in
theorem level_bad (W H : Int) (A : Option Addr) (n c : Nat) (w : World) (hE : sidesB W H n = false) :
    Calls Try.prog 27 #[.agg #[.int .i64 W, .int .i64 H, .slice A n c]] w
      fun e w' => e = .returned (.tuple #[.int .i64 0, .int .i64 2]) ∧ Below w.heap.size w w' := by
  have PA := Lib.hid fun w' => levels_bad W H A n c w' hE
  clear hE
  go_enter Try.func27, Try.ntmps27
  go_wp2_with fail
  refine (PA.out _).mono ?_
  rintro e w1 ⟨rfl, hb1⟩
  have b1 : Below w.heap.size w w1 := below_call (by (repeat (first | exact Below.refl _ _ | assumption | refine Below.drew ?_ | refine below_drewN ?_ _ | refine Below.alloc ?_ (by first | omega | (simp; done) | (simp; omega)) _ | refine Below.setCell ?_ (by first | omega | (simp; done) | (simp; omega)) _ | refine below_setRow ?_ (by first | omega | (simp; done) | (simp; omega)) _ ))) (by simp; try omega) hb1
  go_wp2_with fail
  go_ret2
  exact ⟨rfl, b1⟩
end Go.Proofs.Ytanbheeekpdkbaa
