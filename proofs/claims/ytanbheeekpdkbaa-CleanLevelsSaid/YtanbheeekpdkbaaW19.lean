/- Walks: copies of grey images; the reference's threshold; the image of two levels. -/
import Derived.Test.YtanbheeekpdkbaaW14
import Derived.Test.YtanbheeekpdkbaaW15
import Derived.Test.YtanbheeekpdkbaaW10
import Derived.Test.YtanbheeekpdkbaaQ3
import Derived.Test.YtanbheeekpdkbaaLib3
import Derived.Deep.RegionHeld3
import Derived.Deep.DeepCutAuto
import Derived.Deep.Cut
namespace Go.Proofs.Ytanbheeekpdkbaa
open Go.RowKit
set_option linter.unusedVariables false

set_option maxHeartbeats 1000000 in
theorem copyGrey_any (W H : Int) (A : Option Addr) (n c : Nat) (p : Int → Int) (w : World) (hA : ArrB w w.heap.size A n p) (hc : A = none → c = 0) (hn : n ≤ 140737488355328) :
    Calls Try.prog 26 #[.agg #[.int .i64 W, .int .i64 H, .slice A n c]] w (New w fun v w' => OutCopy w w' W H n p v) := by
  have CB := Lib.hid fun w' hA' => copyBytes_any A n c p w' hA' hc hn
  clear hc
  go_enter Try.func26, Try.ntmps26
  go_wp2_with fail
  have k1 := (Blk.new w 42 #[.int .i64 W, .int .i64 H, .slice A n c]).alloc (.cells #[.int .i64 0, .int .i64 0, .slice none 0 0] 42)
  have k2 := Blk.new' (w := w.alloc (.cells #[.int .i64 W, .int .i64 H, .slice A n c] 42)) (World.size_alloc _ _) 42 #[.int .i64 0, .int .i64 0, .slice none 0 0]
  have b1 : Below w.heap.size w ((w.alloc (.cells #[.int .i64 W, .int .i64 H, .slice A n c] 42)).alloc (.cells #[.int .i64 0, .int .i64 0, .slice none 0 0] 42)) := by (repeat (first | exact Below.refl _ _ | assumption | refine Below.drew ?_ | refine below_drewN ?_ _ | refine Below.alloc ?_ (by first | omega | (simp; done) | (simp; omega)) _ | refine Below.setCell ?_ (by first | omega | (simp; done) | (simp; omega)) _ | refine below_setRow ?_ (by first | omega | (simp; done) | (simp; omega)) _ ))
  have hA1 := hA.to b1
  generalize (w.alloc (.cells #[.int .i64 W, .int .i64 H, .slice A n c] 42)).alloc (.cells #[.int .i64 0, .int .i64 0, .slice none 0 0] 42) = w1 at *
  clear hA
  have K1 := Lib.hid k1; have K2 := Lib.hid k2; have B1 := Lib.hid b1; have A1 := Lib.hid hA1
  obtain ⟨p1, p2, p3⟩ := k1.cells3
  obtain ⟨r1, r2, r3⟩ := k2.cells3
  obtain ⟨f1, f2, f3⟩ := k2.frozen3
  clear k1 k2 b1 hA1
  go_region_held3 (fun w' => w'.cell? ⟨w.heap.size, 0, none⟩ = some (.int .i64 W) ∧ w'.cell? ⟨w.heap.size, 1, none⟩ = some (.int .i64 H) ∧ w'.cell? ⟨w.heap.size, 2, none⟩ = some (.slice A n c))
    (simp [go_sem, *])
    (first
      | (go_at_call 51; refine (CB.out _ A1.out.drew).mono ?_; rintro e w2 ⟨_, rfl, ⟨A', c', rfl, hc', hnil', hge', ha'⟩, hb2⟩
         have k3 := K1.out.drew.below' hb2; have k4 := K2.out.drew.below' hb2
         obtain ⟨x1, x2, x3⟩ := k3.cells3; obtain ⟨y1, y2, y3⟩ := k4.cells3; obtain ⟨z1, z2, z3⟩ := k4.frozen3
         have b2 : Below w.heap.size w w2 := B1.out.drew.trans (hb2.mono B1.out.size)
         have z2 := K2.out.lt))
  go_wp2
  refine bodyPost_ret (v := .agg #[.int .i64 W, .int .i64 H, .slice A' n c']) (by simp [results, Try.results26, go_sem, y1, y2, y3]) rfl ?_
  have hfar : ∀ i, ∀ a, A' = some a → a.block ≠ (⟨w.heap.size + 1, i, none⟩ : Addr).block := fun i a e h => by
    have := hge' a e
    simp at h this
    omega
  refine ⟨_, rfl, ⟨_, rfl, A', c', rfl, hc', hnil', fun a e => ?_, ?_⟩, by (repeat (first | exact Below.refl _ _ | assumption | refine Below.drew ?_ | refine below_drewN ?_ _ | refine Below.alloc ?_ (by first | omega | (simp; done) | (simp; omega)) _ | refine Below.setCell ?_ (by first | omega | (simp; done) | (simp; omega)) _ | refine below_setRow ?_ (by first | omega | (simp; done) | (simp; omega)) _ ))⟩
  · have := hge' a e; have := B1.out.size; simp at *; omega
  · simpa using ((ha'.far (hfar 0) _).far (hfar 1) _).far (hfar 2) _

set_option maxHeartbeats 1000000 in
theorem sameGrey_any (W H W' H' : Int) (A B : Option Addr) (n m c d : Nat) (p q : Int → Int) (w : World) (hA : ArrB w w.heap.size A n p) (hB : ArrB w w.heap.size B m q) (hn : n ≤ maxLen) (hm : m ≤ maxLen) :
    Calls Try.prog 31 #[.agg #[.int .i64 W, .int .i64 H, .slice A n c], .agg #[.int .i64 W', .int .i64 H', .slice B m d]] w
      fun e w' => e = .returned (.bool (decide (W = W') && decide (H = H') && sameB n m p q)) ∧ Below w.heap.size w w' := by
  have SA := Lib.hid fun w1 h1 h2 => sameBytes_any A B n m c d p q w1 h1 h2 hn hm
  by_cases hW : W = W'
  · subst hW
    by_cases hH : H = H'
    · subst hH
      have hr : Hid ((decide (W = W) && decide (H = H) && sameB n m p q) = sameB n m p q) := by show _ = _; simp
      rw [hr.out]
      go_enter Try.func31, Try.ntmps31
      go_wp2_with fail
      refine (SA.out _ (hA.to (by (repeat (first | exact Below.refl _ _ | assumption | refine Below.drew ?_ | refine below_drewN ?_ _ | refine Below.alloc ?_ (by first | omega | (simp; done) | (simp; omega)) _ | refine Below.setCell ?_ (by first | omega | (simp; done) | (simp; omega)) _ | refine below_setRow ?_ (by first | omega | (simp; done) | (simp; omega)) _ )))) (hB.to (by (repeat (first | exact Below.refl _ _ | assumption | refine Below.drew ?_ | refine below_drewN ?_ _ | refine Below.alloc ?_ (by first | omega | (simp; done) | (simp; omega)) _ | refine Below.setCell ?_ (by first | omega | (simp; done) | (simp; omega)) _ | refine below_setRow ?_ (by first | omega | (simp; done) | (simp; omega)) _ ))))).mono ?_
      rintro e w' ⟨rfl, k, rfl⟩
      generalize hb : sameB n m p q = b
      have HBB := Lib.hid hb; clear hb
      cases b <;> (go_wp2; go_ret; exact ⟨ret_bool HBB.out.symm, by (repeat (first | exact Below.refl _ _ | assumption | refine Below.drew ?_ | refine below_drewN ?_ _ | refine Below.alloc ?_ (by first | omega | (simp; done) | (simp; omega)) _ | refine Below.setCell ?_ (by first | omega | (simp; done) | (simp; omega)) _ | refine below_setRow ?_ (by first | omega | (simp; done) | (simp; omega)) _ ))⟩)
    · have hb : (H == H') = false := by simp [hH]
      have hr : Hid ((decide (W = W) && decide (H = H') && sameB n m p q) = false) := by show _ = _; simp [hH]
      rw [hr.out]
      have HH := Lib.hid hH; clear hH
      go_enter Try.func31, Try.ntmps31
      go_wp2
      go_ret
      exact ⟨rfl, by (repeat (first | exact Below.refl _ _ | assumption | refine Below.drew ?_ | refine below_drewN ?_ _ | refine Below.alloc ?_ (by first | omega | (simp; done) | (simp; omega)) _ | refine Below.setCell ?_ (by first | omega | (simp; done) | (simp; omega)) _ | refine below_setRow ?_ (by first | omega | (simp; done) | (simp; omega)) _ ))⟩
  · have hb : (W == W') = false := by simp [hW]
    have hr : Hid ((decide (W = W') && decide (H = H') && sameB n m p q) = false) := by show _ = _; simp [hW]
    rw [hr.out]
    have HW := Lib.hid hW; clear hW
    go_enter Try.func31, Try.ntmps31
    go_wp2
    go_ret
    exact ⟨rfl, by (repeat (first | exact Below.refl _ _ | assumption | refine Below.drew ?_ | refine below_drewN ?_ _ | refine Below.alloc ?_ (by first | omega | (simp; done) | (simp; omega)) _ | refine Below.setCell ?_ (by first | omega | (simp; done) | (simp; omega)) _ | refine below_setRow ?_ (by first | omega | (simp; done) | (simp; omega)) _ ))⟩

theorem sameGrey_true (W H : Int) (A B : Option Addr) (n c d : Nat) (p q : Int → Int) (w : World) (hA : ArrB w w.heap.size A n p) (hB : ArrB w w.heap.size B n q) (hn : n ≤ maxLen) (he : ∀ i : Int, 0 ≤ i → i < n → p i = q i) :
    Calls Try.prog 31 #[.agg #[.int .i64 W, .int .i64 H, .slice A n c], .agg #[.int .i64 W, .int .i64 H, .slice B n d]] w
      fun e w' => e = .returned (.bool true) ∧ Below w.heap.size w w' :=
  (sameGrey_any W H W H A B n n c d p q w hA hB hn hn).mono fun e w' ⟨h, hb⟩ => ⟨by rw [h, sameB_iff.2 ⟨rfl, he⟩]; simp, hb⟩

set_option maxHeartbeats 1000000 in
theorem rlevels_any (W H : Int) (A : Option Addr) (n c : Nat) (p : Int → Int) (w : World) (hA : ArrB w w.heap.size A n p) (hn : n ≤ maxLen) (hB : IsB p) :
    Calls Try.prog 60 #[.agg #[.int .i64 W, .int .i64 H, .slice A n c]] w
      (New w fun v w' => ∃ g, v = .slice (some ⟨g, 0, none⟩) 256 256 ∧ w.heap.size ≤ g ∧ Blk w' g 3 (i64s 256 (cntS n p))) := by
  have hmk := make256
  unfold maxLen at hn
  go_enter Try.func60, Try.ntmps60
  go_wp2_with fail
  go_loopw [4] (fun s wr => ∃ i : Nat, i ≤ n ∧ s = .int .i64 i ∧ Below w.heap.size w wr ∧ Blk wr w.heap.size 42 #[.int .i64 W, .int .i64 H, .slice A n c] ∧ Blk wr (w.heap.size + 1) 3 (i64s 256 (cntS i p))) (fun s _ => n - (intOf s).toNat)
  case atStart => exact ⟨0, by omega, rfl, by (repeat (first | exact Below.refl _ _ | assumption | refine Below.drew ?_ | refine below_drewN ?_ _ | refine Below.alloc ?_ (by first | omega | (simp; done) | (simp; omega)) _ | refine Below.setCell ?_ (by first | omega | (simp; done) | (simp; omega)) _ | refine below_setRow ?_ (by first | omega | (simp; done) | (simp; omega)) _ )), (Blk.new _ _ _).alloc _, Blk.new' (by simp) _ _⟩
  case round =>
    obtain ⟨i, hi, rfl, b2, k1, kr⟩ := hrel
    clear hmk
    obtain ⟨p1, p2, p3⟩ := k1.cells3
    by_cases hlt : i < n
    · have hi0 : (0 : Int) ≤ i := by omega
      have hiN : (i : Int) < n := by omega
      obtain ⟨pb1, pb2⟩ := hB i
      obtain ⟨b, off, rfl, hbB, hcell⟩ := ArrB.at_ (ArrB.below hA b2) hi0 hiN
      rw [Int.toNat_natCast] at hcell
      have hr := kr.i64at pb1 (by omega)
      have fr := kr.frozen (p i).toNat
      have SR := Lib.hid (fun v => cntS_step (n := i) (p := p) v)
      obtain ⟨c1, c2⟩ := cntS_bd i p (p i)
      have UR := Lib.hid (kr.i64set _ pb1 (cntS i p (p i) + 1))
      go_wp2
      go_roundw
      case rel => exact ⟨i + 1, by omega, by go_num, by (repeat (first | exact Below.refl _ _ | assumption | refine Below.drew ?_ | refine below_drewN ?_ _ | refine Below.alloc ?_ (by first | omega | (simp; done) | (simp; omega)) _ | refine Below.setCell ?_ (by first | omega | (simp; done) | (simp; omega)) _ | refine below_setRow ?_ (by first | omega | (simp; done) | (simp; omega)) _ )), k1.far (by simp) _, UR.out.i64conv fun v _ _ => SR.out v⟩
      case measure => simp [intOf]; omega
    · obtain rfl : i = n := by omega
      go_wp2
      go_ret
      exact ⟨_, rfl, ⟨_, rfl, by omega, kr⟩, b2⟩

set_option maxRecDepth 100000 in
set_option maxHeartbeats 2000000 in
theorem rlevel_any (W H : Int) (A : Option Addr) (n c : Nat) (p : Int → Int) (w : World) (hA : ArrB w w.heap.size A n p) (hn : n ≤ maxLen) (hB : IsB p) :
    Calls Try.prog 29 #[.agg #[.int .i64 W, .int .i64 H, .slice A n c]] w fun e w' => e = .returned (.int .i64 (levelS n p)) ∧ Below w.heap.size w w' := by
  have PA := fun w' hA' => rlevels_any W H A n c p w' hA' hn hB
  have PZ := fun v => cntS_bd n p v
  unfold levelS
  generalize cntS n p = cn at *
  have PA := Lib.hid PA
  have PZ := Lib.hid PZ
  go_enter Try.func29, Try.ntmps29
  go_wp2_with fail
  refine (PA.out _ (hA.to (by (repeat (first | exact Below.refl _ _ | assumption | refine Below.drew ?_ | refine below_drewN ?_ _ | refine Below.alloc ?_ (by first | omega | (simp; done) | (simp; omega)) _ | refine Below.setCell ?_ (by first | omega | (simp; done) | (simp; omega)) _ | refine below_setRow ?_ (by first | omega | (simp; done) | (simp; omega)) _ ))))).mono ?_
  rintro e w1 ⟨_, rfl, ⟨g, rfl, hg, kg⟩, hb1⟩
  have b1 : Below w.heap.size w w1 := below_call (by (repeat (first | exact Below.refl _ _ | assumption | refine Below.drew ?_ | refine below_drewN ?_ _ | refine Below.alloc ?_ (by first | omega | (simp; done) | (simp; omega)) _ | refine Below.setCell ?_ (by first | omega | (simp; done) | (simp; omega)) _ | refine below_setRow ?_ (by first | omega | (simp; done) | (simp; omega)) _ ))) (by simp; try omega) hb1
  clear hb1 PA
  obtain ⟨m0, R0⟩ := RL.start cn
  have R0 := Lib.hid R0
  go_wp2_with fail
  go_loop [4, 5, 6] (fun o b s => ∃ (i m : Nat) (O B : Int), i ≤ 256 ∧ s = .int .i64 i ∧ o = .int .i64 O ∧ b = .int .i64 B ∧ RL cn i m O B) (fun _ _ s => 256 - (intOf s).toNat)
  case atStart => exact ⟨0, m0, 128, 0, by omega, rfl, rfl, rfl, R0.out⟩
  case round =>
    obtain ⟨i, m, O, B, hi, rfl, rfl, rfl, hR⟩ := hrel
    obtain ⟨o1, o2, o3, o4⟩ := hR.bd
    have HR := Lib.hid hR; clear hR
    by_cases hlt : i < 256
    · have ci := kg.i64at (i := (i : Int)) (by omega) (by omega)
      rw [Int.toNat_natCast] at ci
      have hz := PZ.out i
      have hz0 := hz.1; clear hz
      by_cases hc : cn i = 0
      · have R1 := Lib.hid (HR.out.skip hlt hc)
        have hci : cn i ≤ 0 := by omega
        clear hc
        generalize cn i = C at *
        by_cases h1 : i + 1 < 256
        · have h2 : (i : Int) + 1 < 256 := by omega
          have h3 : (i : Int) < 256 := by omega
          clear h1
          go_wp2_with fail
          go_loop [4, 5, 7] (fun o b s => o = .int .i64 O ∧ b = .int .i64 B ∧ s = .int .i64 ((i : Int) + 1)) (fun _ _ _ => 0)
          case atStart => exact ⟨rfl, rfl, rfl⟩
          case round =>
            obtain ⟨rfl, rfl, rfl⟩ := hrel
            go_wp2
            go_round
            case rel => exact ⟨i + 1, m, O, B, by omega, by go_num, rfl, rfl, R1.out⟩
            case measure => simp [intOf]; omega
        · have h3 : (i : Int) < 256 := by omega
          have h7 : decide ((i : Int) + 1 < 256) = false := by simp; omega
          clear h1 hlt hi
          go_wp2_with fail
          go_loop [4, 5, 7] (fun o b s => o = .int .i64 O ∧ b = .int .i64 B ∧ s = .int .i64 ((i : Int) + 1)) (fun _ _ _ => 0)
          case atStart => exact ⟨rfl, rfl, rfl⟩
          case round =>
            obtain ⟨rfl, rfl, rfl⟩ := hrel
            go_wp2
            go_round
            case rel => exact ⟨i + 1, m, O, B, by omega, by go_num, rfl, rfl, R1.out⟩
            case measure => simp [intOf]; omega
      · have hci : 0 < cn i := by omega
        have HC := Lib.hid hc; clear hc
        have ci' : ∀ C, cn i = C → w1.cell? ⟨g, i, none⟩ = some (.int .i64 C) := fun C e => e ▸ ci
        clear ci
        generalize hCe : cn i = C at *
        have CE := Lib.hid hCe; clear hCe
        have ci := ci' C rfl; clear ci'
        go_wp2_with fail
        go_loop [4, 5, 7] (fun o b s => ∃ j : Nat, i < j ∧ j ≤ 256 ∧ s = .int .i64 j ∧ o = .int .i64 O ∧ b = .int .i64 B ∧ ∀ t : Nat, i < t → t < j → cn t = 0) (fun _ _ s => 256 - (intOf s).toNat)
        case atStart => exact ⟨i + 1, by omega, by omega, by go_num, rfl, rfl, fun t a b => by omega⟩
        case round =>
          obtain ⟨j, hj1, hj2, rfl, rfl, rfl, hz⟩ := hrel
          have HZ := Lib.hid hz; clear hz
          by_cases hj : j < 256
          · have cj := kg.i64at (i := (j : Int)) (by omega) (by omega)
            rw [Int.toNat_natCast] at cj
            by_cases hjc : cn j = 0
            · rw [hjc] at cj
              have HJ := Lib.hid hjc; clear hjc
              go_wp2
              go_round
              case rel => exact ⟨j + 1, by omega, by omega, by go_num, rfl, rfl, fun t a b => if e : t = j then e ▸ HJ.out else HZ.out t a (by omega)⟩
              case measure => simp [intOf]; omega
            · have hb : (cn j == 0) = false := by simp [hjc]
              have RN := Lib.hid (HR.out.next hlt (by rw [CE.out]; omega) hj1 hj HZ.out hjc)
              have HJ := Lib.hid hjc; clear hjc
              generalize cn j = D at *
              by_cases hB2 : B < (j : Int) - i
              · rw [if_pos hB2, if_pos hB2] at RN
                go_wp2
                go_round
                case rel => exact ⟨i + 1, j, _, _, by omega, by go_num, rfl, rfl, RN.out⟩
                case measure => simp [intOf]; omega
              · rw [if_neg hB2, if_neg hB2] at RN
                go_wp2
                go_round
                case rel => exact ⟨i + 1, j, _, _, by omega, by go_num, rfl, rfl, RN.out⟩
                case measure => simp [intOf]; omega
          · obtain rfl : j = 256 := by omega
            have RN := Lib.hid (HR.out.none hlt (by rw [CE.out]; omega) HZ.out)
            go_wp2
            go_round
            case rel => exact ⟨i + 1, 256, _, _, by omega, by go_num, rfl, rfl, RN.out⟩
            case measure => simp [intOf]; omega
    · obtain rfl : i = 256 := by omega
      have RE : Hid (O = (levP cn 256).1) := by show _ = _; exact HR.out.end_
      go_wp2
      go_ret
      exact ⟨ret_int RE.out, b1⟩

/-! ### clean.Grey -/
def greyQ (p : Int → Int) (d l : Int) : Int → Int := fun i => if p i = 1 then d else l
def greyP (p : Int → Int) (d l : Int) (k : Nat) : Int → Int := fun i => if i < k then greyQ p d l i else 0
theorem greyP_l {p : Int → Int} {d l : Int} {k : Nat} (h : p k ≠ 1) (i : Int) : upd (greyP p d l k) k l i = greyP p d l (k + 1) i := by
  unfold upd greyP
  by_cases e : i = k
  · subst e; rw [if_pos rfl, if_pos (by omega)]; unfold greyQ; rw [if_neg h]
  · rw [if_neg e]
    by_cases h2 : i < k
    · rw [if_pos h2, if_pos (by omega)]
    · rw [if_neg h2, if_neg (by omega)]
theorem greyP_d {p : Int → Int} {d l x : Int} {k : Nat} (h : p k = 1) (i : Int) : upd (upd (greyP p d l k) k x) k d i = greyP p d l (k + 1) i := by
  unfold upd greyP
  by_cases e : i = k
  · subst e; rw [if_pos rfl, if_pos (by omega)]; unfold greyQ; rw [if_pos h]
  · rw [if_neg e]
    show (if i = (k : Int) then x else _) = _
    rw [if_neg e]
    by_cases h2 : i < k
    · rw [if_pos h2, if_pos (by omega)]
    · rw [if_neg h2, if_neg (by omega)]
theorem greyP_end {p : Int → Int} {d l : Int} {n : Nat} {i : Int} (h : i < n) : greyP p d l n i = greyQ p d l i := by unfold greyP; rw [if_pos h]

set_option maxRecDepth 100000 in
set_option maxHeartbeats 2000000 in
theorem grey_ok (W H d l : Int) (A : Option Addr) (n c : Nat) (p : Int → Int) (w : World) (hA : ArrB w w.heap.size A n p) (hn : n ≤ maxLen) (hB : IsB p) (hE : chk W H n p = 0) (hd0 : 0 ≤ d) (hd1 : d ≤ 255) (hl0 : 0 ≤ l) (hl1 : l ≤ 255) :
    Calls Try.prog 30 #[.agg #[.int .i64 W, .int .i64 H, .slice A n c], .int .i64 d, .int .i64 l] w
      (New w fun v w' => ∃ g, v = .tuple #[.agg #[.int .i64 W, .int .i64 H, .slice (some ⟨g, 0, none⟩) n n], .int .i64 0] ∧ w.heap.size ≤ g ∧ Blk w' g 5 (u8s n (greyQ p d l))) := by
  have CK := Lib.hid fun w' hA' => check_any W H A n c p w' hA' hn
  rw [hE] at CK
  obtain ⟨hW1, hW2, hH1, hH2, hnn, -⟩ := chk_ok hE
  have hnb : (n : Int) ≤ 409600 := by rw [hnn]; exact (area_bd hW1 hW2 hH1 hH2).2
  have hmk := makeB (n : Int) (by omega) (by omega)
  simp only [Int.toNat_natCast] at hmk
  have vd : IntKind.u8.wrap d = d := IntWalk.u8_in _ (by omega)
  have vl : IntKind.u8.wrap l = l := IntWalk.u8_in _ (by omega)
  clear hE hnn
  go_enter Try.func30, Try.ntmps30
  go_wp2_with fail
  have k1 : Blk ((w.alloc (.cells #[.int .i64 W, .int .i64 H, .slice A n c] 25)).alloc (.cells #[.int .i64 0, .int .i64 0, .slice none 0 0] 42)) w.heap.size 25 #[.int .i64 W, .int .i64 H, .slice A n c] := (Blk.new _ _ _).alloc _
  have k2 : Blk ((w.alloc (.cells #[.int .i64 W, .int .i64 H, .slice A n c] 25)).alloc (.cells #[.int .i64 0, .int .i64 0, .slice none 0 0] 42)) (w.heap.size + 1) 42 #[.int .i64 0, .int .i64 0, .slice none 0 0] := Blk.new' (by simp) _ _
  refine (CK.out _ (hA.to (by (repeat (first | exact Below.refl _ _ | assumption | refine Below.drew ?_ | refine below_drewN ?_ _ | refine Below.alloc ?_ (by first | omega | (simp; done) | (simp; omega)) _ | refine Below.setCell ?_ (by first | omega | (simp; done) | (simp; omega)) _ | refine below_setRow ?_ (by first | omega | (simp; done) | (simp; omega)) _ ))))).mono ?_
  rintro e w1 ⟨rfl, hb1⟩
  have b1 : Below w.heap.size w w1 := below_call (by (repeat (first | exact Below.refl _ _ | assumption | refine Below.drew ?_ | refine below_drewN ?_ _ | refine Below.alloc ?_ (by first | omega | (simp; done) | (simp; omega)) _ | refine Below.setCell ?_ (by first | omega | (simp; done) | (simp; omega)) _ | refine below_setRow ?_ (by first | omega | (simp; done) | (simp; omega)) _ ))) (by simp; try omega) hb1
  replace k1 := k1.below' hb1
  replace k2 := k2.below' hb1
  clear hb1 CK
  have Z1 := k1.lt; have Z2 := k2.lt
  obtain ⟨p1, p2, p3⟩ := k1.cells3
  go_upto_region 4 with fail
  go_cut [27] (fun t wx => t = .bool false ∧ wx = w1)
  case first =>
    by_cases hdl : d ≤ l
    · by_cases hdl2 : d = l
      · subst hdl2
        go_wp2_with fail
        go_meet
        exact ⟨by first | rfl | (simp; done) | (simp; omega), rfl⟩
      · have hdl3 : d < l := by omega
        have hdl4 : (d == l) = false := by simp [hdl2]
        have H2 := Lib.hid hdl2; clear hdl2
        go_wp2_with fail
        go_meet
        exact ⟨by first | rfl | (simp; done) | (simp; omega), rfl⟩
    · have hdl3 : l < d := by omega
      clear hdl
      go_wp2_with fail
      go_meet
      exact ⟨by first | rfl | (simp; done) | (simp; omega), rfl⟩
  case rest =>
  obtain ⟨rfl, rfl⟩ := hcut
  go_upto_region 6 with fail
  go_cut [9] (fun f wx => ∃ B g, f = .pointer (some ⟨B, 0, none⟩) ∧ Below wc.heap.size wc wx ∧ wc.heap.size ≤ g ∧ g ≠ B ∧ wc.heap.size ≤ B ∧ Blk wx B 42 #[.int .i64 W, .int .i64 H, .slice (some ⟨g, 0, none⟩) n n] ∧ Blk wx g 5 (u8s n (fun _ => 0)))
  case first =>
    go_region_held3 (fun w' => w'.cell? ⟨w.heap.size, 0, none⟩ = some (.int .i64 W) ∧ w'.cell? ⟨w.heap.size, 1, none⟩ = some (.int .i64 H) ∧ w'.cell? ⟨w.heap.size, 2, none⟩ = some (.slice A n c))
      (simp [go_sem, *]) (fail)
    all_goals
      go_wp2_with fail
      go_meet
    · exact ⟨wc.heap.size + 1, wc.heap.size, rfl, by (repeat (first | exact Below.refl _ _ | assumption | refine Below.drew ?_ | refine below_drewN ?_ _ | refine Below.alloc ?_ (by first | omega | (simp; done) | (simp; omega)) _ | refine Below.setCell ?_ (by first | omega | (simp; done) | (simp; omega)) _ | refine below_setRow ?_ (by first | omega | (simp; done) | (simp; omega)) _ )), by omega, by omega, by omega, (Blk.new' (by simp) _ _).drew, ((Blk.new _ _ _).alloc _).drew⟩
    · exact ⟨wc.heap.size, wc.heap.size + 1, rfl, by (repeat (first | exact Below.refl _ _ | assumption | refine Below.drew ?_ | refine below_drewN ?_ _ | refine Below.alloc ?_ (by first | omega | (simp; done) | (simp; omega)) _ | refine Below.setCell ?_ (by first | omega | (simp; done) | (simp; omega)) _ | refine below_setRow ?_ (by first | omega | (simp; done) | (simp; omega)) _ )), by omega, by omega, by omega, ((Blk.new _ _ _).alloc _).drew, (Blk.new' (by simp) _ _).drew⟩
  case rest =>
    obtain ⟨B, g, rfl, hb2, hg, hgB, hBB, kB, kg⟩ := hcut
    have k1 := k1.below' hb2
    have k2 := k2.below' hb2
    have b2 := below_call b1 b1.size hb2
    have hB1 : B ≠ w.heap.size := by omega
    have hB2 : B ≠ w.heap.size + 1 := by omega
    have hg1 : g ≠ w.heap.size := by omega
    have hg2 : g ≠ w.heap.size + 1 := by omega
    have hg3 : w.heap.size ≤ g := by omega
    clear p1 p2 p3 hb2 b1 hmk
    obtain ⟨p1, p2, p3⟩ := k1.cells3
    go_wp2_with fail
    go_loopw [41] (fun s wr => ∃ i : Nat, i ≤ n ∧ s = .int .i64 i ∧ Below w.heap.size w wr ∧ Blk wr w.heap.size 25 #[.int .i64 W, .int .i64 H, .slice A n c] ∧ Blk wr (w.heap.size + 1) 42 #[.int .i64 0, .int .i64 0, .slice none 0 0] ∧
      Blk wr B 42 #[.int .i64 W, .int .i64 H, .slice (some ⟨g, 0, none⟩) n n] ∧ Blk wr g 5 (u8s n (greyP p d l i))) (fun s _ => n - (intOf s).toNat)
    case atStart => exact ⟨0, by omega, rfl, b2, k1, k2, kB, kg.u8conv fun j h0 hj => by unfold greyP; rw [if_neg (by omega)]⟩
    case round =>
      obtain ⟨i, hi, rfl, b3, k3, k4, k5, k6⟩ := hrel
      clear p1 p2 p3 k1 k2 kB kg b2
      obtain ⟨p1, p2, p3⟩ := k3.cells3
      obtain ⟨r1, r2, r3⟩ := k5.cells3
      by_cases hlt : i < n
      · have hi0 : (0 : Int) ≤ (i : Int) := by omega
        have hin : (i : Int) < (n : Int) := by omega
        obtain ⟨bA, off, rfl, hbB, hcell⟩ := ArrB.at_ (ArrB.below hA b3) hi0 hin
        rw [Int.toNat_natCast] at hcell
        have hr := k6.u8at hi0 hin
        have fr := k6.frozen i
        rw [Int.toNat_natCast] at hr
        have U1 := k6.u8set i hi0 l
        rw [Int.toNat_natCast] at U1
        by_cases e1 : p i = 1
        · have G := Lib.hid (greyP_d (d := d) (l := l) (x := l) e1)
          rw [e1] at hcell
          have U2 := U1.u8set i hi0 d
          rw [Int.toNat_natCast] at U2
          have U2 := Lib.hid U2
          have hr2 := U1.u8at hi0 hin
          have fr2 := U1.frozen i
          rw [Int.toNat_natCast] at hr2
          have hcell2 : (wr.setCell ⟨g, i, none⟩ (.int .u8 l)).cell? ⟨bA, off + i, none⟩ = some (.int .u8 1) := (World.cell?_of_block (heap_setCell_other wr ⟨g, i, none⟩ bA _ (by simp; omega))).trans hcell
          have k3b := k3.far (p := ⟨g, i, none⟩) (by simp; omega) (.int .u8 l)
          have k5b := k5.far (p := ⟨g, i, none⟩) (by simp; omega) (.int .u8 l)
          obtain ⟨s1, s2, s3⟩ := k3b.cells3
          obtain ⟨t1, t2, t3⟩ := k5b.cells3
          clear U1 e1
          go_wp2
          go_roundw
          case rel => exact ⟨i + 1, by omega, by go_num, by (repeat (first | exact Below.refl _ _ | assumption | refine Below.drew ?_ | refine below_drewN ?_ _ | refine Below.alloc ?_ (by first | omega | (simp; done) | (simp; omega)) _ | refine Below.setCell ?_ (by first | omega | (simp; done) | (simp; omega)) _ | refine below_setRow ?_ (by first | omega | (simp; done) | (simp; omega)) _ )), k3b.far (by simp; omega) _, (k4.far (by simp; omega) _).far (by simp; omega) _, k5b.far (by simp; omega) _, U2.out.u8conv fun j _ _ => G.out j⟩
          case measure => simp [intOf]; omega
        · have hb : (p i == 1) = false := by simp [e1]
          have G := Lib.hid (greyP_l (d := d) (l := l) e1)
          have U1 := Lib.hid U1
          have E1 := Lib.hid e1; clear e1
          go_wp2
          go_roundw
          case rel => exact ⟨i + 1, by omega, by go_num, by (repeat (first | exact Below.refl _ _ | assumption | refine Below.drew ?_ | refine below_drewN ?_ _ | refine Below.alloc ?_ (by first | omega | (simp; done) | (simp; omega)) _ | refine Below.setCell ?_ (by first | omega | (simp; done) | (simp; omega)) _ | refine below_setRow ?_ (by first | omega | (simp; done) | (simp; omega)) _ )), k3.far (by simp; omega) _, k4.far (by simp; omega) _, k5.far (by simp; omega) _, U1.out.u8conv fun j _ _ => G.out j⟩
          case measure => simp [intOf]; omega
      · obtain rfl : i = n := by omega
        obtain ⟨s1, s2, s3⟩ := k4.cells3
        obtain ⟨f1, f2, f3⟩ := k4.frozen3
        go_wp2
        refine bodyPost_ret (v := .tuple #[.agg #[.int .i64 W, .int .i64 H, .slice (some ⟨g, 0, none⟩) i i], .int .i64 0]) (by simp [results, Try.results30, go_sem, s1, s2, s3]) rfl ?_
        refine ⟨_, rfl, ⟨_, rfl, hg3, ?_⟩, by (repeat (first | exact Below.refl _ _ | assumption | refine Below.drew ?_ | refine below_drewN ?_ _ | refine Below.alloc ?_ (by first | omega | (simp; done) | (simp; omega)) _ | refine Below.setCell ?_ (by first | omega | (simp; done) | (simp; omega)) _ | refine below_setRow ?_ (by first | omega | (simp; done) | (simp; omega)) _ ))⟩
        exact (((k6.u8conv fun j h0 hj => greyP_end hj).far (by simp; omega) _).far (by simp; omega) _).far (by simp; omega) _
end Go.Proofs.Ytanbheeekpdkbaa
