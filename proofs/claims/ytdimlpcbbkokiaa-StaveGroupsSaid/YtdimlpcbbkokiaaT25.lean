/- Walks: lists of numbers and lists of lines compared; a list of numbers copied. -/
import Derived.Test.YtdimlpcbbkokiaaT15
import Derived.Test.YtdimlpcbbkokiaaW21
namespace Go.Proofs.Ytdimlpcbbkokiaa
open Go.RowKit Go.Shelf
set_option linter.unusedVariables false
attribute [local go_sem] Oper.semAt_some

set_option maxHeartbeats 400000 in
theorem sameInts_any (A B : Option Addr) (n m c d : Nat) (p q : Int → Int) (w : World) (hA : ArrI w w.heap.size A n p) (hB : ArrI w w.heap.size B m q) (hn : n ≤ maxLen) (hm : m ≤ maxLen) :
    Calls Try.prog 68 #[.slice A n c, .slice B m d] w fun e w' => e = .returned (.bool (sameI n m p q)) ∧ ∃ k, w' = w.drewN k := by
  unfold maxLen at hn hm
  by_cases hnm : n = m
  · subst hnm
    go_enter Try.func68, Try.ntmps68
    go_wp2
    go_loopw [5] (fun s wr => ∃ i : Int, 0 ≤ i ∧ i ≤ n ∧ s = .int .i64 i ∧ (∀ j : Int, 0 ≤ j → j < i → p j = q j) ∧ ∃ k, wr = w.drewN k) (fun s _ => n - (intOf s).toNat)
    case atStart => exact ⟨0, by omega, by omega, rfl, fun j a b => by omega, 0, rfl⟩
    case round =>
      obtain ⟨i, h0, hi, rfl, hall, k, rfl⟩ := hrel
      have HA := Lib.hid hall; clear hall
      by_cases hlt : i < n
      · obtain ⟨b, off, rfl, hb, hc⟩ := ArrI.at_ hA h0 hlt
        obtain ⟨b', off', rfl, hb', hc'⟩ := ArrI.at_ hB h0 hlt
        by_cases he : p i = q i
        · have hbool : (p i != q i) = false := by simp [he]
          have HE := Lib.hid he; clear he
          go_wp2_with fail
          go_quiet (fail)
          go_wp2
          go_roundw
          case rel =>
            refine ⟨i + 1, by omega, by omega, by go_num, fun j a b => ?_, _, rfl⟩
            by_cases e : j = i
            · rw [e]; exact HE.out
            · exact HA.out j a (by omega)
          case measure => simp [intOf]; omega
        · have hbool : (p i != q i) = true := by simp [he]
          have HE := Lib.hid he; clear he
          have hr : Hid (sameI n n p q = false) := by
            show _ = _
            rw [Bool.eq_false_iff]; intro h; exact HE.out ((sameI_iff.1 h).2 i h0 hlt)
          go_wp2_with fail
          go_quiet (fail)
          go_wp2
          go_ret
          exact ⟨ret_bool hr.out.symm, _, World.drewN_drewN _ _ _⟩
      · have hr : Hid (sameI n n p q = true) := by
          show _ = _
          exact sameI_iff.2 ⟨rfl, fun j a b => HA.out j a (by omega)⟩
        go_wp2
        go_ret
        exact ⟨ret_bool hr.out.symm, _, rfl⟩
  · have hr : Hid (sameI n m p q = false) := by
      show _ = _
      rw [Bool.eq_false_iff]; intro h; exact hnm (sameI_iff.1 h).1
    go_enter Try.func68, Try.ntmps68
    go_wp2
    all_goals
      go_ret
      exact ⟨ret_bool hr.out.symm, 0, rfl⟩

/-- two lists of lines are the same -/
def sameL (n m : Nat) (mA mB : Nat → Nat) (a b : Nat → Nat → Int) : Bool := decide (n = m) && allN n fun i => sameI (mA i.toNat) (mB i.toNat) (fun j => a i.toNat j.toNat) (fun j => b i.toNat j.toNat)
theorem sameL_iff {n m : Nat} {mA mB : Nat → Nat} {a b : Nat → Nat → Int} : sameL n m mA mB a b = true ↔ n = m ∧ ∀ i, i < n → mA i = mB i ∧ ∀ j, j < mA i → a i j = b i j := by
  unfold sameL
  rw [Bool.and_eq_true, decide_eq_true_iff, allN_iff]
  refine and_congr_right fun _ => ⟨fun h i hi => ?_, fun h i i0 i1 => ?_⟩
  · have := h i (by omega) (by omega)
    rw [Int.toNat_natCast] at this
    obtain ⟨h1, h2⟩ := sameI_iff.1 this
    exact ⟨h1, fun j hj => by have := h2 j (by omega) (by omega); simpa using this⟩
  · obtain ⟨h1, h2⟩ := h i.toNat (by omega)
    exact sameI_iff.2 ⟨h1, fun j j0 j1 => h2 j.toNat (by omega)⟩
set_option maxHeartbeats 1000000 in
theorem sameLists_any (A B : Option Addr) (n m c d : Nat) (mA mB : Nat → Nat) (a b : Nat → Nat → Int) (w : World) (hA : Lines w w.heap.size A n mA a) (hB : Lines w w.heap.size B m mB b) (hn : n ≤ maxLen) (hm : m ≤ maxLen) (hmA : ∀ i, i < n → mA i ≤ maxLen) (hmB : ∀ i, i < m → mB i ≤ maxLen) :
    Calls Try.prog 22 #[.slice A n c, .slice B m d] w fun e w' => e = .returned (.bool (sameL n m mA mB a b)) ∧ ∃ k, w' = w.drewN k := by
  unfold maxLen at hn hm
  by_cases hnm : n = m
  · subst hnm
    have SI := Lib.hid fun i (hi : i < n) A' B' c' d' w' hA' hB' => sameInts_any A' B' (mA i) (mB i) c' d' (fun j => a i j.toNat) (fun j => b i j.toNat) w' hA' hB' (hmA i hi) (hmB i hi)
    clear hmA hmB
    go_enter Try.func22, Try.ntmps22
    go_wp2
    go_loopw [5] (fun s wr => ∃ i : Nat, i ≤ n ∧ s = .int .i64 i ∧ (∀ j, j < i → sameI (mA j) (mB j) (fun t => a j t.toNat) (fun t => b j t.toNat) = true) ∧ ∃ k, wr = w.drewN k) (fun s _ => n - (intOf s).toNat)
    case atStart => exact ⟨0, by omega, rfl, fun j hj => by omega, 0, rfl⟩
    case round =>
      obtain ⟨i, hi, rfl, hall, k, hwr⟩ := hrel
      have HA := Lib.hid hall; clear hall
      by_cases hlt : (i : Int) < n
      · obtain ⟨b1, o1, A1, c1, rfl, hb1, hc1, ha1⟩ := hA.at_ (i := i) (by omega)
        obtain ⟨b2, o2, A2, c2, rfl, hb2, hc2, ha2⟩ := hB.at_ (i := i) (by omega)
        have SIi := Lib.hid fun k' => SI.out i (by omega) A1 A2 c1 c2 (wr.drewN k') (by rw [hwr]; exact ha1) (by rw [hwr]; exact ha2)
        replace hc1 : wr.cell? ⟨b1, o1 + i, none⟩ = some (.slice A1 (mA i) c1) := by rw [hwr]; exact hc1
        replace hc2 : wr.cell? ⟨b2, o2 + i, none⟩ = some (.slice A2 (mB i) c2) := by rw [hwr]; exact hc2
        have HWR := Lib.hid hwr
        clear hwr
        cases hs : sameI (mA i) (mB i) (fun t => a i t.toNat) (fun t => b i t.toNat) with
        | true =>
          rw [hs] at SIi
          have HS := Lib.hid hs; clear hs
          go_wp2_with fail
          go_quiet ((go_at_call 68; exact Calls.quiet_of (SIi.out _)))
          go_wp2
          go_roundw
          case rel =>
            refine ⟨i + 1, by omega, by go_num, fun j hj => ?_, _, by rw [HWR.out]; exact World.drewN_drewN _ _ _⟩
            rcases Nat.lt_succ_iff_lt_or_eq.1 hj with h | rfl
            · exact HA.out j h
            · exact HS.out
          case measure => simp [intOf]; omega
        | false =>
          rw [hs] at SIi
          have hr : Hid (sameL n n mA mB a b = false) := by
            show _ = _
            rw [Bool.eq_false_iff]
            intro h
            have := (sameL_iff.1 h).2 i (by omega)
            rw [sameI_iff.2 ⟨this.1, fun j j0 j1 => this.2 j.toNat (by omega)⟩] at hs
            cases hs
          clear hs
          go_wp2_with fail
          go_quiet ((go_at_call 68; exact Calls.quiet_of (SIi.out _)))
          go_wp2
          go_ret
          exact ⟨ret_bool hr.out.symm, _, by rw [HWR.out]; exact World.drewN_drewN _ _ _⟩
      · obtain rfl : n = i := by omega
        have hr : Hid (sameL n n mA mB a b = true) := by
          show _ = _
          refine sameL_iff.2 ⟨rfl, fun i hi => ?_⟩
          obtain ⟨h1, h2⟩ := sameI_iff.1 (HA.out i hi)
          exact ⟨h1, fun j hj => by have := h2 j (by omega) (by omega); simpa using this⟩
        subst hwr
        go_wp2
        go_ret
        exact ⟨ret_bool hr.out.symm, _, rfl⟩
  · have hr : Hid (sameL n m mA mB a b = false) := by
      show _ = _
      rw [Bool.eq_false_iff]; intro h; exact hnm (sameL_iff.1 h).1
    go_enter Try.func22, Try.ntmps22
    go_wp2
    all_goals
      go_ret
      exact ⟨ret_bool hr.out.symm, 0, rfl⟩
/-- a copy of numbers: a list of the same numbers in memory of its own, or none -/
theorem clone_all (A : Option Addr) (n c : Nat) (q : Int → Int) (w : World) (hA : ArrI w w.heap.size A n q) (hn : n ≤ 1000000) :
    Calls Try.prog 15 #[.slice A n c] w (New w fun v w' => ∃ A' c', v = .slice A' n c' ∧ ArrI w' w'.heap.size A' n q) := by
  by_cases h0 : 0 < n
  · refine (clone_any A n c q w hA h0 hn).mono ?_
    rintro e w' ⟨v, rfl, own, hb⟩
    obtain ⟨A', c', e, ha⟩ := own_arrI (q := fun j => q j) own
    exact ⟨v, rfl, ⟨A', c', e, ha.congr fun i i0 i1 => by rw [Int.toNat_of_nonneg i0]⟩, hb⟩
  · obtain rfl : n = 0 := by omega
    cases A with
    | none =>
      have E1 : ∀ W, (binOp .eql 25 (.slice none 0 c) (.slice none 0 0)).run Try.prog W = .ok (.bool true) W := fun W => Go.run_eql_slice_nil W _ _ _ _ _ Try.underlying25
      go_enter Try.func15, Try.ntmps15
      go_wp2
      go_ret
      exact ⟨_, rfl, ⟨none, 0, rfl, Arr.nil⟩, Below.refl _ _⟩
    | some a =>
      have E1 : ∀ W, (binOp .eql 25 (.slice (some a) 0 c) (.slice none 0 0)).run Try.prog W = .ok (.bool false) W := fun W => Go.run_eql_slice_nil W _ _ _ _ _ Try.underlying25
      obtain ⟨i0, hi0, hz0, hz1, hz2⟩ := info_parts infoInt
      go_enter Try.func15, Try.ntmps15
      go_wp2_with (at_builtin; refine wpList_append_own _ rfl (.tmp 5) (.tmp 6) 25 rfl w.heap.size 3 i0 (.int .i64 0) 1 8 Try.underlying25 hi0 hz0 hz1 hz2 rfl (by decide) _ 0 [] rfl (World.ownsRow_made w #[] 0 (Nat.le_refl _) (by decide) rfl) a 0 c [] rfl rfl ?c1 ?c2 ?c3 ?c4 ?c5 ?_)
      case c1 => intro j u hj; simp at hj
      case c2 => simp
      case c3 => unfold maxLen; omega
      case c4 => omega
      case c5 => simp
      intro v' w7 own7 hg7 _
      have b7 : Below w.heap.size w w7 := ((Below.refl w.heap.size w).alloc (Nat.le_refl _) (.cells #[] 3)).grown hg7 (by simp) (fun k hk => by cases hk; exact Nat.le_refl _)
      obtain ⟨A', c', e, -, ha⟩ := own_arr own7
      go_wp2
      go_ret
      exact ⟨_, rfl, ⟨A', c', e, Arr.nil⟩, b7⟩
theorem few_any (W H : Int) (A : Option Addr) (n c : Nat) (w : World) :
    Calls Try.prog 12 #[.agg #[.int .i64 W, .int .i64 H, .slice A n c]] w fun e w' => e = .returned (.bool (decide ((n : Int) ≤ 6000))) ∧ Below w.heap.size w w' := by
  go_enter Try.func12, Try.ntmps12
  go_wp2
  go_ret
  exact ⟨rfl, by (repeat (first | exact Below.refl _ _ | assumption | refine Below.drew ?_ | refine below_drewN ?_ _ | refine Below.alloc ?_ (by first | omega | (simp; done) | (simp; omega)) _ | refine Below.setCell ?_ (by first | omega | (simp; done) | (simp; omega)) _ | refine below_setRow ?_ (by first | omega | (simp; done) | (simp; omega)) _ ))⟩
end Go.Proofs.Ytdimlpcbbkokiaa
