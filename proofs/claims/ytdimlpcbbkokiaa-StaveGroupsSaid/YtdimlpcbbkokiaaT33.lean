/- Walks: staves compared; the closures of StaveGroups. -/
import Derived.Test.YtdimlpcbbkokiaaT32
import Derived.Test.YtdimlpcbbkokiaaT19
import Derived.Deep.RegionHeld3
namespace Go.Proofs.Ytdimlpcbbkokiaa
open Go.RowKit Go.Shelf
set_option linter.unusedVariables false
attribute [local go_sem] Oper.semAt_some

theorem sameL_self (n : Nat) (m : Nat → Nat) (a : Nat → Nat → Int) : sameL n n m m a a = true := sameL_iff.2 ⟨rfl, fun _ _ => ⟨rfl, fun _ _ => rfl⟩⟩
/-- a stave's place in its row -/
theorem StOut.at_ {B : Nat} {w : World} {m : Nat → Nat} {ln : Nat → Nat → Int} {st : List Nat} {vo : Value} {vs : Nat → Value} (h : StOut B w m ln st vo vs) {t : Nat} (ht : t < st.length) :
    ∃ b c A5 c5, vo = .slice (some ⟨b, 0, none⟩) st.length c ∧ B ≤ b ∧ b < w.heap.size ∧ w.cell? ⟨b, t, none⟩ = some (.slice A5 5 c5) ∧ vs t = .slice A5 5 c5 ∧ Lines w w.heap.size A5 5 (fun j => m (st.getD t 0 + j)) (fun j => ln (st.getD t 0 + j)) := by
  obtain ⟨b, c, e⟩ := own_some h.row (by omega)
  obtain ⟨A', c', e', -, ha⟩ := own_arr h.row
  rw [e] at e'
  cases e'
  obtain ⟨v, hv⟩ := h.each t ht
  obtain ⟨A5, c5, e5, -, -, hL⟩ := hv.toLines
  obtain ⟨b', o', e2, hb, hc⟩ := Arr.at_ ha (i := (t : Int)) (by omega) (by omega)
  cases e2
  rw [Int.toNat_natCast, Nat.zero_add, List.getD_eq_getElem?_getD, List.getElem?_map, List.getElem?_range ht] at hc
  have hg := own_ge h.row (k := b) (by rw [e]; rfl)
  refine ⟨b, c, A5, c5, e, hg.1, hg.2, ?_, e5, hL⟩
  rw [hc, ← e5]; rfl

set_option maxRecDepth 100000 in
set_option maxHeartbeats 2000000 in
theorem sameStaves_true (B1 B2 : Nat) (m : Nat → Nat) (ln : Nat → Nat → Int) (st : List Nat) (A1 A2 : Option Addr) (c1 c2 : Nat) (vs1 vs2 : Nat → Value) (w : World) (h1 : StOut B1 w m ln st (.slice A1 st.length c1) vs1) (h2 : StOut B2 w m ln st (.slice A2 st.length c2) vs2) (hst : st.length ≤ 1000) (hm : ∀ t, t ∈ st → ∀ j, j < 5 → m (t + j) ≤ maxLen) :
    Calls Try.prog 35 #[.slice A1 st.length c1, .slice A2 st.length c2] w fun e w' => e = .returned (.bool true) ∧ Below w.heap.size w w' := by
  have SS := Lib.hid fun i (hi : ∀ j, j < 5 → m (i + j) ≤ maxLen) A B c d w' hA hB => sameStave_any A B 5 5 c d (fun j => m (i + j)) (fun j => m (i + j)) (fun j => ln (i + j)) (fun j => ln (i + j)) w' hA hB (by decide) (by decide) hi hi
  have HM : Hid (∀ t, t < st.length → ∀ j, j < 5 → m (st.getD t 0 + j) ≤ maxLen) := by
    show ∀ _, _
    intro t ht
    rw [List.getD_eq_getElem?_getD, List.getElem?_eq_getElem ht]
    exact hm _ (List.getElem_mem ht)
  have S1 := Lib.hid fun t ht => h1.at_ (t := t) ht
  have S2 := Lib.hid fun t ht => h2.at_ (t := t) ht
  clear h1 h2 hm
  generalize hn : st.length = n at *
  clear hn
  go_enter Try.func35, Try.ntmps35
  go_wp2
  go_loopw [5] (fun s wr => ∃ i : Nat, i ≤ n ∧ s = .int .i64 i ∧ Below w.heap.size w wr) (fun s _ => n - (intOf s).toNat)
  case atStart => exact ⟨0, by omega, rfl, Below.refl _ _⟩
  case round =>
    obtain ⟨i, hi, rfl, b1⟩ := hrel
    by_cases hlt : (i : Int) < n
    · obtain ⟨g1, d1, A5, c5, e1, -, hb1, hc1, -, L1⟩ := S1.out i (by omega)
      obtain ⟨g2, d2, A6, c6, e2, -, hb2, hc2, -, L2⟩ := S2.out i (by omega)
      cases e1
      cases e2
      have SSi := Lib.hid fun c d w' hA hB => SS.out (st.getD i 0) (HM.out i (by omega)) A5 A6 c d w' hA hB
      rw [sameL_self] at SSi
      have q1 := (b1.cell (p := ⟨g1, i, none⟩) hb1).trans hc1
      have q2 := (b1.cell (p := ⟨g2, i, none⟩) hb2).trans hc2
      have M1 := Lib.hid (L1.below b1); have M2 := Lib.hid (L2.below b1)
      have B1 := Lib.hid b1
      have z1 := b1.size
      clear L1 L2 hc1 hc2 b1
      go_wp2_with fail
      go_region_held3 (fun w' => w'.cell? ⟨g1, i, none⟩ = some (.slice A5 5 c5) ∧ w'.cell? ⟨g2, i, none⟩ = some (.slice A6 5 c6))
        (simp [go_sem, *])
        ((go_at_call 40
          refine (SSi.out _ _ _ (show Lines wr.drew wr.drew.heap.size _ _ _ _ from M1.out) (show Lines wr.drew wr.drew.heap.size _ _ _ _ from M2.out)).mono ?_
          rintro e w2 ⟨rfl, hb2'⟩
          have b2 := below_call B1.out.drew B1.out.drew.size hb2'
          have x1 : w2.cell? ⟨g1, i, none⟩ = some (.slice A5 5 c5) := (hb2'.cell (p := ⟨g1, i, none⟩) (by show g1 < _; have := B1.out.drew.size; omega)).trans q1
          have x2 : w2.cell? ⟨g2, i, none⟩ = some (.slice A6 5 c6) := (hb2'.cell (p := ⟨g2, i, none⟩) (by show g2 < _; have := B1.out.drew.size; omega)).trans q2))
      go_wp2_with fail
      go_roundw
      case rel => exact ⟨i + 1, by omega, by go_num, b2⟩
      case measure => simp [intOf]; omega
    · obtain rfl : n = i := by omega
      go_wp2
      go_ret
      exact ⟨rfl, b1⟩

/-! ### the closures of the law -/
theorem enterLong (args : Array Value) (w : World) : (callFunc 31 args).run Try.prog w = .ok (.enter 31 args) w := enters_of Try.func31 (by kernel_rfl) rfl args w
theorem enterHuge (args : Array Value) (w : World) : (callFunc 32 args).run Try.prog w = .ok (.enter 32 args) w := enters_of Try.func32 (by kernel_rfl) rfl args w
theorem enterHuge1 (args : Array Value) (w : World) : (callFunc 74 args).run Try.prog w = .ok (.enter 74 args) w := enters_of Try.func74 (by kernel_rfl) rfl args w
theorem long_any (A : Option Addr) (n c : Nat) (w : World) (hn : n ≤ maxLen) : Calls Try.prog 31 #[.slice A n c] w fun e w' => e = .returned (.bool (decide ((60 : Int) < n))) ∧ w = w' := by
  unfold maxLen at hn
  go_enter Try.func31, Try.ntmps31
  go_wp2
  go_ret
  exact ⟨rfl, rfl⟩
def far40 (v : Int) : Bool := decide (v < -1099511627776) || decide (1099511627776 < v)
theorem huge1_any (v : Int) (w : World) : Calls Try.prog 74 #[.int .i64 v] w fun e w' => e = .returned (.bool (far40 v)) ∧ w = w' := by
  unfold far40
  by_cases h : v < -1099511627776
  · have d1 : decide (v < -1099511627776) = true := decide_eq_true h
    go_enter Try.func74, Try.ntmps74
    go_wp2
    go_ret
    exact ⟨ret_bool (by simp [h]), rfl⟩
  · have d1 : decide (v < -1099511627776) = false := decide_eq_false h
    go_enter Try.func74, Try.ntmps74
    go_wp2
    go_ret
    exact ⟨ret_bool (by simp), rfl⟩
theorem huge_any (A : Option Addr) (n c : Nat) (q : Int → Int) (w : World) (hA : ArrI w w.heap.size A n q) (hn : n ≤ maxLen) : Calls Try.prog 32 #[.slice A n c] w fun e w' => e = .returned (.bool (decide (0 ≤ idxF (fun i => far40 (q i)) n))) ∧ w = w' := by
  have CI := Lib.hid (containsI 74 #[] far40 w enterHuge1 (fun v => huge1_any v w) A n c q hA hn)
  go_enter Try.func32, Try.ntmps32
  go_wp2_with fail
  refine CI.out.mono ?_
  rintro e w' ⟨rfl, rfl⟩
  go_wp2
  go_ret
  exact ⟨rfl, rfl⟩
end Go.Proofs.Ytdimlpcbbkokiaa
