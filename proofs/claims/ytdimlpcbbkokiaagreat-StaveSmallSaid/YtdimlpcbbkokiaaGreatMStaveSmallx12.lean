/- Texts of mine in build order: T69, R1, T43, T70, T17, S7, T18, T21, T22. Conditions: each theorem's own. -/
import Derived.Test.YtdimlpcbbkokiaaGreatMStaveSmallx11
import Derived.Deep.RegionHeld3
import Derived.Deep.RegionLaw
import Derived.Deep.AppendLies
import Derived.StillTailTactics
/- Walk: StaveRuns for every input. -/
namespace Go.Proofs.YtdimlpcbbkokiaaGreat
open Go.RowKit Go.Shelf
set_option linter.unusedVariables false
attribute [local go_sem] Oper.semAt_some

theorem first_no {f : Nat → Bool} : ∀ {k : Nat}, (∀ i, i < k → f i = true) ∨ ∃ j, j < k ∧ (∀ i, i < j → f i = true) ∧ f j = false
  | 0 => .inl fun i h => by omega
  | k + 1 => by
    rcases first_no (f := f) (k := k) with h | ⟨j, h1, h2, h3⟩
    · by_cases e : f k = true
      · exact .inl fun i hi => by
          by_cases c : i = k
          · subst c; exact e
          · exact h i (by omega)
      · exact .inr ⟨k, by omega, h, by simpa using e⟩
    · exact .inr ⟨j, by omega, h2, h3⟩

set_option maxRecDepth 100000 in
set_option maxHeartbeats 1000000 in
theorem staveRuns_few (W H most : Int) (A AS : Option Addr) (n c kS cS : Nat) (w : World) (h : 6000 < n ∨ 5 < kS) :
    Calls Tryz.prog 14 #[.agg #[.int .i64 W, .int .i64 H, .slice A n c], .slice AS kS cS, .int .i64 most] w fun e w' => e = .returned (.bool true) ∧ Below w.heap.size w w' := by
  have AW := Lib.hid fun w' => awake3_any w'
  have FW := Lib.hid fun w' => few_any W H A n c w'
  obtain ⟨fb, hfb⟩ : ∃ fb, decide ((n : Int) ≤ 6000) = fb := ⟨_, rfl⟩
  rw [hfb] at FW
  have hfk : fb = true → decide ((5 : Int) < (kS : Int)) = true := fun e => by
    rw [e] at hfb
    have := of_decide_eq_true hfb
    exact decide_eq_true (by omega)
  clear hfb h
  cases fb with
  | true =>
    have hk := hfk rfl
    have hk2 := of_decide_eq_true hk
    have hk3 : 5 < kS := by omega
    clear hfk
    go_enter Tryz.func14, Tryz.ntmps14
    go_wp2_with fail
    refine (FW.out _).mono ?_
    rintro e w2 ⟨rfl, d2⟩
    have b2 : Below w.heap.size w w2 := below_call (by (repeat (first | exact Below.refl _ _ | assumption | refine Below.drew ?_ | refine below_drewN ?_ _ | refine Below.alloc ?_ (by first | omega | (simp; done) | (simp; omega)) _ | refine Below.setCell ?_ (by first | omega | (simp; done) | (simp; omega)) _ | refine below_setRow ?_ (by first | omega | (simp; done) | (simp; omega)) _ ))) (by simp; try omega) d2
    go_wp2_with fail
    refine (AW.out w2).mono ?_
    rintro e w3 ⟨rfl, d3⟩
    have b3 := below_call b2 b2.size d3
    go_wp2
    go_ret
    exact ⟨rfl, b3⟩
  | false =>
    clear hfk
    go_enter Tryz.func14, Tryz.ntmps14
    go_wp2_with fail
    refine (FW.out _).mono ?_
    rintro e w2 ⟨rfl, d2⟩
    have b2 : Below w.heap.size w w2 := below_call (by (repeat (first | exact Below.refl _ _ | assumption | refine Below.drew ?_ | refine below_drewN ?_ _ | refine Below.alloc ?_ (by first | omega | (simp; done) | (simp; omega)) _ | refine Below.setCell ?_ (by first | omega | (simp; done) | (simp; omega)) _ | refine below_setRow ?_ (by first | omega | (simp; done) | (simp; omega)) _ ))) (by simp; try omega) d2
    go_wp2_with fail
    refine (AW.out w2).mono ?_
    rintro e w3 ⟨rfl, d3⟩
    have b3 := below_call b2 b2.size d3
    go_wp2
    go_ret
    exact ⟨rfl, b3⟩

theorem staveRuns_any (W H most : Int) (A AS : Option Addr) (n c kS cS : Nat) (p : Int → Int) (K : Nat → Nat) (m : Nat → Nat → Nat) (ln : Nat → Nat → Nat → Int) (w : World)
    (hA : ArrB w w.heap.size A n p) (hB : IsB p) (hcA : A = none → c = 0) (hS : StavesZ w w.heap.size AS kS K m ln) (hK : ∀ i, i < kS → K i ≤ 5864062014634) (hm : ∀ i j, i < kS → j < K i → m i j ≤ 17592186044416) :
    Calls Tryz.prog 14 #[.agg #[.int .i64 W, .int .i64 H, .slice A n c], .slice AS kS cS, .int .i64 most] w fun e w' => e = .returned (.bool true) ∧ Below w.heap.size w w' := by
  by_cases hf : 6000 < n ∨ 5 < kS
  · exact staveRuns_few W H most A AS n c kS cS w hf
  have hn : n ≤ 6000 := by omega
  have hk : kS ≤ 5 := by omega
  clear hf
  have hmx : ∀ i j, i < kS → j < K i → m i j ≤ maxLen := fun i j a b => by have := hm i j a b; unfold maxLen; omega
  have hnm : n ≤ maxLen := by unfold maxLen; omega
  have zero0 : ∀ i : Int, (0 : Int) = 0 := fun _ => rfl
  by_cases hz : chk W H n p = 0
  · obtain ⟨hW1, hW2, hH1, hH2, hnn, hp1⟩ := chk_ok hz
    have hp : ∀ i : Int, 0 ≤ i → i < n → p i = 0 ∨ p i = 1 := fun i a b => by have := hp1 i a b; have := (hB i).1; omega
    obtain ⟨N, hN⟩ : ∃ N : Nat, W = N := ⟨W.toNat, by omega⟩
    obtain ⟨M, hM⟩ : ∃ M : Nat, H = M := ⟨H.toNat, by omega⟩
    subst hN hM
    have hnN : n = N * M := by
      have h9 : ((N * M : Nat) : Int) = (N : Int) * M := by push_cast; rfl
      omega
    have gU : ∀ b g b' g', (Mode (cntA ((rLs (fun x y => inkB N M p x y) M N).map dkA)) b ∧ Mode (cntA (ltL (rLs (fun x y => inkB N M p x y) M N) (rLs (fun x y => inkB N M p x y) M N).length)) g) → (Mode (cntA ((rLs (fun x y => inkB N M p x y) M N).map dkA)) b' ∧ Mode (cntA (ltL (rLs (fun x y => inkB N M p x y) M N) (rLs (fun x y => inkB N M p x y) M N).length)) g') → b = b' ∧ g = g' :=
      fun b g b' g' h h' => ⟨h.1.uniq h'.1, h.2.uniq h'.2⟩
    have gA : ∀ w' A' c', ArrB w' w'.heap.size A' n p → Calls Tryz.prog 5 #[.agg #[.int .i64 N, .int .i64 M, .slice A' n c']] w' fun e w'' => ∃ b g, e = .returned (.tuple #[.int .i64 b, .int .i64 g, .int .i64 0]) ∧ (Mode (cntA ((rLs (fun x y => inkB N M p x y) M N).map dkA)) b ∧ Mode (cntA (ltL (rLs (fun x y => inkB N M p x y) M N) (rLs (fun x y => inkB N M p x y) M N).length)) g) ∧ Below w'.heap.size w' w'' :=
      fun w' A' c' h' => (gauge_ok N M A' n c' p w' h' (by omega) (by omega) hnn hp).mono fun e w'' ⟨b, q, h1, h2, h3, h4⟩ => ⟨b, q, h1, ⟨h2, h3⟩, h4⟩
    have gB : (0 : Int) = 0 → ∀ w' A' c', ArrB w' w'.heap.size A' n p → Calls Tryz.prog 6 #[.agg #[.int .i64 N, .int .i64 M, .slice A' n c']] w' fun e w'' => ∃ b g, e = .returned (.tuple #[.int .i64 b, .int .i64 g]) ∧ (Mode (cntA ((rLs (fun x y => inkB N M p x y) M N).map dkA)) b ∧ Mode (cntA (ltL (rLs (fun x y => inkB N M p x y) M N) (rLs (fun x y => inkB N M p x y) M N).length)) g) ∧ Below w'.heap.size w' w'' :=
      fun _ w' A' c' h' => (rgauge_ok N M A' n c' p w' h' (by omega) (by omega) hnn).mono fun e w'' ⟨v, h0, ⟨b, q, h1, h2, h3⟩, h4⟩ => ⟨b, q, by rw [h0, h1], ⟨h2, h3⟩, h4⟩
    rcases first_no (f := fun i => stFits N M (K i) (m i) (ln i)) (k := kS) with hfit | ⟨kF, hkF, hfit, hend⟩
    · have hb : ∀ a j x : Nat, a < kS → j < 5 → x < N → 0 ≤ ln a j x ∧ ln a j x < M := fun a j x ha hj hx => by
        obtain ⟨f5, fp, -⟩ := stFits_iff.1 (hfit a ha)
        obtain ⟨⟨-, -, g3⟩, g4⟩ := isPathB_iff.1 (fp j (by omega))
        have h9 := stepB_iff.1 (g4 x (by omega) (by omega))
        simp only [Int.toNat_natCast] at h9
        exact ⟨h9.1, h9.2.1⟩
      have hLlen : ((rLs (fun x y => inkB N M p x y) M N).filter (keepR ln kS most)).length ≤ 1000000000 := by
        have h1 := List.length_filter_le (keepR ln kS most) (rLs (fun x y => inkB N M p x y) M N)
        have h2 := rLs_len (fun x y => inkB N M p x y) M N
        omega
      refine staveRuns_gen N M most 0 0 N M A AS n c kS cS n p (strike ((rLs (fun x y => inkB N M p x y) M N).filter (keepR ln kS most)) N p) K m ln _ _ w hA hB hcA hn hS hk hK hm hz hLlen hnm ?_ ?_ ?_ ?_ gA gU (fun h => absurd rfl h) gB
      · intro w' A' c' AS' cS' h1 h2
        refine (runs_okA N most M N A' AS' n c' kS cS' p K m ln w' rfl (by omega) (by omega) h1 hnN hp (by omega) h2 hmx hfit).mono ?_
        rintro e w'' ⟨v, l, rfl, hr, hpm, hs, hbl⟩
        rw [runs_same hb hpm hs] at hr
        exact ⟨v, rfl, hr, hbl⟩
      · intro w' A' c' AS' cS' h1 h2
        refine (rruns_ok N most M N A' AS' n c' kS cS' p K m ln w' rfl (by omega) (by omega) h1 hnN hB hp (by omega) h2 hmx hfit).mono ?_
        rintro e w'' ⟨_, rfl, ⟨u, rfl, hr⟩, hbl⟩
        exact ⟨u, rfl, hr, hbl⟩
      · intro w' A' c' AS' cS' h1 h2
        refine (remove_ok N most M N A' AS' n c' kS cS' p K m ln w' rfl (by omega) (by omega) h1 hnN hp (by omega) h2 hmx hfit).mono ?_
        rintro e w'' ⟨v, rfl, hO, hbl⟩
        refine ⟨v, rfl, hO.conv fun i i0 i1 => strike_congr (fun r => ?_) i, hbl⟩
        have hN0 : 0 < N := by
          rcases Nat.eq_zero_or_pos N with h | h
          · rw [h, Nat.zero_mul] at hnN; omega
          · exact h
        rw [mem_colI_run hb, mem_keep hN0]
      · intro w' A' c' AS' cS' h1 h2
        exact rremove_ok N most M N A' AS' n c' kS cS' p K m ln w' rfl (by omega) (by omega) h1 hnN hB hp (by omega) h2 hmx hfit
    · have RU : ∀ w' A' c' AS' cS', ArrB w' w'.heap.size A' n p → StavesIn w' w'.heap.size AS' kS K m ln → Calls Tryz.prog 52 #[.agg #[.int .i64 N, .int .i64 M, .slice A' n c'], .slice AS' kS cS', .int .i64 most] w' fun e w'' => e = .returned (.tuple #[.slice none 0 0, .int .i64 10]) ∧ Below w'.heap.size w' w'' :=
        fun w' A' c' AS' cS' h1 h2 => runs_unfit N most M N A' AS' n c' kS cS' kF p K m ln w' rfl (by omega) (by omega) h1 hnN hp (by omega) h2 hmx hkF hfit hend
      have RV : ∀ w' A' c' AS' cS', ArrB w' w'.heap.size A' n p → StavesIn w' w'.heap.size AS' kS K m ln → Calls Tryz.prog 53 #[.agg #[.int .i64 N, .int .i64 M, .slice A' n c'], .slice AS' kS cS', .int .i64 most] w' fun e w'' => e = .returned (.tuple #[.slice none 0 0, .int .i64 10]) ∧ Below w'.heap.size w' w'' :=
        fun w' A' c' AS' cS' h1 h2 => rruns_unfit N most M N A' AS' n c' kS cS' kF p K m ln w' rfl (by omega) (by omega) h1 hnN hB hp (by omega) h2 hmx hkF hfit hend
      refine staveRuns_gen N M most 0 10 0 0 A AS n c kS cS 0 p (fun _ => 0) K m ln [] _ w hA hB hcA hn hS hk hK hm hz (by simp) (Nat.zero_le _) ?_ ?_ ?_ ?_ gA gU (fun h => absurd rfl h) gB
      · exact fun w' A' c' AS' cS' h1 h2 => (RU w' A' c' AS' cS' h1 h2).mono fun e w'' ⟨h, hbl⟩ => ⟨_, h, RunRow.nil _ _, hbl⟩
      · exact fun w' A' c' AS' cS' h1 h2 => (RV w' A' c' AS' cS' h1 h2).mono fun e w'' ⟨h, hbl⟩ => ⟨_, h, RunRow.nil _ _, hbl⟩
      · exact fun w' A' c' AS' cS' h1 h2 => (remove_err N M most 10 A' AS' n c' kS cS' w' (by decide) fun w1 hb1 => RU w1 A' c' AS' cS' (h1.to hb1) (h2.to hb1)).mono fun e w'' ⟨h, hbl⟩ => ⟨_, h, outT_bad (W := 0) (h := 0) ⟨fun h => absurd h (by decide), fun _ => ⟨rfl, rfl, rfl⟩⟩ (by decide), hbl⟩
      · exact fun w' A' c' AS' cS' h1 h2 => (rremove_err N M most 10 A' AS' n c' kS cS' w' (by decide) fun w1 hb1 => RV w1 A' c' AS' cS' (h1.to hb1) (h2.to hb1)).mono fun e w'' ⟨h, hbl⟩ => ⟨_, h, outT_bad (W := 0) (h := 0) ⟨fun h => absurd h (by decide), fun _ => ⟨rfl, rfl, rfl⟩⟩ (by decide), hbl⟩
  · obtain ⟨z, hzz⟩ : ∃ z, chk W H n p = z := ⟨_, rfl⟩
    have hz0 : z ≠ 0 := fun e => hz (hzz.trans e)
    have RU : ∀ w' A' c' AS' cS', ArrB w' w'.heap.size A' n p → StavesIn w' w'.heap.size AS' kS K m ln → Calls Tryz.prog 52 #[.agg #[.int .i64 W, .int .i64 H, .slice A' n c'], .slice AS' kS cS', .int .i64 most] w' fun e w'' => e = .returned (.tuple #[.slice none 0 0, .int .i64 z]) ∧ Below w'.heap.size w' w'' :=
      fun w' A' c' AS' cS' h1 _ => runs_bad W H most z A' AS' n c' kS cS' p w' h1 hnm hzz hz0
    have RV : ∀ w' A' c' AS' cS', ArrB w' w'.heap.size A' n p → StavesIn w' w'.heap.size AS' kS K m ln → Calls Tryz.prog 53 #[.agg #[.int .i64 W, .int .i64 H, .slice A' n c'], .slice AS' kS cS', .int .i64 most] w' fun e w'' => e = .returned (.tuple #[.slice none 0 0, .int .i64 z]) ∧ Below w'.heap.size w' w'' :=
      fun w' A' c' AS' cS' h1 _ => rruns_bad W H most z A' AS' n c' kS cS' p w' h1 hnm hB hzz hz0
    refine staveRuns_gen W H most z z 0 0 A AS n c kS cS 0 p (fun _ => 0) K m ln [] (fun b g => b = 0 ∧ g = 0) w hA hB hcA hn hS hk hK hm hzz (by simp) (Nat.zero_le _) ?_ ?_ ?_ ?_ ?_ ?_ ?_ (fun h => absurd h hz0)
    · exact fun w' A' c' AS' cS' h1 h2 => (RU w' A' c' AS' cS' h1 h2).mono fun e w'' ⟨h, hbl⟩ => ⟨_, h, RunRow.nil _ _, hbl⟩
    · exact fun w' A' c' AS' cS' h1 h2 => (RV w' A' c' AS' cS' h1 h2).mono fun e w'' ⟨h, hbl⟩ => ⟨_, h, RunRow.nil _ _, hbl⟩
    · exact fun w' A' c' AS' cS' h1 h2 => (remove_err W H most z A' AS' n c' kS cS' w' hz0 fun w1 hb1 => RU w1 A' c' AS' cS' (h1.to hb1) (h2.to hb1)).mono fun e w'' ⟨h, hbl⟩ => ⟨_, h, outT_bad (W := 0) (h := 0) ⟨fun h => absurd h hz0, fun _ => ⟨rfl, rfl, rfl⟩⟩ hz0, hbl⟩
    · exact fun w' A' c' AS' cS' h1 h2 => (rremove_err W H most z A' AS' n c' kS cS' w' hz0 fun w1 hb1 => RV w1 A' c' AS' cS' (h1.to hb1) (h2.to hb1)).mono fun e w'' ⟨h, hbl⟩ => ⟨_, h, outT_bad (W := 0) (h := 0) ⟨fun h => absurd h hz0, fun _ => ⟨rfl, rfl, rfl⟩⟩ hz0, hbl⟩
    · exact fun w' A' c' h' => (gauge_bad W H A' n c' p z w' h' hnm hzz hz0).mono fun e w'' ⟨h, hbl⟩ => ⟨0, 0, h, ⟨rfl, rfl⟩, hbl⟩
    · rintro b g b' g' ⟨rfl, rfl⟩ ⟨rfl, rfl⟩; exact ⟨rfl, rfl⟩
    · exact fun _ b g h => h
end Go.Proofs.YtdimlpcbbkokiaaGreat

/- A region that draws its order, by an invariant: every operation that may come up keeps it, until a state from which the rest is shown. -/
namespace Go.Proofs.YtdimlpcbbkokiaaGreat
open Go.RowKit
set_option linter.unusedVariables false
section
variable {P : Program} {ops : Array Oper} {Q : Exit → Act → World → Prop} {md : Region.Mode} {S : World → Prop}
/-- how many have not come up yet -/
def cntF (l : Array Bool) : Nat := l.toList.countP (!·)
theorem countP_set_false : ∀ (l : List Bool) (i : Nat), l[i]? = some false → (l.set i true).countP (!·) + 1 = l.countP (!·)
  | [], i, h => by simp at h
  | b :: l, 0, h => by
    simp at h
    subst h
    simp
  | b :: l, i + 1, h => by
    simp only [List.getElem?_cons_succ] at h
    have ih := countP_set_false l i h
    cases b <;> simp <;> omega
theorem cntF_set {l : Array Bool} {i : Nat} (h : l.getD i true = false) : cntF (l.setIfInBounds i true) + 1 = cntF l := by
  unfold cntF
  have h1 : l.toList[i]? = some false := by
    rcases Nat.lt_or_ge i l.size with hi | hi
    · simp [hi] at h ⊢; exact h
    · simp [Array.getElem?_eq_none hi] at h
  rw [← countP_set_false l.toList i h1]
  simp
theorem wpAnyH_inv {J : Array Bool → Act → World → Prop}
    (hstep : ∀ listed a w, J listed a w → S w → (∀ fuel, cntF listed ≤ fuel → wpAnyH P md ops Q S fuel listed a w) ∨
      ((∃ i, i ∈ Region.ready md ops listed) ∧ ∀ i ∈ Region.ready md ops listed, wpOp P ops Q i (fun a' w' => S w' ∧ J (listed.setIfInBounds i true) a' w') a w)) :
    ∀ (fuel : Nat) (listed : Array Bool) (a : Act) (w : World), J listed a w → S w → cntF listed ≤ fuel → wpAnyH P md ops Q S fuel listed a w := by
  intro fuel
  induction fuel with
  | zero =>
    intro listed a w hJ hS hc
    rcases hstep listed a w hJ hS with h | ⟨⟨i, hi⟩, -⟩
    · exact h 0 hc
    · have := cntF_set (mem_ready.1 hi).1
      omega
  | succ fuel ih =>
    intro listed a w hJ hS hc
    rcases hstep listed a w hJ hS with h | ⟨⟨i, hi⟩, h⟩
    · exact h _ hc
    · refine ⟨fun h0 => absurd hi (by rw [h0]; simp), fun j hj => wpOp_mono (fun a' w' h' => ⟨h'.1, ih _ a' w' h'.2 h'.1 ?_⟩) (h j hj)⟩
      have := cntF_set (mem_ready.1 hj).1
      omega
/-- what may come up: not yet there, and what it waits for is there -/
theorem ready_un {i : Nat} {l : Array Bool} (h : i ∈ Region.ready md ops l) : l.getD i true = false := (mem_ready.1 h).1
theorem ready_after {i : Nat} {l : Array Bool} {o : Oper} (h : i ∈ Region.ready md ops l) (ho : ops[i]? = some o) (k : Nat) (hk : (o.after.any fun e => Region.binds md e && e.on == k) = true) : l.getD k false = true := by
  obtain ⟨-, o', ho', hall⟩ := mem_ready.1 h
  rw [ho] at ho'
  cases ho'
  rw [Array.any_eq_true] at hk
  obtain ⟨j, hj, he⟩ := hk
  rw [Bool.and_eq_true] at he
  have := hall _ (Array.getElem_mem hj) he.1
  rwa [eq_of_beq he.2] at this
end
end Go.Proofs.YtdimlpcbbkokiaaGreat

/- Walk: strips of the program and of the reference compared (custoslaw03.strips). Written by gen/t43.py. -/
namespace Go.Proofs.YtdimlpcbbkokiaaGreat
open Go.RowKit Go.Shelf
set_option linter.unusedVariables false
attribute [local go_sem] Oper.semAt_some
theorem ArrB.fillBox {w : World} {n g t : Nat} {A : Option Addr} {q : Int → Int} {x y : Int} {B : Option Addr} {k l : Nat} {x' y' z' : Value} (h : ArrB w w.heap.size A n q) (hk : Blk w g t #[.int .i64 x, .int .i64 y, .slice B k l]) :
    ArrB (((w.setCell ⟨g, 0, none⟩ x').setCell ⟨g, 1, none⟩ y').setCell ⟨g, 2, none⟩ z') (((w.setCell ⟨g, 0, none⟩ x').setCell ⟨g, 1, none⟩ y').setCell ⟨g, 2, none⟩ z').heap.size A n q := fun hn => by
  obtain ⟨b, off, rfl, hb, hc⟩ := h hn
  refine (h.fill1 fun a e => ?_) hn
  cases e
  show b ≠ g
  rintro rfl
  have h0 := hc 0 (by omega) (by omega)
  rw [hk.cell] at h0
  match off, h0 with
  | 0, h0 => simp at h0
  | 1, h0 => simp at h0
  | 2, h0 => simp at h0
  | off + 3, h0 => simp at h0
theorem ArrB.fill1S {w : World} {n g t : Nat} {A : Option Addr} {q : Int → Int} {B : Option Addr} {k l : Nat} {x' : Value} (h : ArrB w w.heap.size A n q) (hk : Blk w g t #[.slice B k l]) :
    ArrB (w.setCell ⟨g, 0, none⟩ x') (w.setCell ⟨g, 0, none⟩ x').heap.size A n q := fun hn => by
  obtain ⟨b, off, rfl, hb, hc⟩ := h hn
  rw [World.size_setCell]
  refine (h.far1 (p := ⟨g, 0, none⟩) (fun a e => ?_) x') hn
  cases e
  show b ≠ g
  rintro rfl
  have h0 := hc 0 (by omega) (by omega)
  rw [hk.cell] at h0
  match off, h0 with
  | 0, h0 => simp at h0
  | off + 1, h0 => simp at h0
theorem FoundM.far {B : Nat} {w : World} {m : Nat → Nat} {ln : Nat → Nat → Int} {k g t : Nat} {vo : Value} {v : Nat → Value} {cs : Array Value} (h : FoundM B w m ln k vo v) (hb : Blk w g t cs) (h1 : 37 ≠ t) (h2 : 3 ≠ t) (o : Nat) (u : Value) : FoundM B (w.setCell ⟨g, o, none⟩ u) m ln k vo v :=
  ⟨own_far h.row hb h1 o u, fun i hi => own_far (h.lines i hi) hb h2 o u⟩
set_option maxRecDepth 100000 in
set_option maxHeartbeats 8000000 in
theorem strips_any (W H SW SH up down : Int) (A SA AL : Option Addr) (n c sn sc K cL : Nat) (p sp : Int → Int) (m : Nat → Nat) (ln : Nat → Nat → Int) (w : World)
    (hA : ArrB w w.heap.size A n p) (hn : n ≤ 6000) (hB : IsB p) (hcA : A = none → c = 0) (hS0 : ArrB w w.heap.size SA sn sp) (hsn : sn ≤ 6000) (hBS : IsB sp) (hcS : SA = none → sc = 0) (hL : LinesIn w AL K cL m ln) :
    Calls Tryz.prog 12 #[.agg #[.int .i64 W, .int .i64 H, .slice A n c], .agg #[.int .i64 SW, .int .i64 SH, .slice SA sn sc], .agg #[.slice AL K cL], .int .i64 up, .int .i64 down] w fun e w' => e = .returned (.bool true) ∧ Below w.heap.size w w' := by
  have b1 : Below w.heap.size w (((w.alloc (.cells #[.int .i64 W, .int .i64 H, .slice A n c] 24)).alloc (.cells #[.int .i64 SW, .int .i64 SH, .slice SA sn sc] 24)).alloc (.cells #[.slice AL K cL] 40)) := by (repeat (first | exact Below.refl _ _ | assumption | refine Below.drew ?_ | refine below_drewN ?_ _ | refine Below.alloc ?_ (by first | omega | (simp; done) | (simp; omega)) _ | refine Below.setCell ?_ (by first | omega | (simp; done) | (simp; omega)) _ | refine below_setRow ?_ (by first | omega | (simp; done) | (simp; omega)) _ ))
  have k1 : Blk (((w.alloc (.cells #[.int .i64 W, .int .i64 H, .slice A n c] 24)).alloc (.cells #[.int .i64 SW, .int .i64 SH, .slice SA sn sc] 24)).alloc (.cells #[.slice AL K cL] 40)) w.heap.size 24 #[.int .i64 W, .int .i64 H, .slice A n c] := ((Blk.new _ _ _).alloc _).alloc _
  have k2 : Blk (((w.alloc (.cells #[.int .i64 W, .int .i64 H, .slice A n c] 24)).alloc (.cells #[.int .i64 SW, .int .i64 SH, .slice SA sn sc] 24)).alloc (.cells #[.slice AL K cL] 40)) (w.heap.size + 1) 24 #[.int .i64 SW, .int .i64 SH, .slice SA sn sc] := (Blk.new' (by simp) _ _).alloc _
  have k3 : Blk (((w.alloc (.cells #[.int .i64 W, .int .i64 H, .slice A n c] 24)).alloc (.cells #[.int .i64 SW, .int .i64 SH, .slice SA sn sc] 24)).alloc (.cells #[.slice AL K cL] 40)) (w.heap.size + 1 + 1) 40 #[.slice AL K cL] := Blk.new' (by simp) _ _
  have hKc := hL.few
  have hKle := hL.le
  have hm2 : ∀ i, i < K → m i ≤ 17592186044416 := hL.lens
  have L0 := hL.lines
  have C1 := Lib.hid fun w' h' => copyInk_any W H A n c p w' h' hcA (by omega)
  have C3 := Lib.hid fun w' h' => copyInk_any SW SH SA sn sc sp w' h' hcS (by omega)
  have C5 := Lib.hid fun w' h' => copyStave_any AL K cL m ln w' h' (by omega) hm2
  go_enter Tryz.func12, Tryz.ntmps12
  go_wp2_with fail
  generalize (((w.alloc (.cells #[.int .i64 W, .int .i64 H, .slice A n c] 24)).alloc (.cells #[.int .i64 SW, .int .i64 SH, .slice SA sn sc] 24)).alloc (.cells #[.slice AL K cL] 40)) = w1 at *
  have HA := Lib.hid (hA.to b1); have HS := Lib.hid (hS0.to b1); have HL := Lib.hid (L0.below b1)
  obtain ⟨p1, p2, p3⟩ := k1.cells3
  obtain ⟨q1, q2, q3⟩ := k2.cells3
  have p4 := k3.cells0
  have y1 := k1.lt; have y2 := k2.lt; have y3 := k3.lt
  go_upto_region 1 with fail
  go_cut [11, 12, 13] (fun f1 f2 f3 wx => ∃ g6 g7 g8 A1 c1 A3 c3 vo vs, f1 = .pointer (some ⟨g6, 0, none⟩) ∧ f2 = .pointer (some ⟨g7, 0, none⟩) ∧ f3 = .pointer (some ⟨g8, 0, none⟩) ∧ Below w1.heap.size w1 wx ∧
     Blk wx g6 24 #[.int .i64 W, .int .i64 H, .slice A1 n c1] ∧ Blk wx g7 24 #[.int .i64 SW, .int .i64 SH, .slice A3 sn c3] ∧ Blk wx g8 40 #[vo] ∧ ArrB wx wx.heap.size A1 n p ∧ ArrB wx wx.heap.size A3 sn sp ∧ FoundM w1.heap.size wx m ln K vo vs)
  case first =>
    have keepS : ∀ (v v' : World), Below v.heap.size v v' → ((v.cell? ⟨w.heap.size, 0, none⟩ = some (.int .i64 W) ∧ v.cell? ⟨w.heap.size, 1, none⟩ = some (.int .i64 H) ∧ v.cell? ⟨w.heap.size, 2, none⟩ = some (.slice A n c)) ∧ (v.cell? ⟨w.heap.size + 1, 0, none⟩ = some (.int .i64 SW) ∧ v.cell? ⟨w.heap.size + 1, 1, none⟩ = some (.int .i64 SH) ∧ v.cell? ⟨w.heap.size + 1, 2, none⟩ = some (.slice SA sn sc)) ∧ v.cell? ⟨w.heap.size + 1 + 1, 0, none⟩ = some (.slice AL K cL)) → ((v'.cell? ⟨w.heap.size, 0, none⟩ = some (.int .i64 W) ∧ v'.cell? ⟨w.heap.size, 1, none⟩ = some (.int .i64 H) ∧ v'.cell? ⟨w.heap.size, 2, none⟩ = some (.slice A n c)) ∧ (v'.cell? ⟨w.heap.size + 1, 0, none⟩ = some (.int .i64 SW) ∧ v'.cell? ⟨w.heap.size + 1, 1, none⟩ = some (.int .i64 SH) ∧ v'.cell? ⟨w.heap.size + 1, 2, none⟩ = some (.slice SA sn sc)) ∧ v'.cell? ⟨w.heap.size + 1 + 1, 0, none⟩ = some (.slice AL K cL)) := fun v v' hb h => by
      have hk : ∀ a x, v.cell? a = some x → v'.cell? a = some x := fun a x hx => (hb.cell (World.block_lt_of_cell? v a hx)).trans hx
      exact ⟨⟨hk _ _ h.1.1, hk _ _ h.1.2.1, hk _ _ h.1.2.2⟩, ⟨hk _ _ h.2.1.1, hk _ _ h.2.1.2.1, hk _ _ h.2.1.2.2⟩, hk _ _ h.2.2⟩
    have keepU : ∀ (v : World) (p : Addr) (u : Value), w1.heap.size ≤ p.block → ((v.cell? ⟨w.heap.size, 0, none⟩ = some (.int .i64 W) ∧ v.cell? ⟨w.heap.size, 1, none⟩ = some (.int .i64 H) ∧ v.cell? ⟨w.heap.size, 2, none⟩ = some (.slice A n c)) ∧ (v.cell? ⟨w.heap.size + 1, 0, none⟩ = some (.int .i64 SW) ∧ v.cell? ⟨w.heap.size + 1, 1, none⟩ = some (.int .i64 SH) ∧ v.cell? ⟨w.heap.size + 1, 2, none⟩ = some (.slice SA sn sc)) ∧ v.cell? ⟨w.heap.size + 1 + 1, 0, none⟩ = some (.slice AL K cL)) → (((v.setCell p u).cell? ⟨w.heap.size, 0, none⟩ = some (.int .i64 W) ∧ (v.setCell p u).cell? ⟨w.heap.size, 1, none⟩ = some (.int .i64 H) ∧ (v.setCell p u).cell? ⟨w.heap.size, 2, none⟩ = some (.slice A n c)) ∧ ((v.setCell p u).cell? ⟨w.heap.size + 1, 0, none⟩ = some (.int .i64 SW) ∧ (v.setCell p u).cell? ⟨w.heap.size + 1, 1, none⟩ = some (.int .i64 SH) ∧ (v.setCell p u).cell? ⟨w.heap.size + 1, 2, none⟩ = some (.slice SA sn sc)) ∧ (v.setCell p u).cell? ⟨w.heap.size + 1 + 1, 0, none⟩ = some (.slice AL K cL)) := fun v p u hp h => by
      have hk : ∀ a : Addr, a.block < w1.heap.size → ∀ x, v.cell? a = some x → (v.setCell p u).cell? a = some x := fun a ha x hx => (World.cell?_setCell_other _ _ _ _ (fun e => by subst e; omega)).trans hx
      exact ⟨⟨hk _ y1 _ h.1.1, hk _ y1 _ h.1.2.1, hk _ y1 _ h.1.2.2⟩, ⟨hk _ y2 _ h.2.1.1, hk _ y2 _ h.2.1.2.1, hk _ y2 _ h.2.1.2.2⟩, hk _ y3 _ h.2.2⟩
    refine wp_region_held_drew (S := fun w' => (w'.cell? ⟨w.heap.size, 0, none⟩ = some (.int .i64 W) ∧ w'.cell? ⟨w.heap.size, 1, none⟩ = some (.int .i64 H) ∧ w'.cell? ⟨w.heap.size, 2, none⟩ = some (.slice A n c)) ∧ (w'.cell? ⟨w.heap.size + 1, 0, none⟩ = some (.int .i64 SW) ∧ w'.cell? ⟨w.heap.size + 1, 1, none⟩ = some (.int .i64 SH) ∧ w'.cell? ⟨w.heap.size + 1, 2, none⟩ = some (.slice SA sn sc)) ∧ w'.cell? ⟨w.heap.size + 1 + 1, 0, none⟩ = some (.slice AL K cL)) (by kernel_rfl) (by simp [go_sem, *]) (fun hHeld => ?_)
    refine wpAnyH_take (i := 0) (oi := _) (v := ?_) (by simp only [List.getElem?_toArray, List.getElem?_cons_zero]; exact rfl) (by kernel_rfl) (by kernel_rfl) (by kernel_rfl) (by exact fun _ _ _ h => h) (Or.inl ⟨by rfl, ?_⟩) (by assumption) ?_
    rotate_left 1
    · intro w hSw
      (try dsimp only at hSw)
      go_simp
      try with_reducible rfl
    try simp only [Act.put, List.setIfInBounds_toArray, List.set_cons_zero, List.set_cons_succ]
    refine wpAnyH_take (i := 2) (oi := _) (v := ?_) (by simp only [List.getElem?_toArray, List.getElem?_cons_zero, List.getElem?_cons_succ]; exact rfl) (by kernel_rfl) (by kernel_rfl) (by kernel_rfl) (by exact fun _ _ _ h => h) (Or.inl ⟨by rfl, ?_⟩) (by assumption) ?_
    rotate_left 1
    · intro w hSw
      (try dsimp only at hSw)
      go_simp
      try with_reducible rfl
    try simp only [Act.put, List.setIfInBounds_toArray, List.set_cons_zero, List.set_cons_succ]
    refine wpAnyH_take (i := 4) (oi := _) (v := ?_) (by simp only [List.getElem?_toArray, List.getElem?_cons_zero, List.getElem?_cons_succ]; exact rfl) (by kernel_rfl) (by kernel_rfl) (by kernel_rfl) (by exact fun _ _ _ h => h) (Or.inl ⟨by rfl, ?_⟩) (by assumption) ?_
    rotate_left 1
    · intro w hSw
      (try dsimp only at hSw)
      go_simp
      try with_reducible rfl
    try simp only [Act.put, List.setIfInBounds_toArray, List.set_cons_zero, List.set_cons_succ]
    refine wpAnyH_inv (J := fun (listed : Array Bool) (a : Act) (w' : World) => ∃ (b1 b3 b5 a6 a7 a8 : Bool) (A1 A3 : Option Addr) (c1 c3 : Nat) (vo : Value) (g6 g7 g8 : Nat),
        listed = #[true, b1, true, b3, true, b5, a6, a7, a8, false, false, false] ∧ a = ⟨(.agg #[.int .i64 W, .int .i64 H, .slice A n c] :: .agg #[.int .i64 SW, .int .i64 SH, .slice SA sn sc] :: .agg #[.slice AL K cL] :: .int .i64 up :: .int .i64 down :: .pointer (some ⟨w.heap.size, 0, none⟩) :: .pointer (some ⟨w.heap.size + 1, 0, none⟩) :: .pointer (some ⟨w.heap.size + 1 + 1, 0, none⟩) :: undef :: undef :: .bool false :: cond a6 (.pointer (some ⟨g6, 0, none⟩)) undef :: cond a7 (.pointer (some ⟨g7, 0, none⟩)) undef :: cond a8 (.pointer (some ⟨g8, 0, none⟩)) undef :: undef :: undef :: undef :: undef :: undef :: undef :: undef :: undef :: .agg #[.int .i64 W, .int .i64 H, .slice A n c] :: cond b1 (.agg #[.int .i64 W, .int .i64 H, .slice A1 n c1]) undef :: .agg #[.int .i64 SW, .int .i64 SH, .slice SA sn sc] :: cond b3 (.agg #[.int .i64 SW, .int .i64 SH, .slice A3 sn c3]) undef :: .agg #[.slice AL K cL] :: cond b5 (.agg #[vo]) undef :: undef :: undef :: undef :: undef :: undef :: undef :: undef :: undef :: undef :: undef :: undef :: undef :: undef :: undef :: undef :: undef :: undef :: undef :: undef :: undef :: undef :: undef :: undef :: undef :: undef :: undef :: undef :: undef :: undef :: undef :: undef :: undef :: undef :: undef :: undef :: undef :: undef :: undef :: undef :: undef :: undef :: undef :: undef :: undef :: undef :: undef :: undef :: undef :: undef :: undef :: undef :: undef :: undef :: undef :: undef :: undef :: undef :: undef :: undef :: undef :: undef :: undef :: undef :: undef :: undef :: []).toArray, []⟩ ∧ (b3 = true → b1 = true) ∧ (b5 = true → b3 = true) ∧ Below w1.heap.size w1 w' ∧
        (b1 = true → ArrB w' w'.heap.size A1 n p) ∧ (b3 = true → ArrB w' w'.heap.size A3 sn sp) ∧ (b5 = true → ∃ vs, FoundM w1.heap.size w' m ln K vo vs) ∧
        (a6 = true → w1.heap.size ≤ g6 ∧ Blk w' g6 24 #[.int .i64 0, .int .i64 0, .slice none 0 0]) ∧ (a7 = true → w1.heap.size ≤ g7 ∧ Blk w' g7 24 #[.int .i64 0, .int .i64 0, .slice none 0 0]) ∧ (a8 = true → w1.heap.size ≤ g8 ∧ Blk w' g8 40 #[.slice none 0 0]) ∧ (a6 = true → a7 = true → g6 ≠ g7)) ?_ _ _ _ _ ⟨false, false, false, false, false, false, none, none, 0, 0, undef, 0, 0, 0, rfl, rfl, id, id, (Below.refl _ _).drew, (fun h => by cases h), (fun h => by cases h), (fun h => by cases h), (fun h => by cases h), (fun h => by cases h), (fun h => by cases h), (fun h => by cases h)⟩ (by assumption) (by decide)
    clear hHeld
    rintro listed a w' ⟨e1, e3, e5, a6, a7, a8, A1, A3, c1, c3, vo, g6, g7, g8, rfl, rfl, h31, h53, hb, f1, f3, f5, f6, f7, f8, f67⟩ hS
    have F1 := Lib.hid f1; have F3 := Lib.hid f3; have F5 := Lib.hid f5; have F6 := Lib.hid f6; have F7 := Lib.hid f7; have F8 := Lib.hid f8; have F67 := Lib.hid f67
    clear f1 f3 f5 f6 f7 f8 f67 p1 p2 p3 q1 q2 q3 p4
    by_cases hall : e5 = true ∧ a6 = true ∧ a7 = true ∧ a8 = true
    · obtain ⟨rfl, rfl, rfl, rfl⟩ := hall
      obtain rfl : e3 = true := h53 rfl
      obtain rfl : e1 = true := h31 rfl
      left
      intro fuel hc
      obtain ⟨f, rfl⟩ : ∃ f, fuel = f + 3 := ⟨fuel - 3, by
        have : cntF #[true, true, true, true, true, true, true, true, true, false, false, false] = 3 := by decide
        omega⟩
      have a1 := F1.out rfl
      have a3 := F3.out rfl
      obtain ⟨vs, hF⟩ := F5.out rfl
      obtain ⟨A5, c5, rfl, hc5, hn5, -⟩ := hF.toLines
      obtain ⟨hg6, k6⟩ := F6.out rfl
      obtain ⟨hg7, k7⟩ := F7.out rfl
      obtain ⟨hg8, k8⟩ := F8.out rfl
      have hne := F67.out rfl rfl
      have n68 : g6 ≠ g8 := fun e => by subst e; rw [Blk] at k6 k8; rw [k6] at k8; cases k8
      have n78 : g7 ≠ g8 := fun e => by subst e; rw [Blk] at k7 k8; rw [k7] at k8; cases k8
      clear F1 F3 F5 F6 F7 F8 F67 h31 h53 hc
      obtain ⟨r1, r2, r3⟩ := k6.cells3
      obtain ⟨s1, s2, s3⟩ := k6.frozen3
      refine wpAnyH_ready (rs := [9]) (by kernel_rfl) (by simp) ?_
      refine AllReadyH.cons (o := _) (by simp only [List.getElem?_toArray, List.getElem?_cons_zero, List.getElem?_cons_succ]; exact rfl) (fun K' hK => ?_) AllReadyH.nil
      go_simp
      refine hK.out _ _ (keepU _ _ _ (by show w1.heap.size ≤ g6; exact hg6) (keepU _ _ _ (by show w1.heap.size ≤ g6; exact hg6) (keepU _ _ _ (by show w1.heap.size ≤ g6; exact hg6) hS))) (fun hHeld => ?_)
      clear hK K'
      try simp only [List.setIfInBounds_toArray, List.set_cons_zero, List.set_cons_succ]
      have a1' := a1.fillBox k6 (x' := .int .i64 W) (y' := .int .i64 H) (z' := .slice A1 n c1)
      have a3' := a3.fillBox k6 (x' := .int .i64 W) (y' := .int .i64 H) (z' := .slice A1 n c1)
      have hF' := FoundM.far (FoundM.far (FoundM.far hF k6 (by decide) (by decide) 0 (.int .i64 W)) (k6.set_ 0 (.int .i64 W)) (by decide) (by decide) 1 (.int .i64 H)) ((k6.set_ 0 (.int .i64 W)).set_ 1 (.int .i64 H)) (by decide) (by decide) 2 (.slice A1 n c1)
      have k6' := Blk.fill3 (a := .int .i64 W) (b := .int .i64 H) (c := .slice A1 n c1) k6
      have k7' := Blk.far3 (a := .int .i64 W) (b := .int .i64 H) (c := .slice A1 n c1) k7 (Ne.symm hne)
      have k8' := Blk.far3 (a := .int .i64 W) (b := .int .i64 H) (c := .slice A1 n c1) k8 (Ne.symm n68)
      have hb' := below_fill3 (a := .int .i64 W) (b := .int .i64 H) (c := .slice A1 n c1) hb hg6
      clear a1 a3 hF k6 k7 k8 hb r1 r2 r3 s1 s2 s3 hS
      generalize ((w'.setCell ⟨g6, 0, none⟩ (.int .i64 W)).setCell ⟨g6, 1, none⟩ (.int .i64 H)).setCell ⟨g6, 2, none⟩ (.slice A1 n c1) = v2 at *
      obtain ⟨r1, r2, r3⟩ := k7'.cells3
      obtain ⟨s1, s2, s3⟩ := k7'.frozen3
      have hS := hHeld
      clear hHeld
      refine wpAnyH_ready (rs := [10]) (by kernel_rfl) (by simp) ?_
      refine AllReadyH.cons (o := _) (by simp only [List.getElem?_toArray, List.getElem?_cons_zero, List.getElem?_cons_succ]; exact rfl) (fun K' hK => ?_) AllReadyH.nil
      go_simp
      refine hK.out _ _ (keepU _ _ _ (by show w1.heap.size ≤ g7; exact hg7) (keepU _ _ _ (by show w1.heap.size ≤ g7; exact hg7) (keepU _ _ _ (by show w1.heap.size ≤ g7; exact hg7) hS))) (fun hHeld => ?_)
      clear hK K'
      try simp only [List.setIfInBounds_toArray, List.set_cons_zero, List.set_cons_succ]
      have a1 := a1'.fillBox k7' (x' := .int .i64 SW) (y' := .int .i64 SH) (z' := .slice A3 sn c3)
      have a3 := a3'.fillBox k7' (x' := .int .i64 SW) (y' := .int .i64 SH) (z' := .slice A3 sn c3)
      have hF := FoundM.far (FoundM.far (FoundM.far hF' k7' (by decide) (by decide) 0 (.int .i64 SW)) (k7'.set_ 0 (.int .i64 SW)) (by decide) (by decide) 1 (.int .i64 SH)) ((k7'.set_ 0 (.int .i64 SW)).set_ 1 (.int .i64 SH)) (by decide) (by decide) 2 (.slice A3 sn c3)
      have k7 := Blk.fill3 (a := .int .i64 SW) (b := .int .i64 SH) (c := .slice A3 sn c3) k7'
      have k6 := Blk.far3 (a := .int .i64 SW) (b := .int .i64 SH) (c := .slice A3 sn c3) k6' hne
      have k8 := Blk.far3 (a := .int .i64 SW) (b := .int .i64 SH) (c := .slice A3 sn c3) k8' (Ne.symm n78)
      have hb := below_fill3 (a := .int .i64 SW) (b := .int .i64 SH) (c := .slice A3 sn c3) hb' hg7
      clear a1' a3' hF' k6' k7' k8' hb' r1 r2 r3 s1 s2 s3 hS
      generalize ((v2.setCell ⟨g7, 0, none⟩ (.int .i64 SW)).setCell ⟨g7, 1, none⟩ (.int .i64 SH)).setCell ⟨g7, 2, none⟩ (.slice A3 sn c3) = v3 at *
      have r1 := k8.cells0
      have s1 := k8.frozen 0
      have hS := hHeld
      clear hHeld
      refine wpAnyH_ready (rs := [11]) (by kernel_rfl) (by simp) ?_
      refine AllReadyH.cons (o := _) (by simp only [List.getElem?_toArray, List.getElem?_cons_zero, List.getElem?_cons_succ]; exact rfl) (fun K' hK => ?_) AllReadyH.nil
      go_simp
      refine hK.out _ _ (keepU v3 ⟨g8, 0, none⟩ (.slice A5 K c5) hg8 hS) (fun hHeld => ?_)
      clear hK K'
      try simp only [List.setIfInBounds_toArray, List.set_cons_zero, List.set_cons_succ]
      refine wpAnyH_done (by kernel_rfl) ?_ _
      have a1' := a1.fill1S k8 (x' := .slice A5 K c5)
      have a3' := a3.fill1S k8 (x' := .slice A5 K c5)
      have hF' := FoundM.far hF k8 (by decide) (by decide) 0 (.slice A5 K c5)
      have k8' := Blk.fill1 (a := .slice A5 K c5) k8
      have k6' := k6.far (p := ⟨g8, 0, none⟩) n68 (.slice A5 K c5)
      have k7' := k7.far (p := ⟨g8, 0, none⟩) n78 (.slice A5 K c5)
      have hb' := hb.setCell (p := ⟨g8, 0, none⟩) hg8 (.slice A5 K c5)
      clear a1 a3 hF k6 k7 k8 hb r1 s1 hS hHeld
      go_wp2_with fail
      go_meet
      exact ⟨g6, g7, g8, A1, c1, A3, c3, _, vs, rfl, rfl, rfl, hb', k6', k7', k8', a1', a3', hF'⟩
    · right
      refine ⟨?_, fun i hi => ?_⟩
      · clear F1 F3 F5 F6 F7 F8 F67 hS hb keepS keepU
        refine List.isEmpty_eq_false_iff_exists_mem.1 ?_
        cases e5 <;> cases a6 <;> cases a7 <;> cases a8 <;> first | exact absurd ⟨rfl, rfl, rfl, rfl⟩ hall | skip
        all_goals
          cases e3 <;> cases e1 <;> first | exact absurd (h53 rfl) (by decide) | exact absurd (h31 rfl) (by decide) | kernel_rfl
      · have hun := ready_un hi
        have hi12 : i < 12 := by
          rcases Nat.lt_or_ge i 12 with h | h
          · exact h
          · simp [Array.getElem?_eq_none (show (#[true, e1, true, e3, true, e5, a6, a7, a8, false, false, false] : Array Bool).size ≤ i from h)] at hun
        have hcs : i = 0 ∨ i = 1 ∨ i = 2 ∨ i = 3 ∨ i = 4 ∨ i = 5 ∨ i = 6 ∨ i = 7 ∨ i = 8 ∨ i = 9 ∨ i = 10 ∨ i = 11 := by omega
        clear hi12
        rcases hcs with rfl | rfl | rfl | rfl | rfl | rfl | rfl | rfl | rfl | rfl | rfl | rfl
        · simp at hun
        · obtain rfl : e1 = false := by simpa using hun
          refine wpOp_step (o := _) (by simp only [List.getElem?_toArray, List.getElem?_cons_zero, List.getElem?_cons_succ]; exact rfl) (fun K' hK => ?_)
          go_simp
          go_at_call 36
          refine Calls.mono (C1.out _ ((HA.out.to (hb)))) ?_
          rintro e v1 ⟨_, rfl, ⟨_, rfl, A', c', rfl, hc', hnil', hge', ha'⟩, hb1⟩
          refine hK _ _ ⟨keepS _ _ hb1 hS, true, e3, e5, a6, a7, a8, A', A3, c', c3, vo, g6, g7, g8, rfl, rfl, fun _ => rfl, h53, below_call hb hb.size hb1, fun _ => ha', fun h => (F3.out h).to hb1, fun h => by obtain ⟨vs, hF⟩ := F5.out h; exact ⟨vs, hF.below hb1⟩, fun h => ⟨(F6.out h).1, (F6.out h).2.below' hb1⟩, fun h => ⟨(F7.out h).1, (F7.out h).2.below' hb1⟩, fun h => ⟨(F8.out h).1, (F8.out h).2.below' hb1⟩, F67.out⟩
        · simp at hun
        · obtain rfl : e3 = false := by simpa using hun
          obtain rfl : e1 = true := by simpa using ready_after hi (by simp only [List.getElem?_toArray, List.getElem?_cons_zero, List.getElem?_cons_succ]; exact rfl) 1 (by kernel_rfl)
          refine wpOp_step (o := _) (by simp only [List.getElem?_toArray, List.getElem?_cons_zero, List.getElem?_cons_succ]; exact rfl) (fun K' hK => ?_)
          go_simp
          go_at_call 36
          refine Calls.mono (C3.out _ ((HS.out.to (hb)))) ?_
          rintro e v1 ⟨_, rfl, ⟨_, rfl, A', c', rfl, hc', hnil', hge', ha'⟩, hb1⟩
          refine hK _ _ ⟨keepS _ _ hb1 hS, true, true, e5, a6, a7, a8, A1, A', c1, c', vo, g6, g7, g8, rfl, rfl, fun _ => rfl, fun _ => rfl, below_call hb hb.size hb1, fun h => (F1.out h).to hb1, fun _ => ha', fun h => by obtain ⟨vs, hF⟩ := F5.out h; exact ⟨vs, hF.below hb1⟩, fun h => ⟨(F6.out h).1, (F6.out h).2.below' hb1⟩, fun h => ⟨(F7.out h).1, (F7.out h).2.below' hb1⟩, fun h => ⟨(F8.out h).1, (F8.out h).2.below' hb1⟩, F67.out⟩
        · simp at hun
        · obtain rfl : e5 = false := by simpa using hun
          obtain rfl : e3 = true := by simpa using ready_after hi (by simp only [List.getElem?_toArray, List.getElem?_cons_zero, List.getElem?_cons_succ]; exact rfl) 3 (by kernel_rfl)
          obtain rfl : e1 = true := h31 rfl
          refine wpOp_step (o := _) (by simp only [List.getElem?_toArray, List.getElem?_cons_zero, List.getElem?_cons_succ]; exact rfl) (fun K' hK => ?_)
          go_simp
          go_at_call 37
          refine Calls.mono (C5.out _ ((HL.out.below (hb)))) ?_
          rintro e v1 ⟨_, rfl, ⟨vo', vs', rfl, hF'⟩, hb1⟩
          refine hK _ _ ⟨keepS _ _ hb1 hS, true, true, true, a6, a7, a8, A1, A3, c1, c3, vo', g6, g7, g8, rfl, rfl, h31, fun _ => rfl, below_call hb hb.size hb1, fun h => (F1.out h).to hb1, fun h => (F3.out h).to hb1, fun _ => ⟨vs', hF'.base hb.size⟩, fun h => ⟨(F6.out h).1, (F6.out h).2.below' hb1⟩, fun h => ⟨(F7.out h).1, (F7.out h).2.below' hb1⟩, fun h => ⟨(F8.out h).1, (F8.out h).2.below' hb1⟩, F67.out⟩
        · obtain rfl : a6 = false := by simpa using hun
          refine wpOp_step (o := _) (by simp only [List.getElem?_toArray, List.getElem?_cons_zero, List.getElem?_cons_succ]; exact rfl) (fun K' hK => ?_)
          go_simp
          have bn : Below w'.heap.size w' (w'.alloc (.cells #[.int .i64 0, .int .i64 0, .slice none 0 0] 24)) := (Below.refl _ _).alloc (Nat.le_refl _) _
          refine hK _ _ ⟨?_, e1, e3, e5, true, a7, a8, A1, A3, c1, c3, vo, w'.heap.size, g7, g8, rfl, rfl, h31, h53, hb.alloc hb.size _, fun h => (F1.out h).to bn, fun h => (F3.out h).to bn, fun h => by obtain ⟨vs, hF⟩ := F5.out h; exact ⟨vs, hF.below bn⟩, fun _ => ⟨hb.size, Blk.new _ _ _⟩, fun h => ⟨(F7.out h).1, (F7.out h).2.alloc _⟩, fun h => ⟨(F8.out h).1, (F8.out h).2.alloc _⟩, ?_⟩
          · exact keepS _ _ bn hS
          · intro _ h; have := (F7.out h).2.lt; omega
        · obtain rfl : a7 = false := by simpa using hun
          refine wpOp_step (o := _) (by simp only [List.getElem?_toArray, List.getElem?_cons_zero, List.getElem?_cons_succ]; exact rfl) (fun K' hK => ?_)
          go_simp
          have bn : Below w'.heap.size w' (w'.alloc (.cells #[.int .i64 0, .int .i64 0, .slice none 0 0] 24)) := (Below.refl _ _).alloc (Nat.le_refl _) _
          refine hK _ _ ⟨?_, e1, e3, e5, a6, true, a8, A1, A3, c1, c3, vo, g6, w'.heap.size, g8, rfl, rfl, h31, h53, hb.alloc hb.size _, fun h => (F1.out h).to bn, fun h => (F3.out h).to bn, fun h => by obtain ⟨vs, hF⟩ := F5.out h; exact ⟨vs, hF.below bn⟩, fun h => ⟨(F6.out h).1, (F6.out h).2.alloc _⟩, fun _ => ⟨hb.size, Blk.new _ _ _⟩, fun h => ⟨(F8.out h).1, (F8.out h).2.alloc _⟩, ?_⟩
          · exact keepS _ _ bn hS
          · intro h _; have := (F6.out h).2.lt; omega
        · obtain rfl : a8 = false := by simpa using hun
          refine wpOp_step (o := _) (by simp only [List.getElem?_toArray, List.getElem?_cons_zero, List.getElem?_cons_succ]; exact rfl) (fun K' hK => ?_)
          go_simp
          have bn : Below w'.heap.size w' (w'.alloc (.cells #[.slice none 0 0] 40)) := (Below.refl _ _).alloc (Nat.le_refl _) _
          refine hK _ _ ⟨?_, e1, e3, e5, a6, a7, true, A1, A3, c1, c3, vo, g6, g7, w'.heap.size, rfl, rfl, h31, h53, hb.alloc hb.size _, fun h => (F1.out h).to bn, fun h => (F3.out h).to bn, fun h => by obtain ⟨vs, hF⟩ := F5.out h; exact ⟨vs, hF.below bn⟩, fun h => ⟨(F6.out h).1, (F6.out h).2.alloc _⟩, fun h => ⟨(F7.out h).1, (F7.out h).2.alloc _⟩, fun _ => ⟨hb.size, Blk.new _ _ _⟩, ?_⟩
          · exact keepS _ _ bn hS
          · exact F67.out
        · refine absurd ⟨?_, ?_, ?_, ?_⟩ hall
          · simpa using ready_after hi (by simp only [List.getElem?_toArray, List.getElem?_cons_zero, List.getElem?_cons_succ]; exact rfl) 5 (by kernel_rfl)
          · simpa using ready_after hi (by simp only [List.getElem?_toArray, List.getElem?_cons_zero, List.getElem?_cons_succ]; exact rfl) 6 (by kernel_rfl)
          · simpa using ready_after hi (by simp only [List.getElem?_toArray, List.getElem?_cons_zero, List.getElem?_cons_succ]; exact rfl) 7 (by kernel_rfl)
          · simpa using ready_after hi (by simp only [List.getElem?_toArray, List.getElem?_cons_zero, List.getElem?_cons_succ]; exact rfl) 8 (by kernel_rfl)
        · exact absurd (ready_after hi (by simp only [List.getElem?_toArray, List.getElem?_cons_zero, List.getElem?_cons_succ]; exact rfl) 9 (by kernel_rfl)) (by simp)
        · exact absurd (ready_after hi (by simp only [List.getElem?_toArray, List.getElem?_cons_zero, List.getElem?_cons_succ]; exact rfl) 10 (by kernel_rfl)) (by simp)
  case rest =>
  obtain ⟨g6, g7, g8, A1, c1, A3, c3, vo, vs, rfl, rfl, rfl, hb2, k6, k7, k8, a1, a3, hF⟩ := hcut
  obtain ⟨A5, c5, rfl, -, -, LC⟩ := hF.toLines
  have b2 := below_call b1 b1.size hb2
  have K0 : Kp wc [(g6, 24, #[.int .i64 W, .int .i64 H, .slice A1 n c1]), (g7, 24, #[.int .i64 SW, .int .i64 SH, .slice A3 sn c3]), (g8, 40, #[.slice A5 K c5]), (w.heap.size, 24, #[.int .i64 W, .int .i64 H, .slice A n c]), (w.heap.size + 1, 24, #[.int .i64 SW, .int .i64 SH, .slice SA sn sc]), (w.heap.size + 1 + 1, 40, #[.slice AL K cL])] [(A1, n, p), (A3, sn, sp), (A, n, p), (SA, sn, sp)] :=
    ((((((((((Kp.nil wc).addA (hS0.to b2)).addA (hA.to b2)).addA a3).addA a1).addB (k3.below' hb2)).addB (k2.below' hb2)).addB (k1.below' hb2)).addB k8).addB k7).addB k6
  have LO := L0.lines.below b2
  clear HA HS HL p1 p2 p3 q1 q2 q3 p4 y1 y2 y3 hb2 k1 k2 k3 k6 k7 k8 a1 a3 hF C1 C3 C5 b1 hS0 hA L0 hL
  have hnm : n ≤ maxLen := by unfold maxLen; omega
  have hsm : sn ≤ maxLen := by unfold maxLen; omega
  have hmm : ∀ i, i < K → m i ≤ maxLen := fun i hi => by have := hm2 i hi; unfold maxLen; omega
  have hKm : K ≤ maxLen := by unfold maxLen; omega
  obtain ⟨W2, H2, N2, m1⟩ := rsize_ex (recE W H n p K m ln up down) W (up + down + 1) (fun h => by
    obtain ⟨h1, h2, h3, h4⟩ := recE_ok h
    obtain ⟨e1, e2, -⟩ := chk_ok (stChk_ok h1).1
    exact Int.mul_nonneg e1 (by omega))
  obtain ⟨W3, H3, N3, m2⟩ := rsize_ex (resE W H n p SW SH sn sp K m ln up) W H (fun h => by
    obtain ⟨h1, -⟩ := resE_ok h
    obtain ⟨e1, e2, e3, -⟩ := chk_ok h1
    exact Int.mul_nonneg e1 e3)
  have l1 : N2 ≤ 409600 := rsize_le m1 (fun h => by
    obtain ⟨h1, h2, h3, h4⟩ := recE_ok h
    obtain ⟨e1, e2, -⟩ := chk_ok (stChk_ok h1).1
    exact ⟨e1, e2, by omega, h4⟩)
  have l2 : N3 ≤ 409600 := rsize_le m2 (fun h => by
    obtain ⟨h1, -⟩ := resE_ok h
    obtain ⟨e1, e2, e3, e4, -⟩ := chk_ok h1
    exact ⟨e1, e2, e3, e4⟩)
  have D1 := Lib.hid fun w' h' hl => rectify_all W H A1 A5 n c1 K c5 p m ln up down _ W2 H2 N2 w' h' hnm hB hl hmm rfl m1
  have D2 := Lib.hid fun w' h' hl => rrectify_all W H A AL n c K cL p m ln up down _ W2 H2 N2 w' h' hnm hB hl hmm rfl m1
  have D3 := Lib.hid fun w' h' hs hl => restore_all W H SW SH A1 A3 A5 n c1 sn c3 K c5 p sp m ln up _ W3 H3 N3 w' h' (by omega) hs hsm hl hmm rfl m2
  have D4 := Lib.hid fun w' h' hs hl => rrestore_all W H SW SH A SA AL n c sn sc K cL p sp m ln up _ W3 H3 N3 w' h' hnm hB hs hsm hBS hl hmm rfl m2
  have D5 := Lib.hid fun w' (h1 : Lines w' w'.heap.size A5 K m ln) (h2 : Lines w' w'.heap.size AL K m ln) => sameStave_any A5 AL K K c5 cL m m ln ln w' h1 h2 hKm hKm hmm hmm
  rw [show sameL K K m m ln ln = true from sameL_iff.2 ⟨rfl, fun i _ => ⟨rfl, fun _ _ => rfl⟩⟩] at D5
  generalize recE W H n p K m ln up down = E1 at *
  generalize resE W H n p SW SH sn sp K m ln up = E2 at *
  generalize recQ W H p (ln 4) up = Q1 at *
  generalize resQ W H SH p sp (ln 4) up = Q2 at *
  have M1 := Lib.hid m1; have M2 := Lib.hid m2
  clear m1 m2 hmm hm2 hB hBS
  generalize w.heap.size + 1 + 1 = B3 at *
  generalize w.heap.size + 1 = B2 at *
  obtain ⟨p1, p2, p3⟩ := (K0.b 0 rfl).cells3
  have u1 := (K0.b 2 rfl).cells0
  go_wp2_with fail
  refine (D1.out _ (K0.a 0 rfl) LC).mono ?_
  rintro e v1 ⟨_, rfl, ⟨Ax1, cx1, rfl, hgx1, ax1⟩, hb1⟩
  have K1a := (K0.below hb1).addA ax1
  have b1a := below_call b2 b2.size hb1
  have z1 := b1a.size
  have b1 : Below w.heap.size w (v1.alloc (.cells #[.int .i64 W2, .int .i64 H2, .slice Ax1 N2 cx1] 24)) := by (repeat (first | exact Below.refl _ _ | assumption | refine Below.drew ?_ | refine below_drewN ?_ _ | refine Below.alloc ?_ (by first | omega | (simp; done) | (simp; omega)) _ | refine Below.setCell ?_ (by first | omega | (simp; done) | (simp; omega)) _ | refine below_setRow ?_ (by first | omega | (simp; done) | (simp; omega)) _ ))
  have K1 := K1a.new 24 #[.int .i64 W2, .int .i64 H2, .slice Ax1 N2 cx1]
  replace LO := (LO.below hb1).below ((Below.refl _ _).alloc (Nat.le_refl _) (.cells #[.int .i64 W2, .int .i64 H2, .slice Ax1 N2 cx1] 24))
  replace LC := (LC.below hb1).below ((Below.refl _ _).alloc (Nat.le_refl _) (.cells #[.int .i64 W2, .int .i64 H2, .slice Ax1 N2 cx1] 24))
  clear K0 b2 K1a b1a hb1 ax1 hgx1 p1 p2 p3 u1 z1 D1
  obtain ⟨p1, p2, p3⟩ := (K1.b 4 rfl).cells3
  have u1 := (K1.b 6 rfl).cells0
  go_wp2_with fail
  generalize v1.alloc (.cells #[.int .i64 W2, .int .i64 H2, .slice Ax1 N2 cx1] 24) = w1 at *
  refine (D2.out _ (K1.a 3 rfl) LO).mono ?_
  rintro e v2 ⟨_, rfl, ⟨Ay1, cy1, rfl, hgy1, ay1⟩, hb2⟩
  have K2a := (K1.below hb2).addA ay1
  have b2a := below_call b1 b1.size hb2
  have z2 := b2a.size
  have b2 : Below w.heap.size w (v2.alloc (.cells #[.int .i64 W2, .int .i64 H2, .slice Ay1 N2 cy1] 24)) := by (repeat (first | exact Below.refl _ _ | assumption | refine Below.drew ?_ | refine below_drewN ?_ _ | refine Below.alloc ?_ (by first | omega | (simp; done) | (simp; omega)) _ | refine Below.setCell ?_ (by first | omega | (simp; done) | (simp; omega)) _ | refine below_setRow ?_ (by first | omega | (simp; done) | (simp; omega)) _ ))
  have K2 := K2a.new 24 #[.int .i64 W2, .int .i64 H2, .slice Ay1 N2 cy1]
  replace LO := (LO.below hb2).below ((Below.refl _ _).alloc (Nat.le_refl _) (.cells #[.int .i64 W2, .int .i64 H2, .slice Ay1 N2 cy1] 24))
  replace LC := (LC.below hb2).below ((Below.refl _ _).alloc (Nat.le_refl _) (.cells #[.int .i64 W2, .int .i64 H2, .slice Ay1 N2 cy1] 24))
  clear K1 b1 K2a b2a hb2 ay1 hgy1 p1 p2 p3 u1 z2 D2
  obtain ⟨p1, p2, p3⟩ := (K2.b 2 rfl).cells3
  obtain ⟨r1, r2, r3⟩ := (K2.b 3 rfl).cells3
  have u1 := (K2.b 4 rfl).cells0
  go_wp2_with fail
  generalize v2.alloc (.cells #[.int .i64 W2, .int .i64 H2, .slice Ay1 N2 cy1] 24) = w2 at *
  refine (D3.out _ (K2.a 2 rfl) (K2.a 3 rfl) LC).mono ?_
  rintro e v3 ⟨_, rfl, ⟨Ax2, cx2, rfl, hgx2, ax2⟩, hb3⟩
  have K3a := (K2.below hb3).addA ax2
  have b3a := below_call b2 b2.size hb3
  have z3 := b3a.size
  have b3 : Below w.heap.size w (v3.alloc (.cells #[.int .i64 W3, .int .i64 H3, .slice Ax2 N3 cx2] 24)) := by (repeat (first | exact Below.refl _ _ | assumption | refine Below.drew ?_ | refine below_drewN ?_ _ | refine Below.alloc ?_ (by first | omega | (simp; done) | (simp; omega)) _ | refine Below.setCell ?_ (by first | omega | (simp; done) | (simp; omega)) _ | refine below_setRow ?_ (by first | omega | (simp; done) | (simp; omega)) _ ))
  have K3 := K3a.new 24 #[.int .i64 W3, .int .i64 H3, .slice Ax2 N3 cx2]
  replace LO := (LO.below hb3).below ((Below.refl _ _).alloc (Nat.le_refl _) (.cells #[.int .i64 W3, .int .i64 H3, .slice Ax2 N3 cx2] 24))
  replace LC := (LC.below hb3).below ((Below.refl _ _).alloc (Nat.le_refl _) (.cells #[.int .i64 W3, .int .i64 H3, .slice Ax2 N3 cx2] 24))
  clear K2 b2 K3a b3a hb3 ax2 hgx2 p1 p2 p3 r1 r2 r3 u1 z3 D3
  obtain ⟨p1, p2, p3⟩ := (K3.b 6 rfl).cells3
  obtain ⟨r1, r2, r3⟩ := (K3.b 7 rfl).cells3
  have u1 := (K3.b 8 rfl).cells0
  go_wp2_with fail
  generalize v3.alloc (.cells #[.int .i64 W3, .int .i64 H3, .slice Ax2 N3 cx2] 24) = w3 at *
  refine (D4.out _ (K3.a 5 rfl) (K3.a 6 rfl) LO).mono ?_
  rintro e v4 ⟨_, rfl, ⟨Ay2, cy2, rfl, hgy2, ay2⟩, hb4⟩
  have K4a := (K3.below hb4).addA ay2
  have b4a := below_call b3 b3.size hb4
  have z4 := b4a.size
  have b4 : Below w.heap.size w (v4.alloc (.cells #[.int .i64 W3, .int .i64 H3, .slice Ay2 N3 cy2] 24)) := by (repeat (first | exact Below.refl _ _ | assumption | refine Below.drew ?_ | refine below_drewN ?_ _ | refine Below.alloc ?_ (by first | omega | (simp; done) | (simp; omega)) _ | refine Below.setCell ?_ (by first | omega | (simp; done) | (simp; omega)) _ | refine below_setRow ?_ (by first | omega | (simp; done) | (simp; omega)) _ ))
  have K4 := K4a.new 24 #[.int .i64 W3, .int .i64 H3, .slice Ay2 N3 cy2]
  replace LO := (LO.below hb4).below ((Below.refl _ _).alloc (Nat.le_refl _) (.cells #[.int .i64 W3, .int .i64 H3, .slice Ay2 N3 cy2] 24))
  replace LC := (LC.below hb4).below ((Below.refl _ _).alloc (Nat.le_refl _) (.cells #[.int .i64 W3, .int .i64 H3, .slice Ay2 N3 cy2] 24))
  clear K3 b3 K4a b4a hb4 ay2 hgy2 p1 p2 p3 r1 r2 r3 u1 z4 D4
  obtain ⟨p1, p2, p3⟩ := (K4.b 3 rfl).cells3
  obtain ⟨r1, r2, r3⟩ := (K4.b 2 rfl).cells3
  go_wp2_with fail
  generalize v4.alloc (.cells #[.int .i64 W3, .int .i64 H3, .slice Ay2 N3 cy2] 24) = w4 at *
  refine (sameInk_true W2 H2 Ax1 Ay1 N2 cx1 cy1 Q1 Q1 _ (K4.a 3 rfl) (K4.a 2 rfl) (by unfold maxLen; omega) (fun _ _ _ => rfl)).mono ?_
  rintro e v5 ⟨rfl, hb5⟩
  replace LO := LO.below hb5
  replace LC := LC.below hb5
  have K5 := K4.below hb5
  have b5 := below_call b4 b4.size hb5
  clear K4 b4 hb5 p1 p2 p3 r1 r2 r3 
  obtain ⟨p1, p2, p3⟩ := (K5.b 1 rfl).cells3
  obtain ⟨r1, r2, r3⟩ := (K5.b 0 rfl).cells3
  go_wp2_with fail
  refine (sameInk_true W3 H3 Ax2 Ay2 N3 cx2 cy2 Q2 Q2 _ (K5.a 1 rfl) (K5.a 0 rfl) (by unfold maxLen; omega) (fun _ _ _ => rfl)).mono ?_
  rintro e v6 ⟨rfl, hb6⟩
  replace LO := LO.below hb6
  replace LC := LC.below hb6
  have K6 := K5.below hb6
  have b6 := below_call b5 b5.size hb6
  clear K5 b5 hb6 p1 p2 p3 r1 r2 r3 
  obtain ⟨p1, p2, p3⟩ := (K6.b 4 rfl).cells3
  obtain ⟨r1, r2, r3⟩ := (K6.b 7 rfl).cells3
  go_wp2_with fail
  refine (sameInk_true W H A1 A n c1 c p p _ (K6.a 4 rfl) (K6.a 6 rfl) (by unfold maxLen; omega) (fun _ _ _ => rfl)).mono ?_
  rintro e v7 ⟨rfl, hb7⟩
  replace LO := LO.below hb7
  replace LC := LC.below hb7
  have K7 := K6.below hb7
  have b7 := below_call b6 b6.size hb7
  clear K6 b6 hb7 p1 p2 p3 r1 r2 r3 
  obtain ⟨p1, p2, p3⟩ := (K7.b 5 rfl).cells3
  obtain ⟨r1, r2, r3⟩ := (K7.b 8 rfl).cells3
  go_wp2_with fail
  refine (sameInk_true SW SH A3 SA sn c3 sc sp sp _ (K7.a 5 rfl) (K7.a 7 rfl) (by unfold maxLen; omega) (fun _ _ _ => rfl)).mono ?_
  rintro e v8 ⟨rfl, hb8⟩
  replace LO := LO.below hb8
  replace LC := LC.below hb8
  have K8 := K7.below hb8
  have b8 := below_call b7 b7.size hb8
  clear K7 b7 hb8 p1 p2 p3 r1 r2 r3 
  have u1 := (K8.b 6 rfl).cells0
  have u2 := (K8.b 9 rfl).cells0
  go_wp2_with fail
  refine (D5.out _ LC LO).mono ?_
  rintro e v9 ⟨rfl, hb9⟩
  replace LO := LO.below hb9
  replace LC := LC.below hb9
  have K9 := K8.below hb9
  have b9 := below_call b8 b8.size hb9
  clear K8 b8 hb9 u1 u2 
  go_wp2
  go_ret
  exact ⟨rfl, b9⟩
end Go.Proofs.YtdimlpcbbkokiaaGreat

/- Memory: six lines of three small numbers that may be written to (for StaveSmall). -/
namespace Go.Proofs.YtdimlpcbbkokiaaGreat
open Go.RowKit Go.Shelf
set_option linter.unusedVariables false

theorem LinesIn.to' {w w' : World} {A : Option Addr} {K c : Nat} {m : Nat → Nat} {ln : Nat → Nat → Int} (h : LinesIn w A K c m ln) (hb : Below w.heap.size w w') : LinesIn w' A K c m ln := ⟨h.nil, h.le, h.lines.below hb, h.lens, h.outer, h.few, h.wf⟩
/-- a line of three numbers of at most M -/
def Row3 (w : World) (B : Nat) (M : Int) (v : Value) : Prop := ∃ g c xs, v = .slice (some ⟨g, 0, none⟩) 3 c ∧ B ≤ g ∧ Blk w g 3 xs ∧ ∀ j, j < 3 → ∃ y, xs[j]? = some (.int .i64 y) ∧ -M ≤ y ∧ y ≤ M
/-- a row of six lines -/
def Six (w : World) (B b : Nat) (M : Int) : Prop := ∃ cs, Blk w b 37 cs ∧ ∀ i, i < 6 → ∃ v, cs[i]? = some v ∧ Row3 w B M v
section
variable {w w' : World} {B b : Nat} {M : Int}
theorem Row3.below {v : Value} (h : Row3 w B M v) (hb : Below w.heap.size w w') : Row3 w' B M v := by
  obtain ⟨g, c, xs, e, hB, k, hx⟩ := h
  exact ⟨g, c, xs, e, hB, k.below' hb, hx⟩
theorem Six.below (h : Six w B b M) (hb : Below w.heap.size w w') : Six w' B b M := by
  obtain ⟨cs, k, hc⟩ := h
  exact ⟨cs, k.below' hb, fun i hi => by obtain ⟨v, e, hr⟩ := hc i hi; exact ⟨v, e, hr.below hb⟩⟩
theorem Six.lt (h : Six w B b M) : b < w.heap.size := by obtain ⟨cs, k, -⟩ := h; exact k.lt
theorem Six.at_ (h : Six w B b M) {i : Nat} (hi : i < 6) : ∃ g c, w.cell? ⟨b, i, none⟩ = some (.slice (some ⟨g, 0, none⟩) 3 c) ∧ B ≤ g ∧ ∃ xs, Blk w g 3 xs ∧ ∀ j, j < 3 → ∃ y, xs[j]? = some (.int .i64 y) ∧ -M ≤ y ∧ y ≤ M := by
  obtain ⟨cs, k, hc⟩ := h
  obtain ⟨v, e, g, c, xs, rfl, hB, k2, hx⟩ := hc i hi
  exact ⟨g, c, by rw [k.cell]; exact e, hB, xs, k2, hx⟩
theorem Six.set {M' : Int} (h : Six w B b M) (hM : M ≤ M') {g j : Nat} {xs : Array Value} (hk : Blk w g 3 xs) {y : Int} (h1 : -M' ≤ y) (h2 : y ≤ M') : Six (w.setCell ⟨g, j, none⟩ (.int .i64 y)) B b M' := by
  obtain ⟨cs, k, hc⟩ := h
  have hne : b ≠ g := by
    rintro rfl
    have e1 : w.heap[b]? = _ := k
    have e2 : w.heap[b]? = _ := hk
    rw [e1] at e2
    exact absurd (show 37 = 3 from congrArg (fun o : Option Obj => match o with | some (.cells _ t _) => t | _ => 0) e2) (by decide)
  refine ⟨cs, k.far (p := ⟨g, j, none⟩) hne _, fun i hi => ?_⟩
  obtain ⟨v, e, g2, c, ys, rfl, hB, k2, hx⟩ := hc i hi
  refine ⟨_, e, ?_⟩
  by_cases eg : g2 = g
  · subst eg
    refine ⟨g2, c, ys.setIfInBounds j (.int .i64 y), rfl, hB, k2.set_ j _, fun t ht => ?_⟩
    obtain ⟨z, hz, hz1, hz2⟩ := hx t ht
    rw [Array.getElem?_setIfInBounds]
    by_cases ej : j = t
    · subst ej
      rw [if_pos rfl, if_pos (Array.getElem?_eq_some_iff.1 hz).1]
      exact ⟨y, rfl, h1, h2⟩
    · rw [if_neg ej]
      exact ⟨z, hz, by omega, by omega⟩
  · refine ⟨g2, c, ys, rfl, hB, k2.far (p := ⟨g, j, none⟩) eg _, fun t ht => ?_⟩
    obtain ⟨z, hz, hz1, hz2⟩ := hx t ht
    exact ⟨z, hz, by omega, by omega⟩
theorem Six.lines (h : Six w B b M) (hM : M ≤ 1000) {o K c : Nat} (ho : o + K ≤ 6) (hK : K ≤ c) (hc : c ≤ 9223372036854775807) : ∃ ln, LinesIn w (some ⟨b, o, none⟩) K c (fun _ => 3) ln := by
  obtain ⟨cs, k, hcs⟩ := h
  have key : ∀ i, ∃ v : Value, ∃ l : Nat → Int, (i < K → cs[o + i]? = some v ∧ ∃ A' c', v = .slice A' 3 c' ∧ (A' = none → c' = 0) ∧ ArrI w w.heap.size A' 3 (fun j => l j.toNat)) ∧ ∀ j, -1000 ≤ l j ∧ l j ≤ 1000 := fun i => by
    by_cases hi : i < K
    · obtain ⟨v, e, g, c2, xs, rfl, -, k2, hx⟩ := hcs (o + i) (by omega)
      have hl : ∀ j, ∃ y : Int, (j < 3 → xs[j]? = some (.int .i64 y)) ∧ -1000 ≤ y ∧ y ≤ 1000 := fun j => by
        by_cases hj : j < 3
        · obtain ⟨y, h1, h2, h3⟩ := hx j hj
          exact ⟨y, fun _ => h1, by omega, by omega⟩
        · exact ⟨0, fun h => absurd h hj, by omega, by omega⟩
      refine ⟨_, fun j => Classical.choose (hl j), fun _ => ⟨e, _, c2, rfl, (fun h => by cases h), fun _ => ⟨g, 0, rfl, k2.lt, fun j j0 j1 => ?_⟩⟩, fun j => (Classical.choose_spec (hl j)).2⟩
      rw [k2.cell, Nat.zero_add]
      exact (Classical.choose_spec (hl j.toNat)).1 (by omega)
    · exact ⟨default, fun _ => 0, fun h => absurd h hi, fun _ => (show (-1000 : Int) ≤ 0 ∧ (0 : Int) ≤ 1000 by omega)⟩
  refine ⟨fun i j => Classical.choose (Classical.choose_spec (key i)) j, (fun e => by cases e), hK, ⟨fun i => Classical.choose (key i), fun hn => ⟨b, o, rfl, k.lt, fun i i0 i1 => ?_⟩, fun i hi => ?_⟩, fun _ _ => by omega, hc, by omega, fun i j hi => ?_⟩
  · rw [k.cell]
    exact ((Classical.choose_spec (Classical.choose_spec (key i.toNat))).1 (by omega)).1
  · obtain ⟨A', c', e, h1, h2⟩ := ((Classical.choose_spec (Classical.choose_spec (key i))).1 hi).2
    exact ⟨A', c', e, h1, h2⟩
  · have := (Classical.choose_spec (Classical.choose_spec (key i))).2 j
    generalize Classical.choose (Classical.choose_spec (key i)) j = y at *
    exact WalkArith.wf_i64 (by omega)
theorem Found.six {B : Nat} {ln : Nat → Nat → Int} {vo : Value} {vs : Nat → Value} {k : Nat} (h : Found B w 3 ln k vo vs) (hk : 6 ≤ k) (hl : ∀ i j, i < 6 → -M ≤ ln i j ∧ ln i j ≤ M) : ∃ g c, vo = .slice (some ⟨g, 0, none⟩) k c ∧ k ≤ c ∧ c ≤ 9223372036854775807 ∧ B ≤ g ∧ Six w B g M := by
  obtain ⟨A, c0, e0, -, -⟩ := own_arr h.row
  rcases h.row.2 with ⟨-, h2⟩ | ⟨g, cap, cur, hv, hb, hh, hc, hc2, hs, ht⟩
  · omega
  · refine ⟨g, cap, hv, hc, hc2, hb, cur, hh, fun i hi => ?_⟩
    obtain ⟨g2, c2, xs, e2, hB2, k2, hx⟩ := own_blk (h.lines i (by omega)) (by omega)
    refine ⟨vs i, ?_, g2, c2, xs, e2, hB2, k2, fun j hj => ?_⟩
    · have : (cur.toList.take (k * 1))[i]? = ((List.range k).map vs)[i]? := by rw [ht]
      rw [List.getElem?_take, if_pos (by omega), List.getElem?_map, List.getElem?_range (by omega)] at this
      simpa using this
    · rw [hx j hj, List.getElem?_map, List.getElem?_range hj]
      exact ⟨_, rfl, hl i j hi⟩
end
end Go.Proofs.YtdimlpcbbkokiaaGreat

/- Walk: a path as numbers say (custoslaw03.walk): whatever the numbers, it is a path. -/
namespace Go.Proofs.YtdimlpcbbkokiaaGreat
open Go.RowKit Go.Shelf
set_option linter.unusedVariables false
attribute [local go_sem] Oper.semAt_some

theorem and_three_u8 (E : Int) (h0 : 0 ≤ E) (h1 : E ≤ 255) : bits BinOp.and IntKind.u8 E 3 = E % 4 := by
  have h : ∀ k : Fin 256, bits BinOp.and IntKind.u8 (k.val : Int) 3 = (k.val : Int) % 4 := by decide +kernel
  have := h ⟨E.toNat, by omega⟩
  simpa [Int.toNat_of_nonneg h0] using this
/-- a path of an image, column by column -/
def IsP (W H : Int) (l : Nat → Int) (n : Nat) : Prop := (∀ x, x < n → 0 ≤ l x ∧ l x < H) ∧ ∀ x, x + 1 < n → l x - 1 ≤ l (x + 1) ∧ l (x + 1) ≤ l x + 1
theorem IsP.snoc {W H : Int} {l : Nat → Int} {y : Nat} {v : Int} (h : IsP W H l (y + 1)) (h0 : 0 ≤ v) (h1 : v < H) (h2 : l y - 1 ≤ v) (h3 : v ≤ l y + 1) : IsP W H (fun i => if i = y + 1 then v else l i) (y + 1 + 1) := by
  refine ⟨fun x hx => ?_, fun x hx => ?_⟩
  · show 0 ≤ (if x = y + 1 then v else l x) ∧ (if x = y + 1 then v else l x) < H
    by_cases e : x = y + 1
    · rw [if_pos e]; exact ⟨h0, h1⟩
    · rw [if_neg e]; exact h.1 x (by omega)
  · show (if x = y + 1 then v else l x) - 1 ≤ (if x + 1 = y + 1 then v else l (x + 1)) ∧ (if x + 1 = y + 1 then v else l (x + 1)) ≤ (if x = y + 1 then v else l x) + 1
    rw [if_neg (by omega : ¬ x = y + 1)]
    by_cases e : x = y
    · subst e; rw [if_pos rfl]; exact ⟨h2, h3⟩
    · rw [if_neg (by omega)]; exact h.2 x (by omega)
theorem map_snoc (l : Nat → Int) (y : Nat) (v : Int) : (List.range (y + 1 + 1)).map (fun j => Value.int .i64 (if j = y + 1 then v else l j)) = (List.range (y + 1)).map (fun j => Value.int .i64 (l j)) ++ [.int .i64 v] := by
  rw [range_snoc, if_pos rfl]
  congr 1
  exact List.map_congr_left fun i hi => by rw [if_neg]; have := List.mem_range.1 hi; omega

end Go.Proofs.YtdimlpcbbkokiaaGreat

/- Plain: the first line is a cheapest path; lines keep their distance. No program in sight. -/
namespace Go.Proofs.YtdimlpcbbkokiaaGreat
open Go.RowKit
set_option linter.unusedVariables false
section
variable {N W H : Int} {c : Int → Int → Int}
/-- from every pixel on no path is cheaper -/
theorem least_rest {F : Int → Int → Bool} {l : Int → Int} (hc : ∀ x y, 0 ≤ c x y ∧ c x y ≤ 2) (hF : ∀ x y, F x y = false) (hl : ∀ x : Int, 0 ≤ x → x < W → 0 ≤ l x ∧ l x < H) (hs : ∀ x : Int, 0 ≤ x → x + 1 < W → l x - 1 ≤ l (x + 1) ∧ l (x + 1) ≤ l x + 1) (k x : Nat) (hk : (x : Int) + k + 1 = W) :
    gAt N W H c F x (l x) ≤ c x (l x) + (costP c l W.toNat - costP c l (x + 1)) := by
  induction k generalizing x with
  | zero =>
    have e : (x : Int) = W - 1 := by omega
    rw [show W.toNat = x + 1 by omega]
    have h1 := gAt_last (N := N) (W := W) (H := H) (c := c) (F := F) (l x)
    rw [← e, hF, if_neg (by simp)] at h1
    rw [h1]
    omega
  | succ k ih =>
    have ih := ih (x + 1) (by omega)
    have hx := hl x (by omega) (by omega)
    have hx' := hl ((x : Int) + 1) (by omega) (by omega)
    have hst := hs x (by omega) (by omega)
    rw [gAt_step (by omega) (by omega), if_neg (by rw [hF]; simp)]
    have lo : nxLo (l x) = if l x - 1 < 0 then 0 else l x - 1 := rfl
    obtain ⟨i, hi⟩ : ∃ i : Nat, nxLo (l x) + i = l ((x : Int) + 1) := ⟨(l ((x : Int) + 1) - nxLo (l x)).toNat, by rw [lo]; split <;> omega⟩
    have hin := (nx_in hx.1 hx.2 i).2 (by rw [hi]; omega)
    have hm := mfold_at (N := N) (f := goTo (gAt N W H c F ((x : Int) + 1)) (l x)) (lo := nxLo (l x)) hin
    rw [hi] at hm
    rw [show ((x + 1 : Nat) : Int) = (x : Int) + 1 by omega] at ih
    have hcost : costP c l (x + 1 + 1) = costP c l (x + 1) + c ((x : Int) + 1) (l ((x : Int) + 1)) + if l ((x : Int) + 1) ≠ l x then 1 else 0 := by
      rw [costP]
      simp only [show ((x + 1 : Nat) : Int) = (x : Int) + 1 by omega, show (x : Int) + 1 - 1 = x by omega]
      congr 1
      by_cases h : l ((x : Int) + 1) ≠ l x
      · rw [if_pos ⟨by omega, h⟩, if_pos h]
      · rw [if_neg (fun h2 => h h2.2), if_neg h]
    rw [hcost] at ih
    have hgo : goTo (gAt N W H c F ((x : Int) + 1)) (l x) (l ((x : Int) + 1)) = gAt N W H c F ((x : Int) + 1) (l ((x : Int) + 1)) + if l ((x : Int) + 1) = l x then 0 else 1 := rfl
    rw [hgo] at hm
    clear hgo
    by_cases h : l ((x : Int) + 1) = l x
    · rw [if_pos h] at hm
      rw [if_neg (by simp [h])] at ih
      omega
    · rw [if_neg h] at hm
      rw [if_pos h] at ih
      omega
theorem least_all {l : Int → Int} (hc : ∀ x y, 0 ≤ c x y ∧ c x y ≤ 2) (hW : 0 < W) (hH : 0 < H) (hl : ∀ x : Int, 0 ≤ x → x < W → 0 ≤ l x ∧ l x < H) (hs : ∀ x : Int, 0 ≤ x → x + 1 < W → l x - 1 ≤ l (x + 1) ∧ l (x + 1) ≤ l x + 1) :
    GC N W H c 0 ≤ costP c l W.toNat := by
  have h1 := least_rest (N := N) (F := fun x y => FB N W H c 0 (y * W + x)) hc (fun _ _ => rfl) hl hs (W.toNat - 1) 0 (by omega)
  have h0 := hl 0 (by omega) hW
  have h2 := fmin_le (g := gAt N W H c (fun x y => FB N W H c 0 (y * W + x)) 0) (n := H.toNat) (i := l 0) h0.1 (by omega)
  have e : GC N W H c 0 = gAt N W H c (fun x y => FB N W H c 0 (y * W + x)) 0 (fmin (gAt N W H c (fun x y => FB N W H c 0 (y * W + x)) 0) H.toNat) := rfl
  rw [e]
  have h3 : costP c l (0 + 1) = c 0 (l 0) := by simp [costP]
  rw [h3] at h1
  simp only [Int.natCast_zero] at h1
  omega
/-- what a line costs -/
theorem ln_cost {k : Nat} (hc : ∀ x y, 0 ≤ c x y ∧ c x y ≤ 2) (hN : 3 * W < N) (hW : 0 < W) (hH : 0 < H) (hg : GC N W H c k < N) : costP c (fun i => LN N W H c k i.toNat) W.toNat = GC N W H c k :=
  path_total (F := fun x y => FB N W H c k (y * W + x)) hc hN hH hW hg
theorem ln_step {k : Nat} (hc : ∀ x y, 0 ≤ c x y ∧ c x y ≤ 2) (hN : 3 * W < N) (hW : 0 < W) (hH : 0 < H) (hg : GC N W H c k < N) (x : Nat) (hx : (x : Int) + 1 < W) :
    LN N W H c k x - 1 ≤ LN N W H c k (x + 1) ∧ LN N W H c k (x + 1) ≤ LN N W H c k x + 1 := by
  obtain ⟨h1, h2, h3⟩ := path_ok (F := fun x y => FB N W H c k (y * W + x)) hc hN hH hW hg x (by omega)
  obtain ⟨-, -, -, h4, h5, -⟩ := nxt_spec hc (by omega) (by omega : (x : Int) < W - 1) h1 h2 h3
  exact ⟨h4, h5⟩
theorem FB_mono {i j : Nat} (h : i ≤ j) {t : Int} (ht : FB N W H c i t = true) : FB N W H c j t = true := by
  induction j with
  | zero => obtain rfl : i = 0 := by omega
            exact ht
  | succ j ih =>
    by_cases e : i = j + 1
    · subst e; exact ht
    · rw [FB]; unfold mkF
      rw [ih (by omega), Bool.true_or]
/-- a later line stays off the marks of an earlier one -/
theorem ln_off {i j : Nat} (hc : ∀ x y, 0 ≤ c x y ∧ c x y ≤ 2) (hN : 3 * W < N) (hW : 0 < W) (hH : 0 < H) (hij : i < j) (hg : GC N W H c j < N) (x : Nat) (hx : (x : Int) < W) :
    LN N W H c j x < LN N W H c i x - 2 ∨ LN N W H c i x + 2 < LN N W H c j x := by
  obtain ⟨h1, h2, h3⟩ := ln_ok hc hN hW hH hg x hx
  have hn : FB N W H c (i + 1) (LN N W H c j x * W + x) = false := by
    cases h : FB N W H c (i + 1) (LN N W H c j x * W + x) with
    | false => rfl
    | true => rw [FB_mono (by omega) h] at h3; cases h3
  rw [FB] at hn
  unfold mkF at hn
  rw [idx_mod (by omega) hx, idx_div (by omega) hx, Int.toNat_natCast, Bool.or_eq_false_iff] at hn
  have h4 := of_decide_eq_false hn.2
  have e : pathP N W H c (fun x y => FB N W H c i (y * W + x)) x = LN N W H c i x := rfl
  rw [e] at h4
  omega
theorem ln_apart {a b : Nat} (hc : ∀ x y, 0 ≤ c x y ∧ c x y ≤ 2) (hN : 3 * W < N) (hW : 0 < W) (hH : 0 < H) (hab : a ≠ b) (ha : GC N W H c a < N) (hb : GC N W H c b < N) (h0 : LN N W H c a 0 ≤ LN N W H c b 0) (x : Nat) (hx : (x : Int) < W) :
    LN N W H c a x + 2 < LN N W H c b x := by
  have off : ∀ x : Nat, (x : Int) < W → LN N W H c b x < LN N W H c a x - 2 ∨ LN N W H c a x + 2 < LN N W H c b x := fun x hx => by
    rcases Nat.lt_or_gt_of_ne hab with h | h
    · exact ln_off hc hN hW hH h hb x hx
    · have := ln_off hc hN hW hH h ha x hx; omega
  induction x with
  | zero => have := off 0 (by omega); omega
  | succ x ih =>
    have ih := ih (by omega)
    have h1 := off (x + 1) hx
    have h2 := ln_step hc hN hW hH ha x (by omega)
    have h3 := ln_step hc hN hW hH hb x (by omega)
    omega
theorem path_B {n : Nat} {l : Int → Int} (hW : 1 ≤ W) (hH : 1 ≤ H) (hn : (n : Int) = W) (hl : ∀ x : Int, 0 ≤ x → x < W → 0 ≤ l x ∧ l x < H) (hs : ∀ x : Int, 0 ≤ x → x + 1 < W → l x - 1 ≤ l (x + 1) ∧ l (x + 1) ≤ l x + 1) : isPathB W H n l = true := by
  refine isPathB_iff.2 ⟨⟨hW, hH, hn⟩, fun i i0 i1 => ?_⟩
  have h1 := hl i i0 (by omega)
  unfold stepB
  by_cases h : 0 < i
  · have h2 := hs (i - 1) (by omega) (by omega)
    rw [show i - 1 + 1 = i by omega] at h2
    simp
    omega
  · simp
    omega
end
end Go.Proofs.YtdimlpcbbkokiaaGreat

/- Walk: no path is cheaper than the lines that are found (StaveLeast). -/
namespace Go.Proofs.YtdimlpcbbkokiaaGreat
open Go.RowKit Go.Shelf
set_option linter.unusedVariables false
attribute [local go_sem] Oper.semAt_some

set_option maxHeartbeats 1000000 in
theorem trace_empty (W H : Int) (A : Option Addr) (n c : Nat) (p : Int → Int) (w : World) (hA : ArrB w w.heap.size A n p) (hn : n ≤ maxLen) (hE : chk W H n p = 0) (h : W = 0 ∨ H = 0) :
    Calls Tryz.prog 4 #[.agg #[.int .i64 W, .int .i64 H, .slice A n c]] w fun e w' => e = .returned (.tuple #[.slice none 0 0, .int .i64 0]) ∧ Below w.heap.size w w' := by
  have CK := Lib.hid fun w' hA' => check_any W H A n c p w' hA' hn
  rw [hE] at CK
  have KI : Blk (w.alloc (.cells #[.int .i64 W, .int .i64 H, .slice A n c] 24)) w.heap.size 24 #[.int .i64 W, .int .i64 H, .slice A n c] := Blk.new _ _ _
  have KA := hA.alloc1 (.cells #[.int .i64 W, .int .i64 H, .slice A n c] 24)
  have B1 : Below w.heap.size w (w.alloc (.cells #[.int .i64 W, .int .i64 H, .slice A n c] 24)) := by (repeat (first | exact Below.refl _ _ | assumption | refine Below.drew ?_ | refine below_drewN ?_ _ | refine Below.alloc ?_ (by first | omega | (simp; done) | (simp; omega)) _ | refine Below.setCell ?_ (by first | omega | (simp; done) | (simp; omega)) _ | refine below_setRow ?_ (by first | omega | (simp; done) | (simp; omega)) _ ))
  go_enter Tryz.func4, Tryz.ntmps4
  go_wp2_with fail
  refine (CK.out _ KA).mono ?_
  rintro e w1 ⟨rfl, hb1⟩
  have b1 := below_call B1 B1.size hb1
  have k1 := KI.below' hb1
  clear KI KA B1 hb1
  obtain ⟨q1, q2, q3⟩ := k1.cells3
  by_cases hw : W = 0
  · have bW : (W == 0) = true := by simp [hw]
    have HW := Lib.hid hw
    clear hw h
    go_wp2
    refine bodyPost_ret (results_tmp2 rfl _ _ _) rfl ?_
    exact ⟨rfl, b1⟩
  · have bW : (W == 0) = false := by simp [hw]
    have bH : (H == 0) = true := by have : H = 0 := by omega
                                    simp [this]
    clear hw h
    go_wp2
    refine bodyPost_ret (results_tmp2 rfl _ _ _) rfl ?_
    exact ⟨rfl, b1⟩

theorem cost_of {W H : Int} {N n : Nat} {p l : Int → Int} (hE : chk W H N p = 0) (hI : isPathB W H n l = true) : costE W H N p n l = 0 ∧ costV W H N p n l = costP (cst p W) l n := by
  have h : costE W H N p n l = 0 := by unfold costE; rw [if_neg (by simp [hE]), hI]; rfl
  exact ⟨h, by unfold costV; rw [if_pos h]⟩
theorem IsP.pathB {W H : Int} {l : Nat → Int} (h : IsP W H l W.toNat) (hW : 1 ≤ W) (hH : 1 ≤ H) : isPathB W H W.toNat (fun i => l i.toNat) = true :=
  path_B hW hH (by omega) (fun x x0 x1 => h.1 x.toNat (by omega)) (fun x x0 x1 => by have := h.2 x.toNat (by omega); show l x.toNat - 1 ≤ l (x + 1).toNat ∧ l (x + 1).toNat ≤ l x.toNat + 1; rw [show (x + 1).toNat = x.toNat + 1 by omega]; exact this)
theorem IsP.least {W H : Int} {p : Int → Int} {l : Nat → Int} (h : IsP W H l W.toNat) (hW : 1 ≤ W) (hH : 1 ≤ H) : GC 1073741824 W H (cst p W) 0 ≤ costP (cst p W) (fun i => l i.toNat) W.toNat :=
  least_all (cst_bd p W) (by omega) (by omega) (fun x x0 x1 => h.1 x.toNat (by omega)) (fun x x0 x1 => by have := h.2 x.toNat (by omega); show l x.toNat - 1 ≤ l (x + 1).toNat ∧ l (x + 1).toNat ≤ l x.toNat + 1; rw [show (x + 1).toNat = x.toNat + 1 by omega]; exact this)
theorem sorted_apart {W H : Int} {p : Int → Int} {K : Nat} {L : List Nat} (hW : 1 ≤ W) (hW2 : W ≤ 640) (hH : 1 ≤ H) (hK : Many 1073741824 W H (cst p W) K) (hp : L.Perm (List.range K)) (hs : L.Pairwise (fun i j => LN 1073741824 W H (cst p W) i 0 ≤ LN 1073741824 W H (cst p W) j 0)) {t : Nat} (ht : t + 1 < K) (x : Nat) (hx : (x : Int) < W) :
    LN 1073741824 W H (cst p W) (L.getD t 0) x + 2 < LN 1073741824 W H (cst p W) (L.getD (t + 1) 0) x := by
  have hlen : L.length = K := by rw [hp.length_eq, List.length_range]
  have g1 : L.getD t 0 = L[t]'(by omega) := by rw [List.getD_eq_getElem?_getD, List.getElem?_eq_getElem (by omega)]; rfl
  have g2 : L.getD (t + 1) 0 = L[t + 1]'(by omega) := by rw [List.getD_eq_getElem?_getD, List.getElem?_eq_getElem (by omega)]; rfl
  have hn : L.Nodup := hp.nodup_iff.2 List.nodup_range
  have m1 := List.mem_range.1 (hp.mem_iff.1 (List.getElem_mem (l := L) (n := t) (by omega)))
  have m2 := List.mem_range.1 (hp.mem_iff.1 (List.getElem_mem (l := L) (n := t + 1) (by omega)))
  rw [g1, g2]
  refine ln_apart (cst_bd p W) (by omega) (by omega) (by omega) ?_ (hK.2.1 _ m1).1 (hK.2.1 _ m2).1 (List.pairwise_iff_getElem.1 hs t (t + 1) (by omega) (by omega) (by omega)) x hx
  intro e
  have := (List.pairwise_iff_getElem.1 hn) t (t + 1) (by omega) (by omega) (by omega)
  exact this e
theorem first_in {K : Nat} {L : List Nat} (hp : L.Perm (List.range K)) (hK : 0 < K) : ∃ t, t < K ∧ L.getD t 0 = 0 := by
  have hm : 0 ∈ L := hp.mem_iff.2 (List.mem_range.2 hK)
  obtain ⟨t, ht, e⟩ := List.getElem_of_mem hm
  refine ⟨t, by rw [hp.length_eq, List.length_range] at ht; exact ht, ?_⟩
  rw [List.getD_eq_getElem?_getD, List.getElem?_eq_getElem ht, e]; rfl
theorem ln_pathB {W H : Int} {p : Int → Int} {k : Nat} (hW : 1 ≤ W) (hW2 : W ≤ 640) (hH : 1 ≤ H) (hg : GC 1073741824 W H (cst p W) k < 1073741824) : isPathB W H W.toNat (fun j => LN 1073741824 W H (cst p W) k j.toNat) = true :=
  path_B hW hH (by omega) (fun x x0 x1 => by have := ln_ok (cst_bd p W) (by omega) (by omega) (by omega) hg x.toNat (by omega); exact ⟨this.1, this.2.1⟩)
    (fun x x0 x1 => by have := ln_step (cst_bd p W) (by omega) (by omega) (by omega) hg x.toNat (by omega); show LN _ _ _ _ _ x.toNat - 1 ≤ LN _ _ _ _ _ (x + 1).toNat ∧ LN _ _ _ _ _ (x + 1).toNat ≤ LN _ _ _ _ _ x.toNat + 1; rw [show (x + 1).toNat = x.toNat + 1 by omega]; exact this)
/-- ink in a row of pixels -/
def inkRow (q : Int → Int) (b : Int) (x : Nat) : Int → Int := fun i => if b ≤ i ∧ i < b + x then 1 else q i
theorem Lines3 {w : World} {B K : Nat} {L : List Nat} {W : Int} {ln : Nat → Nat → Int} {vs : Nat → Value} {v : Value} (hr : w.ownsRow B 37 1 v K (L.map vs)) (hl : ∀ i, i < K → w.ownsRow B 3 1 (vs i) W.toNat ((List.range W.toNat).map fun j => Value.int .i64 (ln i j))) (hL : ∀ i ∈ L, i < K) (hW : 0 < W) :
    ∃ A c, v = .slice A K c ∧ L.length = K ∧ ∀ t, t < K → ∃ b off gt ct, A = some ⟨b, off, none⟩ ∧ b < w.heap.size ∧ w.cell? ⟨b, off + t, none⟩ = some (.slice (some ⟨gt, 0, none⟩) W.toNat ct) ∧ ArrI w w.heap.size (some ⟨gt, 0, none⟩) W.toNat (fun j => ln (L.getD t 0) j.toNat) ∧ L.getD t 0 < K := by
  have hlen : L.length = K := by have := hr.1; simpa using this
  obtain ⟨A, c, e, -, ha⟩ := own_arr hr
  refine ⟨A, c, e, hlen, fun t ht => ?_⟩
  obtain ⟨b, off, e1, hb, hc⟩ := Arr.at_ ha (i := (t : Int)) (by omega) (by omega)
  rw [Int.toNat_natCast] at hc
  have hg : L.getD t 0 = L[t]'(by omega) := by rw [List.getD_eq_getElem?_getD, List.getElem?_eq_getElem (by omega)]; rfl
  have hm := hl (L.getD t 0) (hL _ (by rw [hg]; exact List.getElem_mem _))
  obtain ⟨gt, ct, e2⟩ := own_some hm (by omega)
  obtain ⟨A2, c2, e3, ha2⟩ := own_arrI hm
  rw [e2] at e3
  cases e3
  refine ⟨b, off, gt, ct, e1, hb, ?_, ha2, hL _ (by rw [hg]; exact List.getElem_mem _)⟩
  rw [hc, List.getD_eq_getElem?_getD, List.getElem?_map, List.getElem?_eq_getElem (by omega), ← e2, hg]; rfl

end Go.Proofs.YtdimlpcbbkokiaaGreat

/- Walk: the reference's costs of one column (custosref03.rest). -/
namespace Go.Proofs.YtdimlpcbbkokiaaGreat
open Go.RowKit
set_option linter.unusedVariables false
attribute [local go_sem] Oper.semAt_some

/-- a column that is filled from above -/
def upto (f : Int → Int) (y : Int) : Int → Int := fun i => if i < y then f i else 0
theorem upto_step (f : Int → Int) (y a i : Int) : upd (upd (upto f y) y a) y (f y) i = upto f (y + 1) i := by
  unfold upd upto
  by_cases e : i = y
  · subst e; rw [if_pos rfl, if_pos (by omega)]
  · rw [if_neg e, if_neg e]
    by_cases h : i < y
    · rw [if_pos h, if_pos (by omega)]
    · rw [if_neg h, if_neg (by omega)]
theorem upto_same (f : Int → Int) (y i : Int) : upd (upto f y) y (f y) i = upto f (y + 1) i := by
  unfold upd upto
  by_cases e : i = y
  · subst e; rw [if_pos rfl, if_pos (by omega)]
  · rw [if_neg e]
    by_cases h : i < y
    · rw [if_pos h, if_pos (by omega)]
    · rw [if_neg h, if_neg (by omega)]
theorem upd_twice (q : Int → Int) (y a b i : Int) : upd (upd q y a) y b i = upd q y b i := by
  unfold upd; split <;> rfl
theorem upd_self (q : Int → Int) (y a : Int) : upd q y a y = a := by unfold upd; rw [if_pos rfl]
theorem upto_same' {f : Int → Int} {y : Nat} {a : Int} (h : f y = a) (i : Int) : upd (upto f y) y a i = upto f ((y + 1 : Nat) : Int) i := by
  subst h; rw [upto_same]; rfl
theorem upto_step' {f : Int → Int} {y : Nat} {b : Int} (a : Int) (h : f y = b) (i : Int) : upd (upd (upto f y) y a) y b i = upto f ((y + 1 : Nat) : Int) i := by
  subst h; rw [upto_step]; rfl
theorem rcol_bd {M W H : Int} {c : Int → Int → Int} {F : Int → Int → Bool} (hc : ∀ x y, 0 ≤ c x y ∧ c x y ≤ 2) (hM : 3 * W < M) (k : Nat) (hk : (k : Int) < W) (y : Int) (h0 : 0 ≤ y) (h : y < H) : 0 ≤ rcol M W H c F k y ∧ rcol M W H c F k y ≤ M := by
  have := cols_alike (F := F) hc hM hM k hk y h0 h
  unfold Alike at this
  omega
theorem rgo_in {N H cc : Int} {d : Int → Int} {y t : Int} (h0 : 0 ≤ t) (h : t < H) (hd : d t ≠ N) : rgo N H cc d y t = cc + d t + if t = y then 0 else 1 := by
  unfold rgo; rw [if_neg (by omega)]
theorem rgo_out {N H cc : Int} {d : Int → Int} {y t : Int} (h : t < 0 ∨ H ≤ t ∨ d t = N) : rgo N H cc d y t = N := by
  unfold rgo; rw [if_pos h]
theorem mfold_out {N : Int} {f : Int → Int} {lo : Int} {j : Nat} (h : f (lo + j) = N) : mfold N f lo (j + 1) = mfold N f lo j := by
  rw [mfold, h]; have := mfold_le N f lo j; omega

set_option maxRecDepth 100000 in
set_option maxHeartbeats 4000000 in
theorem rest_last (W H : Int) (Hn : Nat) (A A' AA : Option Addr) (n c n' c' m d : Nat) (p fb : Int → Int) (F : Int → Int → Bool) (x : Int) (w : World) (hA : ArrB w w.heap.size A n p) (hE : chk W H n p = 0) (hF : ArrB w w.heap.size A' n' fb) (hn' : (n' : Int) = W * H) (hFF : ∀ x y, 0 ≤ x → x < W → 0 ≤ y → y < H → inkB W H fb x y = F x y)
    (hW : 1 ≤ W) (hHn : (Hn : Int) = H) (hx : x = W - 1) :
    Calls Tryz.prog 70 #[.agg #[.int .i64 W, .int .i64 H, .slice A n c], .int .i64 x, .slice AA m d, .agg #[.int .i64 W, .int .i64 H, .slice A' n' c']] w
      (New w fun v w' => ∃ g, v = .slice (some ⟨g, 0, none⟩) Hn Hn ∧ w.heap.size ≤ g ∧ Blk w' g 3 (i64s Hn (rcol 1000000000 W H (cst p W) F 0))) := by
  obtain ⟨hW1, hW2, hH1, hH2, hnn, -⟩ := chk_ok hE
  have PX := Lib.hid fun (y : Int) w' hA' (y0 : 0 ≤ y) (y1 : y < H) => pixel_any W H A n c p x y w' hA' hE (by omega) (by omega) y0 y1
  have IK := Lib.hid fun (y : Int) w' hA' => rink_any W H A' n' c' fb x y w' hA' hW2 hH2 hn'
  have FF := Lib.hid fun (y : Int) (y0 : 0 ≤ y) (y1 : y < H) => hFF x y (by omega) (by omega) y0 y1
  have RC := Lib.hid fun (y : Int) => (show rcol 1000000000 W H (cst p W) F 0 y = if F (W - 1) y then 1000000000 else cst p W (W - 1) y from by rw [rcol])
  have hmk := makeI (Hn : Int) (by omega) (by omega)
  rw [Int.toNat_natCast] at hmk
  have exx : (x == W - 1) = true := by simp [hx]
  have vW : IntKind.i64.wrap (W - 1) = W - 1 := IntWalk.i64_in _ (by omega)
  have HX := Lib.hid hx
  have HHn := Lib.hid hHn
  rw [← HHn.out]
  rw [← HHn.out] at hH1 hH2 PX FF IK RC
  clear hx hnn hFF hE hn' hHn
  go_enter Tryz.func70, Tryz.ntmps70
  go_wp2_with fail
  have k4 : Blk (((w.alloc (.cells #[.int .i64 W, .int .i64 Hn, .slice A n c] 24)).alloc (.cells #[.int .i64 W, .int .i64 Hn, .slice A' n' c'] 24)).alloc (.cells (i64s Hn fun _ => 0) 3)) w.heap.size 24 #[.int .i64 W, .int .i64 Hn, .slice A n c] := ((Blk.new _ _ _).alloc _).alloc _
  have k7 : Blk (((w.alloc (.cells #[.int .i64 W, .int .i64 Hn, .slice A n c] 24)).alloc (.cells #[.int .i64 W, .int .i64 Hn, .slice A' n' c'] 24)).alloc (.cells (i64s Hn fun _ => 0) 3)) (w.heap.size + 1) 24 #[.int .i64 W, .int .i64 Hn, .slice A' n' c'] := (Blk.new' (by simp) _ _).alloc _
  have k9 : Blk (((w.alloc (.cells #[.int .i64 W, .int .i64 Hn, .slice A n c] 24)).alloc (.cells #[.int .i64 W, .int .i64 Hn, .slice A' n' c'] 24)).alloc (.cells (i64s Hn fun _ => 0) 3)) (w.heap.size + 1 + 1) 3 (i64s Hn (upto (rcol 1000000000 W Hn (cst p W) F 0) 0)) := (Blk.new' (by simp) _ _).i64conv fun j j0 _ => by unfold upto; rw [if_neg (by omega)]
  have b1 : Below w.heap.size w (((w.alloc (.cells #[.int .i64 W, .int .i64 Hn, .slice A n c] 24)).alloc (.cells #[.int .i64 W, .int .i64 Hn, .slice A' n' c'] 24)).alloc (.cells (i64s Hn fun _ => 0) 3)) := by (repeat (first | exact Below.refl _ _ | assumption | refine Below.drew ?_ | refine below_drewN ?_ _ | refine Below.alloc ?_ (by first | omega | (simp; done) | (simp; omega)) _ | refine Below.setCell ?_ (by first | omega | (simp; done) | (simp; omega)) _ | refine below_setRow ?_ (by first | omega | (simp; done) | (simp; omega)) _ ))
  generalize ((w.alloc (.cells #[.int .i64 W, .int .i64 Hn, .slice A n c] 24)).alloc (.cells #[.int .i64 W, .int .i64 Hn, .slice A' n' c'] 24)).alloc (.cells (i64s Hn fun _ => 0) 3) = w1 at *
  go_loopw [10] (fun s wr => ∃ y : Nat, y ≤ Hn ∧ s = .int .i64 y ∧ Below w.heap.size w wr ∧ Blk wr w.heap.size 24 #[.int .i64 W, .int .i64 Hn, .slice A n c] ∧ Blk wr (w.heap.size + 1) 24 #[.int .i64 W, .int .i64 Hn, .slice A' n' c'] ∧ Blk wr (w.heap.size + 1 + 1) 3 (i64s Hn (upto (rcol 1000000000 W Hn (cst p W) F 0) y))) (fun s _ => Hn - (intOf s).toNat)
  case atStart => exact ⟨0, by omega, rfl, b1, k4, k7, k9⟩
  case round =>
    obtain ⟨y, hy, rfl, b2, q4, q7, q9⟩ := hrel
    clear b1 k4 k7 k9
    obtain ⟨p1, p2, p3⟩ := q4.cells3
    obtain ⟨r1, r2, r3⟩ := q7.cells3
    by_cases hlt : (y : Int) < (Hn : Int)
    · have y0 : (0 : Int) ≤ (y : Int) := by omega
      have f9 := q9.frozen y
      have c9 := q9.i64at y0 hlt
      rw [Int.toNat_natCast] at c9
      have q9' := q9.i64set y y0 1000000000
      rw [Int.toNat_natCast] at q9'
      have q4' := q4.far (p := ⟨w.heap.size + 1 + 1, y, none⟩) (by show w.heap.size ≠ w.heap.size + 1 + 1; omega) (.int .i64 1000000000)
      have q7' := q7.far (p := ⟨w.heap.size + 1 + 1, y, none⟩) (by show w.heap.size + 1 ≠ w.heap.size + 1 + 1; omega) (.int .i64 1000000000)
      have b2' : Below w.heap.size w (wr.setCell ⟨w.heap.size + 1 + 1, y, none⟩ (.int .i64 1000000000)) := b2.setCell (by show w.heap.size ≤ w.heap.size + 1 + 1; omega) _
      obtain ⟨s1, s2, s3⟩ := q4'.cells3
      obtain ⟨t1, t2, t3⟩ := q7'.cells3
      have IKy := Lib.hid fun w' hA' => IK.out y w' hA'
      rw [FF.out y y0 hlt] at IKy
      have PXy := Lib.hid fun w' hA' => PX.out y w' hA' y0 hlt
      have RCy := Lib.hid (RC.out y)
      cases hFy : F x y with
      | true =>
        rw [← HX.out, if_pos hFy] at RCy
        rw [hFy] at IKy
        clear hFy
        go_wp2_with fail
        refine (IKy.out _ (hF.to b2')).mono ?_
        rintro e w2 ⟨rfl, hb2⟩
        have b3 := below_call b2' b2'.size hb2
        have q4 := q4'.below' hb2
        have q7 := q7'.below' hb2
        have q9 := q9'.below' hb2
        clear b2 b2' hb2 q4' q7' q9' p1 p2 p3 r1 r2 r3 s1 s2 s3 t1 t2 t3 c9 f9
        obtain ⟨p1, p2, p3⟩ := q4.cells3
        go_wp2_with fail
        go_roundw
        case rel => exact ⟨y + 1, by omega, by go_num, b3, q4, q7, q9.i64conv fun j _ _ => upto_same' RCy.out j⟩
        case measure => simp [intOf]; omega
      | false =>
        rw [← HX.out, if_neg (by rw [hFy]; simp)] at RCy
        rw [hFy] at IKy
        clear hFy
        go_wp2_with fail
        refine (IKy.out _ (hF.to b2')).mono ?_
        rintro e w2 ⟨rfl, hb2⟩
        have b3 := below_call b2' b2'.size hb2
        have q4 := q4'.below' hb2
        have q7 := q7'.below' hb2
        have q9 := q9'.below' hb2
        clear b2 b2' hb2 q4' q7' q9' p1 p2 p3 r1 r2 r3 s1 s2 s3 t1 t2 t3 c9 f9
        obtain ⟨p1, p2, p3⟩ := q4.cells3
        go_wp2_with fail
        refine (PXy.out _ (hA.to b3)).mono ?_
        rintro e w3 ⟨rfl, hb3⟩
        have b4 := below_call b3 b3.size hb3
        have m4 := q4.below' hb3
        have m7 := q7.below' hb3
        have m9 := q9.below' hb3
        clear b3 hb3 q4 q7 q9 p1 p2 p3
        have f9 := m9.frozen y
        have c9 := m9.i64at y0 hlt
        rw [Int.toNat_natCast] at c9
        have m9' := m9.i64set y y0 (cst p W x y)
        rw [Int.toNat_natCast] at m9'
        generalize hcy : cst p W x y = cy at *
        have HC := Lib.hid hcy
        clear hcy
        go_wp2_with fail
        go_roundw
        case rel => exact ⟨y + 1, by omega, by go_num, b4.setCell (by show w.heap.size ≤ w.heap.size + 1 + 1; omega) _, m4.far (p := ⟨w.heap.size + 1 + 1, y, none⟩) (by show w.heap.size ≠ w.heap.size + 1 + 1; omega) _, m7.far (p := ⟨w.heap.size + 1 + 1, y, none⟩) (by show w.heap.size + 1 ≠ w.heap.size + 1 + 1; omega) _, m9'.i64conv fun j _ _ => upto_step' _ RCy.out j⟩
        case measure => simp [intOf]; omega
    · obtain rfl : y = Hn := by omega
      go_wp2
      go_ret
      exact ⟨_, rfl, ⟨_, rfl, by omega, q9.i64conv fun j j0 j1 => by unfold upto; rw [if_pos j1]⟩, b2⟩
end Go.Proofs.YtdimlpcbbkokiaaGreat

/- Walk: the reference's costs of a column that is not the last one (custosref03.rest). -/
namespace Go.Proofs.YtdimlpcbbkokiaaGreat
open Go.RowKit
set_option linter.unusedVariables false
attribute [local go_sem] Oper.semAt_some

theorem min_if (a b : Int) : min a b = if b < a then b else a := by split <;> omega
set_option maxRecDepth 100000 in
set_option maxHeartbeats 4000000 in
theorem rest_step (W H : Int) (Hn : Nat) (A A' AA : Option Addr) (n c n' c' d : Nat) (p fb : Int → Int) (F : Int → Int → Bool) (x : Int) (w : World) (hA : ArrB w w.heap.size A n p) (hE : chk W H n p = 0) (hF : ArrB w w.heap.size A' n' fb) (hn' : (n' : Int) = W * H) (hFF : ∀ x y, 0 ≤ x → x < W → 0 ≤ y → y < H → inkB W H fb x y = F x y)
    (hW : 1 ≤ W) (hHn : (Hn : Int) = H) (k : Nat) (hk : (k : Int) + 1 < W) (hx : x = W - 1 - (k + 1 : Nat)) (hAA : ArrI w w.heap.size AA Hn (rcol 1000000000 W H (cst p W) F k)) :
    Calls Tryz.prog 70 #[.agg #[.int .i64 W, .int .i64 H, .slice A n c], .int .i64 x, .slice AA Hn d, .agg #[.int .i64 W, .int .i64 H, .slice A' n' c']] w
      (New w fun v w' => ∃ g, v = .slice (some ⟨g, 0, none⟩) Hn Hn ∧ w.heap.size ≤ g ∧ Blk w' g 3 (i64s Hn (rcol 1000000000 W H (cst p W) F (k + 1)))) := by
  obtain ⟨hW1, hW2, hH1, hH2, hnn, -⟩ := chk_ok hE
  have PX := Lib.hid fun (y : Int) w' hA' (y0 : 0 ≤ y) (y1 : y < H) => pixel_any W H A n c p x y w' hA' hE (by omega) (by omega) y0 y1
  have IK := Lib.hid fun (y : Int) w' hA' => rink_any W H A' n' c' fb x y w' hA' hW2 hH2 hn'
  have FF := Lib.hid fun (y : Int) (y0 : 0 ≤ y) (y1 : y < H) => hFF x y (by omega) (by omega) y0 y1
  have RC := Lib.hid fun (y : Int) => (show rcol 1000000000 W H (cst p W) F (k + 1) y = if F (W - 1 - (k + 1 : Nat)) y then 1000000000 else mfold 1000000000 (rgo 1000000000 H (cst p W (W - 1 - (k + 1 : Nat)) y) (rcol 1000000000 W H (cst p W) F k) y) (y - 1) 3 from by rw [rcol])
  have EB := Lib.hid fun (y : Int) (y0 : 0 ≤ y) (y1 : y < H) => rcol_bd (M := 1000000000) (W := W) (H := H) (F := F) (cst_bd p W) (by omega) k (by omega) y y0 y1
  have CB := Lib.hid fun (y : Int) => cst_bd p W x y
  have hmk := makeI (Hn : Int) (by omega) (by omega)
  rw [Int.toNat_natCast] at hmk
  have exx : (x == W - 1) = false := by simp; omega
  have vW : IntKind.i64.wrap (W - 1) = W - 1 := IntWalk.i64_in _ (by omega)
  have HX := Lib.hid hx
  have HHn := Lib.hid hHn
  rw [← HHn.out]
  rw [← HHn.out] at hH1 hH2 PX FF IK RC EB hAA
  clear hx hnn hFF hE hn' hHn
  go_enter Tryz.func70, Tryz.ntmps70
  go_wp2_with fail
  have k4 : Blk (((w.alloc (.cells #[.int .i64 W, .int .i64 Hn, .slice A n c] 24)).alloc (.cells #[.int .i64 W, .int .i64 Hn, .slice A' n' c'] 24)).alloc (.cells (i64s Hn fun _ => 0) 3)) w.heap.size 24 #[.int .i64 W, .int .i64 Hn, .slice A n c] := ((Blk.new _ _ _).alloc _).alloc _
  have k7 : Blk (((w.alloc (.cells #[.int .i64 W, .int .i64 Hn, .slice A n c] 24)).alloc (.cells #[.int .i64 W, .int .i64 Hn, .slice A' n' c'] 24)).alloc (.cells (i64s Hn fun _ => 0) 3)) (w.heap.size + 1) 24 #[.int .i64 W, .int .i64 Hn, .slice A' n' c'] := (Blk.new' (by simp) _ _).alloc _
  have k9 : Blk (((w.alloc (.cells #[.int .i64 W, .int .i64 Hn, .slice A n c] 24)).alloc (.cells #[.int .i64 W, .int .i64 Hn, .slice A' n' c'] 24)).alloc (.cells (i64s Hn fun _ => 0) 3)) (w.heap.size + 1 + 1) 3 (i64s Hn (upto (rcol 1000000000 W Hn (cst p W) F (k + 1)) 0)) := (Blk.new' (by simp) _ _).i64conv fun j j0 _ => by unfold upto; rw [if_neg (by omega)]
  have b1 : Below w.heap.size w (((w.alloc (.cells #[.int .i64 W, .int .i64 Hn, .slice A n c] 24)).alloc (.cells #[.int .i64 W, .int .i64 Hn, .slice A' n' c'] 24)).alloc (.cells (i64s Hn fun _ => 0) 3)) := by (repeat (first | exact Below.refl _ _ | assumption | refine Below.drew ?_ | refine below_drewN ?_ _ | refine Below.alloc ?_ (by first | omega | (simp; done) | (simp; omega)) _ | refine Below.setCell ?_ (by first | omega | (simp; done) | (simp; omega)) _ | refine below_setRow ?_ (by first | omega | (simp; done) | (simp; omega)) _ ))
  generalize ((w.alloc (.cells #[.int .i64 W, .int .i64 Hn, .slice A n c] 24)).alloc (.cells #[.int .i64 W, .int .i64 Hn, .slice A' n' c'] 24)).alloc (.cells (i64s Hn fun _ => 0) 3) = w1 at *
  go_loopw [10] (fun s wr => ∃ y : Nat, y ≤ Hn ∧ s = .int .i64 y ∧ Below w.heap.size w wr ∧ Blk wr w.heap.size 24 #[.int .i64 W, .int .i64 Hn, .slice A n c] ∧ Blk wr (w.heap.size + 1) 24 #[.int .i64 W, .int .i64 Hn, .slice A' n' c'] ∧ Blk wr (w.heap.size + 1 + 1) 3 (i64s Hn (upto (rcol 1000000000 W Hn (cst p W) F (k + 1)) y))) (fun s _ => Hn - (intOf s).toNat)
  case atStart => exact ⟨0, by omega, rfl, b1, k4, k7, k9⟩
  case round =>
    obtain ⟨y, hy, rfl, b2, q4, q7, q9⟩ := hrel
    clear b1 k4 k7 k9
    obtain ⟨p1, p2, p3⟩ := q4.cells3
    obtain ⟨r1, r2, r3⟩ := q7.cells3
    by_cases hlt : (y : Int) < (Hn : Int)
    · have y0 : (0 : Int) ≤ (y : Int) := by omega
      have f9 := q9.frozen y
      have c9 := q9.i64at y0 hlt
      rw [Int.toNat_natCast] at c9
      have q9' := q9.i64set y y0 1000000000
      rw [Int.toNat_natCast] at q9'
      have q4' := q4.far (p := ⟨w.heap.size + 1 + 1, y, none⟩) (by show w.heap.size ≠ w.heap.size + 1 + 1; omega) (.int .i64 1000000000)
      have q7' := q7.far (p := ⟨w.heap.size + 1 + 1, y, none⟩) (by show w.heap.size + 1 ≠ w.heap.size + 1 + 1; omega) (.int .i64 1000000000)
      have b2' : Below w.heap.size w (wr.setCell ⟨w.heap.size + 1 + 1, y, none⟩ (.int .i64 1000000000)) := b2.setCell (by show w.heap.size ≤ w.heap.size + 1 + 1; omega) _
      obtain ⟨s1, s2, s3⟩ := q4'.cells3
      obtain ⟨t1, t2, t3⟩ := q7'.cells3
      have IKy := Lib.hid fun w' hA' => IK.out y w' hA'
      rw [FF.out y y0 hlt] at IKy
      have PXy := Lib.hid fun w' hA' => PX.out y w' hA' y0 hlt
      have RCy := Lib.hid (RC.out y)
      cases hFy : F x y with
      | true =>
        rw [← HX.out, if_pos hFy] at RCy
        rw [hFy] at IKy
        clear hFy
        go_wp2_with fail
        refine (IKy.out _ (hF.to b2')).mono ?_
        rintro e w2 ⟨rfl, hb2⟩
        have b3 := below_call b2' b2'.size hb2
        have q4 := q4'.below' hb2
        have q7 := q7'.below' hb2
        have q9 := q9'.below' hb2
        clear b2 b2' hb2 q4' q7' q9' p1 p2 p3 r1 r2 r3 s1 s2 s3 t1 t2 t3 c9 f9
        obtain ⟨p1, p2, p3⟩ := q4.cells3
        go_wp2_with fail
        go_roundw
        case rel => exact ⟨y + 1, by omega, by go_num, b3, q4, q7, q9.i64conv fun j _ _ => upto_same' RCy.out j⟩
        case measure => simp [intOf]; omega
      | false =>
        rw [← HX.out, if_neg (by rw [hFy]; simp)] at RCy
        rw [hFy] at IKy
        clear hFy
        go_wp2_with fail
        refine (IKy.out _ (hF.to b2')).mono ?_
        rintro e w2 ⟨rfl, hb2⟩
        have b3 := below_call b2' b2'.size hb2
        have q4 := q4'.below' hb2
        have q7 := q7'.below' hb2
        have q9 := q9'.below' hb2
        clear b2 b2' hb2 q4' q7' q9' p1 p2 p3 r1 r2 r3 s1 s2 s3 t1 t2 t3 c9 f9
        obtain ⟨p1, p2, p3⟩ := q4.cells3
        go_wp2_with fail
        have cb := CB.out y
        obtain ⟨cb1, cb2⟩ := cb
        generalize hcy : cst p W x y = cy at *
        have HCY := Lib.hid hcy
        obtain ⟨f, hf⟩ : ∃ f, f = rcol 1000000000 W Hn (cst p W) F (k + 1) := ⟨_, rfl⟩
        obtain ⟨e, he⟩ : ∃ e, e = rcol 1000000000 W Hn (cst p W) F k := ⟨_, rfl⟩
        rw [← hf] at q9 RCy
        rw [← he] at RCy EB hAA
        obtain ⟨bA, oA, rfl, hbA, hcA⟩ := ArrI.fn hAA (by omega)
        have HCA := Lib.hid hcA
        have vy : IntKind.i64.wrap ((y : Int) - 1) = (y : Int) - 1 := IntWalk.i64_in _ (by omega)
        have HF2 := Lib.hid hf
        have HE2 := Lib.hid he
        clear hcy hf he hcA hAA
        go_loopw [11] (fun s wr => ∃ j : Nat, j ≤ 3 ∧ s = .int .i64 ((y : Int) - 1 + j) ∧ Below w.heap.size w wr ∧ Blk wr w.heap.size 24 #[.int .i64 W, .int .i64 Hn, .slice A n c] ∧ Blk wr (w.heap.size + 1) 24 #[.int .i64 W, .int .i64 Hn, .slice A' n' c'] ∧ Blk wr (w.heap.size + 1 + 1) 3 (i64s Hn (upd (upto f y) y (mfold 1000000000 (rgo 1000000000 Hn cy e y) ((y : Int) - 1) j)))) (fun s _ => ((y : Int) + 2 - intOf s).toNat)
        case atStart => exact ⟨0, by omega, by simp, b3, q4, q7, q9⟩
        case round =>
          obtain ⟨j, hj, rfl, b4, m4, m7, m9⟩ := hrel
          clear b3 q4 q7 q9 p1 p2 p3
          obtain ⟨p1, p2, p3⟩ := m4.cells3
          have u1 : IntKind.i64.wrap ((y : Int) + 1) = (y : Int) + 1 := IntWalk.i64_in _ (by omega)
          generalize ht : (y : Int) - 1 + j = t at *
          have HT := Lib.hid ht
          have tb : -1 ≤ t ∧ t ≤ 641 := by omega
          obtain ⟨tb1, tb2⟩ := tb
          have u2 : IntKind.i64.wrap (t + 1) = t + 1 := IntWalk.i64_in _ (by omega)
          by_cases j3 : j < 3
          · have tl : t ≤ (y : Int) + 1 := by omega
            by_cases ta : t < 0 ∨ (Hn : Int) ≤ t ∨ e t = 1000000000
            · have MO := Lib.hid (mfold_out (N := 1000000000) (f := rgo 1000000000 Hn cy e y) (lo := (y : Int) - 1) (j := j) (by rw [ht]; exact rgo_out ta))
              clear ht
              by_cases t0 : t < 0
              · go_wp2_with fail
                go_roundw
                case rel => exact ⟨j + 1, by omega, by rw [show (y : Int) - 1 + ((j + 1 : Nat) : Int) = t + 1 by have := HT.out; omega], b4, m4, m7, by rw [MO.out]; exact m9⟩
                case measure => simp [intOf]; omega
              by_cases t1 : (Hn : Int) ≤ t
              · go_wp2_with fail
                go_roundw
                case rel => exact ⟨j + 1, by omega, by rw [show (y : Int) - 1 + ((j + 1 : Nat) : Int) = t + 1 by have := HT.out; omega], b4, m4, m7, by rw [MO.out]; exact m9⟩
                case measure => simp [intOf]; omega
              have te := (ta.resolve_left t0).resolve_left t1
              have ce := (b4.cell (p := ⟨bA, oA + t.toNat, none⟩) hbA).trans (HCA.out t (by omega) (by omega))
              rw [te] at ce
              have t2 : 0 ≤ t := by omega
              have t3 : t < (Hn : Int) := by omega
              clear ta te t0 t1
              go_wp2_with fail
              go_roundw
              case rel => exact ⟨j + 1, by omega, by rw [show (y : Int) - 1 + ((j + 1 : Nat) : Int) = t + 1 by have := HT.out; omega], b4, m4, m7, by rw [MO.out]; exact m9⟩
              case measure => simp [intOf]; omega
            · have t2 : 0 ≤ t := by omega
              have t3 : t < (Hn : Int) := by omega
              have ne : ¬ e t = 1000000000 := by omega
              have RG := Lib.hid (rgo_in (cc := cy) (y := (y : Int)) t2 t3 ne)
              have eb := EB.out t t2 t3
              have ce := (b4.cell (p := ⟨bA, oA + t.toNat, none⟩) hbA).trans (HCA.out t t2 t3)
              generalize e t = et at *
              have ne' : (et == 1000000000) = false := by simp [ne]
              have ne'' : (et != 1000000000) = true := by simp [ne]
              have MF : Hid (mfold 1000000000 (rgo 1000000000 Hn cy e y) ((y : Int) - 1) (j + 1) = min (mfold 1000000000 (rgo 1000000000 Hn cy e y) ((y : Int) - 1) j) (cy + et + if t = y then 0 else 1)) := by
                show _ = _
                rw [mfold, ht, RG.out]
              have f9 := m9.frozen y
              have c9 := m9.i64at y0 hlt
              rw [Int.toNat_natCast, upd_self] at c9
              have mb := mfold_le 1000000000 (rgo 1000000000 Hn cy e y) ((y : Int) - 1) j
              generalize hS : mfold 1000000000 (rgo 1000000000 Hn cy e y) ((y : Int) - 1) j = S at *
              have US := Lib.hid fun v => m9.i64set y y0 v
              rw [Int.toNat_natCast] at US
              have u3 : IntKind.i64.wrap (cy + et) = cy + et := IntWalk.i64_in _ (by omega)
              have u4 : IntKind.i64.wrap (cy + et + 1) = cy + et + 1 := IntWalk.i64_in _ (by omega)
              have B4 := Lib.hid b4; have M4 := Lib.hid m4; have M7 := Lib.hid m7; have M9 := Lib.hid m9
              clear ta ne ht hS
              go_wp2_with fail
              go_region_held3 (fun w' => w'.cell? ⟨w.heap.size, 0, none⟩ = some (.int .i64 W) ∧ w'.cell? ⟨w.heap.size, 1, none⟩ = some (.int .i64 Hn) ∧ w'.cell? ⟨w.heap.size, 2, none⟩ = some (.slice A n c) ∧ w'.cell? ⟨bA, oA + t.toNat, none⟩ = some (.int .i64 et))
                (simp [go_sem, *])
                ((go_at_call 71
                  refine (PXy.out _ (hA.to B4.out.drew)).mono ?_
                  rintro e w4 ⟨rfl, hb4⟩
                  have b5 := below_call B4.out.drew B4.out.drew.size hb4
                  have k4 := M4.out.drew.below' hb4
                  have k7 := M7.out.drew.below' hb4
                  have k9 := M9.out.drew.below' hb4
                  obtain ⟨x1, x2, x3⟩ := k4.cells3
                  have x4 : w4.cell? ⟨bA, oA + t.toNat, none⟩ = some (.int .i64 et) := (hb4.cell (p := ⟨bA, oA + t.toNat, none⟩) (by show bA < _; have := B4.out.drew.size; omega)).trans ce))
              clear b4 m4 m7 m9 US f9 c9 p1 p2 p3 ce
              have f9 := k9.frozen y
              have c9 := k9.i64at y0 hlt
              rw [Int.toNat_natCast, upd_self] at c9
              by_cases ty : t = y
              · rw [if_pos ty, Int.add_zero] at MF
                have tb' : (t != (y : Int)) = false := by simp [ty]
                have HTY := Lib.hid ty
                clear ty u4
                have US := k9.i64set y y0 (if cy + et < S then cy + et else S)
                rw [Int.toNat_natCast] at US
                go_wp2_with fail
                go_roundw
                case rel => exact ⟨j + 1, by omega, by rw [show (y : Int) - 1 + ((j + 1 : Nat) : Int) = t + 1 by have := HT.out; omega], b5.setCell (by show w.heap.size ≤ w.heap.size + 1 + 1; omega) _, k4.far (p := ⟨w.heap.size + 1 + 1, y, none⟩) (by show w.heap.size ≠ w.heap.size + 1 + 1; omega) _, k7.far (p := ⟨w.heap.size + 1 + 1, y, none⟩) (by show w.heap.size + 1 ≠ w.heap.size + 1 + 1; omega) _, by rw [MF.out, min_if]; exact US.i64conv fun i _ _ => upd_twice _ _ _ _ i⟩
                case measure => simp [intOf]; omega
              · rw [if_neg ty] at MF
                have tb' : (t != (y : Int)) = true := by simp [ty]
                have HTY := Lib.hid ty
                clear ty
                have US := k9.i64set y y0 (if cy + et + 1 < S then cy + et + 1 else S)
                rw [Int.toNat_natCast] at US
                go_wp2_with fail
                go_roundw
                case rel => exact ⟨j + 1, by omega, by rw [show (y : Int) - 1 + ((j + 1 : Nat) : Int) = t + 1 by have := HT.out; omega], b5.setCell (by show w.heap.size ≤ w.heap.size + 1 + 1; omega) _, k4.far (p := ⟨w.heap.size + 1 + 1, y, none⟩) (by show w.heap.size ≠ w.heap.size + 1 + 1; omega) _, k7.far (p := ⟨w.heap.size + 1 + 1, y, none⟩) (by show w.heap.size + 1 ≠ w.heap.size + 1 + 1; omega) _, by rw [MF.out, min_if]; exact US.i64conv fun i _ _ => upd_twice _ _ _ _ i⟩
                case measure => simp [intOf]; omega
          · obtain rfl : j = 3 := by omega
            clear ht
            have RR : f y = mfold 1000000000 (rgo 1000000000 Hn cy e y) ((y : Int) - 1) 3 := RCy.out
            have tl : ¬ t ≤ (y : Int) + 1 := by have := HT.out; omega
            go_wp2_with fail
            go_roundw
            case rel => exact ⟨y + 1, by omega, by go_num, b4, m4, m7, by rw [← HF2.out]; exact m9.i64conv fun i _ _ => upto_same' RR i⟩
            case measure => simp [intOf]; omega
    · obtain rfl : y = Hn := by omega
      go_wp2
      go_ret
      exact ⟨_, rfl, ⟨_, rfl, by omega, q9.i64conv fun j j0 j1 => by unfold upto; rw [if_pos j1]⟩, b2⟩
end Go.Proofs.YtdimlpcbbkokiaaGreat
