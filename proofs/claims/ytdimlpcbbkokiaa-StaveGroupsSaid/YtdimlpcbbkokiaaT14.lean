/- Walks: the least and the greatest of a list of numbers; whether five lines have gaps that are alike (stave.even). -/
import Derived.Test.YtdimlpcbbkokiaaT13
import Derived.Deep.RegionHeld3
import Derived.Deep.AppendLies
namespace Go.Proofs.Ytdimlpcbbkokiaa
open Go.RowKit Go.Shelf
set_option linter.unusedVariables false
attribute [local go_sem] Oper.semAt_some

def minA (q : Int → Int) : Nat → Int
  | 0 => q 0
  | i + 1 => if q ((i : Int) + 1) < minA q i then q ((i : Int) + 1) else minA q i
def maxA (q : Int → Int) : Nat → Int
  | 0 => q 0
  | i + 1 => if maxA q i < q ((i : Int) + 1) then q ((i : Int) + 1) else maxA q i
set_option maxHeartbeats 1000000 in
theorem min_any (A : Option Addr) (n c : Nat) (q : Int → Int) (w : World) (hA : ArrI w w.heap.size A (n + 1) q) (hn : n ≤ 1000000) :
    Calls Try.prog 80 #[.slice A (n + 1) c] w fun e w' => e = .returned (.int .i64 (minA q n)) ∧ w' = w := by
  obtain ⟨b, off, rfl, hb, hc⟩ := ArrI.fn hA (by omega)
  have HC := Lib.hid hc
  have h0 := hc 0 (by omega) (by omega)
  rw [show off + (0 : Int).toNat = off from rfl] at h0
  clear hc hA
  have hn0 : ¬ ((n : Int) + 1 < 1) := by omega
  go_enter Try.func80, Try.ntmps80
  go_wp2
  go_loopw [3, 4] (fun m s wr => ∃ i : Nat, i ≤ n ∧ s = .int .i64 ((i : Int) + 1) ∧ m = .int .i64 (minA q i) ∧ wr = w) (fun _ s _ => n + 1 - (intOf s).toNat)
  case atStart => exact ⟨0, by omega, rfl, rfl, rfl⟩
  case round =>
    obtain ⟨i, hi, rfl, rfl, rfl⟩ := hrel
    by_cases hlt : (i : Int) + 1 < (n : Int) + 1
    · have hr := HC.out ((i : Int) + 1) (by omega) (by omega)
      rw [show ((i : Int) + 1).toNat = i + 1 by omega] at hr
      have FS : Hid (minA q (i + 1) = if q ((i : Int) + 1) < minA q i then q ((i : Int) + 1) else minA q i) := by show _ = _; rfl
      generalize hM : minA q i = M at *
      generalize hQ : q ((i : Int) + 1) = Q at *
      clear hM hQ
      by_cases hl : Q < M
      · rw [if_pos hl] at FS
        go_wp2
        go_roundw
        case rel => exact ⟨i + 1, by omega, by go_num, by (rw [FS.out]; first | done | (congr 1; omega)), by simp⟩
        case measure => simp [intOf]; omega
      · rw [if_neg hl] at FS
        go_wp2
        go_roundw
        case rel => exact ⟨i + 1, by omega, by go_num, by (rw [FS.out]; first | done | (congr 1; omega)), by simp⟩
        case measure => simp [intOf]; omega
    · obtain rfl : i = n := by omega
      go_wp2
      go_ret
      exact ⟨rfl, rfl⟩
set_option maxHeartbeats 1000000 in
theorem max_any (A : Option Addr) (n c : Nat) (q : Int → Int) (w : World) (hA : ArrI w w.heap.size A (n + 1) q) (hn : n ≤ 1000000) :
    Calls Try.prog 81 #[.slice A (n + 1) c] w fun e w' => e = .returned (.int .i64 (maxA q n)) ∧ w' = w := by
  obtain ⟨b, off, rfl, hb, hc⟩ := ArrI.fn hA (by omega)
  have HC := Lib.hid hc
  have h0 := hc 0 (by omega) (by omega)
  rw [show off + (0 : Int).toNat = off from rfl] at h0
  clear hc hA
  have hn0 : ¬ ((n : Int) + 1 < 1) := by omega
  go_enter Try.func81, Try.ntmps81
  go_wp2
  go_loopw [3, 4] (fun m s wr => ∃ i : Nat, i ≤ n ∧ s = .int .i64 ((i : Int) + 1) ∧ m = .int .i64 (maxA q i) ∧ wr = w) (fun _ s _ => n + 1 - (intOf s).toNat)
  case atStart => exact ⟨0, by omega, rfl, rfl, rfl⟩
  case round =>
    obtain ⟨i, hi, rfl, rfl, rfl⟩ := hrel
    by_cases hlt : (i : Int) + 1 < (n : Int) + 1
    · have hr := HC.out ((i : Int) + 1) (by omega) (by omega)
      rw [show ((i : Int) + 1).toNat = i + 1 by omega] at hr
      have FS : Hid (maxA q (i + 1) = if maxA q i < q ((i : Int) + 1) then q ((i : Int) + 1) else maxA q i) := by show _ = _; rfl
      generalize hM : maxA q i = M at *
      generalize hQ : q ((i : Int) + 1) = Q at *
      clear hM hQ
      by_cases hl : M < Q
      · rw [if_pos hl] at FS
        go_wp2
        go_roundw
        case rel => exact ⟨i + 1, by omega, by go_num, by (rw [FS.out]; first | done | (congr 1; omega)), by simp⟩
        case measure => simp [intOf]; omega
      · rw [if_neg hl] at FS
        go_wp2
        go_roundw
        case rel => exact ⟨i + 1, by omega, by go_num, by (rw [FS.out]; first | done | (congr 1; omega)), by simp⟩
        case measure => simp [intOf]; omega
    · obtain rfl : i = n := by omega
      go_wp2
      go_ret
      exact ⟨rfl, rfl⟩

/-- lines that came in: a slice of slices -/
def Lines (w : World) (B : Nat) (A : Option Addr) (K : Nat) (m : Nat → Nat) (ln : Nat → Nat → Int) : Prop :=
  ∃ vs : Nat → Value, Arr w B A K (fun j => vs j.toNat) ∧ ∀ i, i < K → ∃ A' c', vs i = .slice A' (m i) c' ∧ ArrI w B A' (m i) (fun j => ln i j.toNat)
theorem Lines.below {w w' : World} {A : Option Addr} {K : Nat} {m : Nat → Nat} {ln : Nat → Nat → Int} (h : Lines w w.heap.size A K m ln) (hb : Below w.heap.size w w') : Lines w' w'.heap.size A K m ln := by
  obtain ⟨vs, h1, h2⟩ := h
  exact ⟨vs, (Arr.below h1 hb).more hb.size, fun i hi => by obtain ⟨A', c', e, ha⟩ := h2 i hi; exact ⟨A', c', e, ha.to hb⟩⟩
theorem Lines.at_ {w : World} {B : Nat} {A : Option Addr} {K : Nat} {m : Nat → Nat} {ln : Nat → Nat → Int} (h : Lines w B A K m ln) {i : Nat} (hi : i < K) :
    ∃ b off A' c', A = some ⟨b, off, none⟩ ∧ b < B ∧ w.cell? ⟨b, off + i, none⟩ = some (.slice A' (m i) c') ∧ ArrI w B A' (m i) (fun j => ln i j.toNat) := by
  obtain ⟨vs, h1, h2⟩ := h
  obtain ⟨b, off, e, hb, hc⟩ := Arr.at_ h1 (i := (i : Int)) (by omega) (by omega)
  rw [Int.toNat_natCast] at hc
  obtain ⟨A', c', e', ha⟩ := h2 i hi
  exact ⟨b, off, A', c', e, hb, by rw [hc, e'], ha⟩

/-- the gaps of lines at both ends, two of a pair of lines -/
def gapF (ln : Nat → Nat → Int) (m : Nat) (j : Nat) : Int := if j % 2 = 0 then ln (j / 2 + 1) 0 - ln (j / 2) 0 else ln (j / 2 + 1) (m - 1) - ln (j / 2) (m - 1)
def evenV (ln : Nat → Nat → Int) (m : Nat) : Bool := decide (2 ≤ minA (fun j => gapF ln m j.toNat) 7 ∧ maxA (fun j => gapF ln m j.toNat) 7 ≤ 64 ∧ maxA (fun j => gapF ln m j.toNat) 7 - minA (fun j => gapF ln m j.toNat) 7 ≤ 2)
def evenB (m : Nat → Nat) (ln : Nat → Nat → Int) : Bool := ((List.range 5).all fun i => decide (0 < m i ∧ m i = m 0)) && evenV ln (m 0)
theorem gap_snoc (ln : Nat → Nat → Int) (m i : Nat) : (List.range (2 * (i + 1))).map (fun j => Value.int .i64 (gapF ln m j)) = (List.range (2 * i)).map (fun j => Value.int .i64 (gapF ln m j)) ++ [.int .i64 (ln (i + 1) 0 - ln i 0), .int .i64 (ln (i + 1) (m - 1) - ln i (m - 1))] := by
  rw [show 2 * (i + 1) = 2 * i + 1 + 1 by omega, range_snoc, range_snoc, List.append_assoc]
  have e1 : gapF ln m (2 * i) = ln (i + 1) 0 - ln i 0 := by unfold gapF; rw [if_pos (by omega), show 2 * i / 2 = i by omega]
  have e2 : gapF ln m (2 * i + 1) = ln (i + 1) (m - 1) - ln i (m - 1) := by unfold gapF; rw [if_neg (by omega), show (2 * i + 1) / 2 = i by omega]
  rw [e1, e2]; rfl
theorem minA_bd {q : Int → Int} {b : Int} (n : Nat) (h : ∀ i : Int, 0 ≤ i → i ≤ n → -b ≤ q i ∧ q i ≤ b) : -b ≤ minA q n ∧ minA q n ≤ b := by
  induction n with
  | zero => exact h 0 (by omega) (by omega)
  | succ n ih =>
    have := ih fun i a c => h i a (by omega)
    have := h ((n : Int) + 1) (by omega) (by omega)
    rw [minA]; split <;> omega
theorem maxA_bd {q : Int → Int} {b : Int} (n : Nat) (h : ∀ i : Int, 0 ≤ i → i ≤ n → -b ≤ q i ∧ q i ≤ b) : -b ≤ maxA q n ∧ maxA q n ≤ b := by
  induction n with
  | zero => exact h 0 (by omega) (by omega)
  | succ n ih =>
    have := ih fun i a c => h i a (by omega)
    have := h ((n : Int) + 1) (by omega) (by omega)
    rw [maxA]; split <;> omega

set_option maxRecDepth 100000 in
set_option maxHeartbeats 4000000 in
theorem even_any (A : Option Addr) (c : Nat) (m : Nat → Nat) (ln : Nat → Nat → Int) (w : World) (hL : Lines w w.heap.size A 5 m ln) (hm : ∀ i, i < 5 → m i ≤ 1000000) (hb : ∀ i j, i < 5 → j < m i → -1099511627776 ≤ ln i j ∧ ln i j ≤ 1099511627776) :
    Calls Try.prog 76 #[.slice A 5 c] w fun e w' => e = .returned (.bool (evenB m ln)) ∧ Below w.heap.size w w' := by
  obtain ⟨i0, hi0, hz0', hz1, hz2⟩ := info_parts infoInt
  have HL := Lib.hid hL
  have EV0 : Hid (∀ i, i < 5 → ¬ (0 < m i ∧ m i = m 0) → evenB m ln = false) := by
    show ∀ _, _
    intro i hi hn
    unfold evenB
    rw [Bool.and_eq_false_iff]
    left
    rw [List.all_eq_false]
    exact ⟨i, List.mem_range.2 hi, by simpa using hn⟩
  have EV1 : Hid ((∀ i, i < 5 → 0 < m i ∧ m i = m 0) → evenB m ln = evenV ln (m 0)) := by
    show _ → _
    intro h
    unfold evenB
    rw [show ((List.range 5).all fun i => decide (0 < m i ∧ m i = m 0)) = true from List.all_eq_true.2 fun i hi => decide_eq_true (h i (List.mem_range.1 hi)), Bool.true_and]
  obtain ⟨b, off, A0, c0, rfl, hbB, h0, ha0⟩ := hL.at_ (i := 0) (by omega)
  rw [Nat.add_zero] at h0
  have HM := Lib.hid hm; have HB := Lib.hid hb
  clear hL hm hb ha0
  generalize hm0 : m 0 = m0 at *
  have HM0 := Lib.hid hm0; clear hm0
  have h0 := Lib.hid h0
  go_enter Try.func76, Try.ntmps76
  go_wp2
  go_loopw [3, 11] (fun vo s wr => ∃ i : Nat, i ≤ 5 ∧ s = .int .i64 i ∧ (∀ j, j < i → 0 < m j ∧ m j = m0) ∧ wr.ownsRow w.heap.size 3 1 vo (2 * (i - 1)) ((List.range (2 * (i - 1))).map fun j => Value.int .i64 (gapF ln m0 j)) ∧ Below w.heap.size w wr) (fun _ s _ => 5 - (intOf s).toNat)
  case atStart => exact ⟨0, by omega, rfl, fun j hj => by omega, World.ownsRow_nil _ _ _ _, Below.refl _ _⟩
  case round =>
    obtain ⟨i, hi, rfl, hg, hown, b1⟩ := hrel
    have hz := h0.out
    have hz' := (b1.cell (p := ⟨b, off, none⟩) hbB).trans hz
    clear hz
    by_cases hlt : (i : Int) < 5
    · obtain ⟨b2, off2, A2, c2, e2, -, hc2, ha2⟩ := HL.out.at_ (i := i) (by omega)
      cases e2
      replace hc2 := (b1.cell (p := ⟨b, off + i, none⟩) hbB).trans hc2
      have MI := HM.out i (by omega)
      obtain ⟨mi, hmi⟩ : ∃ mi, m i = mi := ⟨_, rfl⟩
      rw [hmi] at hc2 ha2 MI
      have HMI := Lib.hid hmi
      clear hmi
      by_cases hz0 : mi = 0
      · have E : evenB m ln = false := EV0.out i (by omega) (by rw [HMI.out]; omega)
        subst hz0
        clear hown ha2 hz'
        go_wp2
        go_ret
        exact ⟨by rw [E]; rfl, b1⟩
      · have hz1' : ((mi : Int) == 0) = false := by simp; omega
        have hz2' : ¬ ((mi : Int) = 0) := by omega
        by_cases hzm : mi = m0
        · subst hzm
          have g1 : ∀ j, j < i + 1 → 0 < m j ∧ m j = mi := fun j hj => by
            rcases Nat.lt_succ_iff_lt_or_eq.1 hj with h | rfl
            · exact hg j h
            · exact ⟨by rw [HMI.out]; omega, HMI.out⟩
          have G1 := Lib.hid g1
          clear g1
          by_cases hi0' : i = 0
          · subst hi0'
            clear ha2 hg
            go_wp2
            go_roundw
            case rel => exact ⟨1, by omega, rfl, G1.out, hown, b1⟩
            case measure => simp [intOf]
          · obtain ⟨k, rfl⟩ : ∃ k, i = k + 1 := ⟨i - 1, by omega⟩
            obtain ⟨b4, off4, A4, c4, e4, -, hc4, ha4⟩ := HL.out.at_ (i := k) (by omega)
            cases e4
            replace hc4 := (b1.cell (p := ⟨b, off + k, none⟩) hbB).trans hc4
            rw [(hg k (by omega)).2] at hc4 ha4
            obtain ⟨b3, off3, rfl, hb3, hc3⟩ := ArrI.fn ha2 (by omega)
            obtain ⟨b5, off5, rfl, hb5, hc5⟩ := ArrI.fn ha4 (by omega)
            have x1 := hc3 0 (by omega) (by omega)
            have x2 := hc3 ((mi : Int) - 1) (by omega) (by omega)
            have x3 := hc5 0 (by omega) (by omega)
            have x4 := hc5 ((mi : Int) - 1) (by omega) (by omega)
            rw [show ((mi : Int) - 1).toNat = mi - 1 by omega] at x2 x4
            simp only [Int.toNat_zero, Nat.add_zero] at x1 x3
            replace x1 := (b1.cell (p := ⟨b3, off3, none⟩) hb3).trans x1
            replace x2 := (b1.cell (p := ⟨b3, off3 + (mi - 1), none⟩) hb3).trans x2
            replace x3 := (b1.cell (p := ⟨b5, off5, none⟩) hb5).trans x3
            replace x4 := (b1.cell (p := ⟨b5, off5 + (mi - 1), none⟩) hb5).trans x4
            obtain ⟨y1, y2⟩ := HB.out (k + 1) 0 (by omega) (by rw [HMI.out]; omega)
            obtain ⟨y3, y4⟩ := HB.out (k + 1) (mi - 1) (by omega) (by rw [HMI.out]; omega)
            obtain ⟨y5, y6⟩ := HB.out k 0 (by omega) (by have := hg k (by omega); omega)
            obtain ⟨y7, y8⟩ := HB.out k (mi - 1) (by omega) (by have := hg k (by omega); omega)
            have GS := Lib.hid (gap_snoc ln mi k)
            generalize ln (k + 1) 0 = a1 at *
            generalize ln (k + 1) (mi - 1) = a2 at *
            generalize ln k 0 = a3 at *
            generalize ln k (mi - 1) = a4 at *
            have v1 : IntKind.i64.wrap (a1 - a3) = a1 - a3 := IntWalk.i64_in _ (by omega)
            have v2 : IntKind.i64.wrap (a2 - a4) = a2 - a4 := IntWalk.i64_in _ (by omega)
            have v3 : IntKind.i64.wrap ((mi : Int) - 1) = (mi : Int) - 1 := IntWalk.i64_in _ (by omega)
            clear hc3 hc5 ha2 ha4 hg
            have k1 : (((k + 1 : Nat) : Int)) = (k : Int) + 1 := by omega
            have o3 : u3.ownBlock ≠ some b3 := fun e => by have := own_ge hown e; omega
            have o5 : u3.ownBlock ≠ some b5 := fun e => by have := own_ge hown e; omega
            have n3 := World.new_ne wr _ x1; have n5 := World.new_ne wr _ x3
            have z1 := b1.size
            have j1 : (0 : Int) < (mi : Int) := by omega
            have j2 : (mi : Int) - 1 < (mi : Int) := by omega
            have j3 : (0 : Int) ≤ (mi : Int) - 1 := by omega
            have j4 : 0 < mi := by omega
            have j5 : (1 : Int) ≤ (mi : Int) := by omega
            have j6 : 1 ≤ mi := by omega
            rw [k1]
            go_wp2_with fail
            go_region_held3 (fun w' => w'.cell? ⟨b3, off3, none⟩ = some (.int .i64 a1) ∧ w'.cell? ⟨b3, off3 + (mi - 1), none⟩ = some (.int .i64 a2) ∧ w'.cell? ⟨b5, off5, none⟩ = some (.int .i64 a3) ∧ w'.cell? ⟨b5, off5 + (mi - 1), none⟩ = some (.int .i64 a4))
              (first
                | (simp [go_sem, *]; done)
                | (go_keep; done)
                | (refine ⟨?_, ?_, ?_, ?_⟩
                   · (rw [hgrow.cell_far _ (by simp; omega) (Ne.symm o3)]; first | assumption | (go_keep; done) | (simp [go_sem, *]; done))
                   · (rw [hgrow.cell_far _ (by simp; omega) (Ne.symm o3)]; first | assumption | (go_keep; done) | (simp [go_sem, *]; done))
                   · (rw [hgrow.cell_far _ (by simp; omega) (Ne.symm o5)]; first | assumption | (go_keep; done) | (simp [go_sem, *]; done))
                   · (rw [hgrow.cell_far _ (by simp; omega) (Ne.symm o5)]; first | assumption | (go_keep; done) | (simp [go_sem, *]; done))))
              ((refine step_append_lies _ (by rfl) _ _ _ (by rfl) w.heap.size 3 i0 (.int .i64 0) 1 8 Try.underlying25 hi0 hz0' hz1 hz2 rfl (by omega) u3 _ _ (by rfl) ((hown.alloc _).drew) ⟨wr.heap.size, 0, none⟩ 2 2 [.int .i64 (a1 - a3), .int .i64 (a2 - a4)] (by rfl) (by rfl) (World.news_of_block (cs := #[.int .i64 (a1 - a3), .int .i64 (a2 - a4)]) (t := 3) (fr := (0, 0)) (heap_alloc_new wr _)) (by simp [Value.oneCell']) (by omega) (by unfold maxLen; omega) (by omega) (by simp; omega) (wr.heap.size + 1) (by simp) ?_; intro gg cap w1 hown1 hgrow hat hlt1))
            all_goals
              have b9 : Below w.heap.size w w1 := (show Below w.heap.size w (wr.alloc (.cells #[.int .i64 (a1 - a3), .int .i64 (a2 - a4)] 3)).drew from (b1.alloc b1.size _).drew).grown hgrow (by simp; omega) (fun j hj => (own_ge hown hj).1)
              clear hown hgrow b1 hat x1 x2 x3 x4
              go_wp2
              go_roundw
              case rel => exact ⟨k + 1 + 1, by omega, by go_num, G1.out, by rw [show k + 1 + 1 - 1 = k + 1 from rfl, GS.out]; exact hown1, b9⟩
              case measure => simp [intOf]; omega
        · have E : evenB m ln = false := EV0.out i (by omega) (by rw [HMI.out]; omega)
          have hzm' : ((mi : Int) != (m0 : Int)) = true := by simp; omega
          clear hown ha2
          go_wp2
          go_ret
          exact ⟨by rw [E]; rfl, b1⟩
    · obtain rfl : i = 5 := by omega
      change wr.ownsRow _ _ 1 u3 8 ((List.range 8).map _) at hown
      obtain ⟨A8, c8, rfl, ha8⟩ := own_arrI hown
      have E := EV1.out hg
      have GB : ∀ j : Int, 0 ≤ j → j ≤ (7 : Nat) → -2199023255552 ≤ gapF ln m0 j.toNat ∧ gapF ln m0 j.toNat ≤ 2199023255552 := fun j j0 j1 => by
        have q1 := hg (j.toNat / 2) (by omega)
        have q2 := hg (j.toNat / 2 + 1) (by omega)
        have q3 := HB.out (j.toNat / 2) 0 (by omega) (by omega)
        have q4 := HB.out (j.toNat / 2 + 1) 0 (by omega) (by omega)
        have q5 := HB.out (j.toNat / 2) (m0 - 1) (by omega) (by omega)
        have q6 := HB.out (j.toNat / 2 + 1) (m0 - 1) (by omega) (by omega)
        unfold gapF
        split <;> omega
      obtain ⟨g1, g2⟩ := minA_bd (q := fun j => gapF ln m0 j.toNat) 7 GB
      obtain ⟨g3, g4⟩ := maxA_bd (q := fun j => gapF ln m0 j.toNat) 7 GB
      have MI := Lib.hid fun W ha => min_any A8 7 c8 (fun j => gapF ln m0 j.toNat) W ha (by omega)
      have MA := Lib.hid fun W ha => max_any A8 7 c8 (fun j => gapF ln m0 j.toNat) W ha (by omega)
      unfold evenV at E
      generalize minA (fun j => gapF ln m0 j.toNat) 7 = MN at *
      generalize maxA (fun j => gapF ln m0 j.toNat) 7 = MX at *
      replace E := Lib.hid E
      have v1 : IntKind.i64.wrap (MX - MN) = MX - MN := IntWalk.i64_in _ (by omega)
      clear GB hg hz'
      have HA := Lib.hid ha8
      by_cases c1 : 2 ≤ MN
      · by_cases c2 : MX ≤ 64
        · by_cases c3 : MX - MN ≤ 2
          · have F : Hid (evenB m ln = true) := by show _ = _; rw [E.out]; simp [c1, c2, c3]
            clear E
            go_wp2_with fail
            refine (MI.out _ HA.out).mono ?_
            rintro e w5 ⟨rfl, rfl⟩
            go_wp2_with fail
            refine (MA.out _ HA.out).mono ?_
            rintro e w6 ⟨rfl, rfl⟩
            go_wp2
            go_ret
            exact ⟨by rw [F.out]; first | rfl | exact ret_bool (decide_eq_false (by omega)), b1⟩
          · have F : Hid (evenB m ln = false) := by show _ = _; rw [E.out]; simp [c3]
            clear E
            go_wp2_with fail
            refine (MI.out _ HA.out).mono ?_
            rintro e w5 ⟨rfl, rfl⟩
            go_wp2_with fail
            refine (MA.out _ HA.out).mono ?_
            rintro e w6 ⟨rfl, rfl⟩
            go_wp2
            go_ret
            exact ⟨by rw [F.out]; first | rfl | exact ret_bool (decide_eq_false (by omega)), b1⟩
        · have F : Hid (evenB m ln = false) := by show _ = _; rw [E.out]; simp [c2]
          clear E
          go_wp2_with fail
          refine (MI.out _ HA.out).mono ?_
          rintro e w5 ⟨rfl, rfl⟩
          go_wp2_with fail
          refine (MA.out _ HA.out).mono ?_
          rintro e w6 ⟨rfl, rfl⟩
          go_wp2
          go_ret
          exact ⟨by rw [F.out]; first | rfl | exact ret_bool (decide_eq_false (by omega)), b1⟩
      · have F : Hid (evenB m ln = false) := by show _ = _; rw [E.out]; simp [c1]
        clear E
        go_wp2_with fail
        refine (MI.out _ HA.out).mono ?_
        rintro e w5 ⟨rfl, rfl⟩
        go_wp2_with fail
        refine (MA.out _ HA.out).mono ?_
        rintro e w6 ⟨rfl, rfl⟩
        go_wp2
        go_ret
        exact ⟨by rw [F.out]; first | rfl | exact ret_bool (decide_eq_false (by omega)), b1⟩
end Go.Proofs.Ytdimlpcbbkokiaa
