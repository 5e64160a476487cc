/- Texts of mine in build order: T13, T14, T27, T28, S10, T35, T36, B1, T37. Conditions: each theorem's own. -/
import Derived.Test.YtdimlpcbbkokiaaMStaveRunsx4
import Derived.Deep.RegionHeld3
import Derived.Deep.AppendLies
import Derived.StillTailTactics
import Derived.Lib.LazyBuf
/- Walks: an image with one row of ink (custoslaw03.row), flat lines (custoslaw03.flat), slices.Clone of numbers. -/
namespace Go.Proofs.Ytdimlpcbbkokiaa
open Go.RowKit Go.Shelf
set_option linter.unusedVariables false
attribute [local go_sem] Oper.semAt_some

set_option maxHeartbeats 1000000 in
theorem row_any (hole : Int) (w : World) (h0 : 0 ≤ hole) (h1 : hole < 16) : Calls Try.prog 55 #[.int .i64 hole] w (New w fun v w' => OutN w w' 16 5 80 (rowQ hole) v) := by
  have hmk := makeB 80 (by omega) (by omega)
  rw [show (80 : Int).toNat = 80 from rfl] at hmk
  go_enter Try.func55, Try.ntmps55
  go_wp2
  go_loopw [7] (fun s wr => ∃ i : Nat, i ≤ 16 ∧ s = .int .i64 i ∧ Below w.heap.size w wr ∧ Blk wr w.heap.size 24 #[.int .i64 0, .int .i64 0, .slice none 0 0] ∧
     Blk wr (w.heap.size + 2) 24 #[.int .i64 16, .int .i64 5, .slice (some ⟨w.heap.size + 1, 0, none⟩) 80 80] ∧ Blk wr (w.heap.size + 1) 5 (u8s 80 (fun j => if j < 32 + i then rowQ hole j else 0))) (fun s _ => 16 - (intOf s).toNat)
  case atStart =>
    refine ⟨0, by omega, rfl, by (repeat (first | exact Below.refl _ _ | assumption | refine Below.drew ?_ | refine below_drewN ?_ _ | refine Below.alloc ?_ (by first | omega | (simp; done) | (simp; omega)) _ | refine Below.setCell ?_ (by first | omega | (simp; done) | (simp; omega)) _ | refine below_setRow ?_ (by first | omega | (simp; done) | (simp; omega)) _ )), ?_, ?_, ?_⟩
    · exact ((Blk.new _ _ _).alloc _).alloc _
    · exact Blk.new' (by simp) _ _
    · exact ((Blk.new' (by simp) _ _).alloc _).u8conv fun j h _ => by unfold rowQ; split <;> omega
  case round =>
    obtain ⟨i, hi, rfl, b1, k0, k2, kg⟩ := hrel
    obtain ⟨p1, p2, p3⟩ := k2.cells3
    by_cases hlt : i < 16
    · obtain ⟨J, hJ⟩ : ∃ J : Int, J = 32 + i := ⟨_, rfl⟩
      have v1 : IntKind.i64.wrap (32 + (i : Int)) = J := by rw [hJ]; exact IntWalk.i64_in _ (by omega)
      have J0 : 0 ≤ J := by omega
      have J1 : J < 80 := by omega
      have hr := kg.u8at (i := J) J0 J1
      have hf := kg.frozen J.toNat
      have KS := Lib.hid (kg.u8set J J0 1)
      have HJ := Lib.hid hJ
      clear hJ
      have KG := Lib.hid kg
      clear kg
      have hlt' : (i : Int) < 16 := by omega
      by_cases e : (i : Int) = hole
      · have E := Lib.hid e
        have e' : ((i : Int) != hole) = false := by simp [e]
        clear e
        go_wp2
        go_roundw
        case rel =>
          refine ⟨i + 1, by omega, by go_num, b1, k0, k2, KG.out.u8conv fun j _ _ => ?_⟩
          have := E.out
          by_cases e1 : j < 32 + i
          · rw [if_pos e1, if_pos (by omega)]
          · rw [if_neg e1]
            split
            · unfold rowQ; rw [if_neg (by omega)]
            · rfl
        case measure => simp [intOf]; omega
      · have E := Lib.hid e
        have e' : ((i : Int) != hole) = true := by simp [e]
        clear e
        go_wp2
        go_roundw
        case rel =>
          refine ⟨i + 1, by omega, by go_num, by (repeat (first | exact Below.refl _ _ | assumption | refine Below.drew ?_ | refine below_drewN ?_ _ | refine Below.alloc ?_ (by first | omega | (simp; done) | (simp; omega)) _ | refine Below.setCell ?_ (by first | omega | (simp; done) | (simp; omega)) _ | refine below_setRow ?_ (by first | omega | (simp; done) | (simp; omega)) _ )), k0.far (by simp) _, k2.far (by simp) _, KS.out.u8conv fun j _ _ => ?_⟩
          have := E.out
          have hJ := HJ.out
          show (if j = J then (1 : Int) else if j < 32 + i then rowQ hole j else 0) = _
          by_cases e : j = J
          · rw [if_pos e, if_pos (by omega)]
            unfold rowQ; rw [if_pos (by omega)]
          · rw [if_neg e]
            by_cases e' : j < 32 + i
            · rw [if_pos e', if_pos (by omega)]
            · rw [if_neg e', if_neg (by omega)]
        case measure => simp [intOf]; omega
    · obtain rfl : i = 16 := by omega
      obtain ⟨r1, r2, r3⟩ := k0.cells3
      obtain ⟨f1, f2, f3⟩ := k0.frozen3
      go_wp2
      refine bodyPost_ret (v := .agg #[.int .i64 16, .int .i64 5, .slice (some ⟨w.heap.size + 1, 0, none⟩) 80 80]) (by simp [results, Try.results55, go_sem, r1, r2, r3]) rfl ?_
      exact ⟨_, rfl, OutN.mk (by omega) ((((kg.u8conv fun j _ h => by (split; rfl; unfold rowQ; rw [if_neg (by omega)])).far (by simp) _).far (by simp) _).far (by simp) _), by (repeat (first | exact Below.refl _ _ | assumption | refine Below.drew ?_ | refine below_drewN ?_ _ | refine Below.alloc ?_ (by first | omega | (simp; done) | (simp; omega)) _ | refine Below.setCell ?_ (by first | omega | (simp; done) | (simp; omega)) _ | refine below_setRow ?_ (by first | omega | (simp; done) | (simp; omega)) _ ))⟩

theorem own_i64s {w : World} {g m base : Nat} {q : Int → Int} (h : Blk w g 3 (i64s m q)) (hb : base ≤ g) (hm : m ≤ maxLen) : w.ownsRow base 3 1 (.slice (some ⟨g, 0, none⟩) m m) m ((List.range m).map fun (j : Nat) => Value.int .i64 (q j)) := by
  refine ⟨by simp, .inr ⟨g, m, i64s m q, rfl, hb, h, Nat.le_refl _, hm, by rw [i64s_size, Nat.mul_one], ?_⟩⟩
  rw [Nat.mul_one]
  exact List.take_of_length_le (by simp [i64s, cellsF])
theorem Found.snoc {B m k : Nat} {w w' : World} {ln : Nat → Nat → Int} {vo v' : Value} {v : Nat → Value} {u : Value} (h : Found B w m ln k vo v) (hu : w.ownsRow B 3 1 u m ((List.range m).map fun j => Value.int .i64 (ln k j)))
    (hg : w.grownBy w' vo.ownBlock) (hr : w'.ownsRow B 25 1 v' (k + 1) ((List.range k).map v ++ [u])) : Found B w' m ln (k + 1) v' (fun i => if i = k then u else v i) := by
  refine ⟨?_, fun i hi => ?_⟩
  · rw [range_snoc]
    simp only [if_true]
    rw [show (List.range k).map (fun i => if i = k then u else v i) = (List.range k).map v from List.map_congr_left fun i hi => by rw [if_neg]; have := List.mem_range.1 hi; omega]
    exact hr
  · show World.ownsRow _ _ _ _ (if i = k then _ else v i) _ _
    by_cases e : i = k
    · subst e
      rw [if_pos rfl]
      exact own_grown hu h.row (by decide) hg
    · rw [if_neg e]
      exact own_grown (h.lines i (by omega)) h.row (by decide) hg

set_option maxRecDepth 100000 in
set_option maxHeartbeats 2000000 in
theorem flat_any (m K d : Nat) (R : Option Addr) (r : Int → Int) (w : World) (hR : ArrI w w.heap.size R K r) (hm : m ≤ 1000) (hK : K ≤ 1000) :
    Calls Try.prog 56 #[.int .i64 m, .slice R K d] w (New w fun v w' => ∃ vs, Found w.heap.size w' m (fun i _ => r i) K v vs) := by
  have hmk := makeI (m : Int) (by omega) (by omega)
  rw [Int.toNat_natCast] at hmk
  obtain ⟨i0, hi0, hz0, hz1, hz2⟩ := info_parts infoInts
  go_enter Try.func56, Try.ntmps56
  go_wp2
  go_loopw [5, 12] (fun vo s wr => ∃ (k : Nat) (v : Nat → Value), k ≤ K ∧ s = .int .i64 k ∧ Found w.heap.size wr m (fun i _ => r i) k vo v ∧ Below w.heap.size w wr) (fun _ s _ => K - (intOf s).toNat)
  case atStart => exact ⟨0, fun _ => .slice none 0 0, by omega, rfl, ⟨World.ownsRow_nil _ _ _ _, fun i hi => by omega⟩, Below.refl _ _⟩
  case round =>
    obtain ⟨k, v, hk, rfl, hF, b1⟩ := hrel
    by_cases hlt : (k : Int) < K
    · obtain ⟨b, off, rfl, hb, hc⟩ := ArrI.at_ (ArrI.below hR b1) (i := (k : Int)) (by omega) (by omega)
      rw [Int.toNat_natCast] at hc
      have kl := Blk.new wr 3 (i64s m (fun _ => 0))
      have b2 : Below wr.heap.size wr (wr.alloc (.cells (i64s m (fun _ => 0)) 3)) := (Below.refl _ _).alloc (Nat.le_refl _) _
      have HR := Lib.hid hR
      have zl := b1.size
      clear hR
      obtain ⟨w0, e0⟩ : ∃ w0 : World, w0 = wr := ⟨_, rfl⟩
      subst e0
      go_wp2
      clear hc
      go_loopw [20] (fun s w9 => ∃ x : Nat, x ≤ m ∧ s = .int .i64 x ∧ Below w0.heap.size w0 w9 ∧ Blk w9 w0.heap.size 3 (i64s m (fun j => if j < x then r k else 0))) (fun s _ => m - (intOf s).toNat)
      case atStart => exact ⟨0, by omega, rfl, b2, kl.i64conv fun j h _ => by rw [if_neg (by omega)]⟩
      case round =>
        obtain ⟨x, xm, rfl, b3, kl3⟩ := hrel
        clear b2 kl
        by_cases xl : (x : Int) < m
        · have c1 := kl3.i64at (i := (x : Int)) (by omega) (by omega)
          have f1 := kl3.frozen x
          rw [Int.toNat_natCast] at c1
          have KS := kl3.i64set (x : Int) (by omega) (r k)
          rw [Int.toNat_natCast] at KS
          have KS := Lib.hid KS
          go_wp2
          go_roundw
          case rel =>
            refine ⟨x + 1, by omega, by go_num, by (repeat (first | exact Below.refl _ _ | assumption | refine Below.drew ?_ | refine below_drewN ?_ _ | refine Below.alloc ?_ (by first | omega | (simp; done) | (simp; omega)) _ | refine Below.setCell ?_ (by first | omega | (simp; done) | (simp; omega)) _ | refine below_setRow ?_ (by first | omega | (simp; done) | (simp; omega)) _ )), KS.out.i64conv fun j _ _ => ?_⟩
            show (if j = x then r k else if j < x then r k else 0) = _
            split
            · rw [if_pos (by omega)]
            · by_cases e : j < x
              · rw [if_pos e, if_pos (by omega)]
              · rw [if_neg e, if_neg (by omega)]
          case measure => simp [intOf]; omega
        · obtain rfl : x = m := by omega
          have kl4 := kl3.i64conv (r := fun _ => r k) fun j _ h => by rw [if_pos h]
          clear kl3
          have F2 := hF.below b3
          have b4 := below_call b1 b1.size b3
          have z4 := b4.size
          go_wp2_with (at_builtin; refine wpList_append_own _ rfl (.tmp 28) (.tmp 30) 34 rfl w.heap.size 25 i0 (.slice none 0 0) 1 24 Try.underlying34 hi0 hz0 hz1 hz2 rfl (by decide) _ _ _ rfl (F2.row.alloc _) ⟨wr.heap.size, 0, none⟩ 1 1 [.slice (some ⟨w0.heap.size, 0, none⟩) x x] rfl rfl ?c1 ?c2 ?c3 ?c4 ?c5 ?_)
          try case c1 => exact cell_one_new _ _ _
          case c2 => simp [Value.oneCell']
          case c3 => unfold maxLen; omega
          case c4 => omega
          case c5 => first | omega | (simp; omega)
          intro v' w7 own7 hg7 _
          have F7 := (F2.below ((Below.refl _ _).alloc (Nat.le_refl _) _)).snoc (own_i64s (kl4.alloc _) zl (by unfold maxLen; omega)) hg7 own7
          have b7 : Below w.heap.size w w7 := (show Below w.heap.size w (wr.alloc (.cells #[.slice (some ⟨w0.heap.size, 0, none⟩) x x] 25)) by (repeat (first | exact Below.refl _ _ | assumption | refine Below.drew ?_ | refine below_drewN ?_ _ | refine Below.alloc ?_ (by first | omega | (simp; done) | (simp; omega)) _ | refine Below.setCell ?_ (by first | omega | (simp; done) | (simp; omega)) _ | refine below_setRow ?_ (by first | omega | (simp; done) | (simp; omega)) _ ))).grown hg7 (by simp; omega) (fun j hj => (own_ge F2.row hj).1)
          clear own7 hg7 F2 b3 kl4 b1 hF b4
          go_wp2
          go_roundw
          case rel => exact ⟨k + 1, _, by omega, by go_num, F7, b7⟩
          case measure => simp [intOf]; omega
    · obtain rfl : k = K := by omega
      go_wp2
      go_ret
      exact ⟨_, rfl, ⟨_, hF⟩, b1⟩
end Go.Proofs.Ytdimlpcbbkokiaa

/- Walks: the least and the greatest of a list of numbers; whether five lines have gaps that are alike (stave.even). -/
namespace Go.Proofs.Ytdimlpcbbkokiaa
open Go.RowKit Go.Shelf
set_option linter.unusedVariables false
attribute [local go_sem] Oper.semAt_some

def minA (q : Int → Int) : Nat → Int
  | 0 => q 0
  | i + 1 => if q ((i : Int) + 1) < minA q i then q ((i : Int) + 1) else minA q i
def maxA (q : Int → Int) : Nat → Int
  | 0 => q 0
  | i + 1 => if maxA q i < q ((i : Int) + 1) then q ((i : Int) + 1) else maxA q i
set_option maxHeartbeats 1000000 in
theorem min_any (A : Option Addr) (n c : Nat) (q : Int → Int) (w : World) (hA : ArrI w w.heap.size A (n + 1) q) (hn : n ≤ 1000000) :
    Calls Try.prog 80 #[.slice A (n + 1) c] w fun e w' => e = .returned (.int .i64 (minA q n)) ∧ w' = w := by
  obtain ⟨b, off, rfl, hb, hc⟩ := ArrI.fn hA (by omega)
  have HC := Lib.hid hc
  have h0 := hc 0 (by omega) (by omega)
  rw [show off + (0 : Int).toNat = off from rfl] at h0
  clear hc hA
  have hn0 : ¬ ((n : Int) + 1 < 1) := by omega
  go_enter Try.func80, Try.ntmps80
  go_wp2
  go_loopw [3, 4] (fun m s wr => ∃ i : Nat, i ≤ n ∧ s = .int .i64 ((i : Int) + 1) ∧ m = .int .i64 (minA q i) ∧ wr = w) (fun _ s _ => n + 1 - (intOf s).toNat)
  case atStart => exact ⟨0, by omega, rfl, rfl, rfl⟩
  case round =>
    obtain ⟨i, hi, rfl, rfl, rfl⟩ := hrel
    by_cases hlt : (i : Int) + 1 < (n : Int) + 1
    · have hr := HC.out ((i : Int) + 1) (by omega) (by omega)
      rw [show ((i : Int) + 1).toNat = i + 1 by omega] at hr
      have FS : Hid (minA q (i + 1) = if q ((i : Int) + 1) < minA q i then q ((i : Int) + 1) else minA q i) := by show _ = _; rfl
      generalize hM : minA q i = M at *
      generalize hQ : q ((i : Int) + 1) = Q at *
      clear hM hQ
      by_cases hl : Q < M
      · rw [if_pos hl] at FS
        go_wp2
        go_roundw
        case rel => exact ⟨i + 1, by omega, by go_num, by (rw [FS.out]; first | done | (congr 1; omega)), by simp⟩
        case measure => simp [intOf]; omega
      · rw [if_neg hl] at FS
        go_wp2
        go_roundw
        case rel => exact ⟨i + 1, by omega, by go_num, by (rw [FS.out]; first | done | (congr 1; omega)), by simp⟩
        case measure => simp [intOf]; omega
    · obtain rfl : i = n := by omega
      go_wp2
      go_ret
      exact ⟨rfl, rfl⟩
set_option maxHeartbeats 1000000 in
theorem max_any (A : Option Addr) (n c : Nat) (q : Int → Int) (w : World) (hA : ArrI w w.heap.size A (n + 1) q) (hn : n ≤ 1000000) :
    Calls Try.prog 81 #[.slice A (n + 1) c] w fun e w' => e = .returned (.int .i64 (maxA q n)) ∧ w' = w := by
  obtain ⟨b, off, rfl, hb, hc⟩ := ArrI.fn hA (by omega)
  have HC := Lib.hid hc
  have h0 := hc 0 (by omega) (by omega)
  rw [show off + (0 : Int).toNat = off from rfl] at h0
  clear hc hA
  have hn0 : ¬ ((n : Int) + 1 < 1) := by omega
  go_enter Try.func81, Try.ntmps81
  go_wp2
  go_loopw [3, 4] (fun m s wr => ∃ i : Nat, i ≤ n ∧ s = .int .i64 ((i : Int) + 1) ∧ m = .int .i64 (maxA q i) ∧ wr = w) (fun _ s _ => n + 1 - (intOf s).toNat)
  case atStart => exact ⟨0, by omega, rfl, rfl, rfl⟩
  case round =>
    obtain ⟨i, hi, rfl, rfl, rfl⟩ := hrel
    by_cases hlt : (i : Int) + 1 < (n : Int) + 1
    · have hr := HC.out ((i : Int) + 1) (by omega) (by omega)
      rw [show ((i : Int) + 1).toNat = i + 1 by omega] at hr
      have FS : Hid (maxA q (i + 1) = if maxA q i < q ((i : Int) + 1) then q ((i : Int) + 1) else maxA q i) := by show _ = _; rfl
      generalize hM : maxA q i = M at *
      generalize hQ : q ((i : Int) + 1) = Q at *
      clear hM hQ
      by_cases hl : M < Q
      · rw [if_pos hl] at FS
        go_wp2
        go_roundw
        case rel => exact ⟨i + 1, by omega, by go_num, by (rw [FS.out]; first | done | (congr 1; omega)), by simp⟩
        case measure => simp [intOf]; omega
      · rw [if_neg hl] at FS
        go_wp2
        go_roundw
        case rel => exact ⟨i + 1, by omega, by go_num, by (rw [FS.out]; first | done | (congr 1; omega)), by simp⟩
        case measure => simp [intOf]; omega
    · obtain rfl : i = n := by omega
      go_wp2
      go_ret
      exact ⟨rfl, rfl⟩

/-- lines that came in: a slice of slices -/
def Lines (w : World) (B : Nat) (A : Option Addr) (K : Nat) (m : Nat → Nat) (ln : Nat → Nat → Int) : Prop :=
  ∃ vs : Nat → Value, Arr w B A K (fun j => vs j.toNat) ∧ ∀ i, i < K → ∃ A' c', vs i = .slice A' (m i) c' ∧ ArrI w B A' (m i) (fun j => ln i j.toNat)
theorem Lines.below {w w' : World} {A : Option Addr} {K : Nat} {m : Nat → Nat} {ln : Nat → Nat → Int} (h : Lines w w.heap.size A K m ln) (hb : Below w.heap.size w w') : Lines w' w'.heap.size A K m ln := by
  obtain ⟨vs, h1, h2⟩ := h
  exact ⟨vs, (Arr.below h1 hb).more hb.size, fun i hi => by obtain ⟨A', c', e, ha⟩ := h2 i hi; exact ⟨A', c', e, ha.to hb⟩⟩
theorem Lines.at_ {w : World} {B : Nat} {A : Option Addr} {K : Nat} {m : Nat → Nat} {ln : Nat → Nat → Int} (h : Lines w B A K m ln) {i : Nat} (hi : i < K) :
    ∃ b off A' c', A = some ⟨b, off, none⟩ ∧ b < B ∧ w.cell? ⟨b, off + i, none⟩ = some (.slice A' (m i) c') ∧ ArrI w B A' (m i) (fun j => ln i j.toNat) := by
  obtain ⟨vs, h1, h2⟩ := h
  obtain ⟨b, off, e, hb, hc⟩ := Arr.at_ h1 (i := (i : Int)) (by omega) (by omega)
  rw [Int.toNat_natCast] at hc
  obtain ⟨A', c', e', ha⟩ := h2 i hi
  exact ⟨b, off, A', c', e, hb, by rw [hc, e'], ha⟩

/-- the gaps of lines at both ends, two of a pair of lines -/
def gapF (ln : Nat → Nat → Int) (m : Nat) (j : Nat) : Int := if j % 2 = 0 then ln (j / 2 + 1) 0 - ln (j / 2) 0 else ln (j / 2 + 1) (m - 1) - ln (j / 2) (m - 1)
def evenV (ln : Nat → Nat → Int) (m : Nat) : Bool := decide (2 ≤ minA (fun j => gapF ln m j.toNat) 7 ∧ maxA (fun j => gapF ln m j.toNat) 7 ≤ 64 ∧ maxA (fun j => gapF ln m j.toNat) 7 - minA (fun j => gapF ln m j.toNat) 7 ≤ 2)
def evenB (m : Nat → Nat) (ln : Nat → Nat → Int) : Bool := ((List.range 5).all fun i => decide (0 < m i ∧ m i = m 0)) && evenV ln (m 0)
theorem gap_snoc (ln : Nat → Nat → Int) (m i : Nat) : (List.range (2 * (i + 1))).map (fun j => Value.int .i64 (gapF ln m j)) = (List.range (2 * i)).map (fun j => Value.int .i64 (gapF ln m j)) ++ [.int .i64 (ln (i + 1) 0 - ln i 0), .int .i64 (ln (i + 1) (m - 1) - ln i (m - 1))] := by
  rw [show 2 * (i + 1) = 2 * i + 1 + 1 by omega, range_snoc, range_snoc, List.append_assoc]
  have e1 : gapF ln m (2 * i) = ln (i + 1) 0 - ln i 0 := by unfold gapF; rw [if_pos (by omega), show 2 * i / 2 = i by omega]
  have e2 : gapF ln m (2 * i + 1) = ln (i + 1) (m - 1) - ln i (m - 1) := by unfold gapF; rw [if_neg (by omega), show (2 * i + 1) / 2 = i by omega]
  rw [e1, e2]; rfl
theorem minA_bd {q : Int → Int} {b : Int} (n : Nat) (h : ∀ i : Int, 0 ≤ i → i ≤ n → -b ≤ q i ∧ q i ≤ b) : -b ≤ minA q n ∧ minA q n ≤ b := by
  induction n with
  | zero => exact h 0 (by omega) (by omega)
  | succ n ih =>
    have := ih fun i a c => h i a (by omega)
    have := h ((n : Int) + 1) (by omega) (by omega)
    rw [minA]; split <;> omega
theorem maxA_bd {q : Int → Int} {b : Int} (n : Nat) (h : ∀ i : Int, 0 ≤ i → i ≤ n → -b ≤ q i ∧ q i ≤ b) : -b ≤ maxA q n ∧ maxA q n ≤ b := by
  induction n with
  | zero => exact h 0 (by omega) (by omega)
  | succ n ih =>
    have := ih fun i a c => h i a (by omega)
    have := h ((n : Int) + 1) (by omega) (by omega)
    rw [maxA]; split <;> omega

set_option maxRecDepth 100000 in
set_option maxHeartbeats 4000000 in
theorem even_any (A : Option Addr) (c : Nat) (m : Nat → Nat) (ln : Nat → Nat → Int) (w : World) (hL : Lines w w.heap.size A 5 m ln) (hm : ∀ i, i < 5 → m i ≤ 1000000) (hb : ∀ i j, i < 5 → j < m i → -1099511627776 ≤ ln i j ∧ ln i j ≤ 1099511627776) :
    Calls Try.prog 76 #[.slice A 5 c] w fun e w' => e = .returned (.bool (evenB m ln)) ∧ Below w.heap.size w w' := by
  obtain ⟨i0, hi0, hz0', hz1, hz2⟩ := info_parts infoInt
  have HL := Lib.hid hL
  have EV0 : Hid (∀ i, i < 5 → ¬ (0 < m i ∧ m i = m 0) → evenB m ln = false) := by
    show ∀ _, _
    intro i hi hn
    unfold evenB
    rw [Bool.and_eq_false_iff]
    left
    rw [List.all_eq_false]
    exact ⟨i, List.mem_range.2 hi, by simpa using hn⟩
  have EV1 : Hid ((∀ i, i < 5 → 0 < m i ∧ m i = m 0) → evenB m ln = evenV ln (m 0)) := by
    show _ → _
    intro h
    unfold evenB
    rw [show ((List.range 5).all fun i => decide (0 < m i ∧ m i = m 0)) = true from List.all_eq_true.2 fun i hi => decide_eq_true (h i (List.mem_range.1 hi)), Bool.true_and]
  obtain ⟨b, off, A0, c0, rfl, hbB, h0, ha0⟩ := hL.at_ (i := 0) (by omega)
  rw [Nat.add_zero] at h0
  have HM := Lib.hid hm; have HB := Lib.hid hb
  clear hL hm hb ha0
  generalize hm0 : m 0 = m0 at *
  have HM0 := Lib.hid hm0; clear hm0
  have h0 := Lib.hid h0
  go_enter Try.func76, Try.ntmps76
  go_wp2
  go_loopw [3, 11] (fun vo s wr => ∃ i : Nat, i ≤ 5 ∧ s = .int .i64 i ∧ (∀ j, j < i → 0 < m j ∧ m j = m0) ∧ wr.ownsRow w.heap.size 3 1 vo (2 * (i - 1)) ((List.range (2 * (i - 1))).map fun j => Value.int .i64 (gapF ln m0 j)) ∧ Below w.heap.size w wr) (fun _ s _ => 5 - (intOf s).toNat)
  case atStart => exact ⟨0, by omega, rfl, fun j hj => by omega, World.ownsRow_nil _ _ _ _, Below.refl _ _⟩
  case round =>
    obtain ⟨i, hi, rfl, hg, hown, b1⟩ := hrel
    have hz := h0.out
    have hz' := (b1.cell (p := ⟨b, off, none⟩) hbB).trans hz
    clear hz
    by_cases hlt : (i : Int) < 5
    · obtain ⟨b2, off2, A2, c2, e2, -, hc2, ha2⟩ := HL.out.at_ (i := i) (by omega)
      cases e2
      replace hc2 := (b1.cell (p := ⟨b, off + i, none⟩) hbB).trans hc2
      have MI := HM.out i (by omega)
      obtain ⟨mi, hmi⟩ : ∃ mi, m i = mi := ⟨_, rfl⟩
      rw [hmi] at hc2 ha2 MI
      have HMI := Lib.hid hmi
      clear hmi
      by_cases hz0 : mi = 0
      · have E : evenB m ln = false := EV0.out i (by omega) (by rw [HMI.out]; omega)
        subst hz0
        clear hown ha2 hz'
        go_wp2
        go_ret
        exact ⟨by rw [E]; rfl, b1⟩
      · have hz1' : ((mi : Int) == 0) = false := by simp; omega
        have hz2' : ¬ ((mi : Int) = 0) := by omega
        by_cases hzm : mi = m0
        · subst hzm
          have g1 : ∀ j, j < i + 1 → 0 < m j ∧ m j = mi := fun j hj => by
            rcases Nat.lt_succ_iff_lt_or_eq.1 hj with h | rfl
            · exact hg j h
            · exact ⟨by rw [HMI.out]; omega, HMI.out⟩
          have G1 := Lib.hid g1
          clear g1
          by_cases hi0' : i = 0
          · subst hi0'
            clear ha2 hg
            go_wp2
            go_roundw
            case rel => exact ⟨1, by omega, rfl, G1.out, hown, b1⟩
            case measure => simp [intOf]
          · obtain ⟨k, rfl⟩ : ∃ k, i = k + 1 := ⟨i - 1, by omega⟩
            obtain ⟨b4, off4, A4, c4, e4, -, hc4, ha4⟩ := HL.out.at_ (i := k) (by omega)
            cases e4
            replace hc4 := (b1.cell (p := ⟨b, off + k, none⟩) hbB).trans hc4
            rw [(hg k (by omega)).2] at hc4 ha4
            obtain ⟨b3, off3, rfl, hb3, hc3⟩ := ArrI.fn ha2 (by omega)
            obtain ⟨b5, off5, rfl, hb5, hc5⟩ := ArrI.fn ha4 (by omega)
            have x1 := hc3 0 (by omega) (by omega)
            have x2 := hc3 ((mi : Int) - 1) (by omega) (by omega)
            have x3 := hc5 0 (by omega) (by omega)
            have x4 := hc5 ((mi : Int) - 1) (by omega) (by omega)
            rw [show ((mi : Int) - 1).toNat = mi - 1 by omega] at x2 x4
            simp only [Int.toNat_zero, Nat.add_zero] at x1 x3
            replace x1 := (b1.cell (p := ⟨b3, off3, none⟩) hb3).trans x1
            replace x2 := (b1.cell (p := ⟨b3, off3 + (mi - 1), none⟩) hb3).trans x2
            replace x3 := (b1.cell (p := ⟨b5, off5, none⟩) hb5).trans x3
            replace x4 := (b1.cell (p := ⟨b5, off5 + (mi - 1), none⟩) hb5).trans x4
            obtain ⟨y1, y2⟩ := HB.out (k + 1) 0 (by omega) (by rw [HMI.out]; omega)
            obtain ⟨y3, y4⟩ := HB.out (k + 1) (mi - 1) (by omega) (by rw [HMI.out]; omega)
            obtain ⟨y5, y6⟩ := HB.out k 0 (by omega) (by have := hg k (by omega); omega)
            obtain ⟨y7, y8⟩ := HB.out k (mi - 1) (by omega) (by have := hg k (by omega); omega)
            have GS := Lib.hid (gap_snoc ln mi k)
            generalize ln (k + 1) 0 = a1 at *
            generalize ln (k + 1) (mi - 1) = a2 at *
            generalize ln k 0 = a3 at *
            generalize ln k (mi - 1) = a4 at *
            have v1 : IntKind.i64.wrap (a1 - a3) = a1 - a3 := IntWalk.i64_in _ (by omega)
            have v2 : IntKind.i64.wrap (a2 - a4) = a2 - a4 := IntWalk.i64_in _ (by omega)
            have v3 : IntKind.i64.wrap ((mi : Int) - 1) = (mi : Int) - 1 := IntWalk.i64_in _ (by omega)
            clear hc3 hc5 ha2 ha4 hg
            have k1 : (((k + 1 : Nat) : Int)) = (k : Int) + 1 := by omega
            have o3 : u3.ownBlock ≠ some b3 := fun e => by have := own_ge hown e; omega
            have o5 : u3.ownBlock ≠ some b5 := fun e => by have := own_ge hown e; omega
            have n3 := World.new_ne wr _ x1; have n5 := World.new_ne wr _ x3
            have z1 := b1.size
            have j1 : (0 : Int) < (mi : Int) := by omega
            have j2 : (mi : Int) - 1 < (mi : Int) := by omega
            have j3 : (0 : Int) ≤ (mi : Int) - 1 := by omega
            have j4 : 0 < mi := by omega
            have j5 : (1 : Int) ≤ (mi : Int) := by omega
            have j6 : 1 ≤ mi := by omega
            rw [k1]
            go_wp2_with fail
            go_region_held3 (fun w' => w'.cell? ⟨b3, off3, none⟩ = some (.int .i64 a1) ∧ w'.cell? ⟨b3, off3 + (mi - 1), none⟩ = some (.int .i64 a2) ∧ w'.cell? ⟨b5, off5, none⟩ = some (.int .i64 a3) ∧ w'.cell? ⟨b5, off5 + (mi - 1), none⟩ = some (.int .i64 a4))
              (first
                | (simp [go_sem, *]; done)
                | (go_keep; done)
                | (refine ⟨?_, ?_, ?_, ?_⟩
                   · (rw [hgrow.cell_far _ (by simp; omega) (Ne.symm o3)]; first | assumption | (go_keep; done) | (simp [go_sem, *]; done))
                   · (rw [hgrow.cell_far _ (by simp; omega) (Ne.symm o3)]; first | assumption | (go_keep; done) | (simp [go_sem, *]; done))
                   · (rw [hgrow.cell_far _ (by simp; omega) (Ne.symm o5)]; first | assumption | (go_keep; done) | (simp [go_sem, *]; done))
                   · (rw [hgrow.cell_far _ (by simp; omega) (Ne.symm o5)]; first | assumption | (go_keep; done) | (simp [go_sem, *]; done))))
              ((refine step_append_lies _ (by rfl) _ _ _ (by rfl) w.heap.size 3 i0 (.int .i64 0) 1 8 Try.underlying25 hi0 hz0' hz1 hz2 rfl (by omega) u3 _ _ (by rfl) ((hown.alloc _).drew) ⟨wr.heap.size, 0, none⟩ 2 2 [.int .i64 (a1 - a3), .int .i64 (a2 - a4)] (by rfl) (by rfl) (World.news_of_block (cs := #[.int .i64 (a1 - a3), .int .i64 (a2 - a4)]) (t := 3) (fr := (0, 0)) (heap_alloc_new wr _)) (by simp [Value.oneCell']) (by omega) (by unfold maxLen; omega) (by omega) (by simp; omega) (wr.heap.size + 1) (by simp) ?_; intro gg cap w1 hown1 hgrow hat hlt1))
            all_goals
              have b9 : Below w.heap.size w w1 := (show Below w.heap.size w (wr.alloc (.cells #[.int .i64 (a1 - a3), .int .i64 (a2 - a4)] 3)).drew from (b1.alloc b1.size _).drew).grown hgrow (by simp; omega) (fun j hj => (own_ge hown hj).1)
              clear hown hgrow b1 hat x1 x2 x3 x4
              go_wp2
              go_roundw
              case rel => exact ⟨k + 1 + 1, by omega, by go_num, G1.out, by rw [show k + 1 + 1 - 1 = k + 1 from rfl, GS.out]; exact hown1, b9⟩
              case measure => simp [intOf]; omega
        · have E : evenB m ln = false := EV0.out i (by omega) (by rw [HMI.out]; omega)
          have hzm' : ((mi : Int) != (m0 : Int)) = true := by simp; omega
          clear hown ha2
          go_wp2
          go_ret
          exact ⟨by rw [E]; rfl, b1⟩
    · obtain rfl : i = 5 := by omega
      change wr.ownsRow _ _ 1 u3 8 ((List.range 8).map _) at hown
      obtain ⟨A8, c8, rfl, ha8⟩ := own_arrI hown
      have E := EV1.out hg
      have GB : ∀ j : Int, 0 ≤ j → j ≤ (7 : Nat) → -2199023255552 ≤ gapF ln m0 j.toNat ∧ gapF ln m0 j.toNat ≤ 2199023255552 := fun j j0 j1 => by
        have q1 := hg (j.toNat / 2) (by omega)
        have q2 := hg (j.toNat / 2 + 1) (by omega)
        have q3 := HB.out (j.toNat / 2) 0 (by omega) (by omega)
        have q4 := HB.out (j.toNat / 2 + 1) 0 (by omega) (by omega)
        have q5 := HB.out (j.toNat / 2) (m0 - 1) (by omega) (by omega)
        have q6 := HB.out (j.toNat / 2 + 1) (m0 - 1) (by omega) (by omega)
        unfold gapF
        split <;> omega
      obtain ⟨g1, g2⟩ := minA_bd (q := fun j => gapF ln m0 j.toNat) 7 GB
      obtain ⟨g3, g4⟩ := maxA_bd (q := fun j => gapF ln m0 j.toNat) 7 GB
      have MI := Lib.hid fun W ha => min_any A8 7 c8 (fun j => gapF ln m0 j.toNat) W ha (by omega)
      have MA := Lib.hid fun W ha => max_any A8 7 c8 (fun j => gapF ln m0 j.toNat) W ha (by omega)
      unfold evenV at E
      generalize minA (fun j => gapF ln m0 j.toNat) 7 = MN at *
      generalize maxA (fun j => gapF ln m0 j.toNat) 7 = MX at *
      replace E := Lib.hid E
      have v1 : IntKind.i64.wrap (MX - MN) = MX - MN := IntWalk.i64_in _ (by omega)
      clear GB hg hz'
      have HA := Lib.hid ha8
      by_cases c1 : 2 ≤ MN
      · by_cases c2 : MX ≤ 64
        · by_cases c3 : MX - MN ≤ 2
          · have F : Hid (evenB m ln = true) := by show _ = _; rw [E.out]; simp [c1, c2, c3]
            clear E
            go_wp2_with fail
            refine (MI.out _ HA.out).mono ?_
            rintro e w5 ⟨rfl, rfl⟩
            go_wp2_with fail
            refine (MA.out _ HA.out).mono ?_
            rintro e w6 ⟨rfl, rfl⟩
            go_wp2
            go_ret
            exact ⟨by rw [F.out]; first | rfl | exact ret_bool (decide_eq_false (by omega)), b1⟩
          · have F : Hid (evenB m ln = false) := by show _ = _; rw [E.out]; simp [c3]
            clear E
            go_wp2_with fail
            refine (MI.out _ HA.out).mono ?_
            rintro e w5 ⟨rfl, rfl⟩
            go_wp2_with fail
            refine (MA.out _ HA.out).mono ?_
            rintro e w6 ⟨rfl, rfl⟩
            go_wp2
            go_ret
            exact ⟨by rw [F.out]; first | rfl | exact ret_bool (decide_eq_false (by omega)), b1⟩
        · have F : Hid (evenB m ln = false) := by show _ = _; rw [E.out]; simp [c2]
          clear E
          go_wp2_with fail
          refine (MI.out _ HA.out).mono ?_
          rintro e w5 ⟨rfl, rfl⟩
          go_wp2_with fail
          refine (MA.out _ HA.out).mono ?_
          rintro e w6 ⟨rfl, rfl⟩
          go_wp2
          go_ret
          exact ⟨by rw [F.out]; first | rfl | exact ret_bool (decide_eq_false (by omega)), b1⟩
      · have F : Hid (evenB m ln = false) := by show _ = _; rw [E.out]; simp [c1]
        clear E
        go_wp2_with fail
        refine (MI.out _ HA.out).mono ?_
        rintro e w5 ⟨rfl, rfl⟩
        go_wp2_with fail
        refine (MA.out _ HA.out).mono ?_
        rintro e w6 ⟨rfl, rfl⟩
        go_wp2
        go_ret
        exact ⟨by rw [F.out]; first | rfl | exact ret_bool (decide_eq_false (by omega)), b1⟩
end Go.Proofs.Ytdimlpcbbkokiaa

/- Walks: whether a stave fits an image (stave.fits, stave.Check; the reference's Fits, Check). -/
namespace Go.Proofs.Ytdimlpcbbkokiaa
open Go.RowKit Go.Shelf
set_option linter.unusedVariables false
attribute [local go_sem] Oper.semAt_some

/-- five lines are paths of the image and lie one under the other -/
def StP (W H : Int) (K : Nat) (m : Nat → Nat) (ln : Nat → Nat → Int) : Prop :=
  K = 5 ∧ (∀ i, i < 5 → isPathB W H (m i) (fun j => ln i j.toNat) = true) ∧ ∀ i, i + 1 < 5 → ∀ x : Nat, (x : Int) < W → ln i x < ln (i + 1) x
def stFits (W H : Int) (K : Nat) (m : Nat → Nat) (ln : Nat → Nat → Int) : Bool :=
  decide (K = 5) && (((List.range 5).all fun i => isPathB W H (m i) fun j => ln i j.toNat) && (List.range 4).all fun i => (List.range W.toNat).all fun x => decide (ln i x < ln (i + 1) x))
theorem stFits_iff {W H : Int} {K : Nat} {m : Nat → Nat} {ln : Nat → Nat → Int} : stFits W H K m ln = true ↔ StP W H K m ln := by
  unfold stFits StP
  rw [Bool.and_eq_true, Bool.and_eq_true, decide_eq_true_iff, List.all_eq_true, List.all_eq_true]
  refine and_congr_right fun _ => and_congr ⟨fun h i hi => h i (List.mem_range.2 hi), fun h i hi => h i (List.mem_range.1 hi)⟩ ⟨fun h i hi x hx => ?_, fun h i hi => ?_⟩
  · have := List.all_eq_true.1 (h i (List.mem_range.2 (by omega))) x (List.mem_range.2 (by omega))
    simpa using this
  · rw [List.all_eq_true]
    intro x hx
    have := List.mem_range.1 hi
    have := List.mem_range.1 hx
    exact decide_eq_true (h i (by omega) x (by omega))
theorem stFits_no {W H : Int} {K : Nat} {m : Nat → Nat} {ln : Nat → Nat → Int} (h : ¬ StP W H K m ln) : stFits W H K m ln = false := Bool.eq_false_iff.2 fun e => h (stFits_iff.1 e)
theorem Blk.cells0 {w : World} {g : Nat} {t : TypeId} {a : Value} (h : Blk w g t #[a]) : w.cell? ⟨g, 0, none⟩ = some a := by rw [h.cell]; rfl

set_option maxRecDepth 100000 in
set_option maxHeartbeats 4000000 in
theorem fits_st (W H : Int) (A AL : Option Addr) (n c K cL : Nat) (m : Nat → Nat) (ln : Nat → Nat → Int) (w : World) (hW : W ≤ 640) (hH : H ≤ 640) (hL : Lines w w.heap.size AL K m ln) (hm : ∀ i, i < K → m i ≤ maxLen) :
    Calls Try.prog 78 #[.agg #[.int .i64 W, .int .i64 H, .slice A n c], .agg #[.slice AL K cL]] w fun e w' => e = .returned (.bool (stFits W H K m ln)) ∧ Below w.heap.size w w' := by
  have IP := Lib.hid fun i (hi : i < K) P d w' hP => isPath_any W H A P n c (m i) d (fun j => ln i j.toNat) w' hW hH hP (hm i hi)
  by_cases hK : K = 5
  · subst hK
    clear hm
    go_enter Try.func78, Try.ntmps78
    go_wp2_with fail
    have k1 : Blk ((w.alloc (.cells #[.int .i64 W, .int .i64 H, .slice A n c] 24)).alloc (.cells #[.slice AL 5 cL] 54)) w.heap.size 24 #[.int .i64 W, .int .i64 H, .slice A n c] := (Blk.new _ _ _).alloc _
    have k2 : Blk ((w.alloc (.cells #[.int .i64 W, .int .i64 H, .slice A n c] 24)).alloc (.cells #[.slice AL 5 cL] 54)) (w.heap.size + 1) 54 #[.slice AL 5 cL] := Blk.new' (by simp) _ _
    have b1 : Below w.heap.size w ((w.alloc (.cells #[.int .i64 W, .int .i64 H, .slice A n c] 24)).alloc (.cells #[.slice AL 5 cL] 54)) := by (repeat (first | exact Below.refl _ _ | assumption | refine Below.drew ?_ | refine below_drewN ?_ _ | refine Below.alloc ?_ (by first | omega | (simp; done) | (simp; omega)) _ | refine Below.setCell ?_ (by first | omega | (simp; done) | (simp; omega)) _ | refine below_setRow ?_ (by first | omega | (simp; done) | (simp; omega)) _ ))
    generalize (w.alloc (.cells #[.int .i64 W, .int .i64 H, .slice A n c] 24)).alloc (.cells #[.slice AL 5 cL] 54) = w1 at *
    go_loopw [15] (fun s wr => ∃ i : Nat, i ≤ 5 ∧ s = .int .i64 i ∧ (∀ j, j < i → isPathB W H (m j) (fun t => ln j t.toNat) = true) ∧ (∀ j, j + 1 < i → ∀ x : Nat, (x : Int) < W → ln j x < ln (j + 1) x) ∧ Below w.heap.size w wr ∧ Blk wr w.heap.size 24 #[.int .i64 W, .int .i64 H, .slice A n c] ∧ Blk wr (w.heap.size + 1) 54 #[.slice AL 5 cL]) (fun s _ => 5 - (intOf s).toNat)
    case atStart => exact ⟨0, by omega, rfl, fun j hj => by omega, fun j hj => by omega, b1, k1, k2⟩
    case round =>
      obtain ⟨i, hi, rfl, hp, ho, b2, q1, q2⟩ := hrel
      clear b1 k1 k2
      obtain ⟨p1, p2, p3⟩ := q1.cells3
      have r1 := q2.cells0
      have HP := Lib.hid hp; have HO := Lib.hid ho
      clear hp ho
      by_cases hlt : (i : Int) < 5
      · obtain ⟨bA, oA, A1, c1, rfl, hbA, hcA, haA⟩ := hL.at_ (i := i) (by omega)
        have hc1 := (b2.cell (p := ⟨bA, oA + i, none⟩) hbA).trans hcA
        have ha1 := (haA.below b2).more b2.size
        have IPi := Lib.hid fun w' hP => IP.out i (by omega) A1 c1 w' hP
        cases hpi : isPathB W H (m i) (fun t => ln i t.toNat) with
        | false =>
          have hr : Hid (stFits W H 5 m ln = false) := by
            show _ = _
            exact stFits_no fun h => by have := h.2.1 i (by omega); rw [hpi] at this; cases this
          rw [hpi] at IPi
          clear hpi hcA
          go_wp2_with fail
          refine (IPi.out _ ha1).mono ?_
          rintro e w3 ⟨rfl, hb3⟩
          have b3 := below_call b2 b2.size hb3
          go_wp2
          go_ret
          exact ⟨ret_bool hr.out.symm, b3⟩
        | true =>
          rw [hpi] at IPi
          have HPI := Lib.hid hpi
          obtain ⟨⟨g1, g2, g3⟩, g4⟩ := isPathB_iff.1 hpi
          have BD := Lib.hid fun (x : Nat) (hx : (x : Int) < (m i : Int)) => (stepB_iff.1 (g4 x (by omega) hx))
          clear hpi g4 hcA
          go_wp2_with fail
          refine (IPi.out _ ha1).mono ?_
          rintro e w3 ⟨rfl, hb3⟩
          have b3 := below_call b2 b2.size hb3
          have q3 := q1.below' hb3
          have q4 := q2.below' hb3
          have ha3 := ha1.to hb3
          clear b2 q1 q2 hb3 p1 p2 p3 r1 ha1 hc1
          obtain ⟨p1, p2, p3⟩ := q3.cells3
          have r1 := q4.cells0
          go_wp2_with fail
          generalize hmi : m i = Mi at *
          have HMI := Lib.hid hmi
          clear hmi
          go_loopw [26] (fun s wr => ∃ x : Nat, x ≤ Mi ∧ s = .int .i64 x ∧ (∀ k, i = k + 1 → ∀ t : Nat, t < x → ln k t < ln i t) ∧ ∃ nn, wr = w3.drewN nn) (fun s _ => Mi - (intOf s).toNat)
          case atStart => exact ⟨0, by omega, rfl, fun k hk t ht => by omega, 0, rfl⟩
          case round =>
            obtain ⟨x, hx, rfl, hlx, nn, hwr⟩ := hrel
            have b4 : Below w.heap.size w wr := by rw [hwr]; exact below_drewN b3 nn
            have q5 : Blk wr w.heap.size 24 #[.int .i64 W, .int .i64 H, .slice A n c] := by rw [hwr]; exact q3.drewN nn
            have q6 : Blk wr (w.heap.size + 1) 54 #[.slice (some ⟨bA, oA, none⟩) 5 cL] := by rw [hwr]; exact q4.drewN nn
            have ha4 : ArrI wr wr.heap.size A1 Mi (fun t => ln i t.toNat) := by rw [hwr]; exact ha3
            have HWR := Lib.hid hwr
            have HLX := Lib.hid hlx
            clear hwr hlx p1 p2 p3 r1
            obtain ⟨p1, p2, p3⟩ := q5.cells3
            have r1 := q6.cells0
            by_cases xl : (x : Int) < Mi
            · by_cases i0 : i = 0
              · have d0 : decide ((0 : Int) < (i : Int)) = false := decide_eq_false (by omega)
                have d0' : decide (0 < i) = false := decide_eq_false (by omega)
                have HI0 := Lib.hid i0
                clear i0
                go_wp2_with fail
                go_quiet (fail)
                go_wp2
                go_roundw
                case rel => exact ⟨x + 1, by omega, by go_num, fun k hk => by have := HI0.out; omega, _, by rw [HWR.out]; exact World.drewN_drewN _ _ _⟩
                case measure => simp [intOf]; omega
              · obtain ⟨k, hk⟩ : ∃ k, i = k + 1 := ⟨i - 1, by omega⟩
                obtain ⟨bB, oB, A2, c2, eB, hbB, hcB, haB⟩ := hL.at_ (i := k) (by omega)
                cases eB
                have hc2 := (b4.cell (p := ⟨bA, oA + k, none⟩) hbA).trans hcB
                have ha5 := (haB.below b4).more b4.size
                obtain ⟨⟨j1, j2, j3⟩, -⟩ := isPathB_iff.1 (HP.out k (by omega))
                obtain ⟨b1', o1', e1', -, hx1⟩ := ArrI.at_ ha4 (i := (x : Int)) (by omega) xl
                obtain ⟨b2', o2', e2', -, hx2⟩ := ArrI.at_ ha5 (i := (x : Int)) (by omega) (by omega)
                subst e1'
                subst e2'
                rw [Int.toNat_natCast] at hx1 hx2
                have d0 : decide ((0 : Int) < (i : Int)) = true := decide_eq_true (by omega)
                have d0' : decide (0 < i) = true := decide_eq_true (by omega)
                have d0p : 0 < i := by omega
                have v1 : IntKind.i64.wrap ((i : Int) - 1) = (k : Int) := by rw [show (i : Int) - 1 = k by omega]; exact IntWalk.i64_in _ (by omega)
                have k5 : (k : Int) < 5 := by omega
                have k0 : (0 : Int) ≤ (k : Int) := by omega
                have xm : (x : Int) < (m k : Int) := by omega
                have HKE := Lib.hid hk
                have HMK := Lib.hid j3
                by_cases hle : ln i x ≤ ln k x
                · have hr : Hid (stFits W H 5 m ln = false) := by
                    show _ = _
                    exact stFits_no fun h => by
                      have h1 := h.2.2 k (by have := HKE.out; omega) x (by omega)
                      rw [← HKE.out] at h1; omega
                  have dl : decide (ln i x ≤ ln k x) = true := decide_eq_true hle
                  clear hk hcB
                  generalize ln i x = va at *
                  generalize ln k x = vb at *
                  go_wp2_with fail
                  go_quiet (fail)
                  go_wp2
                  go_ret
                  exact ⟨ret_bool hr.out.symm, below_drewN b4 _⟩
                · have hll : Hid (ln k x < ln i x) := by show _ < _; omega
                  have dl : decide (ln i x ≤ ln k x) = false := decide_eq_false hle
                  clear hk hcB
                  generalize hva : ln i x = va at *
                  generalize hvb : ln k x = vb at *
                  have HVA := Lib.hid hva; have HVB := Lib.hid hvb
                  clear hva hvb
                  go_wp2_with fail
                  go_quiet (fail)
                  go_wp2
                  go_roundw
                  case rel =>
                    refine ⟨x + 1, by omega, by go_num, fun k' hk' t ht => ?_, _, by rw [HWR.out]; exact World.drewN_drewN _ _ _⟩
                    rcases Nat.lt_succ_iff_lt_or_eq.1 ht with h | rfl
                    · exact HLX.out k' hk' t h
                    · obtain rfl : k = k' := by have := HKE.out; omega
                      rw [HVA.out, HVB.out]; exact hll.out
                  case measure => simp [intOf]; omega
            · obtain rfl : Mi = x := by omega
              go_wp2_with fail
              go_roundw
              case rel =>
                refine ⟨i + 1, by omega, by go_num, fun j hj => ?_, fun j hj x hx => ?_, b4, q5, q6⟩
                · rcases Nat.lt_succ_iff_lt_or_eq.1 hj with h | rfl
                  · exact HP.out j h
                  · exact HMI.out ▸ HPI.out
                · by_cases h : j + 1 < i
                  · exact HO.out j h x hx
                  · obtain rfl : i = j + 1 := by omega
                    exact HLX.out j rfl x (by omega)
              case measure => simp [intOf]; omega
      · obtain rfl : i = 5 := by omega
        have hr : Hid (stFits W H 5 m ln = true) := by show _ = _; exact stFits_iff.2 ⟨rfl, HP.out, HO.out⟩
        go_wp2
        go_ret
        exact ⟨ret_bool hr.out.symm, b2⟩
  · have hr : Hid (stFits W H K m ln = false) := by show _ = _; exact stFits_no fun h => hK h.1
    have hb : ((K : Int) != 5) = true := by simp; omega
    clear hK
    go_enter Try.func78, Try.ntmps78
    go_wp2
    go_ret
    exact ⟨ret_bool hr.out.symm, by (repeat (first | exact Below.refl _ _ | assumption | refine Below.drew ?_ | refine below_drewN ?_ _ | refine Below.alloc ?_ (by first | omega | (simp; done) | (simp; omega)) _ | refine Below.setCell ?_ (by first | omega | (simp; done) | (simp; omega)) _ | refine below_setRow ?_ (by first | omega | (simp; done) | (simp; omega)) _ ))⟩
end Go.Proofs.Ytdimlpcbbkokiaa

/- Walks: the reference's Fits; the checks of a stave, the program's and the reference's. -/
namespace Go.Proofs.Ytdimlpcbbkokiaa
open Go.RowKit Go.Shelf
set_option linter.unusedVariables false
attribute [local go_sem] Oper.semAt_some

set_option maxRecDepth 100000 in
set_option maxHeartbeats 4000000 in
theorem rfits_st (W H : Int) (A AL : Option Addr) (n c K cL : Nat) (m : Nat → Nat) (ln : Nat → Nat → Int) (w : World) (hW0 : 0 ≤ W) (hH0 : 0 ≤ H) (hW : W ≤ 640) (hH : H ≤ 640) (hL : Lines w w.heap.size AL K m ln) (hm : ∀ i, i < K → m i ≤ maxLen) :
    Calls Try.prog 79 #[.agg #[.int .i64 W, .int .i64 H, .slice A n c], .agg #[.slice AL K cL]] w fun e w' => e = .returned (.bool (stFits W H K m ln)) ∧ Below w.heap.size w w' := by
  have IP := Lib.hid fun i (hi : i < K) P d w' hP => risPath_any W H A P n c (m i) d (fun j => ln i j.toNat) w' hW0 hH0 hW hH hP (hm i hi)
  by_cases hK : K = 5
  · subst hK
    clear hm
    go_enter Try.func79, Try.ntmps79
    go_wp2_with fail
    have k1 : Blk ((w.alloc (.cells #[.int .i64 W, .int .i64 H, .slice A n c] 24)).alloc (.cells #[.slice AL 5 cL] 54)) w.heap.size 24 #[.int .i64 W, .int .i64 H, .slice A n c] := (Blk.new _ _ _).alloc _
    have k2 : Blk ((w.alloc (.cells #[.int .i64 W, .int .i64 H, .slice A n c] 24)).alloc (.cells #[.slice AL 5 cL] 54)) (w.heap.size + 1) 54 #[.slice AL 5 cL] := Blk.new' (by simp) _ _
    have b1 : Below w.heap.size w ((w.alloc (.cells #[.int .i64 W, .int .i64 H, .slice A n c] 24)).alloc (.cells #[.slice AL 5 cL] 54)) := by (repeat (first | exact Below.refl _ _ | assumption | refine Below.drew ?_ | refine below_drewN ?_ _ | refine Below.alloc ?_ (by first | omega | (simp; done) | (simp; omega)) _ | refine Below.setCell ?_ (by first | omega | (simp; done) | (simp; omega)) _ | refine below_setRow ?_ (by first | omega | (simp; done) | (simp; omega)) _ ))
    generalize (w.alloc (.cells #[.int .i64 W, .int .i64 H, .slice A n c] 24)).alloc (.cells #[.slice AL 5 cL] 54) = w1 at *
    go_loopw [5] (fun s wr => ∃ i : Nat, i ≤ 5 ∧ s = .int .i64 i ∧ (∀ j, j < i → isPathB W H (m j) (fun t => ln j t.toNat) = true) ∧ Below w.heap.size w wr ∧ Blk wr w.heap.size 24 #[.int .i64 W, .int .i64 H, .slice A n c] ∧ Blk wr (w.heap.size + 1) 54 #[.slice AL 5 cL]) (fun s _ => 5 - (intOf s).toNat)
    case atStart => exact ⟨0, by omega, rfl, fun j hj => by omega, b1, k1, k2⟩
    case round =>
      obtain ⟨i, hi, rfl, hp, b2, q1, q2⟩ := hrel
      clear b1 k1 k2
      obtain ⟨p1, p2, p3⟩ := q1.cells3
      have r1 := q2.cells0
      have HP := Lib.hid hp
      clear hp
      by_cases hlt : (i : Int) < 5
      · obtain ⟨bA, oA, A1, c1, rfl, hbA, hcA, haA⟩ := hL.at_ (i := i) (by omega)
        have hc1 := (b2.cell (p := ⟨bA, oA + i, none⟩) hbA).trans hcA
        have B2 := Lib.hid b2; have Q1 := Lib.hid q1; have Q2 := Lib.hid q2
        have HA1 := Lib.hid ((haA.below b2).more b2.size)
        have IPi := Lib.hid fun w' hP => IP.out i (by omega) A1 c1 w' hP
        clear hcA haA b2 q1 q2
        have zz := B2.out.size
        cases hpi : isPathB W H (m i) (fun t => ln i t.toNat) with
        | false =>
          have hr : Hid (stFits W H 5 m ln = false) := by
            show _ = _
            exact stFits_no fun h => by have := h.2.1 i (by omega); rw [hpi] at this; cases this
          rw [hpi] at IPi
          clear hpi
          go_wp2_with fail
          go_region_held3 (fun w' => w'.cell? ⟨w.heap.size, 0, none⟩ = some (.int .i64 W) ∧ w'.cell? ⟨w.heap.size, 1, none⟩ = some (.int .i64 H) ∧ w'.cell? ⟨w.heap.size, 2, none⟩ = some (.slice A n c) ∧ w'.cell? ⟨w.heap.size + 1, 0, none⟩ = some (.slice (some ⟨bA, oA, none⟩) 5 cL) ∧ w'.cell? ⟨bA, oA + i, none⟩ = some (.slice A1 (m i) c1))
            (simp [go_sem, *])
            ((go_at_call 61
              refine (IPi.out _ (show ArrI wr.drew wr.drew.heap.size _ _ _ from HA1.out)).mono ?_
              rintro e w3 ⟨rfl, hb3⟩
              have b3 := below_call B2.out.drew B2.out.drew.size hb3
              have q3 := Q1.out.drew.below' hb3
              have q4 := Q2.out.drew.below' hb3
              obtain ⟨x1, x2, x3⟩ := q3.cells3
              have x4 := q4.cells0
              have x5 : w3.cell? ⟨bA, oA + i, none⟩ = some (.slice A1 (m i) c1) := (hb3.cell (p := ⟨bA, oA + i, none⟩) (by show bA < _; have := B2.out.drew.size; omega)).trans hc1))
          go_wp2
          go_ret
          exact ⟨ret_bool hr.out.symm, b3⟩
        | true =>
          rw [hpi] at IPi
          have HPI := Lib.hid hpi
          clear hpi
          go_wp2_with fail
          go_region_held3 (fun w' => w'.cell? ⟨w.heap.size, 0, none⟩ = some (.int .i64 W) ∧ w'.cell? ⟨w.heap.size, 1, none⟩ = some (.int .i64 H) ∧ w'.cell? ⟨w.heap.size, 2, none⟩ = some (.slice A n c) ∧ w'.cell? ⟨w.heap.size + 1, 0, none⟩ = some (.slice (some ⟨bA, oA, none⟩) 5 cL) ∧ w'.cell? ⟨bA, oA + i, none⟩ = some (.slice A1 (m i) c1))
            (simp [go_sem, *])
            ((go_at_call 61
              refine (IPi.out _ (show ArrI wr.drew wr.drew.heap.size _ _ _ from HA1.out)).mono ?_
              rintro e w3 ⟨rfl, hb3⟩
              have b3 := below_call B2.out.drew B2.out.drew.size hb3
              have q3 := Q1.out.drew.below' hb3
              have q4 := Q2.out.drew.below' hb3
              obtain ⟨x1, x2, x3⟩ := q3.cells3
              have x4 := q4.cells0
              have x5 : w3.cell? ⟨bA, oA + i, none⟩ = some (.slice A1 (m i) c1) := (hb3.cell (p := ⟨bA, oA + i, none⟩) (by show bA < _; have := B2.out.drew.size; omega)).trans hc1))
          go_wp2_with fail
          go_roundw
          case rel =>
            refine ⟨i + 1, by omega, by go_num, fun j hj => ?_, b3, q3, q4⟩
            rcases Nat.lt_succ_iff_lt_or_eq.1 hj with h | rfl
            · exact HP.out j h
            · exact HPI.out
          case measure => simp [intOf]; omega
      · obtain rfl : i = 5 := by omega
        have MW : ∀ j, j < 5 → (m j : Int) = W := fun j hj => (isPathB_iff.1 (HP.out j hj)).1.2.2
        have HMW := Lib.hid MW
        clear MW
        go_wp2_with fail
        generalize wr = w2 at *
        go_loopw [6] (fun s wr => ∃ x : Nat, (x : Int) ≤ W ∧ s = .int .i64 x ∧ (∀ t : Nat, t < x → ∀ j, j + 1 < 5 → ln j t < ln (j + 1) t) ∧ ∃ nn, wr = w2.drewN nn) (fun s _ => (W - intOf s).toNat)
        case atStart => exact ⟨0, by omega, rfl, fun t ht => by omega, 0, rfl⟩
        case round =>
          obtain ⟨x, hx, rfl, hlx, nn, hwr⟩ := hrel
          have b4 : Below w.heap.size w wr := by rw [hwr]; exact below_drewN b2 nn
          have q5 : Blk wr w.heap.size 24 #[.int .i64 W, .int .i64 H, .slice A n c] := by rw [hwr]; exact q1.drewN nn
          have q6 : Blk wr (w.heap.size + 1) 54 #[.slice AL 5 cL] := by rw [hwr]; exact q2.drewN nn
          have HWR := Lib.hid hwr
          have HLX := Lib.hid hlx
          clear hwr hlx p1 p2 p3 r1
          obtain ⟨p1, p2, p3⟩ := q5.cells3
          have r1 := q6.cells0
          by_cases xl : (x : Int) < W
          · go_wp2_with fail
            generalize wr = w4 at *
            go_loopw [7] (fun s wr => ∃ i : Nat, 1 ≤ i ∧ i ≤ 5 ∧ s = .int .i64 i ∧ (∀ j, j + 1 < i → ln j x < ln (j + 1) x) ∧ ∃ nn, wr = w4.drewN nn) (fun s _ => 5 - (intOf s).toNat)
            case atStart => exact ⟨1, by omega, by omega, rfl, fun j hj => by omega, 0, rfl⟩
            case round =>
              obtain ⟨i, i1, i5, rfl, hli, n2, hwr2⟩ := hrel
              have b6 : Below w.heap.size w wr := by rw [hwr2]; exact below_drewN b4 n2
              have q7 : Blk wr w.heap.size 24 #[.int .i64 W, .int .i64 H, .slice A n c] := by rw [hwr2]; exact q5.drewN n2
              have q8 : Blk wr (w.heap.size + 1) 54 #[.slice AL 5 cL] := by rw [hwr2]; exact q6.drewN n2
              have HWR2 := Lib.hid hwr2
              have HLI := Lib.hid hli
              clear hwr2 hli p1 p2 p3 r1
              obtain ⟨p1, p2, p3⟩ := q7.cells3
              have r1 := q8.cells0
              by_cases il : (i : Int) < 5
              · obtain ⟨k, hk⟩ : ∃ k, i = k + 1 := ⟨i - 1, by omega⟩
                obtain ⟨bA, oA, A1, c1, rfl, hbA, hcA, haA⟩ := hL.at_ (i := i) (by omega)
                obtain ⟨bB, oB, A2, c2, eB, hbB, hcB, haB⟩ := hL.at_ (i := k) (by omega)
                cases eB
                have hc1 := (b6.cell (p := ⟨bA, oA + i, none⟩) hbA).trans hcA
                have hc2 := (b6.cell (p := ⟨bA, oA + k, none⟩) hbA).trans hcB
                have j1 := HMW.out i (by omega)
                have j2 := HMW.out k (by omega)
                obtain ⟨b1', o1', e1', -, hx1⟩ := ArrI.at_ ((haA.below b6).more b6.size) (i := (x : Int)) (by omega) (by omega)
                obtain ⟨b2', o2', e2', -, hx2⟩ := ArrI.at_ ((haB.below b6).more b6.size) (i := (x : Int)) (by omega) (by omega)
                subst e1'
                subst e2'
                rw [Int.toNat_natCast] at hx1 hx2
                have v1 : IntKind.i64.wrap ((i : Int) - 1) = (k : Int) := by rw [show (i : Int) - 1 = k by omega]; exact IntWalk.i64_in _ (by omega)
                have k5 : (k : Int) < 5 := by omega
                have k0 : (0 : Int) ≤ (k : Int) := by omega
                have xm1 : (x : Int) < (m i : Int) := by omega
                have xm2 : (x : Int) < (m k : Int) := by omega
                have HKE := Lib.hid hk
                by_cases hle : ln i x ≤ ln k x
                · have hr : Hid (stFits W H 5 m ln = false) := by
                    show _ = _
                    exact stFits_no fun h => by
                      have h1 := h.2.2 k (by have := HKE.out; omega) x xl
                      rw [← HKE.out] at h1; omega
                  have dl : decide (ln i x ≤ ln k x) = true := decide_eq_true hle
                  clear hk hcA hcB j1 j2
                  generalize ln i x = va at *
                  generalize ln k x = vb at *
                  go_wp2_with fail
                  go_quiet (fail)
                  go_wp2
                  go_ret
                  exact ⟨ret_bool hr.out.symm, below_drewN b6 _⟩
                · have hll : Hid (ln k x < ln i x) := by show _ < _; omega
                  have dl : decide (ln i x ≤ ln k x) = false := decide_eq_false hle
                  clear hk hcA hcB j1 j2
                  generalize hva : ln i x = va at *
                  generalize hvb : ln k x = vb at *
                  have HVA := Lib.hid hva; have HVB := Lib.hid hvb
                  clear hva hvb
                  go_wp2_with fail
                  go_quiet (fail)
                  go_wp2
                  go_roundw
                  case rel =>
                    refine ⟨i + 1, by omega, by omega, by go_num, fun j hj => ?_, _, by rw [HWR2.out]; exact World.drewN_drewN _ _ _⟩
                    by_cases h : j + 1 < i
                    · exact HLI.out j h
                    · obtain rfl : k = j := by have := HKE.out; omega
                      rw [← HKE.out, HVA.out, HVB.out]; exact hll.out
                  case measure => simp [intOf]; omega
              · obtain rfl : i = 5 := by omega
                go_wp2_with fail
                go_roundw
                case rel =>
                  refine ⟨x + 1, by omega, by go_num, fun t ht j hj => ?_, _, by rw [HWR2.out, HWR.out]; exact World.drewN_drewN _ _ _⟩
                  rcases Nat.lt_succ_iff_lt_or_eq.1 ht with h | rfl
                  · exact HLX.out t h j hj
                  · exact HLI.out j hj
                case measure => simp [intOf]; omega
          · have hr : Hid (stFits W H 5 m ln = true) := by show _ = _; exact stFits_iff.2 ⟨rfl, HP.out, fun i hi t ht => HLX.out t (by omega) i hi⟩
            go_wp2
            go_ret
            exact ⟨ret_bool hr.out.symm, b4⟩
  · have hr : Hid (stFits W H K m ln = false) := by show _ = _; exact stFits_no fun h => hK h.1
    have hb : ((K : Int) != 5) = true := by simp; omega
    clear hK
    go_enter Try.func79, Try.ntmps79
    go_wp2
    go_ret
    exact ⟨ret_bool hr.out.symm, by (repeat (first | exact Below.refl _ _ | assumption | refine Below.drew ?_ | refine below_drewN ?_ _ | refine Below.alloc ?_ (by first | omega | (simp; done) | (simp; omega)) _ | refine Below.setCell ?_ (by first | omega | (simp; done) | (simp; omega)) _ | refine below_setRow ?_ (by first | omega | (simp; done) | (simp; omega)) _ ))⟩

/-- the error of a stave's check -/
def stChk (W H : Int) (n : Nat) (p : Int → Int) (K : Nat) (m : Nat → Nat) (ln : Nat → Nat → Int) : Int := if chk W H n p ≠ 0 then chk W H n p else if stFits W H K m ln = true then 0 else 10
set_option maxHeartbeats 1000000 in
theorem check_st (W H : Int) (A AL : Option Addr) (n c K cL : Nat) (p : Int → Int) (m : Nat → Nat) (ln : Nat → Nat → Int) (E : Int) (w : World) (hA : ArrB w w.heap.size A n p) (hn : n ≤ maxLen) (hL : Lines w w.heap.size AL K m ln) (hm : ∀ i, i < K → m i ≤ maxLen) (hE : stChk W H n p K m ln = E) :
    Calls Try.prog 38 #[.agg #[.int .i64 W, .int .i64 H, .slice A n c], .agg #[.slice AL K cL]] w fun e w' => e = .returned (.int .i64 E) ∧ Below w.heap.size w w' := by
  have CK := Lib.hid fun w' hA' => check_any W H A n c p w' hA' hn
  have k1 : Blk ((w.alloc (.cells #[.int .i64 W, .int .i64 H, .slice A n c] 24)).alloc (.cells #[.slice AL K cL] 54)) w.heap.size 24 #[.int .i64 W, .int .i64 H, .slice A n c] := (Blk.new _ _ _).alloc _
  have k2 : Blk ((w.alloc (.cells #[.int .i64 W, .int .i64 H, .slice A n c] 24)).alloc (.cells #[.slice AL K cL] 54)) (w.heap.size + 1) 54 #[.slice AL K cL] := Blk.new' (by simp) _ _
  have b1 : Below w.heap.size w ((w.alloc (.cells #[.int .i64 W, .int .i64 H, .slice A n c] 24)).alloc (.cells #[.slice AL K cL] 54)) := by (repeat (first | exact Below.refl _ _ | assumption | refine Below.drew ?_ | refine below_drewN ?_ _ | refine Below.alloc ?_ (by first | omega | (simp; done) | (simp; omega)) _ | refine Below.setCell ?_ (by first | omega | (simp; done) | (simp; omega)) _ | refine below_setRow ?_ (by first | omega | (simp; done) | (simp; omega)) _ ))
  by_cases hc : chk W H n p = 0
  · obtain ⟨hW1, hW2, hH1, hH2, -, -⟩ := chk_ok hc
    have FT := Lib.hid fun w' hL' => fits_st W H A AL n c K cL m ln w' hW2 hH2 hL' hm
    have hE2 : (if stFits W H K m ln = true then (0 : Int) else 10) = E := by rw [← hE]; unfold stChk; rw [if_neg (show ¬ chk W H n p ≠ 0 from fun h => h hc)]
    rw [hc] at CK
    clear hc hE
    cases hs : stFits W H K m ln with
    | true =>
      rw [hs] at FT hE2
      rw [if_pos rfl] at hE2
      subst hE2
      clear hs
      go_enter Try.func38, Try.ntmps38
      go_wp2_with fail
      generalize (w.alloc (.cells #[.int .i64 W, .int .i64 H, .slice A n c] 24)).alloc (.cells #[.slice AL K cL] 54) = w1 at *
      refine (CK.out _ (hA.to b1)).mono ?_
      rintro e w2 ⟨rfl, hb2⟩
      have b2 := below_call b1 b1.size hb2
      obtain ⟨p1, p2, p3⟩ := (k1.below' hb2).cells3
      have r1 := (k2.below' hb2).cells0
      go_wp2_with fail
      refine (FT.out _ (hL.below b2)).mono ?_
      rintro e w3 ⟨rfl, hb3⟩
      have b3 := below_call b2 b2.size hb3
      go_wp2
      go_ret
      exact ⟨rfl, b3⟩
    | false =>
      rw [hs] at FT hE2
      rw [if_neg (by simp)] at hE2
      subst hE2
      clear hs
      go_enter Try.func38, Try.ntmps38
      go_wp2_with fail
      generalize (w.alloc (.cells #[.int .i64 W, .int .i64 H, .slice A n c] 24)).alloc (.cells #[.slice AL K cL] 54) = w1 at *
      refine (CK.out _ (hA.to b1)).mono ?_
      rintro e w2 ⟨rfl, hb2⟩
      have b2 := below_call b1 b1.size hb2
      obtain ⟨p1, p2, p3⟩ := (k1.below' hb2).cells3
      have r1 := (k2.below' hb2).cells0
      go_wp2_with fail
      refine (FT.out _ (hL.below b2)).mono ?_
      rintro e w3 ⟨rfl, hb3⟩
      have b3 := below_call b2 b2.size hb3
      go_wp2
      go_ret
      exact ⟨rfl, b3⟩
  · have hz : chk W H n p = E := by rw [← hE]; unfold stChk; rw [if_pos hc]
    have hb : (E != 0) = true := by rw [← hz]; simp [hc]
    have hne : ¬ E = 0 := by rw [← hz]; exact hc
    rw [hz] at CK
    have HE := Lib.hid hne
    clear hc hE hz hne
    go_enter Try.func38, Try.ntmps38
    go_wp2_with fail
    generalize (w.alloc (.cells #[.int .i64 W, .int .i64 H, .slice A n c] 24)).alloc (.cells #[.slice AL K cL] 54) = w1 at *
    refine (CK.out _ (hA.to b1)).mono ?_
    rintro e w2 ⟨rfl, hb2⟩
    have b2 := below_call b1 b1.size hb2
    go_wp2
    go_ret
    exact ⟨rfl, b2⟩
set_option maxHeartbeats 1000000 in
theorem rcheck_st (W H : Int) (A AL : Option Addr) (n c K cL : Nat) (p : Int → Int) (m : Nat → Nat) (ln : Nat → Nat → Int) (E : Int) (w : World) (hA : ArrB w w.heap.size A n p) (hn : n ≤ maxLen) (hB : IsB p) (hL : Lines w w.heap.size AL K m ln) (hm : ∀ i, i < K → m i ≤ maxLen) (hE : stChk W H n p K m ln = E) :
    Calls Try.prog 39 #[.agg #[.int .i64 W, .int .i64 H, .slice A n c], .agg #[.slice AL K cL]] w fun e w' => e = .returned (.int .i64 E) ∧ Below w.heap.size w w' := by
  have CK := Lib.hid fun w' hA' => rcheck_any W H A n c p w' hA' hn hB
  have k1 : Blk ((w.alloc (.cells #[.int .i64 W, .int .i64 H, .slice A n c] 24)).alloc (.cells #[.slice AL K cL] 54)) w.heap.size 24 #[.int .i64 W, .int .i64 H, .slice A n c] := (Blk.new _ _ _).alloc _
  have k2 : Blk ((w.alloc (.cells #[.int .i64 W, .int .i64 H, .slice A n c] 24)).alloc (.cells #[.slice AL K cL] 54)) (w.heap.size + 1) 54 #[.slice AL K cL] := Blk.new' (by simp) _ _
  have b1 : Below w.heap.size w ((w.alloc (.cells #[.int .i64 W, .int .i64 H, .slice A n c] 24)).alloc (.cells #[.slice AL K cL] 54)) := by (repeat (first | exact Below.refl _ _ | assumption | refine Below.drew ?_ | refine below_drewN ?_ _ | refine Below.alloc ?_ (by first | omega | (simp; done) | (simp; omega)) _ | refine Below.setCell ?_ (by first | omega | (simp; done) | (simp; omega)) _ | refine below_setRow ?_ (by first | omega | (simp; done) | (simp; omega)) _ ))
  by_cases hc : chk W H n p = 0
  · obtain ⟨hW1, hW2, hH1, hH2, -, -⟩ := chk_ok hc
    have FT := Lib.hid fun w' hL' => rfits_st W H A AL n c K cL m ln w' hW1 hH1 hW2 hH2 hL' hm
    have hE2 : (if stFits W H K m ln = true then (0 : Int) else 10) = E := by rw [← hE]; unfold stChk; rw [if_neg (show ¬ chk W H n p ≠ 0 from fun h => h hc)]
    rw [hc] at CK
    clear hc hE
    cases hs : stFits W H K m ln with
    | true =>
      rw [hs] at FT hE2
      rw [if_pos rfl] at hE2
      subst hE2
      clear hs
      go_enter Try.func39, Try.ntmps39
      go_wp2_with fail
      generalize (w.alloc (.cells #[.int .i64 W, .int .i64 H, .slice A n c] 24)).alloc (.cells #[.slice AL K cL] 54) = w1 at *
      refine (CK.out _ (hA.to b1)).mono ?_
      rintro e w2 ⟨rfl, hb2⟩
      have b2 := below_call b1 b1.size hb2
      obtain ⟨p1, p2, p3⟩ := (k1.below' hb2).cells3
      have r1 := (k2.below' hb2).cells0
      go_wp2_with fail
      refine (FT.out _ (hL.below b2)).mono ?_
      rintro e w3 ⟨rfl, hb3⟩
      have b3 := below_call b2 b2.size hb3
      go_wp2
      go_ret
      exact ⟨rfl, b3⟩
    | false =>
      rw [hs] at FT hE2
      rw [if_neg (by simp)] at hE2
      subst hE2
      clear hs
      go_enter Try.func39, Try.ntmps39
      go_wp2_with fail
      generalize (w.alloc (.cells #[.int .i64 W, .int .i64 H, .slice A n c] 24)).alloc (.cells #[.slice AL K cL] 54) = w1 at *
      refine (CK.out _ (hA.to b1)).mono ?_
      rintro e w2 ⟨rfl, hb2⟩
      have b2 := below_call b1 b1.size hb2
      obtain ⟨p1, p2, p3⟩ := (k1.below' hb2).cells3
      have r1 := (k2.below' hb2).cells0
      go_wp2_with fail
      refine (FT.out _ (hL.below b2)).mono ?_
      rintro e w3 ⟨rfl, hb3⟩
      have b3 := below_call b2 b2.size hb3
      go_wp2
      go_ret
      exact ⟨rfl, b3⟩
  · have hz : chk W H n p = E := by rw [← hE]; unfold stChk; rw [if_pos hc]
    have hb : (E != 0) = true := by rw [← hz]; simp [hc]
    have hne : ¬ E = 0 := by rw [← hz]; exact hc
    rw [hz] at CK
    have HE := Lib.hid hne
    clear hc hE hz hne
    go_enter Try.func39, Try.ntmps39
    go_wp2_with fail
    generalize (w.alloc (.cells #[.int .i64 W, .int .i64 H, .slice A n c] 24)).alloc (.cells #[.slice AL K cL] 54) = w1 at *
    refine (CK.out _ (hA.to b1)).mono ?_
    rintro e w2 ⟨rfl, hb2⟩
    have b2 := below_call b1 b1.size hb2
    go_wp2
    go_ret
    exact ⟨rfl, b2⟩
end Go.Proofs.Ytdimlpcbbkokiaa

/- Plain: a strip that is cut out along a line, filled column by column or row by row; a strip that is put back. No program in sight. -/
namespace Go.Proofs.Ytdimlpcbbkokiaa
open Go.RowKit
set_option linter.unusedVariables false
/-- the strip: row y of column x is row 'l x - up + y' of the image, paper beside the image -/
def recQ (W H : Int) (p : Int → Int) (l : Nat → Int) (up : Int) : Int → Int := fun i =>
  if 0 ≤ l (i % W).toNat - up + i / W ∧ l (i % W).toNat - up + i / W < H then p ((l (i % W).toNat - up + i / W) * W + i % W) else 0
/-- the image with a strip of h rows put back -/
def resQ (W H h : Int) (p q : Int → Int) (l : Nat → Int) (up : Int) : Int → Int := fun i =>
  if 0 ≤ i / W - l (i % W).toNat + up ∧ i / W - l (i % W).toNat + up < h then q ((i / W - l (i % W).toNat + up) * W + i % W) else p i
/-- filled column by column: the columns before x, and column x above row y -/
def byCol (W : Int) (q z : Int → Int) (x y : Int) : Int → Int := fun i => if i % W < x ∨ (i % W = x ∧ i / W < y) then q i else z i
/-- filled row by row: the rows above y, and row y before column x -/
def byRow (W : Int) (q z : Int → Int) (y x : Int) : Int → Int := fun i => if i / W < y ∨ (i / W = y ∧ i % W < x) then q i else z i
section
variable {W h : Int} {q z : Int → Int} {x y i : Int}
theorem byCol_zero (hW : 0 < W) (h0 : 0 ≤ i) : byCol W q z 0 0 i = z i := by
  unfold byCol
  have h1 : 0 ≤ i % W := Int.emod_nonneg _ (by omega)
  have h2 : 0 ≤ i / W := Int.ediv_nonneg h0 (by omega)
  rw [if_neg (by omega)]
theorem byCol_end (hW : 0 < W) : byCol W q z W 0 i = q i := by
  unfold byCol
  have h1 : i % W < W := Int.emod_lt_of_pos _ hW
  rw [if_pos (by omega)]
theorem byCol_col (hW : 0 < W) (h0 : 0 ≤ i) (hi : i < W * h) : byCol W q z x h i = byCol W q z (x + 1) 0 i := by
  have h1 : i / W < h := Int.ediv_lt_of_lt_mul hW (by rw [Int.mul_comm]; exact hi)
  have h2 : 0 ≤ i / W := Int.ediv_nonneg h0 (by omega)
  unfold byCol
  by_cases c : i % W < x ∨ (i % W = x ∧ i / W < h)
  · rw [if_pos c, if_pos (by omega)]
  · rw [if_neg c, if_neg (by omega)]
theorem byCol_set (x0 : 0 ≤ x) (x1 : x < W) : upd (byCol W q z x y) (y * W + x) (q (y * W + x)) i = byCol W q z x (y + 1) i := by
  have a := idx_mod (y := y) x0 x1
  have b := idx_div (y := y) x0 x1
  unfold upd byCol
  by_cases e : i = y * W + x
  · subst e
    rw [if_pos rfl, a, b, if_pos (.inr ⟨rfl, by omega⟩)]
  · rw [if_neg e]
    have hne : i % W = x → i / W ≠ y := fun h3 h4 => e (by
      have := Int.emod_add_mul_ediv i W
      rw [h3, h4, Int.mul_comm] at this; omega)
    by_cases c : i % W < x ∨ (i % W = x ∧ i / W < y)
    · rw [if_pos c, if_pos (by omega)]
    · rw [if_neg c, if_neg (by omega)]
theorem byCol_skip (x0 : 0 ≤ x) (x1 : x < W) (hq : q (y * W + x) = z (y * W + x)) : byCol W q z x y i = byCol W q z x (y + 1) i := by
  have a := idx_mod (y := y) x0 x1
  have b := idx_div (y := y) x0 x1
  unfold byCol
  by_cases e : i = y * W + x
  · subst e
    rw [a, b, if_neg (by omega), if_pos (.inr ⟨rfl, by omega⟩), hq]
  · have hne : i % W = x → i / W ≠ y := fun h3 h4 => e (by
      have := Int.emod_add_mul_ediv i W
      rw [h3, h4, Int.mul_comm] at this; omega)
    by_cases c : i % W < x ∨ (i % W = x ∧ i / W < y)
    · rw [if_pos c, if_pos (by omega)]
    · rw [if_neg c, if_neg (by omega)]
theorem byRow_zero (hW : 0 < W) (h0 : 0 ≤ i) : byRow W q z 0 0 i = z i := by
  unfold byRow
  have h1 : 0 ≤ i % W := Int.emod_nonneg _ (by omega)
  have h2 : 0 ≤ i / W := Int.ediv_nonneg h0 (by omega)
  rw [if_neg (by omega)]
theorem byRow_end (hW : 0 < W) (hi : i < W * h) : byRow W q z h 0 i = q i := by
  have h1 : i / W < h := Int.ediv_lt_of_lt_mul hW (by rw [Int.mul_comm]; exact hi)
  unfold byRow
  rw [if_pos (by omega)]
theorem byRow_row (hW : 0 < W) : byRow W q z y W i = byRow W q z (y + 1) 0 i := by
  have h1 : i % W < W := Int.emod_lt_of_pos _ hW
  have h2 : 0 ≤ i % W := Int.emod_nonneg _ (by omega)
  unfold byRow
  by_cases c : i / W < y ∨ (i / W = y ∧ i % W < W)
  · rw [if_pos c, if_pos (by omega)]
  · rw [if_neg c, if_neg (by omega)]
theorem byRow_set (x0 : 0 ≤ x) (x1 : x < W) : upd (byRow W q z y x) (y * W + x) (q (y * W + x)) i = byRow W q z y (x + 1) i := by
  have a := idx_mod (y := y) x0 x1
  have b := idx_div (y := y) x0 x1
  unfold upd byRow
  by_cases e : i = y * W + x
  · subst e
    rw [if_pos rfl, a, b, if_pos (.inr ⟨rfl, by omega⟩)]
  · rw [if_neg e]
    have hne : i % W = x → i / W ≠ y := fun h3 h4 => e (by
      have := Int.emod_add_mul_ediv i W
      rw [h3, h4, Int.mul_comm] at this; omega)
    by_cases c : i / W < y ∨ (i / W = y ∧ i % W < x)
    · rw [if_pos c, if_pos (by omega)]
    · rw [if_neg c, if_neg (by omega)]
theorem byRow_skip (x0 : 0 ≤ x) (x1 : x < W) (hq : q (y * W + x) = z (y * W + x)) : byRow W q z y x i = byRow W q z y (x + 1) i := by
  have a := idx_mod (y := y) x0 x1
  have b := idx_div (y := y) x0 x1
  unfold byRow
  by_cases e : i = y * W + x
  · subst e
    rw [a, b, if_neg (by omega), if_pos (.inr ⟨rfl, by omega⟩), hq]
  · have hne : i % W = x → i / W ≠ y := fun h3 h4 => e (by
      have := Int.emod_add_mul_ediv i W
      rw [h3, h4, Int.mul_comm] at this; omega)
    by_cases c : i / W < y ∨ (i / W = y ∧ i % W < x)
    · rw [if_pos c, if_pos (by omega)]
    · rw [if_neg c, if_neg (by omega)]
end
end Go.Proofs.Ytdimlpcbbkokiaa

/- Walk: a strip cut out along a stave (stave.Rectify), where it is refused. -/
namespace Go.Proofs.Ytdimlpcbbkokiaa
open Go.RowKit Go.Shelf
set_option linter.unusedVariables false
attribute [local go_sem] Oper.semAt_some

set_option maxHeartbeats 1000000 in
theorem rectify_chk (W H : Int) (A AL : Option Addr) (n c K cL : Nat) (p : Int → Int) (m : Nat → Nat) (ln : Nat → Nat → Int) (up down z : Int) (w : World) (hA : ArrB w w.heap.size A n p) (hn : n ≤ maxLen) (hL : Lines w w.heap.size AL K m ln) (hm : ∀ i, i < K → m i ≤ maxLen) (hz : stChk W H n p K m ln = z) (h0 : z ≠ 0) :
    Calls Try.prog 44 #[.agg #[.int .i64 W, .int .i64 H, .slice A n c], .agg #[.slice AL K cL], .int .i64 up, .int .i64 down] w fun e w' => e = .returned (.tuple #[noImg, .int .i64 z]) ∧ Below w.heap.size w w' := by
  have CK := Lib.hid fun w' hA' hL' => check_st W H A AL n c K cL p m ln z w' hA' hn hL' hm hz
  have b1 : Below w.heap.size w (((w.alloc (.cells #[.int .i64 W, .int .i64 H, .slice A n c] 24)).alloc (.cells #[.slice AL K cL] 54)).alloc (.cells #[.int .i64 0, .int .i64 0, .slice none 0 0] 24)) := by (repeat (first | exact Below.refl _ _ | assumption | refine Below.drew ?_ | refine below_drewN ?_ _ | refine Below.alloc ?_ (by first | omega | (simp; done) | (simp; omega)) _ | refine Below.setCell ?_ (by first | omega | (simp; done) | (simp; omega)) _ | refine below_setRow ?_ (by first | omega | (simp; done) | (simp; omega)) _ ))
  have k3 : Blk (((w.alloc (.cells #[.int .i64 W, .int .i64 H, .slice A n c] 24)).alloc (.cells #[.slice AL K cL] 54)).alloc (.cells #[.int .i64 0, .int .i64 0, .slice none 0 0] 24)) (w.heap.size + 1 + 1) 24 #[.int .i64 0, .int .i64 0, .slice none 0 0] := Blk.new' (by simp) _ _
  have k1 : Blk (((w.alloc (.cells #[.int .i64 W, .int .i64 H, .slice A n c] 24)).alloc (.cells #[.slice AL K cL] 54)).alloc (.cells #[.int .i64 0, .int .i64 0, .slice none 0 0] 24)) w.heap.size 24 #[.int .i64 W, .int .i64 H, .slice A n c] := ((Blk.new _ _ _).alloc _).alloc _
  have k2 : Blk (((w.alloc (.cells #[.int .i64 W, .int .i64 H, .slice A n c] 24)).alloc (.cells #[.slice AL K cL] 54)).alloc (.cells #[.int .i64 0, .int .i64 0, .slice none 0 0] 24)) (w.heap.size + 1) 54 #[.slice AL K cL] := (Blk.new' (by simp) _ _).alloc _
  have hb : (z != 0) = true := by simp [h0]
  have HZ := Lib.hid h0
  clear h0 hz
  go_enter Try.func44, Try.ntmps44
  go_wp2_with fail
  generalize ((w.alloc (.cells #[.int .i64 W, .int .i64 H, .slice A n c] 24)).alloc (.cells #[.slice AL K cL] 54)).alloc (.cells #[.int .i64 0, .int .i64 0, .slice none 0 0] 24) = w1 at *
  refine (CK.out _ (hA.to b1) (hL.below b1)).mono ?_
  rintro e w2 ⟨rfl, hb2⟩
  have b2 := below_call b1 b1.size hb2
  have k4 := k3.below' hb2
  obtain ⟨r1, r2, r3⟩ := k4.cells3
  obtain ⟨f1, f2, f3⟩ := k4.frozen3
  have k5 := ((k4.set_ 0 (.int .i64 0)).set_ 1 (.int .i64 0)).set_ 2 (.slice none 0 0)
  obtain ⟨s1, s2, s3⟩ := Blk.cells3 (a := .int .i64 0) (b := .int .i64 0) (c := .slice none 0 0) k5
  go_wp2
  refine bodyPost_ret (v := .tuple #[noImg, .int .i64 z]) (by simp [results, Try.results44, go_sem, noImg, s1, s2, s3]) rfl ?_
  exact ⟨rfl, by (repeat (first | with_reducible exact Below.refl _ _ | with_reducible assumption | with_reducible refine Below.drew ?_ | (with_reducible refine below_alloc' ?_ ?_; focus (first | omega | (simp; done) | (simp; omega))) | (with_reducible refine below_fill3' ?_ ?_; focus omega) | (with_reducible refine below_setCell' ?_ ?_; focus (first | omega | (simp; done) | (simp; omega))) | (with_reducible apply below_call'; (focus (with_reducible assumption)); (focus (first | omega | (simp; done) | (simp; omega))))))⟩
set_option maxHeartbeats 1000000 in
theorem rectify_arg (W H : Int) (A AL : Option Addr) (n c K cL : Nat) (p : Int → Int) (m : Nat → Nat) (ln : Nat → Nat → Int) (up down : Int) (w : World) (hA : ArrB w w.heap.size A n p) (hn : n ≤ maxLen) (hL : Lines w w.heap.size AL K m ln) (hm : ∀ i, i < K → m i ≤ maxLen) (hz : stChk W H n p K m ln = 0) (h0 : up < 0 ∨ down < 0) :
    Calls Try.prog 44 #[.agg #[.int .i64 W, .int .i64 H, .slice A n c], .agg #[.slice AL K cL], .int .i64 up, .int .i64 down] w fun e w' => e = .returned (.tuple #[noImg, .int .i64 1]) ∧ Below w.heap.size w w' := by
  have CK := Lib.hid fun w' hA' hL' => check_st W H A AL n c K cL p m ln 0 w' hA' hn hL' hm hz
  have b1 : Below w.heap.size w (((w.alloc (.cells #[.int .i64 W, .int .i64 H, .slice A n c] 24)).alloc (.cells #[.slice AL K cL] 54)).alloc (.cells #[.int .i64 0, .int .i64 0, .slice none 0 0] 24)) := by (repeat (first | exact Below.refl _ _ | assumption | refine Below.drew ?_ | refine below_drewN ?_ _ | refine Below.alloc ?_ (by first | omega | (simp; done) | (simp; omega)) _ | refine Below.setCell ?_ (by first | omega | (simp; done) | (simp; omega)) _ | refine below_setRow ?_ (by first | omega | (simp; done) | (simp; omega)) _ ))
  have k3 : Blk (((w.alloc (.cells #[.int .i64 W, .int .i64 H, .slice A n c] 24)).alloc (.cells #[.slice AL K cL] 54)).alloc (.cells #[.int .i64 0, .int .i64 0, .slice none 0 0] 24)) (w.heap.size + 1 + 1) 24 #[.int .i64 0, .int .i64 0, .slice none 0 0] := Blk.new' (by simp) _ _
  have k1 : Blk (((w.alloc (.cells #[.int .i64 W, .int .i64 H, .slice A n c] 24)).alloc (.cells #[.slice AL K cL] 54)).alloc (.cells #[.int .i64 0, .int .i64 0, .slice none 0 0] 24)) w.heap.size 24 #[.int .i64 W, .int .i64 H, .slice A n c] := ((Blk.new _ _ _).alloc _).alloc _
  have k2 : Blk (((w.alloc (.cells #[.int .i64 W, .int .i64 H, .slice A n c] 24)).alloc (.cells #[.slice AL K cL] 54)).alloc (.cells #[.int .i64 0, .int .i64 0, .slice none 0 0] 24)) (w.heap.size + 1) 54 #[.slice AL K cL] := (Blk.new' (by simp) _ _).alloc _
  obtain ⟨mn, h1, h2, h3⟩ : ∃ mn : Int, min up down = mn ∧ (if down < up then down else up) = mn ∧ mn < 0 := ⟨min up down, rfl, by split <;> omega, by omega⟩
  clear h0 hz
  go_enter Try.func44, Try.ntmps44
  go_wp2_with fail
  generalize ((w.alloc (.cells #[.int .i64 W, .int .i64 H, .slice A n c] 24)).alloc (.cells #[.slice AL K cL] 54)).alloc (.cells #[.int .i64 0, .int .i64 0, .slice none 0 0] 24) = w1 at *
  refine (CK.out _ (hA.to b1) (hL.below b1)).mono ?_
  rintro e w2 ⟨rfl, hb2⟩
  have b2 := below_call b1 b1.size hb2
  have k4 := k3.below' hb2
  obtain ⟨r1, r2, r3⟩ := k4.cells3
  obtain ⟨f1, f2, f3⟩ := k4.frozen3
  have k5 := ((k4.set_ 0 (.int .i64 0)).set_ 1 (.int .i64 0)).set_ 2 (.slice none 0 0)
  obtain ⟨s1, s2, s3⟩ := Blk.cells3 (a := .int .i64 0) (b := .int .i64 0) (c := .slice none 0 0) k5
  obtain ⟨p1, p2, p3⟩ := (k1.below' hb2).cells3
  have p4 := (k2.below' hb2).cells0
  go_wp2
  refine bodyPost_ret (v := .tuple #[noImg, .int .i64 1]) (by simp [results, Try.results44, go_sem, noImg, s1, s2, s3]) rfl ?_
  exact ⟨rfl, by (repeat (first | with_reducible exact Below.refl _ _ | with_reducible assumption | with_reducible refine Below.drew ?_ | (with_reducible refine below_alloc' ?_ ?_; focus (first | omega | (simp; done) | (simp; omega))) | (with_reducible refine below_fill3' ?_ ?_; focus omega) | (with_reducible refine below_setCell' ?_ ?_; focus (first | omega | (simp; done) | (simp; omega))) | (with_reducible apply below_call'; (focus (with_reducible assumption)); (focus (first | omega | (simp; done) | (simp; omega))))))⟩
set_option maxHeartbeats 1000000 in
theorem rectify_size1 (W H : Int) (A AL : Option Addr) (n c K cL : Nat) (p : Int → Int) (m : Nat → Nat) (ln : Nat → Nat → Int) (up down : Int) (w : World) (hA : ArrB w w.heap.size A n p) (hn : n ≤ maxLen) (hL : Lines w w.heap.size AL K m ln) (hm : ∀ i, i < K → m i ≤ maxLen) (hz : stChk W H n p K m ln = 0) (u0 : 0 ≤ up) (d0 : 0 ≤ down) (h0 : 640 ≤ up ∨ 640 ≤ down) :
    Calls Try.prog 44 #[.agg #[.int .i64 W, .int .i64 H, .slice A n c], .agg #[.slice AL K cL], .int .i64 up, .int .i64 down] w fun e w' => e = .returned (.tuple #[noImg, .int .i64 2]) ∧ Below w.heap.size w w' := by
  have CK := Lib.hid fun w' hA' hL' => check_st W H A AL n c K cL p m ln 0 w' hA' hn hL' hm hz
  have b1 : Below w.heap.size w (((w.alloc (.cells #[.int .i64 W, .int .i64 H, .slice A n c] 24)).alloc (.cells #[.slice AL K cL] 54)).alloc (.cells #[.int .i64 0, .int .i64 0, .slice none 0 0] 24)) := by (repeat (first | exact Below.refl _ _ | assumption | refine Below.drew ?_ | refine below_drewN ?_ _ | refine Below.alloc ?_ (by first | omega | (simp; done) | (simp; omega)) _ | refine Below.setCell ?_ (by first | omega | (simp; done) | (simp; omega)) _ | refine below_setRow ?_ (by first | omega | (simp; done) | (simp; omega)) _ ))
  have k3 : Blk (((w.alloc (.cells #[.int .i64 W, .int .i64 H, .slice A n c] 24)).alloc (.cells #[.slice AL K cL] 54)).alloc (.cells #[.int .i64 0, .int .i64 0, .slice none 0 0] 24)) (w.heap.size + 1 + 1) 24 #[.int .i64 0, .int .i64 0, .slice none 0 0] := Blk.new' (by simp) _ _
  have k1 : Blk (((w.alloc (.cells #[.int .i64 W, .int .i64 H, .slice A n c] 24)).alloc (.cells #[.slice AL K cL] 54)).alloc (.cells #[.int .i64 0, .int .i64 0, .slice none 0 0] 24)) w.heap.size 24 #[.int .i64 W, .int .i64 H, .slice A n c] := ((Blk.new _ _ _).alloc _).alloc _
  have k2 : Blk (((w.alloc (.cells #[.int .i64 W, .int .i64 H, .slice A n c] 24)).alloc (.cells #[.slice AL K cL] 54)).alloc (.cells #[.int .i64 0, .int .i64 0, .slice none 0 0] 24)) (w.heap.size + 1) 54 #[.slice AL K cL] := (Blk.new' (by simp) _ _).alloc _
  obtain ⟨mn, h1, h2, h3⟩ : ∃ mn : Int, min up down = mn ∧ (if down < up then down else up) = mn ∧ ¬ mn < 0 := ⟨min up down, rfl, by split <;> omega, by omega⟩
  clear hz
  by_cases hu : 640 ≤ up
  · clear h0
    go_enter Try.func44, Try.ntmps44
    go_wp2_with fail
    generalize ((w.alloc (.cells #[.int .i64 W, .int .i64 H, .slice A n c] 24)).alloc (.cells #[.slice AL K cL] 54)).alloc (.cells #[.int .i64 0, .int .i64 0, .slice none 0 0] 24) = w1 at *
    refine (CK.out _ (hA.to b1) (hL.below b1)).mono ?_
    rintro e w2 ⟨rfl, hb2⟩
    have b2 := below_call b1 b1.size hb2
    have k4 := k3.below' hb2
    obtain ⟨r1, r2, r3⟩ := k4.cells3
    obtain ⟨f1, f2, f3⟩ := k4.frozen3
    have k5 := ((k4.set_ 0 (.int .i64 0)).set_ 1 (.int .i64 0)).set_ 2 (.slice none 0 0)
    obtain ⟨s1, s2, s3⟩ := Blk.cells3 (a := .int .i64 0) (b := .int .i64 0) (c := .slice none 0 0) k5
    go_wp2
    refine bodyPost_ret (v := .tuple #[noImg, .int .i64 2]) (by simp [results, Try.results44, go_sem, noImg, s1, s2, s3]) rfl ?_
    exact ⟨rfl, by (repeat (first | with_reducible exact Below.refl _ _ | with_reducible assumption | with_reducible refine Below.drew ?_ | (with_reducible refine below_alloc' ?_ ?_; focus (first | omega | (simp; done) | (simp; omega))) | (with_reducible refine below_fill3' ?_ ?_; focus omega) | (with_reducible refine below_setCell' ?_ ?_; focus (first | omega | (simp; done) | (simp; omega))) | (with_reducible apply below_call'; (focus (with_reducible assumption)); (focus (first | omega | (simp; done) | (simp; omega))))))⟩
  · have hd : 640 ≤ down := by omega
    clear h0
    go_enter Try.func44, Try.ntmps44
    go_wp2_with fail
    generalize ((w.alloc (.cells #[.int .i64 W, .int .i64 H, .slice A n c] 24)).alloc (.cells #[.slice AL K cL] 54)).alloc (.cells #[.int .i64 0, .int .i64 0, .slice none 0 0] 24) = w1 at *
    refine (CK.out _ (hA.to b1) (hL.below b1)).mono ?_
    rintro e w2 ⟨rfl, hb2⟩
    have b2 := below_call b1 b1.size hb2
    have k4 := k3.below' hb2
    obtain ⟨r1, r2, r3⟩ := k4.cells3
    obtain ⟨f1, f2, f3⟩ := k4.frozen3
    have k5 := ((k4.set_ 0 (.int .i64 0)).set_ 1 (.int .i64 0)).set_ 2 (.slice none 0 0)
    obtain ⟨s1, s2, s3⟩ := Blk.cells3 (a := .int .i64 0) (b := .int .i64 0) (c := .slice none 0 0) k5
    go_wp2
    refine bodyPost_ret (v := .tuple #[noImg, .int .i64 2]) (by simp [results, Try.results44, go_sem, noImg, s1, s2, s3]) rfl ?_
    exact ⟨rfl, by (repeat (first | with_reducible exact Below.refl _ _ | with_reducible assumption | with_reducible refine Below.drew ?_ | (with_reducible refine below_alloc' ?_ ?_; focus (first | omega | (simp; done) | (simp; omega))) | (with_reducible refine below_fill3' ?_ ?_; focus omega) | (with_reducible refine below_setCell' ?_ ?_; focus (first | omega | (simp; done) | (simp; omega))) | (with_reducible apply below_call'; (focus (with_reducible assumption)); (focus (first | omega | (simp; done) | (simp; omega))))))⟩
set_option maxHeartbeats 1000000 in
theorem rectify_size2 (W H : Int) (A AL : Option Addr) (n c K cL : Nat) (p : Int → Int) (m : Nat → Nat) (ln : Nat → Nat → Int) (up down : Int) (w : World) (hA : ArrB w w.heap.size A n p) (hn : n ≤ maxLen) (hL : Lines w w.heap.size AL K m ln) (hm : ∀ i, i < K → m i ≤ maxLen) (hz : stChk W H n p K m ln = 0) (u0 : 0 ≤ up) (d0 : 0 ≤ down) (u1 : up < 640) (d1 : down < 640) (h0 : 640 < up + down + 1) :
    Calls Try.prog 44 #[.agg #[.int .i64 W, .int .i64 H, .slice A n c], .agg #[.slice AL K cL], .int .i64 up, .int .i64 down] w fun e w' => e = .returned (.tuple #[noImg, .int .i64 2]) ∧ Below w.heap.size w w' := by
  have CK := Lib.hid fun w' hA' hL' => check_st W H A AL n c K cL p m ln 0 w' hA' hn hL' hm hz
  have b1 : Below w.heap.size w (((w.alloc (.cells #[.int .i64 W, .int .i64 H, .slice A n c] 24)).alloc (.cells #[.slice AL K cL] 54)).alloc (.cells #[.int .i64 0, .int .i64 0, .slice none 0 0] 24)) := by (repeat (first | exact Below.refl _ _ | assumption | refine Below.drew ?_ | refine below_drewN ?_ _ | refine Below.alloc ?_ (by first | omega | (simp; done) | (simp; omega)) _ | refine Below.setCell ?_ (by first | omega | (simp; done) | (simp; omega)) _ | refine below_setRow ?_ (by first | omega | (simp; done) | (simp; omega)) _ ))
  have k3 : Blk (((w.alloc (.cells #[.int .i64 W, .int .i64 H, .slice A n c] 24)).alloc (.cells #[.slice AL K cL] 54)).alloc (.cells #[.int .i64 0, .int .i64 0, .slice none 0 0] 24)) (w.heap.size + 1 + 1) 24 #[.int .i64 0, .int .i64 0, .slice none 0 0] := Blk.new' (by simp) _ _
  have k1 : Blk (((w.alloc (.cells #[.int .i64 W, .int .i64 H, .slice A n c] 24)).alloc (.cells #[.slice AL K cL] 54)).alloc (.cells #[.int .i64 0, .int .i64 0, .slice none 0 0] 24)) w.heap.size 24 #[.int .i64 W, .int .i64 H, .slice A n c] := ((Blk.new _ _ _).alloc _).alloc _
  have k2 : Blk (((w.alloc (.cells #[.int .i64 W, .int .i64 H, .slice A n c] 24)).alloc (.cells #[.slice AL K cL] 54)).alloc (.cells #[.int .i64 0, .int .i64 0, .slice none 0 0] 24)) (w.heap.size + 1) 54 #[.slice AL K cL] := (Blk.new' (by simp) _ _).alloc _
  obtain ⟨mn, h1, h2, h3⟩ : ∃ mn : Int, min up down = mn ∧ (if down < up then down else up) = mn ∧ ¬ mn < 0 := ⟨min up down, rfl, by split <;> omega, by omega⟩
  have v1 : IntKind.i64.wrap (up + down) = up + down := IntWalk.i64_in _ (by omega)
  have v2 : IntKind.i64.wrap (up + down + 1) = up + down + 1 := IntWalk.i64_in _ (by omega)
  have NB := Lib.hid fun w' => new_bad W (up + down + 1) w' (newE_bad.2 (.inr (.inr (.inr h0))))
  unfold noImg at NB
  clear h0 hz
  go_enter Try.func44, Try.ntmps44
  go_wp2_with fail
  generalize ((w.alloc (.cells #[.int .i64 W, .int .i64 H, .slice A n c] 24)).alloc (.cells #[.slice AL K cL] 54)).alloc (.cells #[.int .i64 0, .int .i64 0, .slice none 0 0] 24) = w1 at *
  refine (CK.out _ (hA.to b1) (hL.below b1)).mono ?_
  rintro e w2 ⟨rfl, hb2⟩
  have b2 := below_call b1 b1.size hb2
  have k4 := k3.below' hb2
  obtain ⟨r1, r2, r3⟩ := k4.cells3
  obtain ⟨p1, p2, p3⟩ := (k1.below' hb2).cells3
  have p4 := (k2.below' hb2).cells0
  go_wp2_with fail
  refine (NB.out _).mono ?_
  rintro e w3 ⟨rfl, hb3⟩
  have b3 := below_call b2 b2.size hb3
  have b4 : Below w.heap.size w (w3.alloc (.cells #[.int .i64 0, .int .i64 0, .slice none 0 0] 24)) := b3.alloc b3.size _
  have k6 := (k4.below' hb3).alloc (.cells #[.int .i64 0, .int .i64 0, .slice none 0 0] 24)
  obtain ⟨g1, g2, g3⟩ := k6.cells3
  obtain ⟨f1, f2, f3⟩ := k6.frozen3
  have k5 := ((k6.set_ 0 (.int .i64 0)).set_ 1 (.int .i64 0)).set_ 2 (.slice none 0 0)
  obtain ⟨s1, s2, s3⟩ := Blk.cells3 (a := .int .i64 0) (b := .int .i64 0) (c := .slice none 0 0) k5
  clear r1 r2 r3 p1 p2 p3 p4
  go_wp2
  refine bodyPost_ret (v := .tuple #[noImg, .int .i64 2]) (by simp [results, Try.results44, go_sem, noImg, s1, s2, s3]) rfl ?_
  exact ⟨rfl, by (repeat (first | with_reducible exact Below.refl _ _ | with_reducible assumption | with_reducible refine Below.drew ?_ | (with_reducible refine below_alloc' ?_ ?_; focus (first | omega | (simp; done) | (simp; omega))) | (with_reducible refine below_fill3' ?_ ?_; focus omega) | (with_reducible refine below_setCell' ?_ ?_; focus (first | omega | (simp; done) | (simp; omega))) | (with_reducible apply below_call'; (focus (with_reducible assumption)); (focus (first | omega | (simp; done) | (simp; omega))))))⟩
end Go.Proofs.Ytdimlpcbbkokiaa

/- Walk: a strip cut out along a stave (stave.Rectify), where it is made. -/
namespace Go.Proofs.Ytdimlpcbbkokiaa
open Go.RowKit Go.Shelf
set_option linter.unusedVariables false
attribute [local go_sem] Oper.semAt_some

set_option maxRecDepth 100000 in
set_option maxHeartbeats 4000000 in
theorem rectify_ok (W H : Int) (A AL : Option Addr) (n c K cL N : Nat) (p : Int → Int) (m : Nat → Nat) (ln : Nat → Nat → Int) (up down h : Int) (w : World) (hA : ArrB w w.heap.size A n p) (hn : n ≤ maxLen) (hB : IsB p) (hL : Lines w w.heap.size AL K m ln) (hm : ∀ i, i < K → m i ≤ maxLen) (hz : stChk W H n p K m ln = 0) (hE : chk W H n p = 0) (hP : StP W H K m ln)
    (u0 : 0 ≤ up) (d0 : 0 ≤ down) (hh : h = up + down + 1) (hle : h ≤ 640) (hN : (N : Int) = W * h) :
    Calls Try.prog 44 #[.agg #[.int .i64 W, .int .i64 H, .slice A n c], .agg #[.slice AL K cL], .int .i64 up, .int .i64 down] w (New w fun v w' => ∃ g, v = .tuple #[g, .int .i64 0] ∧ OutN w w' W h N (recQ W H p (ln 4) up) g) := by
  obtain ⟨hW1, hW2, hH1, hH2, hnn, hpx⟩ := chk_ok hE
  obtain ⟨rfl, hpath, -⟩ := hP
  obtain ⟨⟨W1, H1, m4⟩, hst⟩ := isPathB_iff.1 (hpath 4 (by omega))
  have PB := Lib.hid fun (x : Nat) (hx : (x : Int) < m 4) => stepB_iff.1 (hst x (by omega) hx)
  have wh := area_bd (W := W) (H := h) (by omega) hW2 (by omega) hle
  have CK := Lib.hid fun w' hA' hL' => check_st W H A AL n c 5 cL p m ln 0 w' hA' hn hL' hm hz
  have NO := Lib.hid fun w' => new_ok W h w' (by omega) hW2 (by omega) hle
  have hN2 : (W * h).toNat = N := by omega
  have b1 : Below w.heap.size w (((w.alloc (.cells #[.int .i64 W, .int .i64 H, .slice A n c] 24)).alloc (.cells #[.slice AL 5 cL] 54)).alloc (.cells #[.int .i64 0, .int .i64 0, .slice none 0 0] 24)) := by (repeat (first | exact Below.refl _ _ | assumption | refine Below.drew ?_ | refine below_drewN ?_ _ | refine Below.alloc ?_ (by first | omega | (simp; done) | (simp; omega)) _ | refine Below.setCell ?_ (by first | omega | (simp; done) | (simp; omega)) _ | refine below_setRow ?_ (by first | omega | (simp; done) | (simp; omega)) _ ))
  have k3 : Blk (((w.alloc (.cells #[.int .i64 W, .int .i64 H, .slice A n c] 24)).alloc (.cells #[.slice AL 5 cL] 54)).alloc (.cells #[.int .i64 0, .int .i64 0, .slice none 0 0] 24)) (w.heap.size + 1 + 1) 24 #[.int .i64 0, .int .i64 0, .slice none 0 0] := Blk.new' (by simp) _ _
  have k1 : Blk (((w.alloc (.cells #[.int .i64 W, .int .i64 H, .slice A n c] 24)).alloc (.cells #[.slice AL 5 cL] 54)).alloc (.cells #[.int .i64 0, .int .i64 0, .slice none 0 0] 24)) w.heap.size 24 #[.int .i64 W, .int .i64 H, .slice A n c] := ((Blk.new _ _ _).alloc _).alloc _
  have k2 : Blk (((w.alloc (.cells #[.int .i64 W, .int .i64 H, .slice A n c] 24)).alloc (.cells #[.slice AL 5 cL] 54)).alloc (.cells #[.int .i64 0, .int .i64 0, .slice none 0 0] 24)) (w.heap.size + 1) 54 #[.slice AL 5 cL] := (Blk.new' (by simp) _ _).alloc _
  obtain ⟨mn, h1, h2, h3⟩ : ∃ mn : Int, min up down = mn ∧ (if down < up then down else up) = mn ∧ ¬ mn < 0 := ⟨min up down, rfl, by split <;> omega, by omega⟩
  have e1 : up < 640 := by omega
  have e2 : down < 640 := by omega
  have v1 : IntKind.i64.wrap (up + down) = up + down := IntWalk.i64_in _ (by omega)
  have v2 : IntKind.i64.wrap (up + down + 1) = h := by rw [← hh]; exact IntWalk.i64_in _ (by omega)
  have hpos : 1 ≤ h := by omega
  have HHH := Lib.hid hh; have HNN := Lib.hid hnn; have HN := Lib.hid hN; have HM4 := Lib.hid m4
  have HNB : (N : Int) ≤ 409600 := by omega
  clear hz hE hpath hst hh hnn hN hpx
  go_enter Try.func44, Try.ntmps44
  go_wp2_with fail
  generalize ((w.alloc (.cells #[.int .i64 W, .int .i64 H, .slice A n c] 24)).alloc (.cells #[.slice AL 5 cL] 54)).alloc (.cells #[.int .i64 0, .int .i64 0, .slice none 0 0] 24) = w1 at *
  refine (CK.out _ (hA.to b1) (hL.below b1)).mono ?_
  rintro e w2 ⟨rfl, hb2⟩
  have b2 := below_call b1 b1.size hb2
  have q1 := k1.below' hb2
  have q2 := k2.below' hb2
  have q3 := k3.below' hb2
  obtain ⟨p1, p2, p3⟩ := q1.cells3
  have p4 := q2.cells0
  clear b1 k1 k2 k3 hb2
  go_wp2_with fail
  refine (NO.out _).mono ?_
  rintro e w3 ⟨_, rfl, ⟨_, rfl, gp, rfl, hgp, kp⟩, hb3⟩
  rw [hN2] at kp ⊢
  have b3 := below_call b2 b2.size hb3
  obtain ⟨bA, oA, A4, c4, rfl, hbA, hcA, haA⟩ := hL.at_ (i := 4) (by omega)
  obtain ⟨b4, o4, rfl, hb4, hc4⟩ := ArrI.fn haA (by omega)
  have HC4 := Lib.hid hc4
  have z1 : w.heap.size + 1 + 1 < w2.heap.size := q3.lt
  have z2 := kp.lt
  have z3 := hb3.size
  obtain ⟨Q, hQ⟩ : ∃ Q, Q = recQ W H p (ln 4) up := ⟨_, rfl⟩
  have HQ := Lib.hid hQ
  have b5 : Below w.heap.size w (w3.alloc (.cells #[.int .i64 W, .int .i64 h, .slice (some ⟨gp, 0, none⟩) N N] 24)) := b3.alloc b3.size _
  have s1 := (q1.below' hb3).alloc (.cells #[.int .i64 W, .int .i64 h, .slice (some ⟨gp, 0, none⟩) N N] 24)
  have s2 := (q2.below' hb3).alloc (.cells #[.int .i64 W, .int .i64 h, .slice (some ⟨gp, 0, none⟩) N N] 24)
  have s3 := (q3.below' hb3).alloc (.cells #[.int .i64 W, .int .i64 h, .slice (some ⟨gp, 0, none⟩) N N] 24)
  have sx := Blk.new w3 24 #[.int .i64 W, .int .i64 h, .slice (some ⟨gp, 0, none⟩) N N]
  have sp : Blk (w3.alloc (.cells #[.int .i64 W, .int .i64 h, .slice (some ⟨gp, 0, none⟩) N N] 24)) gp 5 (u8s N (byCol W Q (fun _ => 0) (0 : Nat) (0 : Nat))) := (kp.alloc _).u8conv fun i i0 _ => (byCol_zero (W := W) (q := Q) (z := fun _ => 0) (by omega) i0).symm
  have r4 := s2.cells0
  have r5 := (b5.cell (p := ⟨bA, oA + 4, none⟩) hbA).trans hcA
  obtain ⟨r1, r2, r3⟩ := s1.cells3
  obtain ⟨rx1, rx2, rx3⟩ := sx.cells3
  clear hQ q1 q2 q3 kp hb3 b2 b3 p1 p2 p3 p4 hc4 CK NO h1 h2 h3 v1 v2
  go_wp2_with fail
  generalize w3.alloc (.cells #[.int .i64 W, .int .i64 h, .slice (some ⟨gp, 0, none⟩) N N] 24) = w5 at *
  generalize w3.heap.size = gx at *
  generalize hm4 : m 4 = M at *
  go_loopw [55] (fun s wr => ∃ x : Nat, x ≤ M ∧ s = .int .i64 x ∧ Below w.heap.size w wr ∧ Blk wr w.heap.size 24 #[.int .i64 W, .int .i64 H, .slice A n c] ∧ Blk wr (w.heap.size + 1 + 1) 24 #[.int .i64 0, .int .i64 0, .slice none 0 0] ∧ Blk wr gx 24 #[.int .i64 W, .int .i64 h, .slice (some ⟨gp, 0, none⟩) N N] ∧ Blk wr gp 5 (u8s N (byCol W Q (fun _ => 0) x (0 : Nat)))) (fun s _ => M - (intOf s).toNat)
  case atStart => exact ⟨0, by omega, rfl, b5, s1, s3, sx, sp⟩
  case round =>
    obtain ⟨x, hx, rfl, b6, t1, t3, tx, tp⟩ := hrel
    clear r1 r2 r3 r4 r5 rx1 rx2 rx3 b5 s1 s2 s3 sx sp
    obtain ⟨r1, r2, r3⟩ := t1.cells3
    obtain ⟨rx1, rx2, rx3⟩ := tx.cells3
    by_cases xl : (x : Int) < M
    · have xW : (x : Int) < W := by have := HM4.out; omega
      have lx := HC4.out x (by omega) xl
      rw [Int.toNat_natCast] at lx
      have cx := (b6.cell (p := ⟨b4, o4 + x, none⟩) hb4).trans lx
      obtain ⟨pb1, pb2, -⟩ := PB.out x xl
      rw [Int.toNat_natCast] at pb1 pb2
      generalize hlx : ln 4 x = l at *
      have HLX := Lib.hid hlx
      clear lx hlx
      go_wp2_with fail
      go_loopw [62] (fun s wr => ∃ y : Nat, (y : Int) ≤ h ∧ s = .int .i64 y ∧ Below w.heap.size w wr ∧ Blk wr w.heap.size 24 #[.int .i64 W, .int .i64 H, .slice A n c] ∧ Blk wr (w.heap.size + 1 + 1) 24 #[.int .i64 0, .int .i64 0, .slice none 0 0] ∧ Blk wr gx 24 #[.int .i64 W, .int .i64 h, .slice (some ⟨gp, 0, none⟩) N N] ∧ Blk wr gp 5 (u8s N (byCol W Q (fun _ => 0) x y))) (fun s _ => (h - intOf s).toNat)
      case atStart => exact ⟨0, by omega, rfl, b6, t1, t3, tx, tp⟩
      case round =>
        obtain ⟨y, hy, rfl, b7, a1, a3, ax, ap⟩ := hrel
        clear r1 r2 r3 rx1 rx2 rx3 b6 t1 t3 tx tp cx
        obtain ⟨r1, r2, r3⟩ := a1.cells3
        obtain ⟨rx1, rx2, rx3⟩ := ax.cells3
        by_cases yl : (y : Int) < h
        · have v3 : IntKind.i64.wrap (l - up) = l - up := IntWalk.i64_in _ (by omega)
          have v4 : IntKind.i64.wrap (l - up + y) = l - up + y := IntWalk.i64_in _ (by omega)
          have QV : Hid (Q (y * W + x) = if 0 ≤ l - up + y ∧ l - up + y < H then p ((l - up + y) * W + x) else 0) := by
            show _ = _
            rw [HQ.out]; unfold recQ
            rw [idx_mod (by omega) xW, idx_div (by omega) xW, Int.toNat_natCast, HLX.out]
          by_cases hin : 0 ≤ (l - up + (y : Int)) ∧ (l - up + (y : Int)) < H
          · obtain ⟨hi1, hi2⟩ := hin
            have d1 : decide (0 ≤ (l - up + (y : Int))) = true := decide_eq_true hi1
            have d2 : decide ((l - up + (y : Int)) < H) = true := decide_eq_true hi2
            rw [if_pos ⟨hi1, hi2⟩] at QV
            obtain ⟨i1, i2, i3⟩ := idx_lt (x := (x : Int)) (y := (l - up + (y : Int))) (W := W) (H := H) (by omega) xW hi1 hi2
            rw [Int.mul_comm H W] at i2
            obtain ⟨j1, j2, j3⟩ := idx_lt (x := (x : Int)) (y := (y : Int)) (W := W) (H := h) (by omega) xW (by omega) yl
            rw [Int.mul_comm h W] at j2
            have i4 : (l - up + (y : Int)) * W + x < (n : Int) := by have := HNN.out; omega
            have j4 : (y : Int) * W + x < (N : Int) := by have := HN.out; omega
            have nb := (area_bd hW1 hW2 hH1 hH2).2
            have v5 : IntKind.i64.wrap ((l - up + (y : Int)) * W) = (l - up + (y : Int)) * W := IntWalk.i64_in _ (by omega)
            have v6 : IntKind.i64.wrap ((l - up + (y : Int)) * W + x) = (l - up + (y : Int)) * W + x := IntWalk.i64_in _ (by omega)
            have v7 : IntKind.i64.wrap ((y : Int) * W) = (y : Int) * W := IntWalk.i64_in _ (by omega)
            have v8 : IntKind.i64.wrap ((y : Int) * W + x) = (y : Int) * W + x := IntWalk.i64_in _ (by omega)
            obtain ⟨bi, oi, rfl, hbi, hci⟩ := ArrB.at_ (ArrB.below hA b7) i1 i4
            have cg := ap.u8at j1 j4
            have fg := ap.frozen ((y : Int) * W + x).toNat
            have KS := Lib.hid (ap.u8set ((y : Int) * W + x) j1 (p ((l - up + (y : Int)) * W + x)))
            have g1 : gp ≠ w.heap.size := by omega
            have BS := Lib.hid (fun i => byCol_set (q := Q) (z := fun _ => 0) (y := (y : Int)) (i := i) (by omega : (0 : Int) ≤ x) xW)
            generalize hpv : p ((l - up + (y : Int)) * W + x) = pv at *
            have HPV := Lib.hid hpv
            clear hpv
            go_wp2_with fail
            go_still_tail 19, (by kernel_rfl)
            change wpList _ _ _ _ _ wr.drew
            clear v5 v6 v7 v8
            go_wp2
            go_roundw
            case rel => exact ⟨y + 1, by omega, by go_num, by (repeat (first | exact Below.refl _ _ | assumption | refine Below.drew ?_ | refine below_drewN ?_ _ | refine Below.alloc ?_ (by first | omega | (simp; done) | (simp; omega)) _ | refine Below.setCell ?_ (by first | omega | (simp; done) | (simp; omega)) _ | refine below_setRow ?_ (by first | omega | (simp; done) | (simp; omega)) _ )), a1.drew.far (p := ⟨gp, ((y : Int) * W + x).toNat, none⟩) (fun e => g1 e.symm) _, a3.drew.far (p := ⟨gp, ((y : Int) * W + x).toNat, none⟩) (by show w.heap.size + 1 + 1 ≠ gp; omega) _, ax.drew.far (p := ⟨gp, ((y : Int) * W + x).toNat, none⟩) (by show gx ≠ gp; omega) _, Blk.u8conv (by simpa using KS.out.drew) fun i _ _ => by have h := BS.out i; rw [QV.out] at h; rw [Int.natCast_add]; exact h⟩
            case measure => simp [intOf]; omega
          · rw [if_neg hin] at QV
            have SK := Lib.hid (fun i => byCol_skip (q := Q) (z := fun _ => 0) (y := (y : Int)) (i := i) (by omega : (0 : Int) ≤ x) xW QV.out)
            by_cases h0 : 0 ≤ (l - up + (y : Int))
            · have hh2 : ¬ (l - up + (y : Int)) < H := fun h3 => hin ⟨h0, h3⟩
              have d1 : decide (0 ≤ (l - up + (y : Int))) = true := decide_eq_true h0
              have d2 : decide ((l - up + (y : Int)) < H) = false := decide_eq_false hh2
              clear hin
              go_wp2_with fail
              go_roundw
              case rel => exact ⟨y + 1, by omega, by go_num, b7, a1, a3, ax, ap.u8conv fun i _ _ => SK.out i⟩
              case measure => simp [intOf]; omega
            · have d1 : decide (0 ≤ (l - up + (y : Int))) = false := decide_eq_false h0
              clear hin
              go_wp2_with fail
              go_roundw
              case rel => exact ⟨y + 1, by omega, by go_num, b7, a1, a3, ax, ap.u8conv fun i _ _ => SK.out i⟩
              case measure => simp [intOf]; omega
        · have ey : (y : Int) = h := by omega
          have ap2 := ap.u8conv (r := byCol W Q (fun _ => 0) ((x : Int) + 1) (0 : Nat)) fun i i0 i1 => by rw [ey]; exact byCol_col (by omega) i0 (by have := HN.out; omega)
          clear ap ey
          go_wp2_with fail
          go_roundw
          case rel => exact ⟨x + 1, by omega, by go_num, b7, a1, a3, ax, ap2⟩
          case measure => simp [intOf]; omega
    · obtain rfl : x = M := by omega
      obtain ⟨f1, f2, f3⟩ := t3.frozen3
      obtain ⟨y1, y2, y3⟩ := t3.cells3
      have k5 := ((t3.set_ 0 (.int .i64 W)).set_ 1 (.int .i64 h)).set_ 2 (.slice (some ⟨gp, 0, none⟩) N N)
      obtain ⟨s1, s2, s3⟩ := Blk.cells3 (a := .int .i64 W) (b := .int .i64 h) (c := .slice (some ⟨gp, 0, none⟩) N N) k5
      go_wp2_with fail
      refine bodyPost_ret (v := .tuple #[.agg #[.int .i64 W, .int .i64 h, .slice (some ⟨gp, 0, none⟩) N N], .int .i64 0]) (by simp [results, Try.results44, go_sem, s1, s2, s3]) rfl ?_
      refine ⟨_, rfl, ⟨_, rfl, ?_⟩, by (repeat (first | exact Below.refl _ _ | assumption | refine Below.drew ?_ | refine below_drewN ?_ _ | refine Below.alloc ?_ (by first | omega | (simp; done) | (simp; omega)) _ | refine Below.setCell ?_ (by first | omega | (simp; done) | (simp; omega)) _ | refine below_setRow ?_ (by first | omega | (simp; done) | (simp; omega)) _ ))⟩
      rw [← HQ.out]
      have g1 : gp ≠ w.heap.size + 1 + 1 := by omega
      refine OutN.mk (by omega) (Blk.far (Blk.far (Blk.far (tp.u8conv fun i _ _ => ?_) g1 _) g1 _) g1 _)
      rw [HM4.out]
      exact byCol_end (by omega)
end Go.Proofs.Ytdimlpcbbkokiaa

/- Memory: a block of bytes of which the first cells are known; bytes.Clone. -/
namespace Go.Proofs.Ytdimlpcbbkokiaa
open Go.RowKit
set_option linter.unusedVariables false

/-- block g holds bytes, the first n of which are q -/
def ArrO (w : World) (g n : Nat) (q : Int → Int) : Prop := ∃ cs, Blk w g 5 cs ∧ ∀ i : Int, 0 ≤ i → i < n → cs[i.toNat]? = some (.int .u8 (q i))
section
variable {w w' : World} {g n : Nat} {q r : Int → Int}
theorem ArrO.lt (h : ArrO w g n q) : g < w.heap.size := by obtain ⟨cs, hb, -⟩ := h; exact hb.lt
theorem ArrO.cell (h : ArrO w g n q) {i : Int} (h0 : 0 ≤ i) (hi : i < n) : w.cell? ⟨g, i.toNat, none⟩ = some (.int .u8 (q i)) := by obtain ⟨cs, hb, hc⟩ := h; rw [hb.cell, hc i h0 hi]
theorem ArrO.frozen (h : ArrO w g n q) (i : Nat) : w.frozen? ⟨g, i, none⟩ = false := by obtain ⟨cs, hb, -⟩ := h; exact hb.frozen i
theorem ArrO.move (h : ArrO w g n q) (e : w'.heap[g]? = w.heap[g]?) : ArrO w' g n q := by obtain ⟨cs, hb, hc⟩ := h; exact ⟨cs, hb.move e, hc⟩
theorem ArrO.drew (h : ArrO w g n q) : ArrO w.drew g n q := h.move rfl
theorem ArrO.alloc (h : ArrO w g n q) (o : Obj) : ArrO (w.alloc o) g n q := h.move (Below.heap_alloc w o g h.lt)
theorem ArrO.far (h : ArrO w g n q) {p : Addr} (hp : g ≠ p.block) (u : Value) : ArrO (w.setCell p u) g n q := h.move (heap_setCell_other w p g u hp)
theorem ArrO.below (h : ArrO w g n q) (hb : Below w.heap.size w w') : ArrO w' g n q := h.move (hb.block g h.lt)
theorem ArrO.conv (h : ArrO w g n q) (he : ∀ i : Int, 0 ≤ i → i < n → q i = r i) : ArrO w g n r := by
  obtain ⟨cs, hb, hc⟩ := h; exact ⟨cs, hb, fun i a b => by rw [hc i a b, he i a b]⟩
theorem ArrO.set (h : ArrO w g n q) (i : Int) (h0 : 0 ≤ i) (hi : i < n) (v : Int) : ArrO (w.setCell ⟨g, i.toNat, none⟩ (.int .u8 v)) g n (upd q i v) := by
  obtain ⟨cs, hb, hc⟩ := h
  refine ⟨cs.setIfInBounds i.toNat (.int .u8 v), hb.set_ _ _, fun j j0 j1 => ?_⟩
  rw [Array.getElem?_setIfInBounds]
  have hs : i.toNat < cs.size := (Array.getElem?_eq_some_iff.1 (hc i h0 hi)).1
  by_cases e : i.toNat = j.toNat
  · have e' : j = i := by omega
    subst e'
    rw [if_pos rfl, if_pos hs, upd_at]
  · rw [if_neg e, hc j j0 j1, upd_ne (by omega)]
theorem ArrO.arr (h : ArrO w g n q) : ArrB w w.heap.size (some ⟨g, 0, none⟩) n q := fun _ => ⟨g, 0, rfl, h.lt, fun i a b => by rw [Nat.zero_add]; exact h.cell a b⟩
theorem Blk.arrO {N : Nat} (h : Blk w g 5 (u8s N q)) : ArrO w g N q := ⟨_, h, fun i a b => u8s_at a b⟩
end
theorem own_arrO {w : World} {B n : Nat} {v : Value} {q : Int → Int} (h : w.ownsRow B 5 1 v n ((List.range n).map fun (j : Nat) => Value.int .u8 (q j))) (hn : 0 < n) : ∃ g c, v = .slice (some ⟨g, 0, none⟩) n c ∧ n ≤ c ∧ B ≤ g ∧ ArrO w g n q := by
  rcases h.2 with ⟨-, h2⟩ | ⟨g, cap, cur, hv, hb, hh, hc, _, hs, ht⟩
  · omega
  · refine ⟨g, cap, hv, hc, hb, cur, hh, fun i a b => ?_⟩
    have e : cur[i.toNat]? = (cur.toList.take ((List.range n).map fun (j : Nat) => Value.int .u8 (q j)).length)[i.toNat]? := by
      rw [List.getElem?_take, if_pos (by simp; omega)]; simp
    rw [e]
    have : (cur.toList.take ((List.range n).map fun (j : Nat) => Value.int .u8 (q j)).length) = (List.range n).map fun (j : Nat) => Value.int .u8 (q j) := by
      simpa using ht
    rw [this, List.getElem?_map, List.getElem?_range (by omega)]
    simp [Int.toNat_of_nonneg a]

def ClOut (A : Option Addr) (n : Nat) (p : Int → Int) (w : World) (v : Value) (w' : World) : Prop := (A = none ∧ n = 0 ∧ v = .slice none 0 0 ∧ w = w') ∨ w'.ownsRow w.heap.size 5 1 v n ((List.range n).map fun (j : Nat) => Value.int .u8 (p j))
set_option maxRecDepth 100000 in
set_option maxHeartbeats 1000000 in
theorem bclone_own (A : Option Addr) (n c : Nat) (p : Int → Int) (w : World) (hA : ArrB w w.heap.size A n p) (hn : n ≤ 140737488355328) :
    Calls Try.prog 86 #[.slice A n c] w (New w fun v w' => ClOut A n p w v w') := by
  obtain ⟨i0, hi0, hz0, hz1, hz2⟩ := info_parts infoU8
  cases A with
  | none =>
    have hn0 : n = 0 := by
      rcases Nat.eq_zero_or_pos n with h | h
      · exact h
      · obtain ⟨b, off, e, _⟩ := hA h; cases e
    subst hn0
    have E1 : ∀ W, (binOp .eql 22 (.slice none 0 c) (.slice none 0 0)).run Try.prog W = .ok (.bool true) W := fun W => Go.run_eql_slice_nil W _ _ _ _ _ Try.underlying22
    clear hA
    go_enter Try.func86, Try.ntmps86
    go_wp2
    go_ret
    exact ⟨_, rfl, .inl ⟨rfl, rfl, rfl, rfl⟩, Below.refl _ _⟩
  | some ad =>
    have E1 : ∀ W, (binOp .eql 22 (.slice (some ad) n c) (.slice none 0 0)).run Try.prog W = .ok (.bool false) W := fun W => Go.run_eql_slice_nil W _ _ _ _ _ Try.underlying22
    have HA := Lib.hid hA
    clear hA
    go_enter Try.func86, Try.ntmps86
    go_wp2_with (at_builtin; refine wpList_append_own _ rfl (.tmp 5) (.tmp 6) 22 rfl w.heap.size 5 i0 (.int .u8 0) 1 1 Try.underlying22 hi0 hz0 hz1 hz2 rfl (by decide) _ 0 [] rfl (World.ownsRow_made w #[] 0 (Nat.le_refl _) (by decide) rfl) ad n c ((List.range n).map (fun (j : Nat) => Value.int .u8 (p j))) rfl (by simp) ?c1 ?c2 ?c3 ?c4 ?c5 ?_)
    case c1 =>
      intro j u hj
      have hjn : j < n := by
        rcases Nat.lt_or_ge j n with h | h
        · exact h
        · rw [List.getElem?_eq_none (by simpa using h)] at hj; cases hj
      obtain ⟨b, off, e, hb, hcell⟩ := HA.out (by omega)
      injection e with e; subst e
      have := hcell j (by omega) (by omega)
      simp [hjn] at hj
      subst hj
      rw [Int.toNat_natCast] at this
      have hadd : (⟨b, off, none⟩ : Addr).add j = ⟨b, off + j, none⟩ := by unfold Addr.add; split <;> simp_all
      rw [hadd, ← this]
      exact (Below.cell ((Below.refl _ _).alloc (Nat.le_refl _) _) (p := ⟨b, off + j, none⟩) hb)
    case c2 => intro u hu; simp at hu; obtain ⟨j, _, rfl⟩ := hu; rfl
    case c3 => unfold maxLen; omega
    case c4 => omega
    case c5 => simp
    intro v' w7 own7 hg7 _
    have b7 : Below w.heap.size w w7 := ((Below.refl w.heap.size w).alloc (Nat.le_refl _) (.cells #[] 5)).grown hg7 (by simp) (fun k hk => by cases hk; exact Nat.le_refl _)
    go_wp2
    go_ret
    try rw [Nat.zero_add, List.nil_append] at own7
    exact ⟨_, rfl, .inr own7, b7⟩
theorem bclone_pos (A : Option Addr) (n c : Nat) (p : Int → Int) (w : World) (hA : ArrB w w.heap.size A n p) (hn : n ≤ 140737488355328) (h0 : 0 < n) :
    Calls Try.prog 86 #[.slice A n c] w (New w fun v w' => ∃ g c', v = .slice (some ⟨g, 0, none⟩) n c' ∧ n ≤ c' ∧ w.heap.size ≤ g ∧ ArrO w' g n p) :=
  (bclone_own A n c p w hA hn).mono fun e w' ⟨v, he, h, hb⟩ => by
    rcases h with ⟨-, h, -, -⟩ | h
    · omega
    · exact ⟨v, he, own_arrO h h0, hb⟩
theorem outSl_nil (w w' : World) (q : Int → Int) : OutSl w w' 0 q (.slice none 0 0) := ⟨none, 0, rfl, Nat.le_refl _, fun _ => rfl, (fun _ h => by cases h), ArrB.nil⟩
theorem bclone_any (A : Option Addr) (n c : Nat) (p : Int → Int) (w : World) (hA : ArrB w w.heap.size A n p) (hn : n ≤ 140737488355328) :
    Calls Try.prog 86 #[.slice A n c] w (New w fun v w' => OutSl w w' n p v) :=
  (bclone_own A n c p w hA hn).mono fun e w' ⟨v, he, h, hb⟩ => by
    refine ⟨v, he, ?_, hb⟩
    rcases h with ⟨-, rfl, rfl, rfl⟩ | h
    · exact outSl_nil _ _ _
    · exact own_out h rfl
end Go.Proofs.Ytdimlpcbbkokiaa

/- Walk: the first of two errors (cmp.Or). -/
namespace Go.Proofs.Ytdimlpcbbkokiaa
open Go.RowKit Go.Shelf
set_option linter.unusedVariables false
attribute [local go_sem] Oper.semAt_some

/-- the first of two that is not zero -/
def orE (a b : Int) : Int := if a = 0 then b else a
set_option maxHeartbeats 1000000 in
theorem or2_any (g : Nat) (a b : Int) (w : World) (h : Blk w g 30 #[.int .i64 a, .int .i64 b]) :
    Calls Try.prog 85 #[.slice (some ⟨g, 0, none⟩) 2 2] w fun e w' => e = .returned (.int .i64 (orE a b)) ∧ w = w' := by
  have p1 : w.cell? ⟨g, 0, none⟩ = some (.int .i64 a) := by rw [h.cell]; rfl
  have p2 : w.cell? ⟨g, 1, none⟩ = some (.int .i64 b) := by rw [h.cell]; rfl
  have HO : Hid (orE a b = if a = 0 then b else a) := rfl
  generalize orE a b = z at *
  clear h
  by_cases ha : a = 0
  · have hz : z = b := by rw [HO.out, if_pos ha]
    subst hz
    subst ha
    by_cases hb : z = 0
    · subst hb
      clear HO
      go_enter Try.func85, Try.ntmps85
      go_wp2_with fail
      go_loop [8] (fun i => ∃ k : Nat, k ≤ 2 ∧ i = .int .i64 k) (fun i => 2 - (intOf i).toNat)
      case atStart => exact ⟨0, by omega, rfl⟩
      case round =>
        obtain ⟨k, hk, rfl⟩ := hrel
        by_cases k2 : k = 2
        · subst k2
          go_wp2
          go_ret
          exact ⟨rfl, rfl⟩
        · have hc : w.cell? ⟨g, k, none⟩ = some (.int .i64 0) := by
            by_cases k0 : k = 0
            · subst k0; exact p1
            · obtain rfl : k = 1 := by omega
              exact p2
          have kl : (k : Int) < 2 := by omega
          clear p1 p2
          go_wp2
          go_round
          case rel => exact ⟨k + 1, by omega, by go_num⟩
          case measure => simp [intOf]; omega
    · have hb' : (z == 0) = false := by simp [hb]
      have hb2 : (z != 0) = true := by simp [hb]
      have HB := Lib.hid hb
      clear HO hb
      go_enter Try.func85, Try.ntmps85
      go_wp2_with fail
      go_loop [8] (fun i => ∃ k : Nat, k ≤ 1 ∧ i = .int .i64 k) (fun i => 2 - (intOf i).toNat)
      case atStart => exact ⟨0, by omega, rfl⟩
      case round =>
        obtain ⟨k, hk, rfl⟩ := hrel
        by_cases k0 : k = 0
        · subst k0
          go_wp2
          go_round
          case rel => exact ⟨1, by omega, by go_num⟩
          case measure => simp [intOf]
        · obtain rfl : k = 1 := by omega
          go_wp2
          go_ret
          exact ⟨rfl, rfl⟩
  · have hz : z = a := by rw [HO.out, if_neg ha]
    subst hz
    have hb' : (z == 0) = false := by simp [ha]
    have hb2 : (z != 0) = true := by simp [ha]
    have HA := Lib.hid ha
    clear HO ha
    go_enter Try.func85, Try.ntmps85
    go_wp2_with fail
    go_loop [8] (fun i => i = .int .i64 0) (fun i => 2 - (intOf i).toNat)
    case atStart => exact rfl
    case round =>
      subst hrel
      go_wp2
      go_ret
      exact ⟨rfl, rfl⟩
end Go.Proofs.Ytdimlpcbbkokiaa
