/- Texts of mine in build order: S6, T13, T14, T15, T25, T29, T30, S14. Conditions: each theorem's own. -/
import Derived.Test.YtdimlpcbbkokiaaMStaveBackx3
import Derived.Deep.RegionHeld3
import Derived.Deep.AppendLies
import Derived.WalkMore
import Derived.Deep.RegionLaw
import Derived.Deep.CutBlock
/- Plain: the least costs column by column as lists, to reckon examples. No program in sight. -/
namespace Go.Proofs.Ytdimlpcbbkokiaa
open Go.RowKit
set_option linter.unusedVariables false

section
variable (N W H : Int) (c : Int → Int → Int) (F : Int → Int → Bool)
def stepL (d : List Int) (x : Int) : List Int := (List.range H.toNat).map fun (y : Nat) => if F x y then N else min (mfold N (goTo (fun t => d.getD t.toNat 0) y) (nxLo y) (nxN H y) + c x y) N
def colL : Nat → List Int
  | 0 => (List.range H.toNat).map fun (y : Nat) => if F (W - 1) y then N else min (c (W - 1) y) N
  | k + 1 => stepL N H c F (colL k) (W - 1 - (k + 1 : Nat))
def nxtL (d : List Int) (g cc a : Int) : Int := ((nbT a (nxN H a)).find? fun t => decide (goTo (fun t => d.getD t.toNat 0) a t = g - cc)).getD a
def pathL : Nat → Int
  | 0 => fmin (fun t => (colL N W H c F (W - 1).toNat).getD t.toNat 0) H.toNat
  | x + 1 => nxtL H (colL N W H c F (W - 1 - (x + 1 : Nat)).toNat) ((colL N W H c F (W - 1 - x).toNat).getD (pathL x).toNat 0) (c x (pathL x)) (pathL x)
end
theorem mfold_congr {N : Int} {f g : Int → Int} {lo : Int} {j : Nat} (h : ∀ i : Nat, i < j → f (lo + i) = g (lo + i)) : mfold N f lo j = mfold N g lo j := by
  induction j with
  | zero => rfl
  | succ j ih => rw [mfold, mfold, ih (fun i hi => h i (by omega)), h j (by omega)]
theorem fmin_congr {f g : Int → Int} {n : Nat} (h : ∀ i : Int, 0 ≤ i → i < n → f i = g i) : fmin f n = fmin g n := by
  induction n with
  | zero => rfl
  | succ n ih =>
    have e := ih fun i a b => h i a (by omega)
    have b := fmin_bd g n
    rw [fmin, fmin, e, h n (by omega) (by omega)]
    by_cases hn : 0 < n
    · rw [h (fmin g n) b.1 (by have := b.2 hn; omega)]
    · obtain rfl : n = 0 := by omega
      rw [show fmin g 0 = (0 : Nat) from rfl, h (0 : Nat) (by omega) (by omega)]
theorem getD_range_map (n : Nat) (f : Nat → Int) (y : Int) (h0 : 0 ≤ y) (h : y < n) : ((List.range n).map f).getD y.toNat 0 = f y.toNat := by
  rw [List.getD_eq_getElem?_getD, List.getElem?_map, List.getElem?_range (by omega)]; rfl
theorem colL_eq {N W H : Int} {c : Int → Int → Int} {F : Int → Int → Bool} (k : Nat) (y : Int) (h0 : 0 ≤ y) (h : y < H) : gcol N W H c F k y = (colL N W H c F k).getD y.toNat 0 := by
  induction k generalizing y with
  | zero =>
    rw [colL, getD_range_map _ _ _ h0 (by omega), gcol, Int.toNat_of_nonneg h0]
  | succ k ih =>
    rw [colL, stepL, getD_range_map _ _ _ h0 (by omega), gcol, Int.toNat_of_nonneg h0]
    have : mfold N (goTo (gcol N W H c F k) y) (nxLo y) (nxN H y) = mfold N (goTo (fun t => (colL N W H c F k).getD t.toNat 0) y) (nxLo y) (nxN H y) := mfold_congr fun i hi => by
      have h1 := (nx_in h0 h i).1 hi
      unfold goTo
      rw [ih (nxLo y + i) (by unfold nxLo; split <;> omega) h1.1]
    rw [this]
theorem nb_mem {H a t : Int} (a0 : 0 ≤ a) (a1 : a < H) (h : t ∈ nbT a (nxN H a)) : 0 ≤ t ∧ t < H := by
  obtain ⟨j, hj, rfl⟩ := List.mem_map.1 h
  have h1 := (nx_in a0 a1 j).1 (List.mem_range.1 hj)
  have : 0 ≤ nxLo a := by unfold nxLo; split <;> omega
  omega
theorem find_congr {f g : Int → Bool} {l : List Int} (h : ∀ t ∈ l, f t = g t) : l.find? f = l.find? g := by
  induction l with
  | nil => rfl
  | cons a l ih => rw [List.find?_cons, List.find?_cons, h a (List.mem_cons_self ..), ih fun t ht => h t (List.mem_cons_of_mem _ ht)]
theorem nxt_in {N W H : Int} {c : Int → Int → Int} {F : Int → Int → Bool} {x a : Int} (a0 : 0 ≤ a) (a1 : a < H) : 0 ≤ nxt N W H c F x a ∧ nxt N W H c F x a < H := by
  rw [nxt_find]
  cases h : (nbT a (nxN H a)).find? (fun t => decide (goTo (gAt N W H c F (x + 1)) a t = gAt N W H c F x a - c x a)) with
  | none => exact ⟨a0, a1⟩
  | some t => exact nb_mem a0 a1 (List.mem_of_find?_eq_some h)
theorem pathL_eq {N W H : Int} {c : Int → Int → Int} {F : Int → Int → Bool} (hH : 0 < H) (x : Nat) : pathP N W H c F x = pathL N W H c F x ∧ 0 ≤ pathP N W H c F x ∧ pathP N W H c F x < H := by
  induction x with
  | zero =>
    have b := fmin_bd (gAt N W H c F 0) H.toNat
    refine ⟨?_, b.1, by have := b.2 (by omega); show fmin _ _ < _; omega⟩
    show fmin _ _ = fmin _ _
    refine fmin_congr fun i a b => ?_
    unfold gAt
    rw [colL_eq _ i a (by omega), Int.sub_zero]
  | succ x ih =>
    obtain ⟨e, i0, i1⟩ := ih
    refine ⟨?_, nxt_in i0 i1⟩
    show nxt N W H c F x (pathP N W H c F x) = _
    rw [nxt_find, pathL, ← e, nxtL]
    congr 1
    refine find_congr fun t ht => ?_
    obtain ⟨t0, t1⟩ := nb_mem i0 i1 ht
    have h1 : gAt N W H c F (x + 1) t = (colL N W H c F (W - 1 - (x + 1 : Nat)).toNat).getD t.toNat 0 := colL_eq _ t t0 t1
    have h2 : gAt N W H c F x (pathP N W H c F x) = (colL N W H c F (W - 1 - x).toNat).getD (pathP N W H c F x).toNat 0 := colL_eq _ _ i0 i1
    unfold goTo
    rw [h1, h2]

def rowQ (hole : Int) : Int → Int := fun i => if 32 ≤ i ∧ i < 48 ∧ i - 32 ≠ hole then 1 else 0
def rowQ2 : Int → Int := fun i => if i = 23 then 1 else rowQ 7 i
theorem rowQ_B (h : Int) : IsB (rowQ h) := fun i => by unfold rowQ; split <;> omega
theorem rowQ2_B : IsB rowQ2 := fun i => by unfold rowQ2; split; omega; exact rowQ_B 7 i
theorem aw1 : allN 16 (fun i => decide (pathL 1073741824 16 5 (cst (rowQ 7) 16) (fun _ _ => false) i.toNat = 2)) = true := by decide +kernel
theorem aw2 : (colL 1073741824 16 5 (cst (rowQ 7) 16) (fun _ _ => false) 15).getD 2 0 = 2 := by decide +kernel
theorem aw3 : pathL 1073741824 16 5 (cst rowQ2 16) (fun _ _ => false) 0 = 2 ∧ pathL 1073741824 16 5 (cst rowQ2 16) (fun _ _ => false) 7 = 1 := by decide +kernel
theorem aw4 : (colL 1073741824 16 5 (cst rowQ2 16) (fun _ _ => false) 15).getD 2 0 = 2 := by decide +kernel
theorem aw1' : pathL 1073741824 16 5 (cst (rowQ 7) 16) (fun _ _ => false) 0 = 2 := of_decide_eq_true (allN_iff.1 aw1 0 (by decide) (by decide))
theorem aw1'' (i : Int) (h0 : 0 ≤ i) (h : i < (16 : Nat)) : LN 1073741824 16 5 (cst (rowQ 7) 16) 0 i.toNat = 2 := (pathL_eq (by decide) i.toNat).1.trans (of_decide_eq_true (allN_iff.1 aw1 i h0 h))
theorem aw3' : LN 1073741824 16 5 (cst rowQ2 16) 0 7 = 1 := (pathL_eq (by decide) 7).1.trans aw3.2
/-- one line, if the first path is cheap and begins in row 2 of five rows -/
theorem many_one {p : Int → Int} (h0 : pathL 1073741824 16 5 (cst p 16) (fun _ _ => false) 0 = 2) (h1 : (colL 1073741824 16 5 (cst p 16) (fun _ _ => false) 15).getD 2 0 = 2) : Many 1073741824 16 5 (cst p 16) 1 := by
  have e0 : LN 1073741824 16 5 (cst p 16) 0 0 = 2 := (pathL_eq (by decide) 0).1.trans h0
  have g0 : GC 1073741824 16 5 (cst p 16) 0 = 2 := by
    unfold GC
    rw [e0]
    exact (colL_eq (15 : Nat) 2 (by decide) (by decide)).trans h1
  refine ⟨by decide, fun j hj => ?_, fun _ hg => ?_⟩
  · obtain rfl : j = 0 := by omega
    exact ⟨by rw [g0]; decide, by rw [g0]; decide⟩
  · have b := (pathL_eq (N := 1073741824) (W := 16) (H := 5) (c := cst p 16) (F := fun x y => FB 1073741824 16 5 (cst p 16) 1 (y * 16 + x)) (by decide) 0).2
    have h2 := hg.1
    unfold GC at h2
    rw [gAt_step (by decide) (by decide), if_pos] at h2
    · omega
    · show FB 1073741824 16 5 (cst p 16) (0 + 1) (LN 1073741824 16 5 (cst p 16) 1 0 * 16 + 0) = true
      have b' : 0 ≤ LN 1073741824 16 5 (cst p 16) 1 0 ∧ LN 1073741824 16 5 (cst p 16) 1 0 < 5 := b
      rw [FB]
      unfold mkF
      rw [show (LN 1073741824 16 5 (cst p 16) 1 0 * 16 + 0) % 16 = 0 by omega, show (LN 1073741824 16 5 (cst p 16) 1 0 * 16 + 0) / 16 = LN 1073741824 16 5 (cst p 16) 1 0 by omega]
      show (_ || decide (LN 1073741824 16 5 (cst p 16) 0 0 - 2 ≤ _ ∧ _ ≤ LN 1073741824 16 5 (cst p 16) 0 0 + 2)) = true
      rw [e0, Bool.or_eq_true]
      exact .inr (decide_eq_true (by omega))
end Go.Proofs.Ytdimlpcbbkokiaa

/- Walks: an image with one row of ink (custoslaw03.row), flat lines (custoslaw03.flat), slices.Clone of numbers. -/
namespace Go.Proofs.Ytdimlpcbbkokiaa
open Go.RowKit Go.Shelf
set_option linter.unusedVariables false
attribute [local go_sem] Oper.semAt_some

set_option maxHeartbeats 1000000 in
theorem row_any (hole : Int) (w : World) (h0 : 0 ≤ hole) (h1 : hole < 16) : Calls Try.prog 55 #[.int .i64 hole] w (New w fun v w' => OutN w w' 16 5 80 (rowQ hole) v) := by
  have hmk := makeB 80 (by omega) (by omega)
  rw [show (80 : Int).toNat = 80 from rfl] at hmk
  go_enter Try.func55, Try.ntmps55
  go_wp2
  go_loopw [7] (fun s wr => ∃ i : Nat, i ≤ 16 ∧ s = .int .i64 i ∧ Below w.heap.size w wr ∧ Blk wr w.heap.size 24 #[.int .i64 0, .int .i64 0, .slice none 0 0] ∧
     Blk wr (w.heap.size + 2) 24 #[.int .i64 16, .int .i64 5, .slice (some ⟨w.heap.size + 1, 0, none⟩) 80 80] ∧ Blk wr (w.heap.size + 1) 5 (u8s 80 (fun j => if j < 32 + i then rowQ hole j else 0))) (fun s _ => 16 - (intOf s).toNat)
  case atStart =>
    refine ⟨0, by omega, rfl, by (repeat (first | exact Below.refl _ _ | assumption | refine Below.drew ?_ | refine below_drewN ?_ _ | refine Below.alloc ?_ (by first | omega | (simp; done) | (simp; omega)) _ | refine Below.setCell ?_ (by first | omega | (simp; done) | (simp; omega)) _ | refine below_setRow ?_ (by first | omega | (simp; done) | (simp; omega)) _ )), ?_, ?_, ?_⟩
    · exact ((Blk.new _ _ _).alloc _).alloc _
    · exact Blk.new' (by simp) _ _
    · exact ((Blk.new' (by simp) _ _).alloc _).u8conv fun j h _ => by unfold rowQ; split <;> omega
  case round =>
    obtain ⟨i, hi, rfl, b1, k0, k2, kg⟩ := hrel
    obtain ⟨p1, p2, p3⟩ := k2.cells3
    by_cases hlt : i < 16
    · obtain ⟨J, hJ⟩ : ∃ J : Int, J = 32 + i := ⟨_, rfl⟩
      have v1 : IntKind.i64.wrap (32 + (i : Int)) = J := by rw [hJ]; exact IntWalk.i64_in _ (by omega)
      have J0 : 0 ≤ J := by omega
      have J1 : J < 80 := by omega
      have hr := kg.u8at (i := J) J0 J1
      have hf := kg.frozen J.toNat
      have KS := Lib.hid (kg.u8set J J0 1)
      have HJ := Lib.hid hJ
      clear hJ
      have KG := Lib.hid kg
      clear kg
      have hlt' : (i : Int) < 16 := by omega
      by_cases e : (i : Int) = hole
      · have E := Lib.hid e
        have e' : ((i : Int) != hole) = false := by simp [e]
        clear e
        go_wp2
        go_roundw
        case rel =>
          refine ⟨i + 1, by omega, by go_num, b1, k0, k2, KG.out.u8conv fun j _ _ => ?_⟩
          have := E.out
          by_cases e1 : j < 32 + i
          · rw [if_pos e1, if_pos (by omega)]
          · rw [if_neg e1]
            split
            · unfold rowQ; rw [if_neg (by omega)]
            · rfl
        case measure => simp [intOf]; omega
      · have E := Lib.hid e
        have e' : ((i : Int) != hole) = true := by simp [e]
        clear e
        go_wp2
        go_roundw
        case rel =>
          refine ⟨i + 1, by omega, by go_num, by (repeat (first | exact Below.refl _ _ | assumption | refine Below.drew ?_ | refine below_drewN ?_ _ | refine Below.alloc ?_ (by first | omega | (simp; done) | (simp; omega)) _ | refine Below.setCell ?_ (by first | omega | (simp; done) | (simp; omega)) _ | refine below_setRow ?_ (by first | omega | (simp; done) | (simp; omega)) _ )), k0.far (by simp) _, k2.far (by simp) _, KS.out.u8conv fun j _ _ => ?_⟩
          have := E.out
          have hJ := HJ.out
          show (if j = J then (1 : Int) else if j < 32 + i then rowQ hole j else 0) = _
          by_cases e : j = J
          · rw [if_pos e, if_pos (by omega)]
            unfold rowQ; rw [if_pos (by omega)]
          · rw [if_neg e]
            by_cases e' : j < 32 + i
            · rw [if_pos e', if_pos (by omega)]
            · rw [if_neg e', if_neg (by omega)]
        case measure => simp [intOf]; omega
    · obtain rfl : i = 16 := by omega
      obtain ⟨r1, r2, r3⟩ := k0.cells3
      obtain ⟨f1, f2, f3⟩ := k0.frozen3
      go_wp2
      refine bodyPost_ret (v := .agg #[.int .i64 16, .int .i64 5, .slice (some ⟨w.heap.size + 1, 0, none⟩) 80 80]) (by simp [results, Try.results55, go_sem, r1, r2, r3]) rfl ?_
      exact ⟨_, rfl, OutN.mk (by omega) ((((kg.u8conv fun j _ h => by (split; rfl; unfold rowQ; rw [if_neg (by omega)])).far (by simp) _).far (by simp) _).far (by simp) _), by (repeat (first | exact Below.refl _ _ | assumption | refine Below.drew ?_ | refine below_drewN ?_ _ | refine Below.alloc ?_ (by first | omega | (simp; done) | (simp; omega)) _ | refine Below.setCell ?_ (by first | omega | (simp; done) | (simp; omega)) _ | refine below_setRow ?_ (by first | omega | (simp; done) | (simp; omega)) _ ))⟩

theorem own_i64s {w : World} {g m base : Nat} {q : Int → Int} (h : Blk w g 3 (i64s m q)) (hb : base ≤ g) (hm : m ≤ maxLen) : w.ownsRow base 3 1 (.slice (some ⟨g, 0, none⟩) m m) m ((List.range m).map fun (j : Nat) => Value.int .i64 (q j)) := by
  refine ⟨by simp, .inr ⟨g, m, i64s m q, rfl, hb, h, Nat.le_refl _, hm, by rw [i64s_size, Nat.mul_one], ?_⟩⟩
  rw [Nat.mul_one]
  exact List.take_of_length_le (by simp [i64s, cellsF])
theorem Found.snoc {B m k : Nat} {w w' : World} {ln : Nat → Nat → Int} {vo v' : Value} {v : Nat → Value} {u : Value} (h : Found B w m ln k vo v) (hu : w.ownsRow B 3 1 u m ((List.range m).map fun j => Value.int .i64 (ln k j)))
    (hg : w.grownBy w' vo.ownBlock) (hr : w'.ownsRow B 25 1 v' (k + 1) ((List.range k).map v ++ [u])) : Found B w' m ln (k + 1) v' (fun i => if i = k then u else v i) := by
  refine ⟨?_, fun i hi => ?_⟩
  · rw [range_snoc]
    simp only [if_true]
    rw [show (List.range k).map (fun i => if i = k then u else v i) = (List.range k).map v from List.map_congr_left fun i hi => by rw [if_neg]; have := List.mem_range.1 hi; omega]
    exact hr
  · show World.ownsRow _ _ _ _ (if i = k then _ else v i) _ _
    by_cases e : i = k
    · subst e
      rw [if_pos rfl]
      exact own_grown hu h.row (by decide) hg
    · rw [if_neg e]
      exact own_grown (h.lines i (by omega)) h.row (by decide) hg

set_option maxRecDepth 100000 in
set_option maxHeartbeats 2000000 in
theorem flat_any (m K d : Nat) (R : Option Addr) (r : Int → Int) (w : World) (hR : ArrI w w.heap.size R K r) (hm : m ≤ 1000) (hK : K ≤ 1000) :
    Calls Try.prog 56 #[.int .i64 m, .slice R K d] w (New w fun v w' => ∃ vs, Found w.heap.size w' m (fun i _ => r i) K v vs) := by
  have hmk := makeI (m : Int) (by omega) (by omega)
  rw [Int.toNat_natCast] at hmk
  obtain ⟨i0, hi0, hz0, hz1, hz2⟩ := info_parts infoInts
  go_enter Try.func56, Try.ntmps56
  go_wp2
  go_loopw [5, 12] (fun vo s wr => ∃ (k : Nat) (v : Nat → Value), k ≤ K ∧ s = .int .i64 k ∧ Found w.heap.size wr m (fun i _ => r i) k vo v ∧ Below w.heap.size w wr) (fun _ s _ => K - (intOf s).toNat)
  case atStart => exact ⟨0, fun _ => .slice none 0 0, by omega, rfl, ⟨World.ownsRow_nil _ _ _ _, fun i hi => by omega⟩, Below.refl _ _⟩
  case round =>
    obtain ⟨k, v, hk, rfl, hF, b1⟩ := hrel
    by_cases hlt : (k : Int) < K
    · obtain ⟨b, off, rfl, hb, hc⟩ := ArrI.at_ (ArrI.below hR b1) (i := (k : Int)) (by omega) (by omega)
      rw [Int.toNat_natCast] at hc
      have kl := Blk.new wr 3 (i64s m (fun _ => 0))
      have b2 : Below wr.heap.size wr (wr.alloc (.cells (i64s m (fun _ => 0)) 3)) := (Below.refl _ _).alloc (Nat.le_refl _) _
      have HR := Lib.hid hR
      have zl := b1.size
      clear hR
      obtain ⟨w0, e0⟩ : ∃ w0 : World, w0 = wr := ⟨_, rfl⟩
      subst e0
      go_wp2
      clear hc
      go_loopw [20] (fun s w9 => ∃ x : Nat, x ≤ m ∧ s = .int .i64 x ∧ Below w0.heap.size w0 w9 ∧ Blk w9 w0.heap.size 3 (i64s m (fun j => if j < x then r k else 0))) (fun s _ => m - (intOf s).toNat)
      case atStart => exact ⟨0, by omega, rfl, b2, kl.i64conv fun j h _ => by rw [if_neg (by omega)]⟩
      case round =>
        obtain ⟨x, xm, rfl, b3, kl3⟩ := hrel
        clear b2 kl
        by_cases xl : (x : Int) < m
        · have c1 := kl3.i64at (i := (x : Int)) (by omega) (by omega)
          have f1 := kl3.frozen x
          rw [Int.toNat_natCast] at c1
          have KS := kl3.i64set (x : Int) (by omega) (r k)
          rw [Int.toNat_natCast] at KS
          have KS := Lib.hid KS
          go_wp2
          go_roundw
          case rel =>
            refine ⟨x + 1, by omega, by go_num, by (repeat (first | exact Below.refl _ _ | assumption | refine Below.drew ?_ | refine below_drewN ?_ _ | refine Below.alloc ?_ (by first | omega | (simp; done) | (simp; omega)) _ | refine Below.setCell ?_ (by first | omega | (simp; done) | (simp; omega)) _ | refine below_setRow ?_ (by first | omega | (simp; done) | (simp; omega)) _ )), KS.out.i64conv fun j _ _ => ?_⟩
            show (if j = x then r k else if j < x then r k else 0) = _
            split
            · rw [if_pos (by omega)]
            · by_cases e : j < x
              · rw [if_pos e, if_pos (by omega)]
              · rw [if_neg e, if_neg (by omega)]
          case measure => simp [intOf]; omega
        · obtain rfl : x = m := by omega
          have kl4 := kl3.i64conv (r := fun _ => r k) fun j _ h => by rw [if_pos h]
          clear kl3
          have F2 := hF.below b3
          have b4 := below_call b1 b1.size b3
          have z4 := b4.size
          go_wp2_with (at_builtin; refine wpList_append_own _ rfl (.tmp 28) (.tmp 30) 34 rfl w.heap.size 25 i0 (.slice none 0 0) 1 24 Try.underlying34 hi0 hz0 hz1 hz2 rfl (by decide) _ _ _ rfl (F2.row.alloc _) ⟨wr.heap.size, 0, none⟩ 1 1 [.slice (some ⟨w0.heap.size, 0, none⟩) x x] rfl rfl ?c1 ?c2 ?c3 ?c4 ?c5 ?_)
          try case c1 => exact cell_one_new _ _ _
          case c2 => simp [Value.oneCell']
          case c3 => unfold maxLen; omega
          case c4 => omega
          case c5 => first | omega | (simp; omega)
          intro v' w7 own7 hg7 _
          have F7 := (F2.below ((Below.refl _ _).alloc (Nat.le_refl _) _)).snoc (own_i64s (kl4.alloc _) zl (by unfold maxLen; omega)) hg7 own7
          have b7 : Below w.heap.size w w7 := (show Below w.heap.size w (wr.alloc (.cells #[.slice (some ⟨w0.heap.size, 0, none⟩) x x] 25)) by (repeat (first | exact Below.refl _ _ | assumption | refine Below.drew ?_ | refine below_drewN ?_ _ | refine Below.alloc ?_ (by first | omega | (simp; done) | (simp; omega)) _ | refine Below.setCell ?_ (by first | omega | (simp; done) | (simp; omega)) _ | refine below_setRow ?_ (by first | omega | (simp; done) | (simp; omega)) _ ))).grown hg7 (by simp; omega) (fun j hj => (own_ge F2.row hj).1)
          clear own7 hg7 F2 b3 kl4 b1 hF b4
          go_wp2
          go_roundw
          case rel => exact ⟨k + 1, _, by omega, by go_num, F7, b7⟩
          case measure => simp [intOf]; omega
    · obtain rfl : k = K := by omega
      go_wp2
      go_ret
      exact ⟨_, rfl, ⟨_, hF⟩, b1⟩
end Go.Proofs.Ytdimlpcbbkokiaa

/- Walks: the least and the greatest of a list of numbers; whether five lines have gaps that are alike (stave.even). -/
namespace Go.Proofs.Ytdimlpcbbkokiaa
open Go.RowKit Go.Shelf
set_option linter.unusedVariables false
attribute [local go_sem] Oper.semAt_some

def minA (q : Int → Int) : Nat → Int
  | 0 => q 0
  | i + 1 => if q ((i : Int) + 1) < minA q i then q ((i : Int) + 1) else minA q i
def maxA (q : Int → Int) : Nat → Int
  | 0 => q 0
  | i + 1 => if maxA q i < q ((i : Int) + 1) then q ((i : Int) + 1) else maxA q i
set_option maxHeartbeats 1000000 in
theorem min_any (A : Option Addr) (n c : Nat) (q : Int → Int) (w : World) (hA : ArrI w w.heap.size A (n + 1) q) (hn : n ≤ 1000000) :
    Calls Try.prog 80 #[.slice A (n + 1) c] w fun e w' => e = .returned (.int .i64 (minA q n)) ∧ w' = w := by
  obtain ⟨b, off, rfl, hb, hc⟩ := ArrI.fn hA (by omega)
  have HC := Lib.hid hc
  have h0 := hc 0 (by omega) (by omega)
  rw [show off + (0 : Int).toNat = off from rfl] at h0
  clear hc hA
  have hn0 : ¬ ((n : Int) + 1 < 1) := by omega
  go_enter Try.func80, Try.ntmps80
  go_wp2
  go_loopw [3, 4] (fun m s wr => ∃ i : Nat, i ≤ n ∧ s = .int .i64 ((i : Int) + 1) ∧ m = .int .i64 (minA q i) ∧ wr = w) (fun _ s _ => n + 1 - (intOf s).toNat)
  case atStart => exact ⟨0, by omega, rfl, rfl, rfl⟩
  case round =>
    obtain ⟨i, hi, rfl, rfl, rfl⟩ := hrel
    by_cases hlt : (i : Int) + 1 < (n : Int) + 1
    · have hr := HC.out ((i : Int) + 1) (by omega) (by omega)
      rw [show ((i : Int) + 1).toNat = i + 1 by omega] at hr
      have FS : Hid (minA q (i + 1) = if q ((i : Int) + 1) < minA q i then q ((i : Int) + 1) else minA q i) := by show _ = _; rfl
      generalize hM : minA q i = M at *
      generalize hQ : q ((i : Int) + 1) = Q at *
      clear hM hQ
      by_cases hl : Q < M
      · rw [if_pos hl] at FS
        go_wp2
        go_roundw
        case rel => exact ⟨i + 1, by omega, by go_num, by (rw [FS.out]; first | done | (congr 1; omega)), by simp⟩
        case measure => simp [intOf]; omega
      · rw [if_neg hl] at FS
        go_wp2
        go_roundw
        case rel => exact ⟨i + 1, by omega, by go_num, by (rw [FS.out]; first | done | (congr 1; omega)), by simp⟩
        case measure => simp [intOf]; omega
    · obtain rfl : i = n := by omega
      go_wp2
      go_ret
      exact ⟨rfl, rfl⟩
set_option maxHeartbeats 1000000 in
theorem max_any (A : Option Addr) (n c : Nat) (q : Int → Int) (w : World) (hA : ArrI w w.heap.size A (n + 1) q) (hn : n ≤ 1000000) :
    Calls Try.prog 81 #[.slice A (n + 1) c] w fun e w' => e = .returned (.int .i64 (maxA q n)) ∧ w' = w := by
  obtain ⟨b, off, rfl, hb, hc⟩ := ArrI.fn hA (by omega)
  have HC := Lib.hid hc
  have h0 := hc 0 (by omega) (by omega)
  rw [show off + (0 : Int).toNat = off from rfl] at h0
  clear hc hA
  have hn0 : ¬ ((n : Int) + 1 < 1) := by omega
  go_enter Try.func81, Try.ntmps81
  go_wp2
  go_loopw [3, 4] (fun m s wr => ∃ i : Nat, i ≤ n ∧ s = .int .i64 ((i : Int) + 1) ∧ m = .int .i64 (maxA q i) ∧ wr = w) (fun _ s _ => n + 1 - (intOf s).toNat)
  case atStart => exact ⟨0, by omega, rfl, rfl, rfl⟩
  case round =>
    obtain ⟨i, hi, rfl, rfl, rfl⟩ := hrel
    by_cases hlt : (i : Int) + 1 < (n : Int) + 1
    · have hr := HC.out ((i : Int) + 1) (by omega) (by omega)
      rw [show ((i : Int) + 1).toNat = i + 1 by omega] at hr
      have FS : Hid (maxA q (i + 1) = if maxA q i < q ((i : Int) + 1) then q ((i : Int) + 1) else maxA q i) := by show _ = _; rfl
      generalize hM : maxA q i = M at *
      generalize hQ : q ((i : Int) + 1) = Q at *
      clear hM hQ
      by_cases hl : M < Q
      · rw [if_pos hl] at FS
        go_wp2
        go_roundw
        case rel => exact ⟨i + 1, by omega, by go_num, by (rw [FS.out]; first | done | (congr 1; omega)), by simp⟩
        case measure => simp [intOf]; omega
      · rw [if_neg hl] at FS
        go_wp2
        go_roundw
        case rel => exact ⟨i + 1, by omega, by go_num, by (rw [FS.out]; first | done | (congr 1; omega)), by simp⟩
        case measure => simp [intOf]; omega
    · obtain rfl : i = n := by omega
      go_wp2
      go_ret
      exact ⟨rfl, rfl⟩

/-- lines that came in: a slice of slices -/
def Lines (w : World) (B : Nat) (A : Option Addr) (K : Nat) (m : Nat → Nat) (ln : Nat → Nat → Int) : Prop :=
  ∃ vs : Nat → Value, Arr w B A K (fun j => vs j.toNat) ∧ ∀ i, i < K → ∃ A' c', vs i = .slice A' (m i) c' ∧ ArrI w B A' (m i) (fun j => ln i j.toNat)
theorem Lines.below {w w' : World} {A : Option Addr} {K : Nat} {m : Nat → Nat} {ln : Nat → Nat → Int} (h : Lines w w.heap.size A K m ln) (hb : Below w.heap.size w w') : Lines w' w'.heap.size A K m ln := by
  obtain ⟨vs, h1, h2⟩ := h
  exact ⟨vs, (Arr.below h1 hb).more hb.size, fun i hi => by obtain ⟨A', c', e, ha⟩ := h2 i hi; exact ⟨A', c', e, ha.to hb⟩⟩
theorem Lines.at_ {w : World} {B : Nat} {A : Option Addr} {K : Nat} {m : Nat → Nat} {ln : Nat → Nat → Int} (h : Lines w B A K m ln) {i : Nat} (hi : i < K) :
    ∃ b off A' c', A = some ⟨b, off, none⟩ ∧ b < B ∧ w.cell? ⟨b, off + i, none⟩ = some (.slice A' (m i) c') ∧ ArrI w B A' (m i) (fun j => ln i j.toNat) := by
  obtain ⟨vs, h1, h2⟩ := h
  obtain ⟨b, off, e, hb, hc⟩ := Arr.at_ h1 (i := (i : Int)) (by omega) (by omega)
  rw [Int.toNat_natCast] at hc
  obtain ⟨A', c', e', ha⟩ := h2 i hi
  exact ⟨b, off, A', c', e, hb, by rw [hc, e'], ha⟩

/-- the gaps of lines at both ends, two of a pair of lines -/
def gapF (ln : Nat → Nat → Int) (m : Nat) (j : Nat) : Int := if j % 2 = 0 then ln (j / 2 + 1) 0 - ln (j / 2) 0 else ln (j / 2 + 1) (m - 1) - ln (j / 2) (m - 1)
def evenV (ln : Nat → Nat → Int) (m : Nat) : Bool := decide (2 ≤ minA (fun j => gapF ln m j.toNat) 7 ∧ maxA (fun j => gapF ln m j.toNat) 7 ≤ 64 ∧ maxA (fun j => gapF ln m j.toNat) 7 - minA (fun j => gapF ln m j.toNat) 7 ≤ 2)
def evenB (m : Nat → Nat) (ln : Nat → Nat → Int) : Bool := ((List.range 5).all fun i => decide (0 < m i ∧ m i = m 0)) && evenV ln (m 0)
theorem gap_snoc (ln : Nat → Nat → Int) (m i : Nat) : (List.range (2 * (i + 1))).map (fun j => Value.int .i64 (gapF ln m j)) = (List.range (2 * i)).map (fun j => Value.int .i64 (gapF ln m j)) ++ [.int .i64 (ln (i + 1) 0 - ln i 0), .int .i64 (ln (i + 1) (m - 1) - ln i (m - 1))] := by
  rw [show 2 * (i + 1) = 2 * i + 1 + 1 by omega, range_snoc, range_snoc, List.append_assoc]
  have e1 : gapF ln m (2 * i) = ln (i + 1) 0 - ln i 0 := by unfold gapF; rw [if_pos (by omega), show 2 * i / 2 = i by omega]
  have e2 : gapF ln m (2 * i + 1) = ln (i + 1) (m - 1) - ln i (m - 1) := by unfold gapF; rw [if_neg (by omega), show (2 * i + 1) / 2 = i by omega]
  rw [e1, e2]; rfl
theorem minA_bd {q : Int → Int} {b : Int} (n : Nat) (h : ∀ i : Int, 0 ≤ i → i ≤ n → -b ≤ q i ∧ q i ≤ b) : -b ≤ minA q n ∧ minA q n ≤ b := by
  induction n with
  | zero => exact h 0 (by omega) (by omega)
  | succ n ih =>
    have := ih fun i a c => h i a (by omega)
    have := h ((n : Int) + 1) (by omega) (by omega)
    rw [minA]; split <;> omega
theorem maxA_bd {q : Int → Int} {b : Int} (n : Nat) (h : ∀ i : Int, 0 ≤ i → i ≤ n → -b ≤ q i ∧ q i ≤ b) : -b ≤ maxA q n ∧ maxA q n ≤ b := by
  induction n with
  | zero => exact h 0 (by omega) (by omega)
  | succ n ih =>
    have := ih fun i a c => h i a (by omega)
    have := h ((n : Int) + 1) (by omega) (by omega)
    rw [maxA]; split <;> omega

set_option maxRecDepth 100000 in
set_option maxHeartbeats 4000000 in
theorem even_any (A : Option Addr) (c : Nat) (m : Nat → Nat) (ln : Nat → Nat → Int) (w : World) (hL : Lines w w.heap.size A 5 m ln) (hm : ∀ i, i < 5 → m i ≤ 1000000) (hb : ∀ i j, i < 5 → j < m i → -1099511627776 ≤ ln i j ∧ ln i j ≤ 1099511627776) :
    Calls Try.prog 76 #[.slice A 5 c] w fun e w' => e = .returned (.bool (evenB m ln)) ∧ Below w.heap.size w w' := by
  obtain ⟨i0, hi0, hz0', hz1, hz2⟩ := info_parts infoInt
  have HL := Lib.hid hL
  have EV0 : Hid (∀ i, i < 5 → ¬ (0 < m i ∧ m i = m 0) → evenB m ln = false) := by
    show ∀ _, _
    intro i hi hn
    unfold evenB
    rw [Bool.and_eq_false_iff]
    left
    rw [List.all_eq_false]
    exact ⟨i, List.mem_range.2 hi, by simpa using hn⟩
  have EV1 : Hid ((∀ i, i < 5 → 0 < m i ∧ m i = m 0) → evenB m ln = evenV ln (m 0)) := by
    show _ → _
    intro h
    unfold evenB
    rw [show ((List.range 5).all fun i => decide (0 < m i ∧ m i = m 0)) = true from List.all_eq_true.2 fun i hi => decide_eq_true (h i (List.mem_range.1 hi)), Bool.true_and]
  obtain ⟨b, off, A0, c0, rfl, hbB, h0, ha0⟩ := hL.at_ (i := 0) (by omega)
  rw [Nat.add_zero] at h0
  have HM := Lib.hid hm; have HB := Lib.hid hb
  clear hL hm hb ha0
  generalize hm0 : m 0 = m0 at *
  have HM0 := Lib.hid hm0; clear hm0
  have h0 := Lib.hid h0
  go_enter Try.func76, Try.ntmps76
  go_wp2
  go_loopw [3, 11] (fun vo s wr => ∃ i : Nat, i ≤ 5 ∧ s = .int .i64 i ∧ (∀ j, j < i → 0 < m j ∧ m j = m0) ∧ wr.ownsRow w.heap.size 3 1 vo (2 * (i - 1)) ((List.range (2 * (i - 1))).map fun j => Value.int .i64 (gapF ln m0 j)) ∧ Below w.heap.size w wr) (fun _ s _ => 5 - (intOf s).toNat)
  case atStart => exact ⟨0, by omega, rfl, fun j hj => by omega, World.ownsRow_nil _ _ _ _, Below.refl _ _⟩
  case round =>
    obtain ⟨i, hi, rfl, hg, hown, b1⟩ := hrel
    have hz := h0.out
    have hz' := (b1.cell (p := ⟨b, off, none⟩) hbB).trans hz
    clear hz
    by_cases hlt : (i : Int) < 5
    · obtain ⟨b2, off2, A2, c2, e2, -, hc2, ha2⟩ := HL.out.at_ (i := i) (by omega)
      cases e2
      replace hc2 := (b1.cell (p := ⟨b, off + i, none⟩) hbB).trans hc2
      have MI := HM.out i (by omega)
      obtain ⟨mi, hmi⟩ : ∃ mi, m i = mi := ⟨_, rfl⟩
      rw [hmi] at hc2 ha2 MI
      have HMI := Lib.hid hmi
      clear hmi
      by_cases hz0 : mi = 0
      · have E : evenB m ln = false := EV0.out i (by omega) (by rw [HMI.out]; omega)
        subst hz0
        clear hown ha2 hz'
        go_wp2
        go_ret
        exact ⟨by rw [E]; rfl, b1⟩
      · have hz1' : ((mi : Int) == 0) = false := by simp; omega
        have hz2' : ¬ ((mi : Int) = 0) := by omega
        by_cases hzm : mi = m0
        · subst hzm
          have g1 : ∀ j, j < i + 1 → 0 < m j ∧ m j = mi := fun j hj => by
            rcases Nat.lt_succ_iff_lt_or_eq.1 hj with h | rfl
            · exact hg j h
            · exact ⟨by rw [HMI.out]; omega, HMI.out⟩
          have G1 := Lib.hid g1
          clear g1
          by_cases hi0' : i = 0
          · subst hi0'
            clear ha2 hg
            go_wp2
            go_roundw
            case rel => exact ⟨1, by omega, rfl, G1.out, hown, b1⟩
            case measure => simp [intOf]
          · obtain ⟨k, rfl⟩ : ∃ k, i = k + 1 := ⟨i - 1, by omega⟩
            obtain ⟨b4, off4, A4, c4, e4, -, hc4, ha4⟩ := HL.out.at_ (i := k) (by omega)
            cases e4
            replace hc4 := (b1.cell (p := ⟨b, off + k, none⟩) hbB).trans hc4
            rw [(hg k (by omega)).2] at hc4 ha4
            obtain ⟨b3, off3, rfl, hb3, hc3⟩ := ArrI.fn ha2 (by omega)
            obtain ⟨b5, off5, rfl, hb5, hc5⟩ := ArrI.fn ha4 (by omega)
            have x1 := hc3 0 (by omega) (by omega)
            have x2 := hc3 ((mi : Int) - 1) (by omega) (by omega)
            have x3 := hc5 0 (by omega) (by omega)
            have x4 := hc5 ((mi : Int) - 1) (by omega) (by omega)
            rw [show ((mi : Int) - 1).toNat = mi - 1 by omega] at x2 x4
            simp only [Int.toNat_zero, Nat.add_zero] at x1 x3
            replace x1 := (b1.cell (p := ⟨b3, off3, none⟩) hb3).trans x1
            replace x2 := (b1.cell (p := ⟨b3, off3 + (mi - 1), none⟩) hb3).trans x2
            replace x3 := (b1.cell (p := ⟨b5, off5, none⟩) hb5).trans x3
            replace x4 := (b1.cell (p := ⟨b5, off5 + (mi - 1), none⟩) hb5).trans x4
            obtain ⟨y1, y2⟩ := HB.out (k + 1) 0 (by omega) (by rw [HMI.out]; omega)
            obtain ⟨y3, y4⟩ := HB.out (k + 1) (mi - 1) (by omega) (by rw [HMI.out]; omega)
            obtain ⟨y5, y6⟩ := HB.out k 0 (by omega) (by have := hg k (by omega); omega)
            obtain ⟨y7, y8⟩ := HB.out k (mi - 1) (by omega) (by have := hg k (by omega); omega)
            have GS := Lib.hid (gap_snoc ln mi k)
            generalize ln (k + 1) 0 = a1 at *
            generalize ln (k + 1) (mi - 1) = a2 at *
            generalize ln k 0 = a3 at *
            generalize ln k (mi - 1) = a4 at *
            have v1 : IntKind.i64.wrap (a1 - a3) = a1 - a3 := IntWalk.i64_in _ (by omega)
            have v2 : IntKind.i64.wrap (a2 - a4) = a2 - a4 := IntWalk.i64_in _ (by omega)
            have v3 : IntKind.i64.wrap ((mi : Int) - 1) = (mi : Int) - 1 := IntWalk.i64_in _ (by omega)
            clear hc3 hc5 ha2 ha4 hg
            have k1 : (((k + 1 : Nat) : Int)) = (k : Int) + 1 := by omega
            have o3 : u3.ownBlock ≠ some b3 := fun e => by have := own_ge hown e; omega
            have o5 : u3.ownBlock ≠ some b5 := fun e => by have := own_ge hown e; omega
            have n3 := World.new_ne wr _ x1; have n5 := World.new_ne wr _ x3
            have z1 := b1.size
            have j1 : (0 : Int) < (mi : Int) := by omega
            have j2 : (mi : Int) - 1 < (mi : Int) := by omega
            have j3 : (0 : Int) ≤ (mi : Int) - 1 := by omega
            have j4 : 0 < mi := by omega
            have j5 : (1 : Int) ≤ (mi : Int) := by omega
            have j6 : 1 ≤ mi := by omega
            rw [k1]
            go_wp2_with fail
            go_region_held3 (fun w' => w'.cell? ⟨b3, off3, none⟩ = some (.int .i64 a1) ∧ w'.cell? ⟨b3, off3 + (mi - 1), none⟩ = some (.int .i64 a2) ∧ w'.cell? ⟨b5, off5, none⟩ = some (.int .i64 a3) ∧ w'.cell? ⟨b5, off5 + (mi - 1), none⟩ = some (.int .i64 a4))
              (first
                | (simp [go_sem, *]; done)
                | (go_keep; done)
                | (refine ⟨?_, ?_, ?_, ?_⟩
                   · (rw [hgrow.cell_far _ (by simp; omega) (Ne.symm o3)]; first | assumption | (go_keep; done) | (simp [go_sem, *]; done))
                   · (rw [hgrow.cell_far _ (by simp; omega) (Ne.symm o3)]; first | assumption | (go_keep; done) | (simp [go_sem, *]; done))
                   · (rw [hgrow.cell_far _ (by simp; omega) (Ne.symm o5)]; first | assumption | (go_keep; done) | (simp [go_sem, *]; done))
                   · (rw [hgrow.cell_far _ (by simp; omega) (Ne.symm o5)]; first | assumption | (go_keep; done) | (simp [go_sem, *]; done))))
              ((refine step_append_lies _ (by rfl) _ _ _ (by rfl) w.heap.size 3 i0 (.int .i64 0) 1 8 Try.underlying25 hi0 hz0' hz1 hz2 rfl (by omega) u3 _ _ (by rfl) ((hown.alloc _).drew) ⟨wr.heap.size, 0, none⟩ 2 2 [.int .i64 (a1 - a3), .int .i64 (a2 - a4)] (by rfl) (by rfl) (World.news_of_block (cs := #[.int .i64 (a1 - a3), .int .i64 (a2 - a4)]) (t := 3) (fr := (0, 0)) (heap_alloc_new wr _)) (by simp [Value.oneCell']) (by omega) (by unfold maxLen; omega) (by omega) (by simp; omega) (wr.heap.size + 1) (by simp) ?_; intro gg cap w1 hown1 hgrow hat hlt1))
            all_goals
              have b9 : Below w.heap.size w w1 := (show Below w.heap.size w (wr.alloc (.cells #[.int .i64 (a1 - a3), .int .i64 (a2 - a4)] 3)).drew from (b1.alloc b1.size _).drew).grown hgrow (by simp; omega) (fun j hj => (own_ge hown hj).1)
              clear hown hgrow b1 hat x1 x2 x3 x4
              go_wp2
              go_roundw
              case rel => exact ⟨k + 1 + 1, by omega, by go_num, G1.out, by rw [show k + 1 + 1 - 1 = k + 1 from rfl, GS.out]; exact hown1, b9⟩
              case measure => simp [intOf]; omega
        · have E : evenB m ln = false := EV0.out i (by omega) (by rw [HMI.out]; omega)
          have hzm' : ((mi : Int) != (m0 : Int)) = true := by simp; omega
          clear hown ha2
          go_wp2
          go_ret
          exact ⟨by rw [E]; rfl, b1⟩
    · obtain rfl : i = 5 := by omega
      change wr.ownsRow _ _ 1 u3 8 ((List.range 8).map _) at hown
      obtain ⟨A8, c8, rfl, ha8⟩ := own_arrI hown
      have E := EV1.out hg
      have GB : ∀ j : Int, 0 ≤ j → j ≤ (7 : Nat) → -2199023255552 ≤ gapF ln m0 j.toNat ∧ gapF ln m0 j.toNat ≤ 2199023255552 := fun j j0 j1 => by
        have q1 := hg (j.toNat / 2) (by omega)
        have q2 := hg (j.toNat / 2 + 1) (by omega)
        have q3 := HB.out (j.toNat / 2) 0 (by omega) (by omega)
        have q4 := HB.out (j.toNat / 2 + 1) 0 (by omega) (by omega)
        have q5 := HB.out (j.toNat / 2) (m0 - 1) (by omega) (by omega)
        have q6 := HB.out (j.toNat / 2 + 1) (m0 - 1) (by omega) (by omega)
        unfold gapF
        split <;> omega
      obtain ⟨g1, g2⟩ := minA_bd (q := fun j => gapF ln m0 j.toNat) 7 GB
      obtain ⟨g3, g4⟩ := maxA_bd (q := fun j => gapF ln m0 j.toNat) 7 GB
      have MI := Lib.hid fun W ha => min_any A8 7 c8 (fun j => gapF ln m0 j.toNat) W ha (by omega)
      have MA := Lib.hid fun W ha => max_any A8 7 c8 (fun j => gapF ln m0 j.toNat) W ha (by omega)
      unfold evenV at E
      generalize minA (fun j => gapF ln m0 j.toNat) 7 = MN at *
      generalize maxA (fun j => gapF ln m0 j.toNat) 7 = MX at *
      replace E := Lib.hid E
      have v1 : IntKind.i64.wrap (MX - MN) = MX - MN := IntWalk.i64_in _ (by omega)
      clear GB hg hz'
      have HA := Lib.hid ha8
      by_cases c1 : 2 ≤ MN
      · by_cases c2 : MX ≤ 64
        · by_cases c3 : MX - MN ≤ 2
          · have F : Hid (evenB m ln = true) := by show _ = _; rw [E.out]; simp [c1, c2, c3]
            clear E
            go_wp2_with fail
            refine (MI.out _ HA.out).mono ?_
            rintro e w5 ⟨rfl, rfl⟩
            go_wp2_with fail
            refine (MA.out _ HA.out).mono ?_
            rintro e w6 ⟨rfl, rfl⟩
            go_wp2
            go_ret
            exact ⟨by rw [F.out]; first | rfl | exact ret_bool (decide_eq_false (by omega)), b1⟩
          · have F : Hid (evenB m ln = false) := by show _ = _; rw [E.out]; simp [c3]
            clear E
            go_wp2_with fail
            refine (MI.out _ HA.out).mono ?_
            rintro e w5 ⟨rfl, rfl⟩
            go_wp2_with fail
            refine (MA.out _ HA.out).mono ?_
            rintro e w6 ⟨rfl, rfl⟩
            go_wp2
            go_ret
            exact ⟨by rw [F.out]; first | rfl | exact ret_bool (decide_eq_false (by omega)), b1⟩
        · have F : Hid (evenB m ln = false) := by show _ = _; rw [E.out]; simp [c2]
          clear E
          go_wp2_with fail
          refine (MI.out _ HA.out).mono ?_
          rintro e w5 ⟨rfl, rfl⟩
          go_wp2_with fail
          refine (MA.out _ HA.out).mono ?_
          rintro e w6 ⟨rfl, rfl⟩
          go_wp2
          go_ret
          exact ⟨by rw [F.out]; first | rfl | exact ret_bool (decide_eq_false (by omega)), b1⟩
      · have F : Hid (evenB m ln = false) := by show _ = _; rw [E.out]; simp [c1]
        clear E
        go_wp2_with fail
        refine (MI.out _ HA.out).mono ?_
        rintro e w5 ⟨rfl, rfl⟩
        go_wp2_with fail
        refine (MA.out _ HA.out).mono ?_
        rintro e w6 ⟨rfl, rfl⟩
        go_wp2
        go_ret
        exact ⟨by rw [F.out]; first | rfl | exact ret_bool (decide_eq_false (by omega)), b1⟩
end Go.Proofs.Ytdimlpcbbkokiaa

/- Walks: slices.Clone of numbers; how many staves five lines are (stave.Staves). -/
namespace Go.Proofs.Ytdimlpcbbkokiaa
open Go.RowKit Go.Shelf
set_option linter.unusedVariables false
attribute [local go_sem] Oper.semAt_some

theorem clone_own {w w' : World} {n : Nat} {e : TypeId} {v : Value} {q : Int → Int} {xs : List Value} (h : w'.ownsRow w.heap.size e 1 v n xs) (hx : xs = (List.range n).map (fun (j : Nat) => Value.int .i64 (q j))) : w'.ownsRow w.heap.size e 1 v n ((List.range n).map fun (j : Nat) => Value.int .i64 (q j)) := hx ▸ h
set_option maxRecDepth 100000 in
set_option maxHeartbeats 1000000 in
theorem clone_any (A : Option Addr) (n c : Nat) (q : Int → Int) (w : World) (hA : ArrI w w.heap.size A n q) (hn0 : 0 < n) (hn : n ≤ 1000000) :
    Calls Try.prog 15 #[.slice A n c] w (New w fun v w' => w'.ownsRow w.heap.size 3 1 v n ((List.range n).map fun (j : Nat) => Value.int .i64 (q j))) := by
  obtain ⟨i0, hi0, hz0, hz1, hz2⟩ := info_parts infoInt
  obtain ⟨b, off, rfl, hb, hc⟩ := ArrI.fn hA hn0
  have E1 : ∀ W, (binOp .eql 25 (.slice (some ⟨b, off, none⟩) n c) (.slice none 0 0)).run Try.prog W = .ok (.bool false) W := fun W => Go.run_eql_slice_nil W _ _ _ _ _ Try.underlying25
  have HC := Lib.hid hc
  clear hc hA
  go_enter Try.func15, Try.ntmps15
  go_wp2_with (at_builtin; refine wpList_append_own _ rfl (.tmp 5) (.tmp 6) 25 rfl w.heap.size 3 i0 (.int .i64 0) 1 8 Try.underlying25 hi0 hz0 hz1 hz2 rfl (by decide) _ 0 [] rfl (World.ownsRow_made w #[] 0 (Nat.le_refl _) (by decide) rfl) ⟨b, off, none⟩ n c ((List.range n).map (fun (j : Nat) => Value.int .i64 (q j))) rfl (by simp) ?c1 ?c2 ?c3 ?c4 ?c5 ?_)
  case c1 =>
    intro j u hj
    have hjn : j < n := by
      rcases Nat.lt_or_ge j n with h | h
      · exact h
      · rw [List.getElem?_eq_none (by simpa using h)] at hj; cases hj
    have := HC.out j (by omega) (by omega)
    simp [hjn] at hj
    subst hj
    rw [Int.toNat_natCast] at this
    have hadd : (⟨b, off, none⟩ : Addr).add j = ⟨b, off + j, none⟩ := by unfold Addr.add; split <;> simp_all
    rw [hadd, ← this]
    exact (Below.cell ((Below.refl _ _).alloc (Nat.le_refl _) _) (p := ⟨b, off + j, none⟩) hb)
  case c2 => simp [Value.oneCell']
  case c3 => unfold maxLen; omega
  case c4 => omega
  case c5 => simp
  intro v' w7 own7 hg7 _
  have b7 : Below w.heap.size w w7 := ((Below.refl w.heap.size w).alloc (Nat.le_refl _) (.cells #[] 3)).grown hg7 (by simp) (fun k hk => by cases hk; exact Nat.le_refl _)
  go_wp2
  go_ret
  exact ⟨_, rfl, own7, b7⟩

/-- how many staves five lines are -/
def stN (m : Nat → Nat) (ln : Nat → Nat → Int) : Nat := if evenB m ln = true then 1 else 0
theorem infoLines : (Try.prog.info? 54).map (fun i => (i.zero, i.size, i.bytes)) = some (some (.agg #[.slice none 0 0]), 1, 24) := by kernel_rfl
set_option maxRecDepth 100000 in
set_option maxHeartbeats 4000000 in
theorem staves5 (A : Option Addr) (c : Nat) (m : Nat → Nat) (ln : Nat → Nat → Int) (w : World) (hL : Lines w w.heap.size A 5 m ln) (hc : 5 ≤ c) (hm : ∀ i, i < 5 → m i ≤ 1000000) (hb : ∀ i j, i < 5 → j < m i → -1099511627776 ≤ ln i j ∧ ln i j ≤ 1099511627776) :
    Calls Try.prog 34 #[.slice A 5 c] w (New w fun v w' => ∃ A' c', v = .slice A' (stN m ln) c') := by
  have EV := Lib.hid fun c w' hL' => even_any A c m ln w' hL' hm hb
  have HL := Lib.hid hL
  obtain ⟨b, off, A0, c0, rfl, hbB, -, -⟩ := hL.at_ (i := 0) (by omega)
  clear hL
  have hc0 : (5 : Int) ≤ c := by omega
  obtain ⟨i0, hi0, hz0, hz1, hz2⟩ := info_parts infoInts
  obtain ⟨s0, hs0, hsz0, hsz1, hsz2⟩ := info_parts infoLines
  go_enter Try.func34, Try.ntmps34
  go_wp2_with fail
  go_step3
  go_wp2_with fail
  go_step3
  go_wp2_with fail
  go_loopw [3, 4] (fun vo s wr => Below w.heap.size w wr ∧ ((s = .int .i64 0 ∧ vo = .slice none 0 0) ∨ ∃ i : Nat, 0 < i ∧ i ≤ 5 ∧ s = .int .i64 i ∧ ∃ A' c', vo = .slice A' (stN m ln) c')) (fun _ s _ => 6 - (intOf s).toNat)
  case atStart => exact ⟨Below.refl _ _, .inl ⟨rfl, rfl⟩⟩
  case round =>
    obtain ⟨b1, (⟨rfl, rfl⟩ | ⟨i, i0, i5, rfl, A', c', rfl⟩)⟩ := hrel
    · cases hev : evenB m ln with
      | false =>
        have hst : Hid (stN m ln = 0) := by show _ = _; unfold stN; rw [hev]; rfl
        rw [hev] at EV
        clear hev
        go_wp2_with fail
        refine (EV.out c _ (HL.out.below b1)).mono ?_
        rintro e w2 ⟨rfl, hb2⟩
        have b2 := below_call b1 b1.size hb2
        clear b1 hb2
        go_wp2_with fail
        go_roundw
        case rel => exact ⟨b2, .inr ⟨1, by omega, by omega, rfl, none, 0, by rw [hst.out]⟩⟩
        case measure => simp [intOf]
      | true =>
        have hst : Hid (stN m ln = 1) := by show _ = _; unfold stN; rw [hev]; rfl
        have MP : Hid (∀ j, j < 5 → 0 < m j) := by
          show ∀ _, _
          intro j hj
          unfold evenB at hev
          rw [Bool.and_eq_true] at hev
          have := of_decide_eq_true (List.all_eq_true.1 hev.1 j (List.mem_range.2 hj))
          exact this.1
        rw [hev] at EV
        clear hev
        go_wp2_with fail
        refine (EV.out c _ (HL.out.below b1)).mono ?_
        rintro e w2 ⟨rfl, hb2⟩
        have b2 := below_call b1 b1.size hb2
        have b3 : Below w.heap.size w (w2.alloc (.cells #[.slice none 0 0] 54)) := b2.alloc b2.size _
        have ks := Blk.new w2 54 #[.slice none 0 0]
        have z2 := b2.size
        clear b1 hb2
        go_wp2_with fail
        generalize w2.alloc (.cells #[.slice none 0 0] 54) = w3 at *
        generalize w2.heap.size = gs at *
        clear b2
        go_loopw [29] (fun s w9 => ∃ j : Nat, j ≤ 5 ∧ s = .int .i64 j ∧ Below w.heap.size w w9 ∧ ∃ vo xs, Blk w9 gs 54 #[vo] ∧ w9.ownsRow w.heap.size 25 1 vo j xs) (fun s _ => 5 - (intOf s).toNat)
        case atStart => exact ⟨0, by omega, rfl, b3, _, [], ks, World.ownsRow_nil _ _ _ _⟩
        case round =>
          obtain ⟨j, j5, rfl, b4, vo, xs, k4, own4⟩ := hrel
          clear b3 ks
          obtain ⟨A8, c8, rfl, -, -⟩ := own_arr own4
          have q1 := k4.at0
          have q2 := k4.frozen 0
          by_cases hlt : (j : Int) < 5
          · obtain ⟨b5, off5, A5, c5, e5, -, hc5, ha5⟩ := HL.out.at_ (i := j) (by omega)
            cases e5
            replace hc5 := (b4.cell (p := ⟨b, off + j, none⟩) hbB).trans hc5
            have MJ := MP.out j (by omega)
            have MK := hm j (by omega)
            have CL := Lib.hid fun W hA' => clone_any A5 (m j) c5 (fun jj => ln j jj.toNat) W hA' MJ MK
            have HA5 := Lib.hid (ArrI.more (ArrI.below ha5 b4) b4.size)
            clear ha5
            generalize m j = mj at *
            have n1 := World.new_ne wr _ q1
            have ne := own_neB own4 k4 (by decide)
            go_wp2_with fail
            go_region_law
              (first
                | (refine step_append_lies _ (by rfl) _ _ _ (by rfl) w.heap.size 25 i0 (.slice none 0 0) 1 24 Try.underlying34 hi0 hz0 hz1 hz2 rfl (by omega) (.slice A8 j c8) _ _ (by rfl) (own7.alloc _) ⟨w6.heap.size, 0, none⟩ 1 1 [.slice (some ⟨g6, 0, none⟩) mj c6] (by rfl) (by rfl) (World.news_of_block (cs := #[.slice (some ⟨g6, 0, none⟩) mj c6]) (t := 25) (fr := (0, 0)) (heap_alloc_new w6 _)) (by simp [Value.oneCell']) (by omega) (by unfold maxLen; omega) (by omega) (by simp; omega) (w6.heap.size + 1) (by simp) ?_
                   intro gg cap w1 hown1 hgrow hat hlt1
                   have k7 := (k6.alloc (.cells #[.slice (some ⟨g6, 0, none⟩) mj c6] 25)).grown hgrow ne
                   have x3 := k7.at0
                   have x4 := k7.frozen 0)
                | (refine (show (if Region.wanted (⟨some 36, _, _, _, _, _⟩ : Oper) _ = true then _ else _) from ?_)
                   go_simp
                   refine (CL.out _ (show ArrI wr.drew wr.drew.heap.size _ _ _ from HA5.out)).mono ?_
                   rintro e w6 ⟨v6, rfl, own6, hb6⟩
                   obtain ⟨g6, c6, rfl⟩ := own_some own6 MJ
                   have x1 := (k4.drew.below' hb6).at0
                   have x2 := (k4.drew.below' hb6).frozen 0
                   have y1 := World.new_ne w6 _ x1
                   have own7 := own_below (w := wr.drew) own4 hb6
                   have b6 := b4.drew.trans (hb6.mono b4.size)
                   have k6 := k4.drew.below' hb6
                   have z6 := b6.size
                   have z7 := k6.lt
                   have x5 : ∀ o, (w6.alloc o).cell? ⟨gs, 0, none⟩ = some (.slice A8 j c8) := fun o => (k6.alloc o).at0
                   dsimp only))
            all_goals
              have b7 : Below w.heap.size w w1 := (b6.alloc b6.size (.cells #[.slice (some ⟨g6, 0, none⟩) mj c6] 25)).grown hgrow (by simp; omega) (fun k hk => (own_ge own4 hk).1)
              have k8 := k7.set_ 0 (.slice (some ⟨gg, 0, none⟩) (j + 1) cap)
              have own8 := own_far hown1 k7 (by decide) 0 (.slice (some ⟨gg, 0, none⟩) (j + 1) cap)
              have b8 : Below w.heap.size w (w1.setCell ⟨gs, 0, none⟩ (.slice (some ⟨gg, 0, none⟩) (j + 1) cap)) := b7.setCell z2 _
              clear b7 k7 hown1 hgrow x1 x2 x5 own7 k6 b6 hat
              go_wp2
              go_roundw
              case rel => exact ⟨j + 1, by omega, by go_num, b8, _, _, k8, own8⟩
              case measure => simp [intOf]; omega
          · obtain rfl : j = 5 := by omega
            clear q2
            go_wp2_with (at_builtin; refine wpList_append_own _ rfl (.tmp 41) (.tmp 43) 56 rfl w.heap.size 54 s0 (.agg #[.slice none 0 0]) 1 24 Try.underlying56 hs0 hsz0 hsz1 hsz2 rfl (by decide) _ 0 [] rfl (World.ownsRow_nil _ _ _ _) ⟨wr.heap.size, 0, none⟩ 1 1 [.slice A8 5 c8] rfl rfl ?c1 ?c2 ?c3 ?c4 ?c5 ?_)
            try case c1 => exact cell_one_new _ _ _
            try case c2 => simp [Value.oneCell']
            try case c3 => unfold maxLen; omega
            try case c4 => omega
            try case c5 => have := b4.size; first | omega | (simp; omega)
            intro v' w7 own7 hg7 _
            have b7 : Below w.heap.size w w7 := (b4.alloc b4.size (.cells #[.slice A8 5 c8] 54)).grown hg7 (by have := b4.size; simp; omega) (fun k hk => by cases hk)
            obtain ⟨A9, c9, rfl, -, -⟩ := own_arr own7
            clear own7 hg7
            go_wp2
            go_roundw
            case rel => exact ⟨b7, .inr ⟨5, by omega, by omega, by go_num, A9, c9, by rw [hst.out]⟩⟩
            case measure => simp [intOf]
    · have i5' : (i : Int) + 5 > 5 := by omega
      go_wp2_with fail
      rw [Exit.noGoto_ret]
      go_ret
      exact ⟨_, rfl, ⟨_, _, rfl⟩, b1⟩
end Go.Proofs.Ytdimlpcbbkokiaa

/- Walks: lists of numbers and lists of lines compared; a list of numbers copied. -/
namespace Go.Proofs.Ytdimlpcbbkokiaa
open Go.RowKit Go.Shelf
set_option linter.unusedVariables false
attribute [local go_sem] Oper.semAt_some

set_option maxHeartbeats 400000 in
theorem sameInts_any (A B : Option Addr) (n m c d : Nat) (p q : Int → Int) (w : World) (hA : ArrI w w.heap.size A n p) (hB : ArrI w w.heap.size B m q) (hn : n ≤ maxLen) (hm : m ≤ maxLen) :
    Calls Try.prog 68 #[.slice A n c, .slice B m d] w fun e w' => e = .returned (.bool (sameI n m p q)) ∧ ∃ k, w' = w.drewN k := by
  unfold maxLen at hn hm
  by_cases hnm : n = m
  · subst hnm
    go_enter Try.func68, Try.ntmps68
    go_wp2
    go_loopw [5] (fun s wr => ∃ i : Int, 0 ≤ i ∧ i ≤ n ∧ s = .int .i64 i ∧ (∀ j : Int, 0 ≤ j → j < i → p j = q j) ∧ ∃ k, wr = w.drewN k) (fun s _ => n - (intOf s).toNat)
    case atStart => exact ⟨0, by omega, by omega, rfl, fun j a b => by omega, 0, rfl⟩
    case round =>
      obtain ⟨i, h0, hi, rfl, hall, k, rfl⟩ := hrel
      have HA := Lib.hid hall; clear hall
      by_cases hlt : i < n
      · obtain ⟨b, off, rfl, hb, hc⟩ := ArrI.at_ hA h0 hlt
        obtain ⟨b', off', rfl, hb', hc'⟩ := ArrI.at_ hB h0 hlt
        by_cases he : p i = q i
        · have hbool : (p i != q i) = false := by simp [he]
          have HE := Lib.hid he; clear he
          go_wp2_with fail
          go_quiet (fail)
          go_wp2
          go_roundw
          case rel =>
            refine ⟨i + 1, by omega, by omega, by go_num, fun j a b => ?_, _, rfl⟩
            by_cases e : j = i
            · rw [e]; exact HE.out
            · exact HA.out j a (by omega)
          case measure => simp [intOf]; omega
        · have hbool : (p i != q i) = true := by simp [he]
          have HE := Lib.hid he; clear he
          have hr : Hid (sameI n n p q = false) := by
            show _ = _
            rw [Bool.eq_false_iff]; intro h; exact HE.out ((sameI_iff.1 h).2 i h0 hlt)
          go_wp2_with fail
          go_quiet (fail)
          go_wp2
          go_ret
          exact ⟨ret_bool hr.out.symm, _, World.drewN_drewN _ _ _⟩
      · have hr : Hid (sameI n n p q = true) := by
          show _ = _
          exact sameI_iff.2 ⟨rfl, fun j a b => HA.out j a (by omega)⟩
        go_wp2
        go_ret
        exact ⟨ret_bool hr.out.symm, _, rfl⟩
  · have hr : Hid (sameI n m p q = false) := by
      show _ = _
      rw [Bool.eq_false_iff]; intro h; exact hnm (sameI_iff.1 h).1
    go_enter Try.func68, Try.ntmps68
    go_wp2
    all_goals
      go_ret
      exact ⟨ret_bool hr.out.symm, 0, rfl⟩

/-- two lists of lines are the same -/
def sameL (n m : Nat) (mA mB : Nat → Nat) (a b : Nat → Nat → Int) : Bool := decide (n = m) && allN n fun i => sameI (mA i.toNat) (mB i.toNat) (fun j => a i.toNat j.toNat) (fun j => b i.toNat j.toNat)
theorem sameL_iff {n m : Nat} {mA mB : Nat → Nat} {a b : Nat → Nat → Int} : sameL n m mA mB a b = true ↔ n = m ∧ ∀ i, i < n → mA i = mB i ∧ ∀ j, j < mA i → a i j = b i j := by
  unfold sameL
  rw [Bool.and_eq_true, decide_eq_true_iff, allN_iff]
  refine and_congr_right fun _ => ⟨fun h i hi => ?_, fun h i i0 i1 => ?_⟩
  · have := h i (by omega) (by omega)
    rw [Int.toNat_natCast] at this
    obtain ⟨h1, h2⟩ := sameI_iff.1 this
    exact ⟨h1, fun j hj => by have := h2 j (by omega) (by omega); simpa using this⟩
  · obtain ⟨h1, h2⟩ := h i.toNat (by omega)
    exact sameI_iff.2 ⟨h1, fun j j0 j1 => h2 j.toNat (by omega)⟩
set_option maxHeartbeats 1000000 in
theorem sameLists_any (A B : Option Addr) (n m c d : Nat) (mA mB : Nat → Nat) (a b : Nat → Nat → Int) (w : World) (hA : Lines w w.heap.size A n mA a) (hB : Lines w w.heap.size B m mB b) (hn : n ≤ maxLen) (hm : m ≤ maxLen) (hmA : ∀ i, i < n → mA i ≤ maxLen) (hmB : ∀ i, i < m → mB i ≤ maxLen) :
    Calls Try.prog 22 #[.slice A n c, .slice B m d] w fun e w' => e = .returned (.bool (sameL n m mA mB a b)) ∧ ∃ k, w' = w.drewN k := by
  unfold maxLen at hn hm
  by_cases hnm : n = m
  · subst hnm
    have SI := Lib.hid fun i (hi : i < n) A' B' c' d' w' hA' hB' => sameInts_any A' B' (mA i) (mB i) c' d' (fun j => a i j.toNat) (fun j => b i j.toNat) w' hA' hB' (hmA i hi) (hmB i hi)
    clear hmA hmB
    go_enter Try.func22, Try.ntmps22
    go_wp2
    go_loopw [5] (fun s wr => ∃ i : Nat, i ≤ n ∧ s = .int .i64 i ∧ (∀ j, j < i → sameI (mA j) (mB j) (fun t => a j t.toNat) (fun t => b j t.toNat) = true) ∧ ∃ k, wr = w.drewN k) (fun s _ => n - (intOf s).toNat)
    case atStart => exact ⟨0, by omega, rfl, fun j hj => by omega, 0, rfl⟩
    case round =>
      obtain ⟨i, hi, rfl, hall, k, hwr⟩ := hrel
      have HA := Lib.hid hall; clear hall
      by_cases hlt : (i : Int) < n
      · obtain ⟨b1, o1, A1, c1, rfl, hb1, hc1, ha1⟩ := hA.at_ (i := i) (by omega)
        obtain ⟨b2, o2, A2, c2, rfl, hb2, hc2, ha2⟩ := hB.at_ (i := i) (by omega)
        have SIi := Lib.hid fun k' => SI.out i (by omega) A1 A2 c1 c2 (wr.drewN k') (by rw [hwr]; exact ha1) (by rw [hwr]; exact ha2)
        replace hc1 : wr.cell? ⟨b1, o1 + i, none⟩ = some (.slice A1 (mA i) c1) := by rw [hwr]; exact hc1
        replace hc2 : wr.cell? ⟨b2, o2 + i, none⟩ = some (.slice A2 (mB i) c2) := by rw [hwr]; exact hc2
        have HWR := Lib.hid hwr
        clear hwr
        cases hs : sameI (mA i) (mB i) (fun t => a i t.toNat) (fun t => b i t.toNat) with
        | true =>
          rw [hs] at SIi
          have HS := Lib.hid hs; clear hs
          go_wp2_with fail
          go_quiet ((go_at_call 68; exact Calls.quiet_of (SIi.out _)))
          go_wp2
          go_roundw
          case rel =>
            refine ⟨i + 1, by omega, by go_num, fun j hj => ?_, _, by rw [HWR.out]; exact World.drewN_drewN _ _ _⟩
            rcases Nat.lt_succ_iff_lt_or_eq.1 hj with h | rfl
            · exact HA.out j h
            · exact HS.out
          case measure => simp [intOf]; omega
        | false =>
          rw [hs] at SIi
          have hr : Hid (sameL n n mA mB a b = false) := by
            show _ = _
            rw [Bool.eq_false_iff]
            intro h
            have := (sameL_iff.1 h).2 i (by omega)
            rw [sameI_iff.2 ⟨this.1, fun j j0 j1 => this.2 j.toNat (by omega)⟩] at hs
            cases hs
          clear hs
          go_wp2_with fail
          go_quiet ((go_at_call 68; exact Calls.quiet_of (SIi.out _)))
          go_wp2
          go_ret
          exact ⟨ret_bool hr.out.symm, _, by rw [HWR.out]; exact World.drewN_drewN _ _ _⟩
      · obtain rfl : n = i := by omega
        have hr : Hid (sameL n n mA mB a b = true) := by
          show _ = _
          refine sameL_iff.2 ⟨rfl, fun i hi => ?_⟩
          obtain ⟨h1, h2⟩ := sameI_iff.1 (HA.out i hi)
          exact ⟨h1, fun j hj => by have := h2 j (by omega) (by omega); simpa using this⟩
        subst hwr
        go_wp2
        go_ret
        exact ⟨ret_bool hr.out.symm, _, rfl⟩
  · have hr : Hid (sameL n m mA mB a b = false) := by
      show _ = _
      rw [Bool.eq_false_iff]; intro h; exact hnm (sameL_iff.1 h).1
    go_enter Try.func22, Try.ntmps22
    go_wp2
    all_goals
      go_ret
      exact ⟨ret_bool hr.out.symm, 0, rfl⟩
/-- a copy of numbers: a list of the same numbers in memory of its own, or none -/
theorem clone_all (A : Option Addr) (n c : Nat) (q : Int → Int) (w : World) (hA : ArrI w w.heap.size A n q) (hn : n ≤ 1000000) :
    Calls Try.prog 15 #[.slice A n c] w (New w fun v w' => ∃ A' c', v = .slice A' n c' ∧ ArrI w' w'.heap.size A' n q) := by
  by_cases h0 : 0 < n
  · refine (clone_any A n c q w hA h0 hn).mono ?_
    rintro e w' ⟨v, rfl, own, hb⟩
    obtain ⟨A', c', e, ha⟩ := own_arrI (q := fun j => q j) own
    exact ⟨v, rfl, ⟨A', c', e, ha.congr fun i i0 i1 => by rw [Int.toNat_of_nonneg i0]⟩, hb⟩
  · obtain rfl : n = 0 := by omega
    cases A with
    | none =>
      have E1 : ∀ W, (binOp .eql 25 (.slice none 0 c) (.slice none 0 0)).run Try.prog W = .ok (.bool true) W := fun W => Go.run_eql_slice_nil W _ _ _ _ _ Try.underlying25
      go_enter Try.func15, Try.ntmps15
      go_wp2
      go_ret
      exact ⟨_, rfl, ⟨none, 0, rfl, Arr.nil⟩, Below.refl _ _⟩
    | some a =>
      have E1 : ∀ W, (binOp .eql 25 (.slice (some a) 0 c) (.slice none 0 0)).run Try.prog W = .ok (.bool false) W := fun W => Go.run_eql_slice_nil W _ _ _ _ _ Try.underlying25
      obtain ⟨i0, hi0, hz0, hz1, hz2⟩ := info_parts infoInt
      go_enter Try.func15, Try.ntmps15
      go_wp2_with (at_builtin; refine wpList_append_own _ rfl (.tmp 5) (.tmp 6) 25 rfl w.heap.size 3 i0 (.int .i64 0) 1 8 Try.underlying25 hi0 hz0 hz1 hz2 rfl (by decide) _ 0 [] rfl (World.ownsRow_made w #[] 0 (Nat.le_refl _) (by decide) rfl) a 0 c [] rfl rfl ?c1 ?c2 ?c3 ?c4 ?c5 ?_)
      case c1 => intro j u hj; simp at hj
      case c2 => simp
      case c3 => unfold maxLen; omega
      case c4 => omega
      case c5 => simp
      intro v' w7 own7 hg7 _
      have b7 : Below w.heap.size w w7 := ((Below.refl w.heap.size w).alloc (Nat.le_refl _) (.cells #[] 3)).grown hg7 (by simp) (fun k hk => by cases hk; exact Nat.le_refl _)
      obtain ⟨A', c', e, -, ha⟩ := own_arr own7
      go_wp2
      go_ret
      exact ⟨_, rfl, ⟨A', c', e, Arr.nil⟩, b7⟩
theorem few_any (W H : Int) (A : Option Addr) (n c : Nat) (w : World) :
    Calls Try.prog 12 #[.agg #[.int .i64 W, .int .i64 H, .slice A n c]] w fun e w' => e = .returned (.bool (decide ((n : Int) ≤ 6000))) ∧ Below w.heap.size w w' := by
  go_enter Try.func12, Try.ntmps12
  go_wp2
  go_ret
  exact ⟨rfl, by (repeat (first | exact Below.refl _ _ | assumption | refine Below.drew ?_ | refine below_drewN ?_ _ | refine Below.alloc ?_ (by first | omega | (simp; done) | (simp; omega)) _ | refine Below.setCell ?_ (by first | omega | (simp; done) | (simp; omega)) _ | refine below_setRow ?_ (by first | omega | (simp; done) | (simp; omega)) _ ))⟩
end Go.Proofs.Ytdimlpcbbkokiaa

/- Walks: copies of numbers, of lines and of a stave; staves compared. -/
namespace Go.Proofs.Ytdimlpcbbkokiaa
open Go.RowKit Go.Shelf
set_option linter.unusedVariables false
attribute [local go_sem] Oper.semAt_some

/-- k lines of any lengths, a slice each, in memory of the call's own -/
structure FoundM (B : Nat) (w : World) (m : Nat → Nat) (ln : Nat → Nat → Int) (k : Nat) (vo : Value) (v : Nat → Value) : Prop where
  row : w.ownsRow B 25 1 vo k ((List.range k).map v)
  lines : ∀ i, i < k → w.ownsRow B 3 1 (v i) (m i) ((List.range (m i)).map fun j => Value.int .i64 (ln i j))
section
variable {B : Nat} {w w' : World} {m : Nat → Nat} {ln : Nat → Nat → Int} {k : Nat} {vo : Value} {v : Nat → Value}
theorem FoundM.below (h : FoundM B w m ln k vo v) (hb : Below w.heap.size w w') : FoundM B w' m ln k vo v :=
  ⟨own_below h.row hb, fun i hi => own_below (h.lines i hi) hb⟩
theorem FoundM.drew (h : FoundM B w m ln k vo v) : FoundM B w.drew m ln k vo v := ⟨h.row, h.lines⟩
theorem FoundM.base {B' : Nat} (h : FoundM B w m ln k vo v) (hB : B' ≤ B) : FoundM B' w m ln k vo v := ⟨own_base h.row hB, fun i hi => own_base (h.lines i hi) hB⟩
theorem FoundM.nil (w : World) (B : Nat) (m : Nat → Nat) (ln : Nat → Nat → Int) (v : Nat → Value) : FoundM B w m ln 0 (.slice none 0 0) v := ⟨World.ownsRow_nil _ _ _ _, fun i hi => by omega⟩
theorem FoundM.snoc {vo' u : Value} (h : FoundM B w m ln k vo v) (hu : w.ownsRow B 3 1 u (m k) ((List.range (m k)).map fun j => Value.int .i64 (ln k j)))
    (hg : w.grownBy w' vo.ownBlock) (hr : w'.ownsRow B 25 1 vo' (k + 1) ((List.range k).map v ++ [u])) : FoundM B w' m ln (k + 1) vo' (fun i => if i = k then u else v i) := by
  refine ⟨?_, fun i hi => ?_⟩
  · rw [range_snoc]
    simp only [if_true]
    rw [show (List.range k).map (fun i => if i = k then u else v i) = (List.range k).map v from List.map_congr_left fun i hi => by rw [if_neg]; have := List.mem_range.1 hi; omega]
    exact hr
  · show World.ownsRow _ _ _ _ (if i = k then _ else v i) _ _
    by_cases e : i = k
    · subst e
      rw [if_pos rfl]
      exact own_grown hu h.row (by decide) hg
    · rw [if_neg e]
      exact own_grown (h.lines i (by omega)) h.row (by decide) hg
theorem FoundM.toLines (h : FoundM B w m ln k vo v) : ∃ A c, vo = .slice A k c ∧ k ≤ c ∧ (A = none → c = 0) ∧ Lines w w.heap.size A k m ln := by
  have hn : ∀ A c, vo = .slice A k c → A = none → c = 0 := by
    rintro A c e rfl
    rcases h.row.2 with ⟨h2, _⟩ | ⟨g, cap, cur, h2, _⟩
    · rw [e] at h2; simp at h2; exact h2.2
    · rw [e] at h2; simp at h2
  obtain ⟨A, c, e, hc, ha⟩ := own_arr h.row
  refine ⟨A, c, e, hc, hn A c e, v, Arr.congr ha fun i i0 i1 => ?_, fun i hi => ?_⟩
  · rw [List.getD_eq_getElem?_getD, List.getElem?_map, List.getElem?_range (by omega)]; rfl
  · obtain ⟨A', c', e', ha'⟩ := own_arrI (h.lines i hi)
    exact ⟨A', c', e', ha'⟩
end
/-- lines that came in, with what a nil one is -/
def LinesZ (w : World) (B : Nat) (A : Option Addr) (K : Nat) (m : Nat → Nat) (ln : Nat → Nat → Int) : Prop :=
  ∃ vs : Nat → Value, Arr w B A K (fun j => vs j.toNat) ∧ ∀ i, i < K → ∃ A' c', vs i = .slice A' (m i) c' ∧ (A' = none → c' = 0) ∧ ArrI w B A' (m i) (fun j => ln i j.toNat)
section
variable {B : Nat} {w w' : World} {m : Nat → Nat} {ln : Nat → Nat → Int} {K : Nat} {A : Option Addr}
theorem LinesZ.lines (h : LinesZ w B A K m ln) : Lines w B A K m ln := by
  obtain ⟨vs, h1, h2⟩ := h
  exact ⟨vs, h1, fun i hi => by obtain ⟨A', c', e, -, ha⟩ := h2 i hi; exact ⟨A', c', e, ha⟩⟩
theorem LinesZ.below (h : LinesZ w w.heap.size A K m ln) (hb : Below w.heap.size w w') : LinesZ w' w'.heap.size A K m ln := by
  obtain ⟨vs, h1, h2⟩ := h
  exact ⟨vs, (Arr.below h1 hb).more hb.size, fun i hi => by obtain ⟨A', c', e, hz, ha⟩ := h2 i hi; exact ⟨A', c', e, hz, ha.to hb⟩⟩
theorem LinesZ.at_ (h : LinesZ w B A K m ln) {i : Nat} (hi : i < K) :
    ∃ b off A' c', A = some ⟨b, off, none⟩ ∧ b < B ∧ w.cell? ⟨b, off + i, none⟩ = some (.slice A' (m i) c') ∧ (A' = none → c' = 0) ∧ ArrI w B A' (m i) (fun j => ln i j.toNat) := by
  obtain ⟨vs, h1, h2⟩ := h
  obtain ⟨b, off, e, hb, hc⟩ := Arr.at_ h1 (i := (i : Int)) (by omega) (by omega)
  rw [Int.toNat_natCast] at hc
  obtain ⟨A', c', e', hz, ha⟩ := h2 i hi
  exact ⟨b, off, A', c', e, hb, by rw [hc, e'], hz, ha⟩
end

set_option maxRecDepth 100000 in
set_option maxHeartbeats 400000 in
theorem copyInts_any (A : Option Addr) (n c : Nat) (q : Nat → Int) (w : World) (hA : ArrI w w.heap.size A n (fun j => q j.toNat)) (hc : A = none → c = 0) (hn : n ≤ 17592186044416) :
    Calls Try.prog 75 #[.slice A n c] w (New w fun v w' => w'.ownsRow w.heap.size 3 1 v n ((List.range n).map fun j => Value.int .i64 (q j))) := by
  obtain ⟨i0, hi0, hz0, hz1, hz2⟩ := info_parts infoInt
  have hnil := World.ownsRow_nil w w.heap.size 3 1
  cases A with
  | none =>
    have hn0 : n = 0 := by
      rcases Nat.eq_zero_or_pos n with h | h
      · exact h
      · obtain ⟨b, off, e, _⟩ := hA h; cases e
    subst hn0
    obtain rfl := hc rfl
    go_enter Try.func75, Try.ntmps75
    go_wp2_with (at_builtin; refine wpList_append_own_none rfl (.tmp 4) (.tmp 5) 25 rfl w.heap.size 3 i0 1 Try.underlying25 hi0 _ 0 [] rfl hnil rfl ?_)
    go_ret
    exact ⟨_, rfl, hnil, Below.refl _ _⟩
  | some ad =>
    go_enter Try.func75, Try.ntmps75
    go_wp2_with (at_builtin; refine wpList_append_own _ rfl (.tmp 4) (.tmp 5) 25 rfl w.heap.size 3 i0 (.int .i64 0) 1 8 Try.underlying25 hi0 hz0 hz1 hz2 rfl (by decide) _ 0 [] rfl hnil ad n c ((List.range n).map (fun (j : Nat) => Value.int .i64 (q j))) rfl (by simp) ?c1 ?c2 ?c3 ?c4 (Nat.le_refl _) ?_)
    case c1 =>
      intro j u hj
      have hjn : j < n := by
        rcases Nat.lt_or_ge j n with h | h
        · exact h
        · rw [List.getElem?_eq_none (by simpa using h)] at hj; cases hj
      obtain ⟨b, off, e, _, hcell⟩ := hA (by omega)
      injection e with e; subst e
      have := hcell j (by omega) (by omega)
      simp [hjn] at hj
      subst hj
      rw [Int.toNat_natCast] at this
      unfold Addr.add
      split
      · rename_i e; subst e; exact this
      · exact this
    case c2 => intro u hu; simp at hu; obtain ⟨j, _, rfl⟩ := hu; rfl
    case c3 => unfold maxLen; omega
    case c4 => omega
    intro v' w1 hown' hg _
    go_wp2
    go_ret
    refine ⟨_, rfl, ?_, (Below.refl _ _).grown hg (Nat.le_refl _) (fun k hk => by simp [Value.ownBlock] at hk)⟩
    try rw [Nat.zero_add, List.nil_append] at hown'
    exact hown'

set_option maxRecDepth 100000 in
set_option maxHeartbeats 2000000 in
theorem copyLists_any (A : Option Addr) (K c : Nat) (m : Nat → Nat) (ln : Nat → Nat → Int) (w : World) (hL : LinesZ w w.heap.size A K m ln) (hK : K ≤ 5864062014634) (hm : ∀ i, i < K → m i ≤ 17592186044416) :
    Calls Try.prog 33 #[.slice A K c] w (New w fun v w' => ∃ vs, FoundM w.heap.size w' m ln K v vs) := by
  obtain ⟨i0, hi0, hz0, hz1, hz2⟩ := info_parts infoInts
  have CI := Lib.hid fun i (hi : i < K) A' c' w' hA' hc' => copyInts_any A' (m i) c' (ln i) w' hA' hc' (hm i hi)
  go_enter Try.func33, Try.ntmps33
  go_wp2
  go_loopw [3, 4] (fun vo s wr => ∃ (k : Nat) (v : Nat → Value), k ≤ K ∧ s = .int .i64 k ∧ FoundM w.heap.size wr m ln k vo v ∧ Below w.heap.size w wr) (fun _ s _ => K - (intOf s).toNat)
  case atStart => exact ⟨0, fun _ => .slice none 0 0, by omega, rfl, FoundM.nil _ _ _ _ _, Below.refl _ _⟩
  case round =>
    obtain ⟨k, v, hk, rfl, hF, b1⟩ := hrel
    obtain ⟨Ao, co, rfl, -, -⟩ := own_arr hF.row
    by_cases hlt : (k : Int) < K
    · obtain ⟨b, off, A', c', rfl, hb, hc, hz, ha⟩ := hL.at_ (i := k) (by omega)
      have hc1 := (b1.cell (p := ⟨b, off + k, none⟩) hb).trans hc
      have CIk := Lib.hid (CI.out k (by omega) A' c' wr ((ha.below b1).more b1.size) hz)
      have z1 := b1.size
      clear hc ha hz
      go_wp2_with fail
      refine CIk.out.mono ?_
      rintro e w2 ⟨u, rfl, own2, hb2⟩
      obtain ⟨Au, cu, rfl, -, -⟩ := own_arr own2
      have F2 := hF.below hb2
      have b2 := below_call b1 b1.size hb2
      have z2 := b2.size
      clear hF hb2 hc1
      go_wp2_with (at_builtin; refine wpList_append_own _ rfl (.tmp 11) (.tmp 17) 34 rfl w.heap.size 25 i0 (.slice none 0 0) 1 24 Try.underlying34 hi0 hz0 hz1 hz2 rfl (by decide) _ _ _ rfl (F2.row.alloc _) ⟨w2.heap.size, 0, none⟩ 1 1 [.slice Au (m k) cu] rfl rfl ?c1 ?c2 ?c3 ?c4 ?c5 ?_)
      try case c1 => exact cell_one_new _ _ _
      try case c2 => simp [Value.oneCell']
      try case c3 => unfold maxLen; omega
      try case c4 => omega
      try case c5 => first | omega | (simp; done) | (simp; omega)
      intro v' w7 own7 hg7 _
      have F7 := (F2.below ((Below.refl _ _).alloc (Nat.le_refl _) (.cells #[.slice Au (m k) cu] 25))).snoc ((own_base own2 z1).alloc _) hg7 own7
      have b7 : Below w.heap.size w w7 := (b2.alloc z2 (.cells #[.slice Au (m k) cu] 25)).grown hg7 (by simp; omega) (fun j hj => (own_ge F2.row hj).1)
      clear own7 hg7 F2 b2 b1
      go_wp2
      go_roundw
      case rel => exact ⟨k + 1, _, by omega, by go_num, F7, b7⟩
      case measure => simp [intOf]; omega
    · obtain rfl : K = k := by omega
      go_wp2
      go_ret
      exact ⟨_, rfl, ⟨_, hF⟩, b1⟩
/-- a stave over fresh lines -/
theorem copyStave_any (A : Option Addr) (K c : Nat) (m : Nat → Nat) (ln : Nat → Nat → Int) (w : World) (hL : LinesZ w w.heap.size A K m ln) (hK : K ≤ 5864062014634) (hm : ∀ i, i < K → m i ≤ 17592186044416) :
    Calls Try.prog 37 #[.agg #[.slice A K c]] w (New w fun v w' => ∃ vo vs, v = .agg #[vo] ∧ FoundM w.heap.size w' m ln K vo vs) := by
  have CL := Lib.hid fun w' hL' => copyLists_any A K c m ln w' hL' hK hm
  have b1 : Below w.heap.size w ((w.alloc (.cells #[.slice A K c] 54)).alloc (.cells #[.slice none 0 0] 54)) := by (repeat (first | exact Below.refl _ _ | assumption | refine Below.drew ?_ | refine below_drewN ?_ _ | refine Below.alloc ?_ (by first | omega | (simp; done) | (simp; omega)) _ | refine Below.setCell ?_ (by first | omega | (simp; done) | (simp; omega)) _ | refine below_setRow ?_ (by first | omega | (simp; done) | (simp; omega)) _ ))
  have k1 : Blk ((w.alloc (.cells #[.slice A K c] 54)).alloc (.cells #[.slice none 0 0] 54)) w.heap.size 54 #[.slice A K c] := (Blk.new _ _ _).alloc _
  have k2 : Blk ((w.alloc (.cells #[.slice A K c] 54)).alloc (.cells #[.slice none 0 0] 54)) (w.heap.size + 1) 54 #[.slice none 0 0] := Blk.new' (by simp) _ _
  have r1 := k1.at0
  go_enter Try.func37, Try.ntmps37
  go_wp2_with fail
  generalize (w.alloc (.cells #[.slice A K c] 54)).alloc (.cells #[.slice none 0 0] 54) = w1 at *
  refine (CL.out _ (hL.below b1)).mono ?_
  rintro e w2 ⟨v, rfl, ⟨vs, hF⟩, hb2⟩
  have b2 := below_call b1 b1.size hb2
  have k3 := k2.below' hb2
  have q1 := k3.at0
  have q2 := k3.frozen 0
  have zz := b1.size
  obtain ⟨Ao, co, rfl, -, -⟩ := own_arr hF.row
  have F3 : FoundM w.heap.size (w2.setCell ⟨w.heap.size + 1, 0, none⟩ (.slice Ao K co)) m ln K (.slice Ao K co) vs :=
    ⟨own_far (own_base hF.row zz) k3 (by decide) _ _, fun i hi => own_far (own_base (hF.lines i hi) zz) k3 (by decide) _ _⟩
  clear hF
  have k4 := (k3.set_ 0 (.slice Ao K co)).at0
  go_wp2
  refine bodyPost_ret (v := .agg #[.slice Ao K co]) (by simp [results, Try.results37, go_sem, k4]) rfl ?_
  exact ⟨_, rfl, ⟨_, vs, rfl, F3⟩, b2.setCell (by show w.heap.size ≤ w.heap.size + 1; omega) _⟩
set_option maxHeartbeats 1000000 in
theorem sameStave_any (A B : Option Addr) (n m c d : Nat) (mA mB : Nat → Nat) (a b : Nat → Nat → Int) (w : World) (hA : Lines w w.heap.size A n mA a) (hB : Lines w w.heap.size B m mB b) (hn : n ≤ maxLen) (hm : m ≤ maxLen) (hmA : ∀ i, i < n → mA i ≤ maxLen) (hmB : ∀ i, i < m → mB i ≤ maxLen) :
    Calls Try.prog 40 #[.agg #[.slice A n c], .agg #[.slice B m d]] w fun e w' => e = .returned (.bool (sameL n m mA mB a b)) ∧ Below w.heap.size w w' := by
  have b1 : Below w.heap.size w ((w.alloc (.cells #[.slice A n c] 54)).alloc (.cells #[.slice B m d] 54)) := by (repeat (first | exact Below.refl _ _ | assumption | refine Below.drew ?_ | refine below_drewN ?_ _ | refine Below.alloc ?_ (by first | omega | (simp; done) | (simp; omega)) _ | refine Below.setCell ?_ (by first | omega | (simp; done) | (simp; omega)) _ | refine below_setRow ?_ (by first | omega | (simp; done) | (simp; omega)) _ ))
  have SL := Lib.hid (sameLists_any A B n m c d mA mB a b _ (hA.below b1) (hB.below b1) hn hm hmA hmB)
  have r1 : ((w.alloc (.cells #[.slice A n c] 54)).alloc (.cells #[.slice B m d] 54)).cell? ⟨w.heap.size, 0, none⟩ = some (.slice A n c) := ((Blk.new w 54 #[.slice A n c]).alloc _).at0
  have r2 : ((w.alloc (.cells #[.slice A n c] 54)).alloc (.cells #[.slice B m d] 54)).cell? ⟨w.heap.size + 1, 0, none⟩ = some (.slice B m d) := (Blk.new' (by simp) _ _).at0
  go_enter Try.func40, Try.ntmps40
  go_wp2_with fail
  refine SL.out.mono ?_
  rintro e w2 ⟨rfl, nq, rfl⟩
  go_wp2
  go_ret
  exact ⟨rfl, below_drewN b1 _⟩
end Go.Proofs.Ytdimlpcbbkokiaa

/- Walk: the staves of any lines (stave.Staves). -/
namespace Go.Proofs.Ytdimlpcbbkokiaa
open Go.RowKit Go.Shelf
set_option linter.unusedVariables false
attribute [local go_sem] Oper.semAt_some

/-- five lines from line i on have gaps that are alike -/
def eB (m : Nat → Nat) (ln : Nat → Nat → Int) (i : Nat) : Bool := evenB (fun j => m (i + j)) (fun j => ln (i + j))
/-- where the staves begin, of n lines from line i on -/
def stS (e : Nat → Bool) (n i : Nat) : List Nat := if n < 5 then [] else if e i then i :: stS e (n - 5) (i + 5) else stS e (n - 1) (i + 1)
termination_by n
decreasing_by all_goals omega
theorem stS_few {e : Nat → Bool} {n i : Nat} (h : n < 5) : stS e n i = [] := by rw [stS, if_pos h]
theorem stS_yes {e : Nat → Bool} {n i : Nat} (h : 5 ≤ n) (he : e i = true) : stS e n i = i :: stS e (n - 5) (i + 5) := by rw [stS, if_neg (by omega), if_pos he]
theorem stS_no {e : Nat → Bool} {n i : Nat} (h : 5 ≤ n) (he : e i = false) : stS e n i = stS e (n - 1) (i + 1) := by rw [stS, if_neg (by omega), if_neg (by rw [he]; simp)]
theorem stS_at {e : Nat → Bool} : ∀ {n i : Nat} {t : Nat}, t ∈ stS e n i → i ≤ t ∧ t + 5 ≤ i + n ∧ e t = true := by
  intro n
  induction n using Nat.strongRecOn with
  | _ n ih =>
    intro i t ht
    by_cases h : n < 5
    · rw [stS_few h] at ht; cases ht
    · cases he : e i with
      | true =>
        rw [stS_yes (by omega) he] at ht
        rcases List.mem_cons.1 ht with rfl | ht
        · exact ⟨Nat.le_refl _, by omega, he⟩
        · have := ih (n - 5) (by omega) ht; exact ⟨by omega, by omega, this.2.2⟩
      | false =>
        rw [stS_no (by omega) he] at ht
        have := ih (n - 1) (by omega) ht; exact ⟨by omega, by omega, this.2.2⟩
theorem stS_len {e : Nat → Bool} : ∀ {n i : Nat}, (stS e n i).length ≤ n := by
  intro n
  induction n using Nat.strongRecOn with
  | _ n ih =>
    intro i
    by_cases h : n < 5
    · rw [stS_few h]; exact Nat.zero_le _
    · cases he : e i with
      | true => rw [stS_yes (by omega) he, List.length_cons]; have := ih (n - 5) (by omega) (i := i + 5); omega
      | false => rw [stS_no (by omega) he]; have := ih (n - 1) (by omega) (i := i + 1); omega
theorem FoundM.grownBlk {B B' : Nat} {w w' : World} {m : Nat → Nat} {ln : Nat → Nat → Int} {k n : Nat} {vo vr : Value} {v : Nat → Value} {xs : List Value} (h : FoundM B w m ln k vo v) (hr : w.ownsRow B' 54 1 vr n xs) (hg : w.grownBy w' vr.ownBlock) : FoundM B w' m ln k vo v :=
  ⟨own_grown h.row hr (by decide) hg, fun i hi => own_grown (h.lines i hi) hr (by decide) hg⟩
theorem FoundM.alloc {B : Nat} {w : World} {m : Nat → Nat} {ln : Nat → Nat → Int} {k : Nat} {vo : Value} {v : Nat → Value} (h : FoundM B w m ln k vo v) (o : Obj) : FoundM B (w.alloc o) m ln k vo v := h.below ((Below.refl _ _).alloc (Nat.le_refl _) _)
/-- staves over fresh memory: they begin at the lines of a list, five lines each -/
structure StOut (B : Nat) (w : World) (m : Nat → Nat) (ln : Nat → Nat → Int) (st : List Nat) (vo : Value) (vs : Nat → Value) : Prop where
  row : w.ownsRow B 54 1 vo st.length ((List.range st.length).map vs)
  each : ∀ t, t < st.length → ∃ v, FoundM B w (fun j => m (st.getD t 0 + j)) (fun j => ln (st.getD t 0 + j)) 5 (vs t) v
section
variable {B : Nat} {w w' : World} {m : Nat → Nat} {ln : Nat → Nat → Int} {st : List Nat} {vo : Value} {vs : Nat → Value}
theorem StOut.below (h : StOut B w m ln st vo vs) (hb : Below w.heap.size w w') : StOut B w' m ln st vo vs :=
  ⟨own_below h.row hb, fun t ht => by obtain ⟨v, hv⟩ := h.each t ht; exact ⟨v, hv.below hb⟩⟩
theorem StOut.base {B' : Nat} (h : StOut B w m ln st vo vs) (hB : B' ≤ B) : StOut B' w m ln st vo vs :=
  ⟨own_base h.row hB, fun t ht => by obtain ⟨v, hv⟩ := h.each t ht; exact ⟨v, hv.base hB⟩⟩
theorem StOut.nil (w : World) (B : Nat) (m : Nat → Nat) (ln : Nat → Nat → Int) (vs : Nat → Value) : StOut B w m ln [] (.slice none 0 0) vs := ⟨World.ownsRow_nil _ _ _ _, fun t ht => by simp at ht⟩
theorem StOut.snoc {i : Nat} {vo' u : Value} {vu : Nat → Value} (h : StOut B w m ln st vo vs) (hu : FoundM B w (fun j => m (i + j)) (fun j => ln (i + j)) 5 u vu)
    (hg : w.grownBy w' vo.ownBlock) (hr : w'.ownsRow B 54 1 vo' (st.length + 1) ((List.range st.length).map vs ++ [u])) : StOut B w' m ln (st ++ [i]) vo' (fun t => if t = st.length then u else vs t) := by
  have e : (st ++ [i]).length = st.length + 1 := by simp
  refine ⟨?_, fun t ht => ?_⟩
  · rw [e, range_snoc]
    simp only [if_true]
    rw [show (List.range st.length).map (fun t => if t = st.length then u else vs t) = (List.range st.length).map vs from List.map_congr_left fun i hi => by rw [if_neg]; have := List.mem_range.1 hi; omega]
    exact hr
  · rw [e] at ht
    by_cases e2 : t = st.length
    · subst e2
      refine ⟨vu, ?_⟩
      simp only [if_true]
      rw [show (st ++ [i]).getD st.length 0 = i by simp]
      exact hu.grownBlk h.row hg
    · obtain ⟨v, hv⟩ := h.each t (by omega)
      refine ⟨v, ?_⟩
      simp only [if_neg e2]
      rw [show (st ++ [i]).getD t 0 = st.getD t 0 by rw [List.getD_eq_getElem?_getD, List.getD_eq_getElem?_getD, List.getElem?_append_left (by omega)]]
      exact hv.grownBlk h.row hg
end
theorem Lines.sub {w : World} {B b off K i n : Nat} {m : Nat → Nat} {ln : Nat → Nat → Int} (h : Lines w B (some ⟨b, off, none⟩) K m ln) (hi : i + n ≤ K) : Lines w B (some ⟨b, off + i, none⟩) n (fun j => m (i + j)) (fun j => ln (i + j)) := by
  obtain ⟨vs, h1, h2⟩ := h
  refine ⟨fun j => vs (i + j), fun hn => ?_, fun j hj => h2 (i + j) (by omega)⟩
  obtain ⟨b', off', e, hb, hc⟩ := h1 (by omega)
  cases e
  refine ⟨b, off + i, rfl, hb, fun j j0 j1 => ?_⟩
  have := hc ((i : Int) + j) (by omega) (by omega)
  rw [show ((i : Int) + j).toNat = i + j.toNat by omega] at this
  rw [Nat.add_assoc]
  refine this.trans ?_
  show some (vs ((i : Int) + j).toNat) = some (vs (i + j.toNat))
  rw [show ((i : Int) + j).toNat = i + j.toNat by omega]

set_option maxRecDepth 100000 in
set_option maxHeartbeats 4000000 in
theorem staves_any (A : Option Addr) (K c : Nat) (m : Nat → Nat) (ln : Nat → Nat → Int) (w : World) (hL : Lines w w.heap.size A K m ln) (hc : K ≤ c) (hK : K ≤ 1000) (hm : ∀ i, i < K → m i ≤ 1000000) (hb : ∀ i j, i < K → j < m i → -1099511627776 ≤ ln i j ∧ ln i j ≤ 1099511627776) :
    Calls Try.prog 34 #[.slice A K c] w (New w fun v w' => ∃ vs, StOut w.heap.size w' m ln (stS (eB m ln) K 0) v vs) := by
  have EV := Lib.hid fun i (hi : i + 5 ≤ K) A' c' w' hL' => even_any A' c' (fun j => m (i + j)) (fun j => ln (i + j)) w' hL' (fun j hj => hm (i + j) (by omega)) (fun j t hj ht => hb (i + j) t (by omega) ht)
  have HL := Lib.hid hL
  have HM := Lib.hid hm
  obtain ⟨i0, hi0, hz0, hz1, hz2⟩ := info_parts infoInts
  obtain ⟨s0, hs0, hsz0, hsz1, hsz2⟩ := info_parts infoLines
  clear hL hb hm
  go_enter Try.func34, Try.ntmps34
  go_wp2_with fail
  go_step3
  go_wp2_with fail
  go_step3
  go_wp2_with fail
  go_loopw [3, 4] (fun vo s wr => Below w.heap.size w wr ∧ ∃ (i : Nat) (st : List Nat) (vs : Nat → Value), i ≤ K ∧ s = .int .i64 i ∧ StOut w.heap.size wr m ln st vo vs ∧ st.length ≤ i ∧ stS (eB m ln) K 0 = st ++ stS (eB m ln) (K - i) i) (fun _ s _ => K - (intOf s).toNat)
  case atStart => exact ⟨Below.refl _ _, 0, [], fun _ => default, by omega, rfl, StOut.nil _ _ _ _ _, by simp, rfl⟩
  case round =>
    obtain ⟨b1, i, st, vs, hi, rfl, hS, hsl, hst⟩ := hrel
    have HST := Lib.hid hst
    clear hst
    obtain ⟨Ao, co, rfl, -, -⟩ := own_arr hS.row
    by_cases h5 : (i : Int) + 5 ≤ K
    · obtain ⟨b, off, A0, c0, rfl, hbB, -, -⟩ := HL.out.at_ (i := i) (by omega)
      have h5' : ¬ ((i : Int) + 5 > (K : Int)) := by omega
      have u1 : IntKind.i64.wrap ((i : Int) + 5) = (i : Int) + 5 := IntWalk.i64_in _ (by omega)
      have EVi := Lib.hid fun c' w' hL' => EV.out i (by omega) (some ⟨b, off + i, none⟩) c' w' hL'
      cases hev : eB m ln i with
      | false =>
        have hst : Hid (stS (eB m ln) (K - i) i = stS (eB m ln) (K - (i + 1)) (i + 1)) := by show _ = _; rw [stS_no (by omega) hev, Nat.sub_sub]
        replace EVi : Hid (∀ c' w', Lines w' w'.heap.size (some ⟨b, off + i, none⟩) 5 (fun j => m (i + j)) (fun j => ln (i + j)) → Calls Try.prog 76 #[.slice (some ⟨b, off + i, none⟩) 5 c'] w' fun e w'' => e = .returned (.bool false) ∧ Below w'.heap.size w' w'') := by
          show ∀ _, _
          intro c' w' hL'
          have := EVi.out c' w' hL'
          rw [show evenB (fun j => m (i + j)) (fun j => ln (i + j)) = eB m ln i from rfl, hev] at this
          exact this
        clear hev
        go_wp2_with fail
        refine (EVi.out _ _ ((HL.out.below b1).sub (by omega))).mono ?_
        rintro e w2 ⟨rfl, hb2⟩
        have b2 := below_call b1 b1.size hb2
        have S2 := hS.below hb2
        clear b1 hb2 hS
        go_wp2_with fail
        go_roundw
        case rel => exact ⟨b2, i + 1, st, vs, by omega, by go_num, S2, by omega, by rw [HST.out, hst.out]⟩
        case measure => simp [intOf]; omega
      | true =>
        have hst : Hid (stS (eB m ln) (K - i) i = i :: stS (eB m ln) (K - (i + 5)) (i + 5)) := by show _ = _; rw [stS_yes (by omega) hev, Nat.sub_sub]
        have MP : Hid (∀ j, j < 5 → 0 < m (i + j)) := by
          show ∀ _, _
          intro j hj
          have hev2 : evenB (fun j => m (i + j)) (fun j => ln (i + j)) = true := hev
          unfold evenB at hev2
          rw [Bool.and_eq_true] at hev2
          have := of_decide_eq_true (List.all_eq_true.1 hev2.1 j (List.mem_range.2 hj))
          exact this.1
        replace EVi : Hid (∀ c' w', Lines w' w'.heap.size (some ⟨b, off + i, none⟩) 5 (fun j => m (i + j)) (fun j => ln (i + j)) → Calls Try.prog 76 #[.slice (some ⟨b, off + i, none⟩) 5 c'] w' fun e w'' => e = .returned (.bool true) ∧ Below w'.heap.size w' w'') := by
          show ∀ _, _
          intro c' w' hL'
          have := EVi.out c' w' hL'
          rw [show evenB (fun j => m (i + j)) (fun j => ln (i + j)) = eB m ln i from rfl, hev] at this
          exact this
        clear hev
        go_wp2_with fail
        refine (EVi.out _ _ ((HL.out.below b1).sub (by omega))).mono ?_
        rintro e w2 ⟨rfl, hb2⟩
        have b2 := below_call b1 b1.size hb2
        have S2 := hS.below hb2
        have ks := Blk.new w2 54 #[.slice none 0 0]
        have bs : Below w2.heap.size w2 (w2.alloc (.cells #[.slice none 0 0] 54)) := (Below.refl _ _).alloc (Nat.le_refl _) _
        have z2 := b2.size
        have z1 := b1.size
        clear hb2 hS
        go_wp2_with fail
        generalize w2.alloc (.cells #[.slice none 0 0] 54) = w3 at *
        generalize hgs : w2.heap.size = gs at *
        go_loopw [29] (fun s w9 => ∃ j : Nat, j ≤ 5 ∧ s = .int .i64 j ∧ Below gs w2 w9 ∧ ∃ vo v, Blk w9 gs 54 #[vo] ∧ FoundM gs w9 (fun j => m (i + j)) (fun j => ln (i + j)) j vo v) (fun s _ => 5 - (intOf s).toNat)
        case atStart => exact ⟨0, by omega, rfl, bs, _, fun _ => default, ks, FoundM.nil _ _ _ _ _⟩
        case round =>
          obtain ⟨j, j5, rfl, b4, vo, v, k4, F4⟩ := hrel
          clear bs ks
          obtain ⟨A8, c8, rfl, -, -⟩ := own_arr F4.row
          have q1 := k4.at0
          have q2 := k4.frozen 0
          have zb : gs ≤ wr.heap.size := by rw [← hgs]; exact b4.size
          by_cases hlt : (j : Int) < 5
          · obtain ⟨b5, off5, A5, c5, e5, hbB5, hc5, ha5⟩ := HL.out.at_ (i := i + j) (by omega)
            cases e5
            have hc6 : wr.cell? ⟨b, off + i + j, none⟩ = some (.slice A5 (m (i + j)) c5) := by
              have h1 := (b2.cell (p := ⟨b, off + (i + j), none⟩) hbB).trans hc5
              rw [Nat.add_assoc]
              exact (b4.cell (p := ⟨b, off + (i + j), none⟩) (by show b < gs; omega)).trans h1
            have MJ := MP.out j (by omega)
            have MK := HM.out (i + j) (by omega)
            have CL := Lib.hid fun W hA' => clone_any A5 (m (i + j)) c5 (fun jj => ln (i + j) jj.toNat) W hA' MJ MK
            have b24 : Below w.heap.size w wr := b2.trans (b4.mono z2)
            have HA5 := Lib.hid (ArrI.more (ArrI.below ha5 b24) b24.size)
            clear ha5 hc5
            have n1 := World.new_ne wr _ q1
            have ne := own_neB F4.row k4 (by decide)
            have HF4 := Lib.hid F4
            have own4 := F4.row
            clear F4
            obtain ⟨mj, hmj⟩ : ∃ mj, m (i + j) = mj := ⟨_, rfl⟩
            obtain ⟨q, hq⟩ : ∃ q, ln (i + j) = q := ⟨_, rfl⟩
            have HMJ := Lib.hid hmj; have HQ := Lib.hid hq
            rw [hmj] at hc6 MJ MK
            rw [hmj, hq] at CL HA5
            clear hmj hq
            go_wp2_with fail
            go_region_law
              (first
                | (refine step_append_lies _ (by rfl) _ _ _ (by rfl) gs 25 i0 (.slice none 0 0) 1 24 Try.underlying34 hi0 hz0 hz1 hz2 rfl (by omega) (.slice A8 j c8) _ _ (by rfl) (own7.alloc _) ⟨w6.heap.size, 0, none⟩ 1 1 [.slice (some ⟨g6, 0, none⟩) mj c6] (by rfl) (by rfl) (World.news_of_block (cs := #[.slice (some ⟨g6, 0, none⟩) mj c6]) (t := 25) (fr := (0, 0)) (heap_alloc_new w6 _)) (by simp [Value.oneCell']) (by omega) (by unfold maxLen; omega) (by omega) (by simp; omega) (w6.heap.size + 1) (by simp) ?_
                   intro gg cap w1 hown1 hgrow hat hlt1
                   have k7 := (k6.alloc (.cells #[.slice (some ⟨g6, 0, none⟩) mj c6] 25)).grown hgrow ne
                   have x3 := k7.at0
                   have x4 := k7.frozen 0)
                | (refine (show (if Region.wanted (⟨some 36, _, _, _, _, _⟩ : Oper) _ = true then _ else _) from ?_)
                   go_simp
                   refine (CL.out _ (show ArrI wr.drew wr.drew.heap.size _ _ _ from HA5.out)).mono ?_
                   rintro e w6 ⟨v6, rfl, own6, hb6⟩
                   obtain ⟨g6, c6, rfl⟩ := own_some own6 MJ
                   have x1 := (k4.drew.below' hb6).at0
                   have x2 := (k4.drew.below' hb6).frozen 0
                   have y1 := World.new_ne w6 _ x1
                   have own7 := own_below (w := wr.drew) own4 hb6
                   have F6 := HF4.out.drew.below hb6
                   have b6 : Below gs w2 w6 := b4.drew.trans (hb6.mono zb)
                   have k6 := k4.drew.below' hb6
                   have z6 : gs ≤ w6.heap.size := by have := hb6.size; exact Nat.le_trans zb this
                   have z7 := k6.lt
                   have x5 : ∀ o, (w6.alloc o).cell? ⟨gs, 0, none⟩ = some (.slice A8 j c8) := fun o => (k6.alloc o).at0
                   dsimp only))
            all_goals
              have F7 : FoundM gs w1 (fun j => m (i + j)) (fun j => ln (i + j)) (j + 1) (.slice (some ⟨gg, 0, none⟩) (j + 1) cap) (fun t => if t = j then .slice (some ⟨g6, 0, none⟩) mj c6 else v t) :=
                (F6.alloc (.cells #[.slice (some ⟨g6, 0, none⟩) mj c6] 25)).snoc (by rw [HMJ.out, HQ.out]; exact (own_base own6 zb).alloc _) hgrow hown1
              have b7 : Below gs w2 w1 := (b6.alloc z6 (.cells #[.slice (some ⟨g6, 0, none⟩) mj c6] 25)).grown hgrow (by simp; omega) (fun k hk => (own_ge own4 hk).1)
              have k8 := k7.set_ 0 (.slice (some ⟨gg, 0, none⟩) (j + 1) cap)
              have F8 : FoundM gs (w1.setCell ⟨gs, 0, none⟩ (.slice (some ⟨gg, 0, none⟩) (j + 1) cap)) (fun j => m (i + j)) (fun j => ln (i + j)) (j + 1) (.slice (some ⟨gg, 0, none⟩) (j + 1) cap) (fun t => if t = j then .slice (some ⟨g6, 0, none⟩) mj c6 else v t) :=
                ⟨own_far F7.row k7 (by decide) _ _, fun t ht => own_far (F7.lines t ht) k7 (by decide) _ _⟩
              have b8 : Below gs w2 (w1.setCell ⟨gs, 0, none⟩ (.slice (some ⟨gg, 0, none⟩) (j + 1) cap)) := b7.setCell (Nat.le_refl _) _
              have B8 := Lib.hid b8; have K8 := Lib.hid k8; have FF8 := Lib.hid F8
              clear b7 k7 hown1 hgrow x1 x2 x5 own7 k6 b6 hat F6 F7 b8 k8 F8
              go_wp2
              go_roundw
              case rel => exact ⟨j + 1, by omega, by go_num, B8.out, _, K8.out, _, FF8.out⟩
              case measure => simp [intOf]; omega
          · obtain rfl : j = 5 := by omega
            clear q2
            have S4 := S2.below (hgs ▸ b4)
            have b24 : Below w.heap.size w wr := b2.trans (b4.mono z2)
            have zz := b24.size
            go_wp2_with (at_builtin; refine wpList_append_own _ rfl (.tmp 41) (.tmp 43) 56 rfl w.heap.size 54 s0 (.agg #[.slice none 0 0]) 1 24 Try.underlying56 hs0 hsz0 hsz1 hsz2 rfl (by decide) _ _ _ rfl (S4.row.alloc _) ⟨wr.heap.size, 0, none⟩ 1 1 [.slice A8 5 c8] rfl rfl ?c1 ?c2 ?c3 ?c4 ?c5 ?_)
            try case c1 => exact cell_one_new _ _ _
            try case c2 => simp [Value.oneCell']
            try case c3 => unfold maxLen; omega
            try case c4 => omega
            try case c5 => first | omega | (simp; done) | (simp; omega)
            intro v' w7 own7 hg7 _
            have b7 : Below w.heap.size w w7 := (b24.alloc zz (.cells #[.slice A8 5 c8] 54)).grown hg7 (by simp; omega) (fun k hk => (own_ge S4.row hk).1)
            have S7 := (S4.below ((Below.refl _ _).alloc (Nat.le_refl _) (.cells #[.slice A8 5 c8] 54))).snoc (i := i) ((F4.base z2).alloc _) hg7 own7
            obtain ⟨A9, c9, rfl, -, -⟩ := own_arr own7
            clear own7 hg7 S4 F4 b4 k4
            go_wp2
            go_roundw
            case rel => exact ⟨b7, i + 5, st ++ [i], _, by omega, by go_num, by simpa using S7, by simp; omega, by rw [HST.out, hst.out, List.append_assoc]; rfl⟩
            case measure => simp [intOf]; omega
    · have i5' : (i : Int) + 5 > (K : Int) := by omega
      have u1 : IntKind.i64.wrap ((i : Int) + 5) = (i : Int) + 5 := IntWalk.i64_in _ (by omega)
      go_wp2_with fail
      try rw [Exit.noGoto_ret]
      go_ret
      refine ⟨_, rfl, ⟨vs, ?_⟩, b1⟩
      rw [HST.out, stS_few (by omega), List.append_nil]
      exact hS
end Go.Proofs.Ytdimlpcbbkokiaa

/- Plain: the lines and pixels of images with staves that bend (Wavy). No program in sight. -/
namespace Go.Proofs.Ytdimlpcbbkokiaa
open Go.RowKit
set_option linter.unusedVariables false
/-- line t: line t % 5 of stave t / 5 -/
def wvL (low : Int) (R : Int → Int) (t : Nat) (j : Nat) : Int := 5 - low + ((t / 5 : Nat) : Int) * 36 + 6 * ((t % 5 : Nat) : Int) + R j
theorem wvL_at (low : Int) (R : Int → Int) (i k j : Nat) (hk : k < 5) : wvL low R (5 * i + k) j = 5 - low + (i : Int) * 36 + 6 * (k : Int) + R j := by
  unfold wvL
  rw [show (5 * i + k) / 5 = i by omega, show (5 * i + k) % 5 = k by omega]
/-- the pixels: the lines before t, and line t before column x -/
def wvQ (W : Int) (L : Nat → Nat → Int) (t : Nat) (x : Int) : Int → Int := fun i =>
  if (List.range t).any (fun s => decide (L s (i % W).toNat = i / W)) = true ∨ (L t (i % W).toNat = i / W ∧ i % W < x) then 1 else 0
section
variable {W : Int} {L : Nat → Nat → Int} {t : Nat} {x i : Int}
theorem wvQ_start (hW : 0 < W) : wvQ W L 0 0 i = 0 := by
  have := Int.emod_nonneg i (show W ≠ 0 by omega)
  unfold wvQ; rw [if_neg]
  rintro (h | h)
  · simp at h
  · omega
theorem wvQ_line (hW : 0 < W) : wvQ W L t W i = wvQ W L (t + 1) 0 i := by
  have h1 := Int.emod_lt_of_pos i hW
  have h2 := Int.emod_nonneg i (show W ≠ 0 by omega)
  unfold wvQ
  have e : (List.range (t + 1)).any (fun s => decide (L s (i % W).toNat = i / W)) = ((List.range t).any (fun s => decide (L s (i % W).toNat = i / W)) || decide (L t (i % W).toNat = i / W)) := by
    rw [List.range_succ, List.any_append]; simp
  rw [e]
  by_cases c : (List.range t).any (fun s => decide (L s (i % W).toNat = i / W)) = true
  · rw [if_pos (.inl c), if_pos (.inl (by rw [c]; rfl))]
  · by_cases d : L t (i % W).toNat = i / W
    · rw [if_pos (.inr ⟨d, h1⟩), if_pos (.inl (by rw [decide_eq_true d]; simp))]
    · rw [if_neg (by rintro (h | h); exact c h; exact d h.1), if_neg]
      rintro (h | h)
      · rw [Bool.or_eq_true] at h
        rcases h with h | h
        · exact c h
        · exact d (of_decide_eq_true h)
      · omega
theorem wvQ_set (x0 : 0 ≤ x) (x1 : x < W) : upd (wvQ W L t x) (L t x.toNat * W + x) 1 i = wvQ W L t (x + 1) i := by
  have a := idx_mod (y := L t x.toNat) x0 x1
  have b := idx_div (y := L t x.toNat) x0 x1
  unfold upd
  by_cases e : i = L t x.toNat * W + x
  · rw [if_pos e]
    unfold wvQ
    rw [e, a, b, if_pos (.inr ⟨rfl, by omega⟩)]
  · rw [if_neg e]
    have hne : ¬ (L t (i % W).toNat = i / W ∧ i % W = x) := by
      rintro ⟨h1, h2⟩
      rw [h2] at h1
      have := Int.emod_add_mul_ediv i W
      rw [h2, ← h1, Int.mul_comm] at this
      omega
    unfold wvQ
    by_cases c : (List.range t).any (fun s => decide (L s (i % W).toNat = i / W)) = true
    · rw [if_pos (.inl c), if_pos (.inl c)]
    · by_cases d : L t (i % W).toNat = i / W ∧ i % W < x
      · rw [if_pos (.inr d), if_pos (.inr ⟨d.1, by omega⟩)]
      · rw [if_neg (by rintro (h | h); exact c h; exact d h), if_neg]
        rintro (h | ⟨h1, h2⟩)
        · exact c h
        · by_cases h3 : i % W = x
          · exact hne ⟨h1, h3⟩
          · exact d ⟨h1, by omega⟩
theorem wvQ_is01 : Is01 (wvQ W L t x) := fun i => by unfold wvQ; split <;> simp
end
theorem But.trans {B B' k : Nat} {w w' w'' : World} (h : But B k w w') (h' : But B' k w' w'') (hB : B ≤ B') : But B k w w'' :=
  ⟨h'.os.trans h.os, h'.tape.trans h.tape, h'.output.trans h.output, Nat.le_trans hB h'.size, fun j hj hk => (h'.block j (by omega) hk).trans (h.block j hj hk)⟩
theorem But.below {B B' k : Nat} {w w' w'' : World} (h : But B k w w') (h' : Below B' w' w'') (hB : B ≤ B') : But B k w w'' := h.then (h'.mono hB)
theorem FoundM.but {B B' k g : Nat} {w w' : World} {m : Nat → Nat} {ln : Nat → Nat → Int} {vo : Value} {v : Nat → Value} (h : FoundM B w m ln k vo v) (hb : But B' g w w') (hB : w.heap.size = B') (hg : g < B) : FoundM B w' m ln k vo v :=
  ⟨own_but h.row hb hB hg, fun i hi => own_but (h.lines i hi) hb hB hg⟩
theorem own_but' {w w' : World} {base n B k : Nat} {e : TypeId} {v : Value} {xs : List Value} (h : w.ownsRow base e 1 v n xs) (hb : But B k w w') (hB : w.heap.size ≤ B) (hk : k < base) : w'.ownsRow base e 1 v n xs :=
  own_move h fun j hj => hb.block j (Nat.lt_of_lt_of_le (own_ge h hj).2 hB) (by have := (own_ge h hj).1; omega)
theorem StOut.but {B B' g : Nat} {w w' : World} {m : Nat → Nat} {ln : Nat → Nat → Int} {st : List Nat} {vo : Value} {vs : Nat → Value} (h : StOut B w m ln st vo vs) (hb : But B' g w w') (hB : w.heap.size = B') (hg : g < B) : StOut B w' m ln st vo vs :=
  ⟨own_but h.row hb hB hg, fun t ht => by obtain ⟨v, hv⟩ := h.each t ht; exact ⟨v, hv.but hb hB hg⟩⟩
theorem own_lo {w : World} {base n g t : Nat} {e : TypeId} {v : Value} {xs : List Value} {cs : Array Value} (h : w.ownsRow base e 1 v n xs) (hb : Blk w g t cs) (hg : g < base) (o : Nat) (u : Value) : (w.setCell ⟨g, o, none⟩ u).ownsRow base e 1 v n xs :=
  own_move h fun k hk => heap_setCell_other w ⟨g, o, none⟩ k u fun e => by
    have := (own_ge h hk).1
    have e : k = g := e
    omega
theorem StOut.far {B g t : Nat} {w : World} {m : Nat → Nat} {ln : Nat → Nat → Int} {st : List Nat} {vo : Value} {vs : Nat → Value} {cs : Array Value} (h : StOut B w m ln st vo vs) (hb : Blk w g t cs) (hg : g < B) (o : Nat) (u : Value) : StOut B (w.setCell ⟨g, o, none⟩ u) m ln st vo vs :=
  ⟨own_lo h.row hb hg o u, fun t ht => by obtain ⟨v, hv⟩ := h.each t ht; exact ⟨v, own_lo hv.row hb hg o u, fun i hi => own_lo (hv.lines i hi) hb hg o u⟩⟩
end Go.Proofs.Ytdimlpcbbkokiaa
