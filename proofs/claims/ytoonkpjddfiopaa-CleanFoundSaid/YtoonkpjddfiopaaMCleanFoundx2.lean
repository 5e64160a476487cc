/- Texts of mine in build order: W8, W9, W10, W11, Lib2, W12, W13, Q1, Q2, Q4, F1, F3, W14. Conditions: each theorem's own. -/
import Derived.Test.YtoonkpjddfiopaaMCleanFoundx1
import Derived.RangeFuncNested
import Derived.RangeFuncBound
import Derived.RangeFuncCalls
import Derived.RangeFuncLeaves
import Derived.RangeFuncFrom
import Derived.Shelf.Abstract
import Derived.Shelf.RegionOpen
import Derived.OwnWalkIn
import Derived.TacticsInMore
import Derived.LoopNIn
import Derived.LoopIn
import Derived.BigGuardIn
import Derived.Deep.RegionHeld3
import Derived.Deep.DeepCutAuto
import Derived.Deep.Cut
import Derived.Laws.AppendOwnNone
/- Walks: the skews in their order; FindSkew. -/
namespace Go.Proofs.Ytoonkpjddfiopaa
open Go.RowKit Go.Shelf
set_option linter.unusedVariables false
attribute [local go_sem] Oper.semAt_some

def skp : Nat → List Int
  | 0 => []
  | 1 => [0]
  | n + 2 => skp (n + 1) ++ [(n : Int) + 1, -((n : Int) + 1)]
theorem skp_len (n : Nat) : (skp n).length ≤ 2 * n := by
  induction n using skp.induct with
  | case1 => simp [skp]
  | case2 => simp [skp]
  | case3 n ih => simp [skp]; omega

theorem keeps_of_below {W W' : World} (h : Below W.heap.size W W') : KeepsOthers W W' :=
  ⟨h.size, fun k o hk _ => (h.block k (Array.getElem?_eq_some_iff.1 hk).1).trans hk⟩

set_option maxHeartbeats 1000000 in
theorem skews_stops (F : Fence) (n : Nat) (h6 : F.fn 43) (hro : F.round = none) (hn : 1 ≤ n) (w : World) :
    SeqStopsK F n Try.prog 43 #[] (fun v : Int => #[Value.int .i64 v]) (fun _ _ => True) (fun xs => xs = [0, 1, -1, 2, -2, 3, -3]) (fun _ => True) 8 w := fun l J Jx W _ _ _ hY h0 => by
  refine callsIn_of_wp Try.func43 rfl h6 ?_ hro
  simp only [Try.ntmps43, List.size_toArray, List.length_cons, List.length_nil, Nat.reduceAdd, Nat.reduceSub, Array.replicate_succ, Array.replicate_zero, List.push_toArray, List.append_toArray, List.nil_append, List.cons_append]
  have HY := Lib.hid hY; clear hY
  gi_wp2_with (refine wpListIn_skip rfl rfl ?_; simp only [Act.put, List.setIfInBounds_toArray, List.set_cons_succ, List.set_cons_zero])
  gi_loopw [3] (fun s wr => ∃ i : Nat, i ≤ 4 ∧ s = .int .i64 i ∧ J (skp i) wr) (fun s _ => 4 - (intOf s).toNat)
  case atStart => exact ⟨0, by omega, rfl, h0⟩
  case round =>
    obtain ⟨i, hi, rfl, hJ⟩ := hrel
    by_cases hlt : i < 4
    · have hlen := skp_len i
      obtain ⟨f1, t1, a1, b1, hy1, hR1⟩ := HY.out (skp i) i wr hJ (by omega)
      by_cases h0i : i = 0
      · subst h0i
        simp only [Int.natCast_zero] at hy1 hR1
        gi_wp2_with (refine wpListIn_skip rfl rfl ?_; simp only [Act.put, List.setIfInBounds_toArray, List.set_cons_succ, List.set_cons_zero])
        refine hR1.mono ?_
        rintro e W1 (⟨rfl, hJ1, _⟩ | ⟨rfl, hx1⟩)
        · gi_wp2_with (refine wpListIn_skip rfl rfl ?_; simp only [Act.put, List.setIfInBounds_toArray, List.set_cons_succ, List.set_cons_zero])
          go_roundw
          case rel => exact ⟨1, by omega, by go_num, hJ1⟩
          case measure => simp [intOf]
        · gi_wp2_with (refine wpListIn_skip rfl rfl ?_; simp only [Act.put, List.setIfInBounds_toArray, List.set_cons_succ, List.set_cons_zero])
          refine bodyPost_ret (results_none rfl _ _ _) rfl ?_
          exact ⟨⟨_, rfl⟩, .inr ⟨_, trivial, hx1⟩⟩
      · have hip : (0 : Int) < i := by omega
        have hi4 : (i : Int) < 4 := by omega
        gi_wp2_with (refine wpListIn_skip rfl rfl ?_; simp only [Act.put, List.setIfInBounds_toArray, List.set_cons_succ, List.set_cons_zero])
        refine hR1.mono ?_
        rintro e W1 (⟨rfl, hJ1, _⟩ | ⟨rfl, hx1⟩)
        · obtain ⟨f2, t2, a2, b2, hy2, hR2⟩ := HY.out (skp i ++ [(i : Int)]) (-(i : Int)) W1 hJ1 (by simp; omega)
          clear hy1 hR1
          gi_wp2_with (refine wpListIn_skip rfl rfl ?_; simp only [Act.put, List.setIfInBounds_toArray, List.set_cons_succ, List.set_cons_zero])
          refine hR2.mono ?_
          rintro e W2 (⟨rfl, hJ2, _⟩ | ⟨rfl, hx2⟩)
          · gi_wp2_with (refine wpListIn_skip rfl rfl ?_; simp only [Act.put, List.setIfInBounds_toArray, List.set_cons_succ, List.set_cons_zero])
            go_roundw
            case rel =>
              refine ⟨i + 1, by omega, by go_num, ?_⟩
              obtain ⟨j, rfl⟩ : ∃ j, i = j + 1 := ⟨i - 1, by omega⟩
              rw [skp]
              simpa using hJ2
            case measure => simp [intOf]; omega
          · gi_wp2_with (refine wpListIn_skip rfl rfl ?_; simp only [Act.put, List.setIfInBounds_toArray, List.set_cons_succ, List.set_cons_zero])
            refine bodyPost_ret (results_none rfl _ _ _) rfl ?_
            exact ⟨⟨_, rfl⟩, .inr ⟨_, trivial, hx2⟩⟩
        · gi_wp2_with (refine wpListIn_skip rfl rfl ?_; simp only [Act.put, List.setIfInBounds_toArray, List.set_cons_succ, List.set_cons_zero])
          refine bodyPost_ret (results_none rfl _ _ _) rfl ?_
          exact ⟨⟨_, rfl⟩, .inr ⟨_, trivial, hx1⟩⟩
    · obtain rfl : i = 4 := by omega
      gi_wp2_with (refine wpListIn_skip rfl rfl ?_; simp only [Act.put, List.setIfInBounds_toArray, List.set_cons_succ, List.set_cons_zero])
      go_end0
      exact ⟨⟨_, rfl⟩, .inl ⟨[0, 1, -1, 2, -2, 3, -3], rfl, hJ⟩⟩

theorem skews_any (w : World) : Calls Try.prog 25 #[] w fun e w' => e = .returned (.func (.func 43) #[] #[]) ∧ w = w' := by
  go_enter Try.func25, Try.ntmps25
  have hmf : ∀ (fn : Fn) (first cap : Array Value) (w : World), (Instr.makeFunc fn first cap).run Try.prog w = .ok (.func fn first cap) w := fun _ _ _ _ => rfl
  go_wp2
  go_ret
  exact ⟨rfl, rfl⟩

theorem isB_mov {W H : Int} {p : Int → Int} {k way : Int} (hB : IsB p) : IsB (movQ W H p k way) := by
  intro i; unfold movQ; split
  · exact hB _
  · omega
theorem chk_mk {W H : Int} {n : Nat} {p : Int → Int} (h1 : 0 ≤ W) (h2 : W ≤ 640) (h3 : 0 ≤ H) (h4 : H ≤ 640) (hn : (n : Int) = W * H) (hp : ∀ i : Int, 0 ≤ i → i < n → p i ≤ 1) : chk W H n p = 0 := by
  unfold chk
  have hq : pixB n p = true := allN_iff.2 fun i a b => by simpa using hp i a b
  rw [if_pos (sidesB_iff.2 ⟨h1, h2, h3, h4, hn⟩), hq]; rfl
theorem chk_mov {W H h : Int} {n : Nat} {p : Int → Int} {k way : Int} (hE : movE W H n p k way = 0) (hh : h = H + way * grt W k) : chk W h (W * h).toNat (movQ W H p k way) = 0 := by
  obtain ⟨hc, hk1, hk2, hh1, hh2⟩ := movE_ok hE
  obtain ⟨hW1, hW2, hH1, hH2, hnn, hp⟩ := chk_ok hc
  subst hh
  refine chk_mk hW1 hW2 hh1 hh2 (Int.toNat_of_nonneg (area_bd hW1 hW2 hh1 hh2).1) fun i h0 hi => ?_
  rw [Int.toNat_of_nonneg (area_bd hW1 hW2 hh1 hh2).1] at hi
  unfold movQ
  split
  · rename_i hs
    have hp' : 0 < W := by
      rcases Int.lt_or_le 0 W with h | h
      · exact h
      · have : W = 0 := by omega
        subst this; simp at hi; omega
    obtain ⟨j1, j2, -⟩ := idx_lt (Int.emod_nonneg i (show W ≠ 0 by omega)) (Int.emod_lt_of_pos i hp') hs.1 hs.2
    rw [Int.mul_comm H W] at j2
    exact hp _ j1 (by omega)
  · omega

/-- how many full rows an image has when it is straightened by k; -1 if it cannot be -/
def fsN (W H : Int) (n : Nat) (p : Int → Int) (k : Int) : Int :=
  if movE W H n p k (-1) = 0 then fullS W (H - grt W k) (W * (H - grt W k)).toNat (movQ W H p k (-1)) else -1
def fsStep (f : Int → Int) (s : Int × Int) (k : Int) : Int × Int := if s.2 < f k then (k, f k) else s
def fsL (f : Int → Int) (l : List Int) : Int × Int := l.foldl (fsStep f) (0, -1)
theorem fsL_snoc (f : Int → Int) (l : List Int) (k : Int) : fsL f (l ++ [k]) = fsStep f (fsL f l) k := by simp [fsL]
def findS (W H : Int) (n : Nat) (p : Int → Int) : Int := (fsL (fsN W H n p) [0, 1, -1, 2, -2, 3, -3]).1
theorem fsL_bd {f : Int → Int} (hf : ∀ k, -1 ≤ f k ∧ f k ≤ 640) (l : List Int) : -1 ≤ (fsL f l).2 ∧ (fsL f l).2 ≤ 640 := by
  unfold fsL
  suffices ∀ s : Int × Int, (-1 ≤ s.2 ∧ s.2 ≤ 640) → -1 ≤ (l.foldl (fsStep f) s).2 ∧ (l.foldl (fsStep f) s).2 ≤ 640 from this _ (by simp)
  induction l with
  | nil => exact fun s h => h
  | cons k l ih =>
    intro s h
    refine ih _ ?_
    unfold fsStep
    split
    · exact hf k
    · exact h
theorem fsN_bd (W H : Int) (n : Nat) (p : Int → Int) (k : Int) : -1 ≤ fsN W H n p k ∧ fsN W H n p k ≤ 640 := by
  unfold fsN
  split
  · rename_i hE
    obtain ⟨hc, hk1, hk2, hh1, hh2⟩ := movE_ok hE
    have := fullP_bd W (W * (H - grt W k)).toNat (H - grt W k).toNat (movQ W H p k (-1))
    unfold fullS
    omega
  · omega

theorem ownFrom_of_below {β : Type} {B : Nat} {I : β → World → Prop} (hI : ∀ s W W', I s W → Below B W W' → I s W') (hsz : ∀ s W, I s W → B ≤ W.heap.size) : OwnFrom B I :=
  fun s W W' row hs hg hr => hI s W W' hs ((Below.refl B W).grown hg (hsz s W hs) fun k e => (hr k e).1)

end Go.Proofs.Ytoonkpjddfiopaa

/- Walk: FindSkew. -/
namespace Go.Proofs.Ytoonkpjddfiopaa
open Go.RowKit Go.Shelf
set_option linter.unusedVariables false
attribute [local go_sem] Oper.semAt_some

structure FsR (w : World) (V1 V2 V3 : Value) (f : Int → Int) (B5 : Nat) (pre : List Int) (W : World) : Prop where
  bl : Below w.heap.size w W
  k1 : Blk W w.heap.size 29 #[V1, V2, V3]
  k5 : Blk W B5 3 #[.int .i64 (fsL f pre).1]
  k6 : Blk W (B5 + 1) 3 #[.int .i64 (fsL f pre).2]

set_option maxRecDepth 100000 in
set_option maxHeartbeats 2000000 in
theorem findSkew_ok (W H : Int) (A : Option Addr) (n c : Nat) (p : Int → Int) (w : World) (hA : ArrB w w.heap.size A n p) (hn : n ≤ maxLen) (hB : IsB p) (hE : chk W H n p = 0) :
    Calls Try.prog 20 #[.agg #[.int .i64 W, .int .i64 H, .slice A n c]] w
      fun e w' => e = .returned (.tuple #[.int .i64 (findS W H n p), .int .i64 0]) ∧ Below w.heap.size w w' := by
  refine (callsIn_wide (n := 5)).1 ?_
  refine callsIn_of_wp_marks Try.func20 rfl trivial ?_ rfl
  simp only [Try.ntmps20, List.size_toArray, List.length_cons, List.length_nil, Nat.reduceAdd, Nat.reduceSub, Array.replicate_succ, Array.replicate_zero, List.push_toArray, List.append_toArray, List.nil_append, List.cons_append]
  have HC := Lib.hid hE; clear hE
  gi_wp2_with fail
  refine ⟨trivial, ?_⟩
  refine (callsIn_wide.2 (check_any W H A n c p _ (hA.to (by (repeat (first | exact Below.refl _ _ | assumption | refine Below.drew ?_ | refine below_drewN ?_ _ | refine Below.alloc ?_ (by first | omega | (simp; done) | (simp; omega)) _ | refine Below.setCell ?_ (by first | omega | (simp; done) | (simp; omega)) _ | refine below_setRow ?_ (by first | omega | (simp; done) | (simp; omega)) _ )))) hn)).mono ?_
  rintro e w1 ⟨rfl, hb1⟩
  rw [HC.out]
  have k1 : Blk w1 w.heap.size 29 #[.int .i64 W, .int .i64 H, .slice A n c] := (Blk.new _ _ _).below' hb1
  have z1 : w.heap.size < w1.heap.size := by have := hb1.size; simp at this; omega
  have b1 : Below w.heap.size w w1 := below_call (by (repeat (first | exact Below.refl _ _ | assumption | refine Below.drew ?_ | refine below_drewN ?_ _ | refine Below.alloc ?_ (by first | omega | (simp; done) | (simp; omega)) _ | refine Below.setCell ?_ (by first | omega | (simp; done) | (simp; omega)) _ | refine below_setRow ?_ (by first | omega | (simp; done) | (simp; omega)) _ ))) (by simp; try omega) hb1
  clear hb1
  gi_wp2_with fail
  refine ⟨trivial, ?_⟩
  refine (callsIn_wide.2 (skews_any _)).mono ?_
  rintro e w2 ⟨rfl, rfl⟩
  gi_wp2_with fail
  have m0 : FsR w (.int .i64 W) (.int .i64 H) (.slice A n c) (fsN W H n p) w1.heap.size [] ((w1.alloc (.cells #[.int .i64 0] 3)).alloc (.cells #[.int .i64 (-1)] 3)) :=
    ⟨by (repeat (first | exact Below.refl _ _ | assumption | refine Below.drew ?_ | refine below_drewN ?_ _ | refine Below.alloc ?_ (by first | omega | (simp; done) | (simp; omega)) _ | refine Below.setCell ?_ (by first | omega | (simp; done) | (simp; omega)) _ | refine below_setRow ?_ (by first | omega | (simp; done) | (simp; omega)) _ )), (k1.alloc _).alloc _, (Blk.new _ _ _).alloc _, Blk.new' (by simp) _ _⟩
  have z2 : w1.heap.size + 2 ≤ ((w1.alloc (.cells #[.int .i64 0] 3)).alloc (.cells #[.int .i64 (-1)] 3)).heap.size := by simp
  generalize (w1.alloc (.cells #[.int .i64 0] 3)).alloc (.cells #[.int .i64 (-1)] 3) = w2 at *
  clear k1 b1
  refine wpIn_rangeFunc_ownF (F := Fence.wide) (n := 5) rfl (by omega) (gf := 43) (lb := #[]) rfl trivial (enters_of Try.func43 (by kernel_rfl) rfl) (skews_stops Fence.wide 4 trivial rfl (by omega) w2)
    (fun _ _ => trivial) (fun _ _ _ _ _ _ _ _ => trivial) (Below.refl _ _) (fun _ => rfl)
    (fun pre W' => FsR w (.int .i64 W) (.int .i64 H) (.slice A n c) (fsN W H n p) w1.heap.size pre W' ∧ w2.heap.size ≤ W'.heap.size) (fun _ _ _ => False)
    (ownFrom_of_below (fun s X Y hs hXY => ⟨⟨hs.1.bl.trans (hXY.mono (by omega)), hs.1.k1.below hXY (by omega), hs.1.k5.below hXY (by omega), hs.1.k6.below hXY (by omega)⟩, Nat.le_trans hs.2 hXY.size⟩) (fun s X hs => hs.2))
    (fun _ _ _ _ _ hs _ _ => hs) ⟨m0, Nat.le_refl _⟩
    (fun x => { tmps := #[.agg #[.int .i64 W, .int .i64 H, .slice A n c], .pointer (some ⟨w.heap.size, 0, none⟩), .int .i64 0, .int .i64 0, .int .i64 0, .pointer (some ⟨w1.heap.size, 0, none⟩), .pointer (some ⟨w1.heap.size + 1, 0, none⟩), .int .i64 x, undef, undef, undef, undef,
      .agg #[.int .i64 W, .int .i64 H, .slice A n c], .int .i64 0, .int .i64 0, .bool false, undef, .func (.func 43) #[] #[], .int .i64 x, undef, undef, undef, undef, undef, undef, undef, undef, undef, undef, undef, undef, undef, undef, undef, undef, undef, undef, undef], defers := [] }) ?assign ?body ?done ?stop
  case assign =>
    intro l x W' K hK
    gi_wp2
    exact hK
  case body =>
    rintro l pre x W' ⟨m, hz⟩ _
    obtain ⟨p1, p2, p3⟩ := m.k1.cells3
    have hA' : ArrB W' W'.heap.size A n p := (ArrB.below hA m.bl).more m.bl.size
    have SN := Lib.hid (fsL_snoc (fsN W H n p) pre x)
    by_cases hM : movE W H n p x (-1) = 0
    · obtain ⟨hc, hk1, hk2, hh1, hh2⟩ := movE_ok hM
      obtain ⟨h, hh⟩ : ∃ h, h = H - grt W x := ⟨_, rfl⟩
      have hN : Hid (fsN W H n p x = fullS W h (W * h).toNat (movQ W H p x (-1))) := by show _ = _; unfold fsN; rw [if_pos hM, hh]
      have hC2 := chk_mov hM (by rw [hh]; omega : h = H + -1 * grt W x)
      have US := Lib.hid (unskew_ok W H h A n c p x W' hA' hn hB hM hh)
      clear hc hh1 hh2 hh hM
      gi_wp2_with fail
      refine ⟨trivial, ?_⟩
      refine (CallsIn.inRound l (callsIn_wide.2 US.out)).mono ?_
      rintro e w3 ⟨_, rfl, ⟨_, rfl, ⟨g, rfl, hg, kg⟩⟩, hb3⟩
      clear US p1 p2 p3
      have hb3' := Lib.hid hb3
      have m3 : FsR w (.int .i64 W) (.int .i64 H) (.slice A n c) (fsN W H n p) w1.heap.size pre w3 := ⟨below_call m.bl m.bl.size hb3, m.k1.below' hb3, m.k5.below' hb3, m.k6.below' hb3⟩
      have z3 : W'.heap.size ≤ w3.heap.size := hb3.size
      clear hb3
      generalize hq : movQ W H p x (-1) = q at *
      have hqB : IsB q := by rw [← hq]; exact isB_mov hB
      have ha3 : ArrB (w3.alloc (.cells #[.int .i64 W, .int .i64 h, .slice (some ⟨g, 0, none⟩) (W * h).toNat (W * h).toNat] 29)) (w3.alloc (.cells #[.int .i64 W, .int .i64 h, .slice (some ⟨g, 0, none⟩) (W * h).toNat (W * h).toNat] 29)).heap.size (some ⟨g, 0, none⟩) (W * h).toNat q :=
        Blk.arrB (kg.alloc _) (by have := kg.lt; simp; omega)
      have FA := Lib.hid (full_ok W h _ _ (W * h).toNat q _ ha3 (by have := (area_bd (chk_ok hC2).1 (chk_ok hC2).2.1 (chk_ok hC2).2.2.1 (chk_ok hC2).2.2.2.1).2; unfold maxLen; omega) hqB hC2)
      clear hC2 hq
      obtain ⟨v, hv⟩ : ∃ v, v = fullS W h (W * h).toNat q := ⟨_, rfl⟩
      rw [← hv] at FA hN
      clear hv ha3
      gi_wp2_with fail
      refine ⟨trivial, ?_⟩
      refine (CallsIn.inRound l (callsIn_wide.2 FA.out)).mono ?_
      rintro e w4 ⟨rfl, hb4⟩
      clear FA
      have hb4' : Hid (Below w3.heap.size w3 w4) := by show Below _ _ _; exact ((Below.refl _ _).alloc (Nat.le_refl _) _).trans (hb4.mono (by simp))
      have m4 : FsR w (.int .i64 W) (.int .i64 H) (.slice A n c) (fsN W H n p) w1.heap.size pre w4 := ⟨below_call m3.bl m3.bl.size hb4'.out, m3.k1.below' hb4'.out, m3.k5.below' hb4'.out, m3.k6.below' hb4'.out⟩
      have z4 : w3.heap.size ≤ w4.heap.size := hb4'.out.size
      clear hb4
      have c6 := m4.k6.cells1
      have c5 := m4.k5.cells1
      have f6 := m4.k6.frozen 0
      have f5 := m4.k5.frozen 0
      have HW : Hid (Below W'.heap.size W' w4) := by show Below _ _ _; exact hb3'.out.trans (hb4'.out.mono z3)
      obtain ⟨o, mo⟩ : ∃ o : Int × Int, o = fsL (fsN W H n p) pre := ⟨_, rfl⟩
      rw [← mo] at c5 c6 SN
      have MO := Lib.hid mo; clear mo
      obtain ⟨oo, om⟩ := o
      dsimp only at c5 c6
      by_cases hlt : om < v
      · gi_wp2
        refine ⟨(keeps_of_below HW.out).trans ((KeepsOthers.setCell _ _ _).trans (KeepsOthers.setCell _ _ _)), trivial, ⟨?_, ?_, ?_, ?_⟩, by simp; omega⟩
        · have := m4.bl; (repeat (first | exact Below.refl _ _ | assumption | refine Below.drew ?_ | refine below_drewN ?_ _ | refine Below.alloc ?_ (by first | omega | (simp; done) | (simp; omega)) _ | refine Below.setCell ?_ (by first | omega | (simp; done) | (simp; omega)) _ | refine below_setRow ?_ (by first | omega | (simp; done) | (simp; omega)) _ ))
        · exact (m4.k1.far (by simp; omega) _).far (by simp; omega) _
        · rw [SN.out]
          have := (m4.k5.set_ 0 (.int .i64 x)).far (p := ⟨w1.heap.size + 1, 0, none⟩) (by simp) (.int .i64 v)
          simpa [fsStep, hN.out, hlt] using this
        · rw [SN.out]
          have := (m4.k6.far (p := ⟨w1.heap.size, 0, none⟩) (by simp) (.int .i64 x)).set_ 0 (.int .i64 v)
          simpa [fsStep, hN.out, hlt] using this
      · gi_wp2
        refine ⟨keeps_of_below HW.out, trivial, ⟨m4.bl, m4.k1, ?_, ?_⟩, by omega⟩
        · rw [SN.out]
          have e : fsStep (fsN W H n p) (oo, om) x = (oo, om) := by unfold fsStep; rw [hN.out, if_neg (by show ¬ om < v; omega)]
          rw [e, MO.out]; exact m4.k5
        · rw [SN.out]
          have e : fsStep (fsN W H n p) (oo, om) x = (oo, om) := by unfold fsStep; rw [hN.out, if_neg (by show ¬ om < v; omega)]
          rw [e, MO.out]; exact m4.k6
    · have hN : Hid (fsN W H n p x = -1) := by show _ = _; unfold fsN; rw [if_neg hM]
      have FB := Lib.hid (fsL_bd (fsN_bd W H n p) pre)
      have US := fun z hz => Lib.hid (unskew_bad W H A n c p x z W' hA' hn hz)
      have US := US _ rfl
      generalize movE W H n p x (-1) = z at *
      gi_wp2_with fail
      refine ⟨trivial, ?_⟩
      refine (CallsIn.inRound l (callsIn_wide.2 (US.out hM))).mono ?_
      rintro e w3 ⟨rfl, hb3⟩
      clear US p1 p2 p3
      unfold noImg
      have hb3' := Lib.hid hb3
      have m3 : FsR w (.int .i64 W) (.int .i64 H) (.slice A n c) (fsN W H n p) w1.heap.size pre w3 := ⟨below_call m.bl m.bl.size hb3, m.k1.below' hb3, m.k5.below' hb3, m.k6.below' hb3⟩
      have z3 : W'.heap.size ≤ w3.heap.size := hb3.size
      clear hb3
      gi_wp2
      refine ⟨(keeps_of_below hb3'.out).trans (KeepsOthers.alloc _ _), trivial, ⟨?_, m3.k1.alloc _, ?_, ?_⟩, by simp; omega⟩
      · have := m3.bl; (repeat (first | exact Below.refl _ _ | assumption | refine Below.drew ?_ | refine below_drewN ?_ _ | refine Below.alloc ?_ (by first | omega | (simp; done) | (simp; omega)) _ | refine Below.setCell ?_ (by first | omega | (simp; done) | (simp; omega)) _ | refine below_setRow ?_ (by first | omega | (simp; done) | (simp; omega)) _ ))
      · rw [SN.out]
        have h1 : fsStep (fsN W H n p) (fsL (fsN W H n p) pre) x = fsL (fsN W H n p) pre := by unfold fsStep; rw [hN.out, if_neg (by have := FB.out; omega)]
        rw [h1]; exact m3.k5.alloc _
      · rw [SN.out]
        have h1 : fsStep (fsN W H n p) (fsL (fsN W H n p) pre) x = fsL (fsN W H n p) pre := by unfold fsStep; rw [hN.out, if_neg (by have := FB.out; omega)]
        rw [h1]; exact m3.k6.alloc _
  case done =>
    rintro D xs W' hD rfl ⟨m, hz⟩ hK
    have c5 := m.k5.cells1
    gi_wp2
    refine ⟨by simp, .inl ⟨_, _, rfl, run_takeDeferred hK, ?_⟩⟩
    exact ⟨_, results_tmp2 rfl _ _ _, rfl, m.bl.trans (belowK_b (w := w) (Nat.le_refl _) W' D _ _ (by omega) hK rfl rfl)⟩
  case stop =>
    rintro D c pre W' _ _ h _
    exact h.elim
end Go.Proofs.Ytoonkpjddfiopaa

/- Walks: two lists of bytes, two images compared. -/
namespace Go.Proofs.Ytoonkpjddfiopaa
open Go.RowKit
set_option linter.unusedVariables false

def sameB (n m : Nat) (p q : Int → Int) : Bool := decide (n = m) && allN n fun i => decide (p i = q i)
theorem sameB_iff {n m : Nat} {p q : Int → Int} : sameB n m p q = true ↔ n = m ∧ ∀ i : Int, 0 ≤ i → i < n → p i = q i := by
  unfold sameB; rw [Bool.and_eq_true, decide_eq_true_iff, allN_iff]; simp

set_option maxHeartbeats 400000 in
theorem sameBytes_any (A B : Option Addr) (n m c d : Nat) (p q : Int → Int) (w : World) (hA : ArrB w w.heap.size A n p) (hB : ArrB w w.heap.size B m q) (hn : n ≤ maxLen) (hm : m ≤ maxLen) :
    Calls Try.prog 31 #[.slice A n c, .slice B m d] w fun e w' => e = .returned (.bool (sameB n m p q)) ∧ ∃ k, w' = w.drewN k := by
  unfold maxLen at hn hm
  by_cases hnm : n = m
  · subst hnm
    go_enter Try.func31, Try.ntmps31
    go_wp2
    go_loopw [5] (fun s wr => ∃ i : Int, 0 ≤ i ∧ i ≤ n ∧ s = .int .i64 i ∧ (∀ j : Int, 0 ≤ j → j < i → p j = q j) ∧ ∃ k, wr = w.drewN k) (fun s _ => n - (intOf s).toNat)
    case atStart => exact ⟨0, by omega, by omega, rfl, fun j a b => by omega, 0, rfl⟩
    case round =>
      obtain ⟨i, h0, hi, rfl, hall, k, rfl⟩ := hrel
      have HA := Lib.hid hall; clear hall
      by_cases hlt : i < n
      · obtain ⟨b, off, rfl, hb, hc⟩ := hA.at_ h0 hlt
        obtain ⟨b', off', rfl, hb', hc'⟩ := hB.at_ h0 hlt
        by_cases he : p i = q i
        · have hbool : (p i != q i) = false := by simp [he]
          have HE := Lib.hid he; clear he
          go_wp2_with fail
          go_quiet (fail)
          go_wp2
          go_roundw
          case rel =>
            refine ⟨i + 1, by omega, by omega, by go_num, fun j a b => ?_, _, rfl⟩
            by_cases e : j = i
            · rw [e]; exact HE.out
            · exact HA.out j a (by omega)
          case measure => simp [intOf]; omega
        · have hbool : (p i != q i) = true := by simp [he]
          have HE := Lib.hid he; clear he
          have hr : Hid (sameB n n p q = false) := by
            show _ = _
            rw [Bool.eq_false_iff]; intro h; exact HE.out ((sameB_iff.1 h).2 i h0 hlt)
          go_wp2_with fail
          go_quiet (fail)
          go_wp2
          go_ret
          exact ⟨ret_bool hr.out.symm, _, World.drewN_drewN _ _ _⟩
      · have hr : Hid (sameB n n p q = true) := by
          show _ = _
          exact sameB_iff.2 ⟨rfl, fun j a b => HA.out j a (by omega)⟩
        go_wp2
        go_ret
        exact ⟨ret_bool hr.out.symm, _, rfl⟩
  · have hr : Hid (sameB n m p q = false) := by
      show _ = _
      rw [Bool.eq_false_iff]; intro h; exact hnm (sameB_iff.1 h).1
    go_enter Try.func31, Try.ntmps31
    go_wp2
    all_goals
      go_ret
      exact ⟨ret_bool hr.out.symm, 0, rfl⟩

theorem drewN_below {w : World} (k : Nat) : Below w.heap.size w (w.drewN k) := below_drewN (Below.refl _ _) k

set_option maxHeartbeats 1000000 in
theorem sameInk_any (W H W' H' : Int) (A B : Option Addr) (n m c d : Nat) (p q : Int → Int) (w : World) (hA : ArrB w w.heap.size A n p) (hB : ArrB w w.heap.size B m q) (hn : n ≤ maxLen) (hm : m ≤ maxLen) :
    Calls Try.prog 11 #[.agg #[.int .i64 W, .int .i64 H, .slice A n c], .agg #[.int .i64 W', .int .i64 H', .slice B m d]] w
      fun e w' => e = .returned (.bool (decide (W = W') && decide (H = H') && sameB n m p q)) ∧ Below w.heap.size w w' := by
  have SA := Lib.hid fun w1 h1 h2 => sameBytes_any A B n m c d p q w1 h1 h2 hn hm
  by_cases hW : W = W'
  · subst hW
    by_cases hH : H = H'
    · subst hH
      have hr : Hid ((decide (W = W) && decide (H = H) && sameB n m p q) = sameB n m p q) := by show _ = _; simp
      rw [hr.out]
      go_enter Try.func11, Try.ntmps11
      go_wp2_with fail
      refine (SA.out _ (hA.to (by (repeat (first | exact Below.refl _ _ | assumption | refine Below.drew ?_ | refine below_drewN ?_ _ | refine Below.alloc ?_ (by first | omega | (simp; done) | (simp; omega)) _ | refine Below.setCell ?_ (by first | omega | (simp; done) | (simp; omega)) _ | refine below_setRow ?_ (by first | omega | (simp; done) | (simp; omega)) _ )))) (hB.to (by (repeat (first | exact Below.refl _ _ | assumption | refine Below.drew ?_ | refine below_drewN ?_ _ | refine Below.alloc ?_ (by first | omega | (simp; done) | (simp; omega)) _ | refine Below.setCell ?_ (by first | omega | (simp; done) | (simp; omega)) _ | refine below_setRow ?_ (by first | omega | (simp; done) | (simp; omega)) _ ))))).mono ?_
      rintro e w' ⟨rfl, k, rfl⟩
      generalize hb : sameB n m p q = b
      have HBB := Lib.hid hb; clear hb
      cases b <;> (go_wp2; go_ret; exact ⟨ret_bool HBB.out.symm, by (repeat (first | exact Below.refl _ _ | assumption | refine Below.drew ?_ | refine below_drewN ?_ _ | refine Below.alloc ?_ (by first | omega | (simp; done) | (simp; omega)) _ | refine Below.setCell ?_ (by first | omega | (simp; done) | (simp; omega)) _ | refine below_setRow ?_ (by first | omega | (simp; done) | (simp; omega)) _ ))⟩)
    · have hb : (H == H') = false := by simp [hH]
      have hr : Hid ((decide (W = W) && decide (H = H') && sameB n m p q) = false) := by show _ = _; simp [hH]
      rw [hr.out]
      have HH := Lib.hid hH; clear hH
      go_enter Try.func11, Try.ntmps11
      go_wp2
      go_ret
      exact ⟨rfl, by (repeat (first | exact Below.refl _ _ | assumption | refine Below.drew ?_ | refine below_drewN ?_ _ | refine Below.alloc ?_ (by first | omega | (simp; done) | (simp; omega)) _ | refine Below.setCell ?_ (by first | omega | (simp; done) | (simp; omega)) _ | refine below_setRow ?_ (by first | omega | (simp; done) | (simp; omega)) _ ))⟩
  · have hb : (W == W') = false := by simp [hW]
    have hr : Hid ((decide (W = W') && decide (H = H') && sameB n m p q) = false) := by show _ = _; simp [hW]
    rw [hr.out]
    have HW := Lib.hid hW; clear hW
    go_enter Try.func11, Try.ntmps11
    go_wp2
    go_ret
    exact ⟨rfl, by (repeat (first | exact Below.refl _ _ | assumption | refine Below.drew ?_ | refine below_drewN ?_ _ | refine Below.alloc ?_ (by first | omega | (simp; done) | (simp; omega)) _ | refine Below.setCell ?_ (by first | omega | (simp; done) | (simp; omega)) _ | refine below_setRow ?_ (by first | omega | (simp; done) | (simp; omega)) _ ))⟩

theorem sameInk_true (W H : Int) (A B : Option Addr) (n c d : Nat) (p q : Int → Int) (w : World) (hA : ArrB w w.heap.size A n p) (hB : ArrB w w.heap.size B n q) (hn : n ≤ maxLen) (he : ∀ i : Int, 0 ≤ i → i < n → p i = q i) :
    Calls Try.prog 11 #[.agg #[.int .i64 W, .int .i64 H, .slice A n c], .agg #[.int .i64 W, .int .i64 H, .slice B n d]] w
      fun e w' => e = .returned (.bool true) ∧ Below w.heap.size w w' :=
  (sameInk_any W H W H A B n n c d p q w hA hB hn hn).mono fun e w' ⟨h, hb⟩ => ⟨by rw [h, sameB_iff.2 ⟨rfl, he⟩]; simp, hb⟩
end Go.Proofs.Ytoonkpjddfiopaa

/- Walks: a line of ink; the examples of the chapter. -/
namespace Go.Proofs.Ytoonkpjddfiopaa
open Go.RowKit
set_option linter.unusedVariables false

set_option maxHeartbeats 400000 in
theorem line_any (W : Int) (N : Nat) (hW : (N : Int) = W) (hN : N ≤ 640) (w : World) :
    Calls Try.prog 19 #[.int .i64 W] w (New w fun v w' => OutN w w' W 1 N (fun _ => 1) v) := by
  have hmk := makeB W (by omega) (by omega)
  have e : W.toNat = N := by omega
  rw [e] at hmk
  have HW := Lib.hid hW
  clear hW e
  go_enter Try.func19, Try.ntmps19
  go_wp2
  go_loopw [12] (fun s wr => ∃ i : Nat, i ≤ N ∧ s = .int .i64 i ∧ Below w.heap.size w wr ∧ Blk wr w.heap.size 29 #[.int .i64 0, .int .i64 0, .slice none 0 0] ∧
     Blk wr (w.heap.size + 2) 29 #[.int .i64 W, .int .i64 1, .slice (some ⟨w.heap.size + 1, 0, none⟩) N N] ∧ Blk wr (w.heap.size + 1) 5 (u8s N (fun j => if j < i then 1 else 0))) (fun s _ => N - (intOf s).toNat)
  case atStart =>
    refine ⟨0, by omega, rfl, by (repeat (first | exact Below.refl _ _ | assumption | refine Below.drew ?_ | refine below_drewN ?_ _ | refine Below.alloc ?_ (by first | omega | (simp; done) | (simp; omega)) _ | refine Below.setCell ?_ (by first | omega | (simp; done) | (simp; omega)) _ | refine below_setRow ?_ (by first | omega | (simp; done) | (simp; omega)) _ )), ?_, ?_, ?_⟩
    · exact ((Blk.new _ _ _).alloc _).alloc _
    · exact Blk.new' (by simp) _ _
    · exact ((Blk.new' (by simp) _ _).alloc _).u8conv fun j h _ => by rw [if_neg (by omega)]
  case round =>
    obtain ⟨i, hi, rfl, b1, k0, k2, kg⟩ := hrel
    obtain ⟨p1, p2, p3⟩ := k2.cells3
    by_cases hlt : i < N
    · have hr := kg.u8at (i := (i : Int)) (by omega) (by omega)
      have hf := kg.frozen i
      rw [Int.toNat_natCast] at hr
      have KS := kg.u8set (i : Int) (by omega) 1
      rw [Int.toNat_natCast] at KS
      have KS := Lib.hid KS
      go_wp2
      go_roundw
      case rel =>
        refine ⟨i + 1, by omega, by go_num, by (repeat (first | exact Below.refl _ _ | assumption | refine Below.drew ?_ | refine below_drewN ?_ _ | refine Below.alloc ?_ (by first | omega | (simp; done) | (simp; omega)) _ | refine Below.setCell ?_ (by first | omega | (simp; done) | (simp; omega)) _ | refine below_setRow ?_ (by first | omega | (simp; done) | (simp; omega)) _ )), k0.far (by simp) _, k2.far (by simp) _, KS.out.u8conv fun j _ _ => ?_⟩
        show (if j = i then (1 : Int) else if j < i then 1 else 0) = _
        by_cases e : j = i
        · rw [if_pos e, if_pos (by omega)]
        · rw [if_neg e]
          by_cases e' : j < i
          · rw [if_pos e', if_pos (by omega)]
          · rw [if_neg e', if_neg (by omega)]
      case measure => simp [intOf]; omega
    · obtain rfl : i = N := by omega
      obtain ⟨r1, r2, r3⟩ := k0.cells3
      obtain ⟨f1, f2, f3⟩ := k0.frozen3
      go_wp2
      refine bodyPost_ret (v := .agg #[.int .i64 W, .int .i64 1, .slice (some ⟨w.heap.size + 1, 0, none⟩) i i]) (by simp [results, Try.results19, go_sem, r1, r2, r3]) rfl ?_
      exact ⟨_, rfl, OutN.mk (by omega) ((((kg.u8conv fun j _ h => by rw [if_pos h]).far (by simp) _).far (by simp) _).far (by simp) _), by (repeat (first | exact Below.refl _ _ | assumption | refine Below.drew ?_ | refine below_drewN ?_ _ | refine Below.alloc ?_ (by first | omega | (simp; done) | (simp; omega)) _ | refine Below.setCell ?_ (by first | omega | (simp; done) | (simp; omega)) _ | refine below_setRow ?_ (by first | omega | (simp; done) | (simp; omega)) _ ))⟩

def gA : Int → Int := movQ 129 1 (fun _ => 1) (-1) 1
theorem awA1 : movE 129 1 129 (fun _ => 1) (-1) 1 = 0 := by decide +kernel
theorem awA2 : (3 : Int) = 1 + grt 129 (-1) := by decide +kernel
theorem awA3 : findS 129 3 387 gA = -1 := by decide +kernel
theorem awA4 : chk 129 3 387 gA = 0 := by decide +kernel
theorem awB1 : movE 64 1 64 (fun _ => 1) 1 1 = 0 := by decide +kernel
theorem awB2 : (1 : Int) = 1 + grt 64 1 := by decide +kernel
theorem awB3 : allN 64 (fun i => decide (movQ 64 1 (fun _ => 1) 1 1 i = 1)) = true := by decide +kernel
theorem awL1 : levelS 4 (lit [10, 20, 200, 210]) = 110 := by decide +kernel
theorem awL2 : levelS 3 (lit [200, 0, 100]) = 50 := by decide +kernel
theorem awS1 : sidesB 4 1 (4 : Nat) = true := by decide
theorem awS2 : sidesB 3 1 (3 : Nat) = true := by decide

theorem cells_a : #[Value.int .u8 10, .int .u8 20, .int .u8 200, .int .u8 210] = u8s 4 (lit [10, 20, 200, 210]) := u8s_lit (l := [10, 20, 200, 210])
theorem cells_b : #[Value.int .u8 200, .int .u8 0, .int .u8 100] = u8s 3 (lit [200, 0, 100]) := u8s_lit (l := [200, 0, 100])
theorem isB_1 : IsB (fun _ => 1) := fun _ => by simp
theorem Blk.to {w : World} {g : Nat} {t : TypeId} {cs cs' : Array Value} (h : Blk w g t cs) (e : cs = cs') : Blk w g t cs' := e ▸ h

set_option maxRecDepth 100000 in
set_option maxHeartbeats 2000000 in
theorem awake_any (w : World) : Calls Try.prog 5 #[] w fun e w' => e = .returned (.bool true) ∧ Below w.heap.size w w' := by
  go_enter Try.func5, Try.ntmps5
  go_wp2_with fail
  refine (level_ok 4 1 (some ⟨w.heap.size, 0, none⟩) 4 4 (lit [10, 20, 200, 210]) _ (Blk.arrB ((Blk.new _ _ _).to cells_a) (by simp)) (by decide) (isB_lit (by decide)) awS1).mono ?_
  rintro e w1 ⟨rfl, hb1⟩
  rw [awL1]
  have b1 : Below w.heap.size w w1 := below_call (by (repeat (first | exact Below.refl _ _ | assumption | refine Below.drew ?_ | refine below_drewN ?_ _ | refine Below.alloc ?_ (by first | omega | (simp; done) | (simp; omega)) _ | refine Below.setCell ?_ (by first | omega | (simp; done) | (simp; omega)) _ | refine below_setRow ?_ (by first | omega | (simp; done) | (simp; omega)) _ ))) (by simp) hb1
  have z1 := b1.size
  clear hb1
  go_wp2_with fail
  refine (level_ok 3 1 (some ⟨w1.heap.size, 0, none⟩) 3 3 (lit [200, 0, 100]) _ (Blk.arrB ((Blk.new _ _ _).to cells_b) (by simp)) (by decide) (isB_lit (by decide)) awS2).mono ?_
  rintro e w2 ⟨rfl, hb2⟩
  rw [awL2]
  have b2 : Below w.heap.size w w2 := below_call (by (repeat (first | exact Below.refl _ _ | assumption | refine Below.drew ?_ | refine below_drewN ?_ _ | refine Below.alloc ?_ (by first | omega | (simp; done) | (simp; omega)) _ | refine Below.setCell ?_ (by first | omega | (simp; done) | (simp; omega)) _ | refine below_setRow ?_ (by first | omega | (simp; done) | (simp; omega)) _ ))) (by simp; omega) hb2
  have z2 := b2.size
  clear hb2 b1 z1
  go_wp2_with fail
  refine (line_any 129 129 rfl (by omega) _).mono ?_
  rintro e w3 ⟨_, rfl, ⟨g3, rfl, hg3, kg3⟩, hb3⟩
  have b3 : Below w.heap.size w w3 := below_call b2 z2 hb3
  have z3 := b3.size
  clear hb3 b2
  go_wp2_with fail
  refine (skew_ok 129 1 3 (some ⟨g3, 0, none⟩) 129 129 (fun _ => 1) (-1) _ (kg3.arrB kg3.lt) (by decide) isB_1 awA1 awA2).mono ?_
  rintro e w4 ⟨_, rfl, ⟨_, rfl, ⟨g4, rfl, hg4, kg4⟩⟩, hb4⟩
  have b4 : Below w.heap.size w w4 := below_call b3 z3 hb4
  have z4 := b4.size
  clear hb4 b3
  have e387 : ((129 : Int) * 3).toNat = 387 := rfl
  rw [e387] at kg4
  simp only [e387]
  have z4' := kg4.lt
  go_wp2_with fail
  refine (findSkew_ok 129 3 (some ⟨g4, 0, none⟩) 387 387 gA _ (Blk.arrB (kg4.alloc _) (by simp; omega)) (by decide) (isB_mov isB_1) awA4).mono ?_
  rintro e w5 ⟨rfl, hb5⟩
  rw [awA3]
  have k5 := (Blk.new _ _ _).below' hb5
  have b5 : Below w.heap.size w w5 := below_call (by (repeat (first | exact Below.refl _ _ | assumption | refine Below.drew ?_ | refine below_drewN ?_ _ | refine Below.alloc ?_ (by first | omega | (simp; done) | (simp; omega)) _ | refine Below.setCell ?_ (by first | omega | (simp; done) | (simp; omega)) _ | refine below_setRow ?_ (by first | omega | (simp; done) | (simp; omega)) _ ))) (by simp; omega) hb5
  have z5 : w4.heap.size < w5.heap.size := by have := hb5.size; simp at this; omega
  clear hb5 b4
  go_wp2_with fail
  refine (line_any 64 64 rfl (by omega) _).mono ?_
  rintro e w6 ⟨_, rfl, ⟨g6, rfl, hg6, kg6⟩, hb6⟩
  have k6 := k5.below' hb6
  have b6 : Below w.heap.size w w6 := below_call b5 (by omega) hb6
  have z6 := hb6.size
  clear hb6 b5 k5
  go_wp2_with fail
  refine (skew_ok 64 1 1 (some ⟨g6, 0, none⟩) 64 64 (fun _ => 1) 1 _ (kg6.arrB kg6.lt) (by decide) isB_1 awB1 awB2).mono ?_
  rintro e w7 ⟨_, rfl, ⟨_, rfl, ⟨g7, rfl, hg7, kg7⟩⟩, hb7⟩
  have k7 := k6.below' hb7
  have b7 : Below w.heap.size w w7 := below_call b6 (by omega) hb7
  have z7 := hb7.size
  clear hb7 b6 k6
  have e64 : ((64 : Int) * 1).toNat = 64 := rfl
  rw [e64] at kg7
  simp only [e64]
  have z7' := kg7.lt
  go_wp2_with fail
  have k8 := k7.alloc (.cells #[.int .i64 64, .int .i64 1, .slice (some ⟨g7, 0, none⟩) 64 64] 29)
  have n8 := Blk.new w7 29 #[.int .i64 64, .int .i64 1, .slice (some ⟨g7, 0, none⟩) 64 64]
  have kg8 := kg7.alloc (.cells #[.int .i64 64, .int .i64 1, .slice (some ⟨g7, 0, none⟩) 64 64] 29)
  have b8 : Below w.heap.size w (w7.alloc (.cells #[.int .i64 64, .int .i64 1, .slice (some ⟨g7, 0, none⟩) 64 64] 29)) := by (repeat (first | exact Below.refl _ _ | assumption | refine Below.drew ?_ | refine below_drewN ?_ _ | refine Below.alloc ?_ (by first | omega | (simp; done) | (simp; omega)) _ | refine Below.setCell ?_ (by first | omega | (simp; done) | (simp; omega)) _ | refine below_setRow ?_ (by first | omega | (simp; done) | (simp; omega)) _ ))
  have z8 : w7.heap.size < (w7.alloc (.cells #[.int .i64 64, .int .i64 1, .slice (some ⟨g7, 0, none⟩) 64 64] 29)).heap.size := by simp
  clear b7 k7 kg7
  generalize w7.alloc (.cells #[.int .i64 64, .int .i64 1, .slice (some ⟨g7, 0, none⟩) 64 64] 29) = w8 at *
  have K8 := Lib.hid k8; have N8 := Lib.hid n8; have G8 := Lib.hid kg8; have B8 := Lib.hid b8
  obtain ⟨a1, a2, a3⟩ := k8.cells3
  obtain ⟨d1, d2, d3⟩ := n8.cells3
  clear k8 n8 kg8 b8 kg3 kg4 kg6
  go_region_held3 (fun w' => w'.cell? ⟨w4.heap.size, 1, none⟩ = some (.int .i64 3) ∧ w'.cell? ⟨w7.heap.size, 0, none⟩ = some (.int .i64 64) ∧ w'.cell? ⟨w7.heap.size, 1, none⟩ = some (.int .i64 1) ∧ w'.cell? ⟨w7.heap.size, 2, none⟩ = some (.slice (some ⟨g7, 0, none⟩) 64 64))
    (simp [*])
    (first
      | (go_at_call 19; refine (line_any 64 64 rfl (by omega) _).mono ?_; rintro e w9 ⟨_, rfl, ⟨g9, rfl, hg9, kg9⟩, hb9⟩
         have k9 := K8.out.drew.below' hb9; have n9 := N8.out.drew.below' hb9; have kg9' := G8.out.drew.below' hb9; have b9 := B8.out.drew.trans (hb9.mono (B8.out.size))
         obtain ⟨x1, x2, x3⟩ := k9.cells3; obtain ⟨y1, y2, y3⟩ := n9.cells3)
      | (go_at_call 11; refine (sameInk_true 64 1 _ _ 64 64 64 _ _ _ (kg9'.arrB kg9'.lt) (kg9.arrB kg9.lt) (by decide) (fun i h0 hi => by simpa using allN_iff.1 awB3 i h0 hi)).mono ?_; rintro e w10 ⟨rfl, hb10⟩
         have k10 := k9.below' hb10; have n10 := n9.below' hb10; have b10 := b9.trans (hb10.mono b9.size)
         obtain ⟨x1, x2, x3⟩ := k10.cells3; obtain ⟨y1, y2, y3⟩ := n10.cells3))
  go_wp2
  go_ret
  exact ⟨rfl, by (repeat (first | exact Below.refl _ _ | assumption | refine Below.drew ?_ | refine below_drewN ?_ _ | refine Below.alloc ?_ (by first | omega | (simp; done) | (simp; omega)) _ | refine Below.setCell ?_ (by first | omega | (simp; done) | (simp; omega)) _ | refine below_setRow ?_ (by first | omega | (simp; done) | (simp; omega)) _ ))⟩
end Go.Proofs.Ytoonkpjddfiopaa

/- More plain lemmas on memory: rows that the call owns. No program in sight. -/
namespace Go.Proofs.Ytoonkpjddfiopaa
open Go.RowKit
set_option linter.unusedVariables false
theorem own_ge {w : World} {base : Nat} {e : TypeId} {size n k : Nat} {v : Value} {xs : List Value} (h : w.ownsRow base e size v n xs) (hk : v.ownBlock = some k) : base ≤ k ∧ k < w.heap.size := by
  rcases h.2 with ⟨rfl, _⟩ | ⟨g, cap, cur, rfl, hb, hh, _⟩
  · simp [Value.ownBlock] at hk
  · simp [Value.ownBlock] at hk
    subst hk
    exact ⟨hb, (Array.getElem?_eq_some_iff.1 hh).1⟩
theorem own_ne {w : World} {base : Nat} {e : TypeId} {size n g : Nat} {v : Value} {xs : List Value} (h : w.ownsRow base e size v n xs) (hg : g < base) : some g ≠ v.ownBlock := fun e => by
  have := (own_ge h e.symm).1; omega
theorem own_below {w w' : World} {base n : Nat} {e : TypeId} {v : Value} {xs : List Value} (h : w.ownsRow base e 1 v n xs) (hb : Below w.heap.size w w') : w'.ownsRow base e 1 v n xs := by
  refine ⟨h.1, ?_⟩
  rcases h.2 with h2 | ⟨g, cap, cur, hv, hg, hh, r⟩
  · exact .inl h2
  · exact .inr ⟨g, cap, cur, hv, hg, (hb.block g (Array.getElem?_eq_some_iff.1 hh).1).trans hh, r⟩
/-- an owned row of one-cell elements, read as a list -/
theorem own_arr {w : World} {base n : Nat} {e : TypeId} {v : Value} {xs : List Value} (h : w.ownsRow base e 1 v n xs) : ∃ A c, v = .slice A n c ∧ n ≤ c ∧ Arr w w.heap.size A n (fun i => xs.getD i.toNat default) := by
  rcases h.2 with ⟨rfl, rfl⟩ | ⟨g, cap, cur, rfl, hb, hh, hc, _, hs, ht⟩
  · exact ⟨none, 0, rfl, Nat.le_refl _, Arr.nil⟩
  · refine ⟨_, _, rfl, hc, fun _ => ⟨g, 0, rfl, (Array.getElem?_eq_some_iff.1 hh).1, fun i h0 hi => ?_⟩⟩
    rw [Nat.zero_add, cell_of_row w g _ cur e (0, 0) hh]
    have hl : xs.length = n := by rw [h.1]; omega
    have hi' : i.toNat < xs.length := by omega
    show cur[i.toNat]? = some (xs.getD i.toNat default)
    rw [List.getD_eq_getElem?_getD, List.getElem?_eq_getElem hi']
    have : xs[i.toNat]? = cur.toList[i.toNat]? := by
      rw [← ht, List.getElem?_take]
      simp; omega
    rw [List.getElem?_eq_getElem hi'] at this
    simpa using this.symm
end Go.Proofs.Ytoonkpjddfiopaa

/- Walk: Ruled: images of full rows. -/
namespace Go.Proofs.Ytoonkpjddfiopaa
open Go.RowKit
set_option linter.unusedVariables false

/-- the place of row number i -/
def ruY (r : Int → Int) : Nat → Int
  | 0 => r 0 % 6
  | i + 1 => ruY r i + (3 + r (i + 1) % 4)
/-- the places of the first m rows -/
def ruL (r : Int → Int) (m : Nat) : List Int := (List.range m).map (ruY r)
theorem ruL_snoc (r : Int → Int) (m : Nat) : ruL r (m + 1) = ruL r m ++ [ruY r m] := by simp [ruL, List.range_succ]
theorem ruY_bd {r : Int → Int} (hr : IsB r) (i : Nat) : 0 ≤ ruY r i ∧ ruY r i ≤ 5 + 6 * i := by
  induction i with
  | zero => have := hr 0; simp only [ruY]; omega
  | succ i ih => have := hr (i + 1); simp only [ruY]; omega
/-- y behind m rows -/
def ruE (r : Int → Int) : Nat → Int
  | 0 => 0
  | m + 1 => ruY r m

def ruM (r : Int → Int) (m : Nat) : List Int := if m = 0 then [2] else ruL r m
def ruYe (r : Int → Int) (m : Nat) : Int := if m = 0 then 2 else ruE r m
theorem ruL_len (r : Int → Int) (m : Nat) : (ruL r m).length = m := by simp [ruL]
theorem ruYe_bd {r : Int → Int} (hr : IsB r) {m : Nat} (hm : m ≤ 12) : 0 ≤ ruYe r m ∧ ruYe r m ≤ 77 := by
  unfold ruYe
  split
  · omega
  · obtain ⟨j, rfl⟩ : ∃ j, m = j + 1 := ⟨m - 1, by omega⟩
    have := ruY_bd hr j
    simp only [ruE]; omega
theorem ruY_mono {r : Int → Int} (hr : IsB r) {i j : Nat} (h : i ≤ j) : ruY r i ≤ ruY r j := by
  induction j with
  | zero => have : i = 0 := by omega
            subst this; exact Int.le_refl _
  | succ j ih =>
    by_cases e : i = j + 1
    · subst e; exact Int.le_refl _
    · have := ih (by omega)
      have := hr ((j + 1 : Nat) : Int)
      simp only [ruY]
      simp only [Int.natCast_add, Int.natCast_one] at this
      omega
theorem ruM_bd {r : Int → Int} (hr : IsB r) {m : Nat} (y : Int) (h : y ∈ ruM r m) : 0 ≤ y ∧ y ≤ ruYe r m := by
  unfold ruM ruYe at *
  split at h
  · rename_i e; rw [if_pos e]; simp at h; omega
  · rename_i e
    rw [if_neg e]
    obtain ⟨i, hi, rfl⟩ := List.mem_map.1 h
    have hi := List.mem_range.1 hi
    obtain ⟨j, rfl⟩ : ∃ j, m = j + 1 := ⟨m - 1, by omega⟩
    exact ⟨(ruY_bd hr i).1, ruY_mono hr (by omega)⟩
theorem getD_lit {l : List Int} {i : Int} (h0 : 0 ≤ i) (hi : i < l.length) : (l.map (Value.int .i64)).getD i.toNat default = .int .i64 (lit l i) := by
  unfold lit
  simp only [List.getD_eq_getElem?_getD, List.getElem?_map]
  rw [List.getElem?_eq_getElem (by omega)]
  simp

/-- the pixels of an image whose full rows are L -/
def ruQ (W : Int) (L : List Int) : Int → Int := fun k => if k / W ∈ L then 1 else 0
def ruP (W : Int) (L : List Int) (t : Nat) (x : Int) : Int → Int := fun k => if k / W ∈ L.take t ∨ (L[t]? = some (k / W) ∧ k % W < x) then 1 else 0
theorem ruP_start {W : Int} (L : List Int) {k : Int} (h0 : 0 ≤ k) (hW : 0 < W) : ruP W L 0 0 k = 0 := by
  have := Int.emod_nonneg k (show W ≠ 0 by omega)
  unfold ruP; rw [if_neg]; simp; intro _; omega
theorem ruP_end (W : Int) (L : List Int) (k : Int) : ruP W L L.length 0 k = ruQ W L k := by
  unfold ruP ruQ; simp
theorem ruP_row {W : Int} {L : List Int} {t : Nat} (ht : t < L.length) {k : Int} (hW : 0 < W) : ruP W L t W k = ruP W L (t + 1) 0 k := by
  unfold ruP
  have h1 := Int.emod_lt_of_pos k hW
  have h2 := Int.emod_nonneg k (show W ≠ 0 by omega)
  rw [List.take_add_one]
  by_cases h : L[t]? = some (k / W)
  · rw [if_pos (.inr ⟨h, h1⟩), if_pos (.inl (by rw [h]; simp))]
  · have e1 : (k / W ∈ L.take t ∨ L[t]? = some (k / W) ∧ k % W < W) ↔ k / W ∈ L.take t := ⟨fun x => x.elim id fun y => absurd y.1 h, .inl⟩
    have e2 : (k / W ∈ L.take t ++ L[t]?.toList ∨ L[t + 1]? = some (k / W) ∧ k % W < 0) ↔ k / W ∈ L.take t := by
      constructor
      · rintro (x | x)
        · rcases List.mem_append.1 x with x | x
          · exact x
          · exfalso; apply h
            cases hh : L[t]? with
            | none => rw [hh] at x; simp at x
            | some v => rw [hh] at x; simp at x; rw [x]
        · omega
      · exact fun x => .inl (List.mem_append.2 (.inl x))
    simp only [e1, e2]
theorem ruP_set {W : Int} {L : List Int} {t : Nat} (ht : t < L.length) {x k : Int} (hx0 : 0 ≤ x) (hx : x < W) :
    upd (ruP W L t x) (lit L t * W + x) 1 k = ruP W L t (x + 1) k := by
  have hL : L[t]? = some (lit L t) := by unfold lit; simp [List.getElem?_eq_getElem ht]
  unfold upd
  by_cases e : k = lit L t * W + x
  · rw [if_pos e]
    unfold ruP
    rw [e, idx_div hx0 hx, idx_mod hx0 hx, if_pos (.inr ⟨hL, by omega⟩)]
  · rw [if_neg e]
    unfold ruP
    have hne : ¬ (lit L t = k / W ∧ k % W = x) := by
      rintro ⟨h1, h2⟩
      have := Int.emod_add_mul_ediv k W
      rw [h2, ← h1, Int.mul_comm] at this
      omega
    rw [hL]
    by_cases c1 : k / W ∈ L.take t
    · rw [if_pos (.inl c1), if_pos (.inl c1)]
    · by_cases c2 : some (lit L t) = some (k / W) ∧ k % W < x
      · rw [if_pos (.inr c2), if_pos (.inr ⟨c2.1, by omega⟩)]
      · rw [if_neg (fun h => h.elim c1 c2), if_neg]
        rintro (h | ⟨h1, h2⟩)
        · exact c1 h
        · have h1' : lit L t = k / W := by simpa using h1
          by_cases h3 : k % W = x
          · exact hne ⟨h1', h3⟩
          · exact c2 ⟨h1, by omega⟩

set_option maxRecDepth 100000 in
set_option maxHeartbeats 2000000 in
theorem ruled_any (wide : Int) (A : Option Addr) (n c : Nat) (r : Int → Int) (w : World) (hA : ArrB w w.heap.size A n r) (hn : n ≤ maxLen) (hnc : n ≤ c) (hr : IsB r) (hw : 0 ≤ wide ∧ wide ≤ 255) :
    Calls Try.prog 14 #[.int .u8 wide, .slice A n c] w (New w fun v w' => OutImg w w' (65 + wide % 96) (ruYe r (min n 12) + 2 + wide % 6) (ruQ (65 + wide % 96) (ruM r (min n 12))) v) := by
  unfold maxLen at hn
  obtain ⟨hw1, hw2⟩ := hw
  obtain ⟨m, hm, hm12, hmn, hme⟩ : ∃ m : Nat, (m : Int) = min (n : Int) 12 ∧ m ≤ 12 ∧ m ≤ n ∧ min n 12 = m := ⟨min n 12, by omega, by omega, by omega, rfl⟩
  rw [hme]; clear hme
  have HM := Lib.hid hm; clear hm
  go_enter Try.func14, Try.ntmps14
  go_upto_region 4 with fail
  go_cut [22, 23, 24] (fun a b s wx => a = .slice A m c ∧ b = .int .i64 m ∧ s = .int .i64 0 ∧ wx = w.alloc (.cells #[.int .i64 0, .int .i64 0, .slice none 0 0] 29))
  case first =>
    by_cases h12 : (n : Int) < 12
    · obtain rfl : m = n := by have := HM.out; omega
      go_wp2_with fail
      go_meet
      exact ⟨rfl, rfl, rfl, rfl⟩
    · obtain rfl : m = 12 := by have := HM.out; omega
      go_wp2_with fail
      · go_meet
        exact ⟨rfl, rfl, rfl, rfl⟩
      · obtain rfl : n = 12 := by omega
        go_meet
        exact ⟨rfl, rfl, rfl, rfl⟩
  case rest =>
    obtain ⟨rfl, rfl, rfl, rfl⟩ := hcut
    have hA' : ArrB w w.heap.size A m r := fun h => by
      obtain ⟨b, off, e, hb, hc⟩ := hA (by omega)
      exact ⟨b, off, e, hb, fun i a b => hc i a (by omega)⟩
    clear hA
    obtain ⟨i0, hi0, hz0, hz1, hz2⟩ := info_parts infoInt
    go_wp2
    go_loopw [6, 7, 24] (fun v y s wr => ∃ i : Nat, i ≤ m ∧ s = .int .i64 i ∧ y = .int .i64 (ruE r i) ∧ wr.ownsRow (w.heap.size + 1) 3 1 v i ((ruL r i).map (Value.int .i64)) ∧
      Below w.heap.size w wr ∧ Blk wr w.heap.size 29 #[.int .i64 0, .int .i64 0, .slice none 0 0] ∧ w.heap.size + 1 ≤ wr.heap.size) (fun _ _ s _ => m - (intOf s).toNat)
    case atStart => exact ⟨0, by omega, rfl, rfl, World.ownsRow_nil _ _ _ _, by (repeat (first | exact Below.refl _ _ | assumption | refine Below.drew ?_ | refine below_drewN ?_ _ | refine Below.alloc ?_ (by first | omega | (simp; done) | (simp; omega)) _ | refine Below.setCell ?_ (by first | omega | (simp; done) | (simp; omega)) _ | refine below_setRow ?_ (by first | omega | (simp; done) | (simp; omega)) _ )), Blk.new _ _ _, by simp⟩
    case round =>
      obtain ⟨i, hi, rfl, rfl, hown, b1, k0, z1⟩ := hrel
      by_cases hlt : i < m
      · have hi0' : (0 : Int) ≤ i := by omega
        obtain ⟨b, off, rfl, hbB, hcell⟩ := ArrB.at_ (ArrB.below hA' b1) hi0' (by omega)
        rw [Int.toNat_natCast] at hcell
        obtain ⟨rb1, rb2⟩ := hr i
        have hlt' : (i : Int) < m := by omega
        have LS := Lib.hid (ruL_snoc r i)
        have EB : 0 ≤ ruE r i ∧ ruE r i ≤ 77 := by
          cases i with
          | zero => simp [ruE]
          | succ j => have := ruY_bd hr j; simp only [ruE]; omega
        obtain ⟨EB1, EB2⟩ := EB
        by_cases h0 : i = 0
        · have hb0 : ((i : Int) == 0) = true := by simp [h0]
          have RT : Hid (ruY r i = r i % 6) := by show _ = _; subst h0; rfl
          clear h0
          go_wp2_with (at_builtin; refine wpList_append_own _ rfl (.tmp 40) (.tmp 42) 53 rfl (w.heap.size + 1) 3 i0 (.int .i64 0) 1 8 Try.underlying53 hi0 hz0 hz1 hz2 rfl (by decide) _ _ _ rfl (hown.alloc _) ⟨wr.heap.size, 0, none⟩ 1 1 [.int .i64 (r i % 6)] rfl rfl ?c1 ?c2 ?c3 ?c4 ?c5 ?_)
          case c1 => exact cell_one_new _ _ _
          case c2 => simp [Value.oneCell']
          case c3 => unfold maxLen; omega
          case c4 => omega
          case c5 => simp; omega
          intro v' w1 hown' hg _
          have b2 : Below w.heap.size w w1 := (show Below w.heap.size w (wr.alloc (.cells #[.int .i64 (r i % 6)] 3)) by (repeat (first | exact Below.refl _ _ | assumption | refine Below.drew ?_ | refine below_drewN ?_ _ | refine Below.alloc ?_ (by first | omega | (simp; done) | (simp; omega)) _ | refine Below.setCell ?_ (by first | omega | (simp; done) | (simp; omega)) _ | refine below_setRow ?_ (by first | omega | (simp; done) | (simp; omega)) _ ))).grown hg (by simp; omega) (fun k hk => by have := (own_ge hown hk).1; omega)
          have k2 := (k0.alloc (.cells #[.int .i64 (r i % 6)] 3)).grown hg (own_ne hown (by omega))
          have z2 := Nat.le_trans (show w.heap.size + 1 ≤ (wr.alloc (.cells #[.int .i64 (r i % 6)] 3)).heap.size by simp; omega) hg.size
          clear b1 k0 hown hg z1
          go_wp2
          go_roundw
          case rel =>
            refine ⟨i + 1, by omega, by go_num, ?_, ?_, b2, k2, z2⟩
            · rw [ruE, RT.out]
            · rw [LS.out, RT.out, List.map_append]; exact hown'
          case measure => simp [intOf]; omega
        · have hb0 : ((i : Int) == 0) = false := by simp; exact h0
          have RT : Hid (ruY r i = ruE r i + (3 + r i % 4)) := by
            show _ = _
            obtain ⟨j, rfl⟩ : ∃ j, i = j + 1 := ⟨i - 1, by omega⟩
            rfl
          clear h0
          go_wp2_with (at_builtin; refine wpList_append_own _ rfl (.tmp 40) (.tmp 42) 53 rfl (w.heap.size + 1) 3 i0 (.int .i64 0) 1 8 Try.underlying53 hi0 hz0 hz1 hz2 rfl (by decide) _ _ _ rfl (hown.alloc _) ⟨wr.heap.size, 0, none⟩ 1 1 [.int .i64 (ruE r i + (3 + r i % 4))] rfl rfl ?c1 ?c2 ?c3 ?c4 ?c5 ?_)
          case c1 => exact cell_one_new _ _ _
          case c2 => simp [Value.oneCell']
          case c3 => unfold maxLen; omega
          case c4 => omega
          case c5 => simp; omega
          intro v' w1 hown' hg _
          have b2 : Below w.heap.size w w1 := (show Below w.heap.size w (wr.alloc (.cells #[.int .i64 (ruE r i + (3 + r i % 4))] 3)) by (repeat (first | exact Below.refl _ _ | assumption | refine Below.drew ?_ | refine below_drewN ?_ _ | refine Below.alloc ?_ (by first | omega | (simp; done) | (simp; omega)) _ | refine Below.setCell ?_ (by first | omega | (simp; done) | (simp; omega)) _ | refine below_setRow ?_ (by first | omega | (simp; done) | (simp; omega)) _ ))).grown hg (by simp; omega) (fun k hk => by have := (own_ge hown hk).1; omega)
          have k2 := (k0.alloc (.cells #[.int .i64 (ruE r i + (3 + r i % 4))] 3)).grown hg (own_ne hown (by omega))
          have z2 := Nat.le_trans (show w.heap.size + 1 ≤ (wr.alloc (.cells #[.int .i64 (ruE r i + (3 + r i % 4))] 3)).heap.size by simp; omega) hg.size
          clear b1 k0 hown hg z1
          go_wp2
          go_roundw
          case rel =>
            refine ⟨i + 1, by omega, by go_num, ?_, ?_, b2, k2, z2⟩
            · rw [ruE, RT.out]
            · rw [LS.out, RT.out, List.map_append]; exact hown'
          case measure => simp [intOf]; omega
      · obtain rfl : i = m := by omega
        obtain ⟨A', c', rfl, hc', harr⟩ := own_arr hown
        have hI : ArrI wr wr.heap.size A' i (lit (ruL r i)) := harr.congr fun j h0 hj => getD_lit h0 (by rw [ruL_len]; exact hj)
        clear hown harr
        go_upto_if 47 with fail
        go_cut [6, 7] (fun v y wx => ∃ A' c', v = .slice A' (ruM r i).length c' ∧ ArrI wx wx.heap.size A' (ruM r i).length (lit (ruM r i)) ∧ y = .int .i64 (ruYe r i) ∧ Below w.heap.size w wx ∧
          Blk wx w.heap.size 29 #[.int .i64 0, .int .i64 0, .slice none 0 0] ∧ w.heap.size + 1 ≤ wx.heap.size)
        case first =>
          by_cases h0 : i = 0
          · have hb0 : ((i : Int) == 0) = true := by simp [h0]
            have R1 : Hid (ruM r i = [2]) := by show _ = _; unfold ruM; rw [if_pos h0]
            have R2 : Hid (ruYe r i = 2) := by show _ = _; unfold ruYe; rw [if_pos h0]
            clear h0
            go_wp2_with fail
            go_meet
            refine ⟨some ⟨wr.heap.size, 0, none⟩, 1, by rw [R1.out]; rfl, ?_, by rw [R2.out], by (repeat (first | exact Below.refl _ _ | assumption | refine Below.drew ?_ | refine below_drewN ?_ _ | refine Below.alloc ?_ (by first | omega | (simp; done) | (simp; omega)) _ | refine Below.setCell ?_ (by first | omega | (simp; done) | (simp; omega)) _ | refine below_setRow ?_ (by first | omega | (simp; done) | (simp; omega)) _ )), k0.alloc _, by simp; omega⟩
            rw [R1.out]
            have : Blk (wr.alloc (.cells #[.int .i64 2] 3)) wr.heap.size 3 (i64s 1 (lit [2])) := by
              have h := Blk.new wr 3 #[.int .i64 2]
              rwa [show #[Value.int .i64 2] = i64s 1 (lit [2]) from i64s_lit (l := [2])] at h
            exact this.arrI (by simp)
          · have hb0 : ((i : Int) == 0) = false := by simp; exact h0
            have R1 : Hid (ruM r i = ruL r i) := by show _ = _; unfold ruM; rw [if_neg h0]
            have R2 : Hid (ruYe r i = ruE r i) := by show _ = _; unfold ruYe; rw [if_neg h0]
            clear h0
            go_wp2_with fail
            go_meet
            exact ⟨A', c', by rw [R1.out, ruL_len], by rw [R1.out, ruL_len]; exact hI, by rw [R2.out], b1, k0, z1⟩
        case rest =>
          obtain ⟨A'', c'', rfl, hI', rfl, b2, k2, z2⟩ := hcut
          clear hI k0 b1 z1 hA' hi0 hz0 hz1 hz2 hmn hi hlt hnc hn
          obtain ⟨yb1, yb2⟩ := ruYe_bd hr hm12
          have AB := area_bd (W := 65 + wide % 96) (H := ruYe r i + 2 + wide % 6) (by omega) (by omega) (by omega) (by omega)
          obtain ⟨ab1, ab2⟩ := AB
          have hmk := makeB ((65 + wide % 96) * (ruYe r i + 2 + wide % 6)) ab1 (by omega)
          have YB := Lib.hid (fun y h => ruM_bd hr (m := i) y h)
          have hLmax : (ruM r i).length ≤ 12 := by unfold ruM; split <;> simp [ruL]; omega
          generalize hYe : ruYe r i = ye at *
          generalize hLe : ruM r i = L at *
          have HYE := Lib.hid hYe; have HLE := Lib.hid hLe; clear hYe hLe
          go_wp2
          generalize hWg : 65 + wide % 96 = W at *
          generalize hHg : ye + 2 + wide % 6 = H at *
          have hW0 : 0 < W := by omega
          have hW1 : W ≤ 160 := by omega
          have hH0 : 0 ≤ H := by omega
          have hH1 : H ≤ 84 := by omega
          have hYH : ye < H := by omega
          have hN : ((W * H).toNat : Int) = W * H := Int.toNat_of_nonneg ab1
          generalize hNe : (W * H).toNat = N at *
          have HN := Lib.hid hN; have HNE := Lib.hid hNe; have HWG := Lib.hid hWg; have HHG := Lib.hid hHg
          clear hN hNe hWg hHg hmk
          have m0 : Below w.heap.size w ((wc.alloc (.cells (u8s N (fun _ => 0)) 5)).alloc (.cells #[.int .i64 W, .int .i64 H, .slice (some ⟨wc.heap.size, 0, none⟩) N N] 29)) := by (repeat (first | exact Below.refl _ _ | assumption | refine Below.drew ?_ | refine below_drewN ?_ _ | refine Below.alloc ?_ (by first | omega | (simp; done) | (simp; omega)) _ | refine Below.setCell ?_ (by first | omega | (simp; done) | (simp; omega)) _ | refine below_setRow ?_ (by first | omega | (simp; done) | (simp; omega)) _ ))
          have m1 := (k2.alloc (.cells (u8s N (fun _ => 0)) 5)).alloc (.cells #[.int .i64 W, .int .i64 H, .slice (some ⟨wc.heap.size, 0, none⟩) N N] 29)
          have m2 := (Blk.new wc 5 (u8s N (fun _ => 0))).alloc (.cells #[.int .i64 W, .int .i64 H, .slice (some ⟨wc.heap.size, 0, none⟩) N N] 29)
          have m3 := Blk.new' (w := wc.alloc (.cells (u8s N (fun _ => 0)) 5)) (World.size_alloc _ _) 29 #[.int .i64 W, .int .i64 H, .slice (some ⟨wc.heap.size, 0, none⟩) N N]
          have hI2 : ArrI ((wc.alloc (.cells (u8s N (fun _ => 0)) 5)).alloc (.cells #[.int .i64 W, .int .i64 H, .slice (some ⟨wc.heap.size, 0, none⟩) N N] 29)) wc.heap.size A'' L.length (lit L) :=
            ArrI.below hI' (by (repeat (first | exact Below.refl _ _ | assumption | refine Below.drew ?_ | refine below_drewN ?_ _ | refine Below.alloc ?_ (by first | omega | (simp; done) | (simp; omega)) _ | refine Below.setCell ?_ (by first | omega | (simp; done) | (simp; omega)) _ | refine below_setRow ?_ (by first | omega | (simp; done) | (simp; omega)) _ )))
          generalize (wc.alloc (.cells (u8s N (fun _ => 0)) 5)).alloc (.cells #[.int .i64 W, .int .i64 H, .slice (some ⟨wc.heap.size, 0, none⟩) N N] 29) = w0 at *
          have m2 := m2.u8conv (r := ruP W L 0 0) fun j h0 _ => (ruP_start L h0 hW0).symm
          clear hI' b2 k2
          go_loopw [68] (fun s wr => ∃ t : Nat, t ≤ L.length ∧ s = .int .i64 t ∧ Below w.heap.size w wr ∧ Blk wr w.heap.size 29 #[.int .i64 0, .int .i64 0, .slice none 0 0] ∧ Blk wr wc.heap.size 5 (u8s N (ruP W L t 0)) ∧
             Blk wr (wc.heap.size + 1) 29 #[.int .i64 W, .int .i64 H, .slice (some ⟨wc.heap.size, 0, none⟩) N N] ∧ Below wc.heap.size w0 wr) (fun s _ => L.length - (intOf s).toNat)
          case atStart => exact ⟨0, by omega, rfl, m0, m1, m2, m3, Below.refl _ _⟩
          case round =>
            obtain ⟨t, ht, rfl, b1, k0, kg, k3, b3⟩ := hrel
            clear m0 m1 m2 m3
            obtain ⟨wo, rfl⟩ : ∃ wo : World, wo = wr := ⟨_, rfl⟩
            by_cases hlt : t < L.length
            · have hlt' : (t : Int) < L.length := by omega
              obtain ⟨b, off, rfl, hbB, hcell⟩ := ArrI.at_ (ArrI.below hI2 b3) (i := (t : Int)) (by omega) hlt'
              rw [Int.toNat_natCast] at hcell
              obtain ⟨y1, y2⟩ := YB.out (lit L t) (by unfold lit; simp [List.getElem?_eq_getElem hlt])
              have SET := Lib.hid (fun x k h0 h1 => ruP_set (W := W) (L := L) (t := t) hlt (x := x) (k := k) h0 h1)
              have ROW := Lib.hid (fun k => ruP_row (W := W) (L := L) (t := t) hlt (k := k) hW0)
              generalize lit L t = at_ at *
              go_wp2
              go_loopw [73] (fun s wr => ∃ x : Int, 0 ≤ x ∧ x ≤ W ∧ s = .int .i64 x ∧ Below w.heap.size w wr ∧ Blk wr w.heap.size 29 #[.int .i64 0, .int .i64 0, .slice none 0 0] ∧ Blk wr wc.heap.size 5 (u8s N (ruP W L t x)) ∧
                 Blk wr (wc.heap.size + 1) 29 #[.int .i64 W, .int .i64 H, .slice (some ⟨wc.heap.size, 0, none⟩) N N] ∧ Below wc.heap.size w0 wr) (fun s _ => (W - intOf s).toNat)
              case atStart => exact ⟨0, by omega, by omega, rfl, b1, k0, kg, k3, b3⟩
              case round =>
                obtain ⟨x, hx0, hx, rfl, c1, l0, lg, l3, c3⟩ := hrel
                clear b1 k0 kg k3 b3 hcell
                by_cases hxW : x < W
                · obtain ⟨i1, i2, i3⟩ := idx_lt (y := at_) (H := H) hx0 hxW y1 (by omega)
                  rw [Int.mul_comm H W] at i2
                  have i4 : at_ * W + x < (N : Int) := by have := HN.out; omega
                  obtain ⟨p1, p2, p3⟩ := l3.cells3
                  have ho := lg.u8at i1 i4
                  have hf := lg.frozen (at_ * W + x).toNat
                  have US := Lib.hid (lg.u8set _ i1 1)
                  go_wp2
                  go_roundw
                  case rel => exact ⟨x + 1, by omega, by omega, by go_num, by (repeat (first | exact Below.refl _ _ | assumption | refine Below.drew ?_ | refine below_drewN ?_ _ | refine Below.alloc ?_ (by first | omega | (simp; done) | (simp; omega)) _ | refine Below.setCell ?_ (by first | omega | (simp; done) | (simp; omega)) _ | refine below_setRow ?_ (by first | omega | (simp; done) | (simp; omega)) _ )), l0.far (by simp; omega) _, US.out.u8conv fun k _ _ => SET.out x k hx0 hxW, l3.far (by simp) _, by (repeat (first | exact Below.refl _ _ | assumption | refine Below.drew ?_ | refine below_drewN ?_ _ | refine Below.alloc ?_ (by first | omega | (simp; done) | (simp; omega)) _ | refine Below.setCell ?_ (by first | omega | (simp; done) | (simp; omega)) _ | refine below_setRow ?_ (by first | omega | (simp; done) | (simp; omega)) _ ))⟩
                  case measure => simp [intOf]; omega
                · obtain rfl : x = W := by omega
                  go_wp2
                  go_roundw
                  case rel => exact ⟨t + 1, by omega, by go_num, c1, l0, lg.u8conv fun k _ _ => ROW.out k, l3, c3⟩
                  case measure => simp [intOf]; omega
            · obtain rfl : t = L.length := by omega
              obtain ⟨p1, p2, p3⟩ := k3.cells3
              obtain ⟨r1, r2, r3⟩ := k0.cells3
              obtain ⟨f1, f2, f3⟩ := k0.frozen3
              go_wp2
              refine bodyPost_ret (v := .agg #[.int .i64 W, .int .i64 H, .slice (some ⟨wc.heap.size, 0, none⟩) N N]) (by simp [results, Try.results14, go_sem, r1, r2, r3]) rfl ?_
              refine ⟨_, rfl, ?_, by (repeat (first | exact Below.refl _ _ | assumption | refine Below.drew ?_ | refine below_drewN ?_ _ | refine Below.alloc ?_ (by first | omega | (simp; done) | (simp; omega)) _ | refine Below.setCell ?_ (by first | omega | (simp; done) | (simp; omega)) _ | refine below_setRow ?_ (by first | omega | (simp; done) | (simp; omega)) _ ))⟩
              rw [HYE.out, HLE.out, HWG.out, HHG.out, ← HNE.out]
              refine OutImg.mk (by omega) ?_
              rw [HNE.out]
              exact (((kg.u8conv fun k _ _ => ruP_end W L k).far (by simp; omega) _).far (by simp; omega) _).far (by simp; omega) _
end Go.Proofs.Ytoonkpjddfiopaa

/- Walk: CleanStraight. -/
namespace Go.Proofs.Ytoonkpjddfiopaa
open Go.RowKit
set_option linter.unusedVariables false

/-! ### the best skew, in plain numbers -/
def absI (x : Int) : Int := if x < 0 then -x else x
def L7 : List Int := [0, 1, -1, 2, -2, 3, -3]
theorem fsL_spec (f : Int → Int) (l : List Int) : (∀ k ∈ l, f k ≤ (fsL f l).2) ∧ -1 ≤ (fsL f l).2 ∧
    ((fsL f l).2 = -1 ∨ ∃ pre post, l = pre ++ (fsL f l).1 :: post ∧ f (fsL f l).1 = (fsL f l).2 ∧ ∀ k ∈ pre, f k < (fsL f l).2) := by
  suffices H : ∀ r : List Int, (∀ k ∈ r.reverse, f k ≤ (fsL f r.reverse).2) ∧ -1 ≤ (fsL f r.reverse).2 ∧
      ((fsL f r.reverse).2 = -1 ∨ ∃ pre post, r.reverse = pre ++ (fsL f r.reverse).1 :: post ∧ f (fsL f r.reverse).1 = (fsL f r.reverse).2 ∧ ∀ k ∈ pre, f k < (fsL f r.reverse).2) by
    have := H l.reverse
    rwa [List.reverse_reverse] at this
  intro r
  induction r with
  | nil => simp [fsL]
  | cons x r ih =>
    rw [List.reverse_cons, fsL_snoc]
    generalize r.reverse = s at *
    obtain ⟨h1, h2, h3⟩ := ih
    generalize fsL f s = q at *
    unfold fsStep
    by_cases hx : q.2 < f x
    · rw [if_pos hx]
      refine ⟨fun k hk => ?_, by simp only; omega, .inr ⟨s, [], rfl, rfl, fun k hk => by have := h1 k hk; simp only; omega⟩⟩
      simp only
      rcases List.mem_append.1 hk with hk | hk
      · have := h1 k hk; omega
      · have : k = x := by simpa using hk
        subst this; exact Int.le_refl _
    · rw [if_neg hx]
      refine ⟨fun k hk => ?_, h2, ?_⟩
      · rcases List.mem_append.1 hk with hk | hk
        · exact h1 k hk
        · have : k = x := by simpa using hk
          subst this; omega
      · rcases h3 with h3 | ⟨pre, post, e, e2, e3⟩
        · exact .inl h3
        · exact .inr ⟨pre, post ++ [x], by rw [e]; simp, e2, e3⟩
theorem L7_order {pre post : List Int} {b k : Int} (h : L7 = pre ++ b :: post) (hk : k ∈ L7) (hp : k ∉ pre) : absI b < absI k ∨ absI b = absI k ∧ k ≤ b := by
  have hlen : pre.length + (post.length + 1) = 7 := by
    have := congrArg List.length h
    simpa [L7] using this.symm
  have hb : L7[pre.length]? = some b := by rw [h]; simp
  have hpre : pre = L7.take pre.length := by rw [h]; simp
  rw [hpre] at hp
  generalize pre.length = j at *
  have hj : j < 7 := by omega
  clear h hpre hlen
  unfold L7 at *
  match j, hj with
  | 0, _ | 1, _ | 2, _ | 3, _ | 4, _ | 5, _ | 6, _ => simp at hb hk hp; subst hb; unfold absI; rcases hk with rfl | rfl | rfl | rfl | rfl | rfl | rfl <;> simp_all
theorem best_ok {f : Int → Int} (h0 : -1 < f 0) (hf : ∀ k, -1 ≤ f k) : f (fsL f L7).1 = (fsL f L7).2 ∧ (fsL f L7).1 ∈ L7 ∧ -1 < (fsL f L7).2 ∧
    ∀ k ∈ L7, f k ≤ (fsL f L7).2 ∧ (f k = (fsL f L7).2 → absI (fsL f L7).1 < absI k ∨ absI (fsL f L7).1 = absI k ∧ k ≤ (fsL f L7).1) := by
  obtain ⟨h1, h2, h3⟩ := fsL_spec f L7
  have h4 : f 0 ≤ (fsL f L7).2 := h1 0 (by simp [L7])
  rcases h3 with h3 | ⟨pre, post, e, e2, e3⟩
  · omega
  · have hmem : ∀ b, L7 = pre ++ b :: post → b ∈ L7 := fun b h => by rw [h]; simp
    refine ⟨e2, hmem _ e, by omega, fun k hk => ⟨h1 k hk, fun he => L7_order e hk fun hp => ?_⟩⟩
    have := e3 k hp
    omega
theorem mem_L7 {k : Int} : k ∈ L7 ↔ -3 ≤ k ∧ k ≤ 3 := by
  unfold L7; simp; omega

theorem xor1_0 : bits .xor .u8 0 1 = 1 := by decide
theorem xor1_1 : bits .xor .u8 1 1 = 0 := by decide
def ArrU (w : World) (B : Nat) (A : Option Addr) (n : Nat) (q : Int → Int) : Prop := Arr w B A n fun j => .int .u16 (q j)
theorem ruQ_01 (W : Int) (L : List Int) (i : Int) : ruQ W L i = 0 ∨ ruQ W L i = 1 := by unfold ruQ; split <;> simp

theorem movE_mk {W H : Int} {n : Nat} {p : Int → Int} {k way : Int} (hc : chk W H n p = 0) (h1 : -3 ≤ k) (h2 : k ≤ 3) (h3 : 0 ≤ H + way * grt W k) (h4 : H + way * grt W k ≤ 640) : movE W H n p k way = 0 := by
  unfold movE
  rw [if_neg (by omega), if_neg (by omega), if_neg (by omega)]
theorem isB_01 {q : Int → Int} (h : ∀ i, q i = 0 ∨ q i = 1) : IsB q := fun i => by rcases h i with e | e <;> rw [e] <;> omega
theorem grt_0 (W : Int) : grt W 0 = 0 := by unfold grt; simp
theorem fsN_ok {W H : Int} {n : Nat} {p : Int → Int} {k : Int} : -1 < fsN W H n p k ↔ movE W H n p k (-1) = 0 := by
  unfold fsN
  by_cases h : movE W H n p k (-1) = 0
  · rw [if_pos h]
    have := fullP_bd W (W * (H - grt W k)).toNat (H - grt W k).toNat (movQ W H p k (-1))
    unfold fullS
    simp only [h, iff_true]; omega
  · rw [if_neg h]; simp [h]
structure CsR (w : World) (W H : Int) (N g B9 : Nat) (q : Int → Int) (wr : World) : Prop where
  bl : Below w.heap.size w wr
  k9 : Blk wr B9 29 #[.int .i64 W, .int .i64 H, .slice (some ⟨g, 0, none⟩) N N]
  kg : Blk wr g 5 (u8s N q)
  hq : ∀ i, q i = 0 ∨ q i = 1

end Go.Proofs.Ytoonkpjddfiopaa

/- Plain laws: full rows counted by sums and by pixels; moved images of pixels. No program in sight. -/
namespace Go.Proofs.Ytoonkpjddfiopaa
open Go.RowKit
set_option linter.unusedVariables false

/-- the row y of the pixels is full -/
def rowB (W : Nat) (p : Int → Int) (b : Int) : Bool := allN W fun x => decide (p (b + x) = 1)
theorem sumN_one {n : Nat} {f : Int → Int} (h : ∀ i : Int, 0 ≤ i → i < n → f i = 0 ∨ f i = 1) : sumN n f ≤ n ∧ 0 ≤ sumN n f ∧ (sumN n f = n ↔ allN n (fun i => decide (f i = 1)) = true) := by
  induction n with
  | zero => simp [sumN, allN]
  | succ n ih =>
    obtain ⟨a, b, c⟩ := ih (fun i h0 hi => h i h0 (by omega))
    have d := h n (by omega) (by omega)
    rw [sumN, allN, Bool.and_eq_true, ← c]
    simp only [decide_eq_true_eq]
    refine ⟨by omega, by omega, ?_⟩
    omega
/-- the row's pixels, before place m -/
theorem rowS_part {W y : Nat} {p : Int → Int} (hW : 0 < W) (m : Nat) : rowS W m p y = sumN (min (m - y * W) W) (fun x => p (y * W + x)) := by
  induction m with
  | zero => simp [rowS, sumN]
  | succ m ih =>
    have hs : rowS W (m + 1) p y = rowS W m p y + (if (m : Int) / W = y then p m else 0) := rfl
    rw [hs, ih]
    have hd : (m : Int) / (W : Int) = ((m / W : Nat) : Int) := (Int.natCast_ediv m W).symm
    rw [hd]
    by_cases h : m / W = y
    · have h1 : y * W ≤ m := by rw [← h]; exact Nat.div_mul_le_self m W
      have h2 : m < y * W + W := by
        have := Nat.lt_div_mul_add (a := m) hW
        rw [h] at this; omega
      rw [if_pos (by rw [h])]
      have e1 : min (m - y * W) W = m - y * W := by omega
      have e2 : min (m + 1 - y * W) W = (m - y * W) + 1 := by omega
      rw [e1, e2, sumN]
      congr 2
      omega
    · rw [if_neg (by omega)]
      have hh : m < y * W ∨ y * W + W ≤ m := by
        rcases Nat.lt_or_ge (m / W) y with h' | h'
        · left
          exact (Nat.div_lt_iff_lt_mul hW).1 h'
        · right
          have : y + 1 ≤ m / W := by omega
          have := (Nat.le_div_iff_mul_le hW).1 this
          rw [Nat.add_mul] at this; omega
      rcases hh with hh | hh
      · have e1 : min (m - y * W) W = 0 := by omega
        have e2 : min (m + 1 - y * W) W = 0 := by omega
        rw [e1, e2]; simp [sumN]
      · have e1 : min (m - y * W) W = W := by omega
        have e2 : min (m + 1 - y * W) W = W := by omega
        rw [e1, e2]; simp
theorem rowS_row {W H n y : Nat} {p : Int → Int} (hW : 0 < W) (hn : n = H * W) (hy : y < H) : rowS W n p y = sumN W (fun x => p (y * W + x)) := by
  rw [rowS_part hW]
  have : (y + 1) * W ≤ H * W := Nat.mul_le_mul_right _ hy
  rw [Nat.add_mul] at this
  have e : min (n - y * W) W = W := by omega
  rw [e]
theorem rowS_iff {W H : Int} {n y : Nat} {p : Int → Int} (hW : 0 < W) (hn : (n : Int) = W * H) (hB : IsB p) (hp : ∀ i : Int, 0 ≤ i → i < n → p i ≤ 1) (hy : (y : Int) < H) :
    rowS W n p y = W ↔ rowB W.toNat p (y * W) = true := by
  obtain ⟨Wn, rfl⟩ : ∃ Wn : Nat, W = Wn := ⟨W.toNat, by omega⟩
  obtain ⟨Hn, rfl⟩ : ∃ Hn : Nat, H = Hn := ⟨H.toNat, by omega⟩
  have hn' : n = Hn * Wn := by rw [Int.mul_comm, ← Int.natCast_mul] at hn; omega
  rw [rowS_row (by omega) hn' (by omega)]
  have := (sumN_one (n := Wn) (f := fun x => p (y * Wn + x)) (fun i h0 hi => by
    have hl : ((y + 1 : Nat) : Int) * Wn ≤ Hn * Wn := Int.mul_le_mul_of_nonneg_right (by omega) (by omega)
    have hm : ((y + 1 : Nat) : Int) * Wn = y * Wn + Wn := by rw [Int.natCast_add, Int.add_mul]; simp
    have hc : (n : Int) = Hn * Wn := by rw [hn']; simp
    have h9 : 0 ≤ (y : Int) * Wn := Int.mul_nonneg (by omega) (by omega)
    have h1 := hp (y * Wn + i) (by omega) (by omega)
    have h2 := hB (y * Wn + i)
    show p _ = 0 ∨ p _ = 1
    omega)).2.2
  exact this
/-- full rows, as the document counts them -/
def fullR (W : Int) (p : Int → Int) (m : Nat) : Int := if 0 < W then sumN m (fun y => if rowB W.toNat p (y * W) = true then 1 else 0) else 0
theorem fullR_eq {W H : Int} {n : Nat} {p : Int → Int} (h : chk W H n p = 0) (hB : IsB p) (m : Nat) (hm : m ≤ H.toNat) : fullR W p m = fullP W n p m := by
  obtain ⟨h1, h2, h3, h4, h5, h6⟩ := chk_ok h
  unfold fullR fullP
  by_cases hW : 0 < W
  · rw [if_pos hW, if_pos hW]
    refine sumN_congr fun i h0 hi => ?_
    obtain ⟨y, rfl⟩ : ∃ y : Nat, i = y := ⟨i.toNat, by omega⟩
    have := rowS_iff hW h5 hB h6 (show (y : Int) < H by omega)
    by_cases hr : rowS W n p y = W
    · rw [if_pos hr, if_pos (this.1 hr)]
    · rw [if_neg hr, if_neg (fun e => hr (this.2 e))]
  · rw [if_neg hW, if_neg hW]
theorem fullR_bd (W : Int) (p : Int → Int) (m : Nat) : 0 ≤ fullR W p m ∧ fullR W p m ≤ m := by
  have := sumN_bd (n := m) (f := fun y => if rowB W.toNat p (y * W) = true then 1 else 0) (m := 1) (fun i a b => by
    show 0 ≤ (if rowB W.toNat p (i * W) = true then (1 : Int) else 0) ∧ (if rowB W.toNat p (i * W) = true then (1 : Int) else 0) ≤ 1
    split <;> omega)
  unfold fullR
  split <;> omega

/-- ink of a valid image -/
def inkB (W H : Int) (p : Int → Int) (x y : Int) : Bool := decide (0 ≤ x) && (decide (x < W) && (decide (0 ≤ y) && (decide (y < H) && decide (p (y * W + x) = 1))))
theorem inkB_iff {W H : Int} {p : Int → Int} {x y : Int} : inkB W H p x y = true ↔ 0 ≤ x ∧ x < W ∧ 0 ≤ y ∧ y < H ∧ p (y * W + x) = 1 := by simp [inkB]
/-- the moved image as the document has it -/
def movR (W H : Int) (p : Int → Int) (k way : Int) : Int → Int := fun i => if inkB W H p (i % W) (i / W - way * dropI W k (i % W)) = true then 1 else 0
theorem movR_eq {W H h : Int} {n : Nat} {p : Int → Int} {k way : Int} (hc : chk W H n p = 0) (hB : IsB p) {i : Int} (h0 : 0 ≤ i) (hi : i < W * h) : movR W H p k way i = movQ W H p k way i := by
  obtain ⟨h1, h2, h3, h4, h5, h6⟩ := chk_ok hc
  have hW : 0 < W := by
    rcases Int.lt_or_le 0 W with h | h
    · exact h
    · obtain rfl : W = 0 := by omega
      simp at hi; omega
  have hx0 : 0 ≤ i % W := Int.emod_nonneg _ (by omega)
  have hx1 : i % W < W := Int.emod_lt_of_pos _ hW
  unfold movR movQ
  by_cases hy : 0 ≤ i / W - way * dropI W k (i % W) ∧ i / W - way * dropI W k (i % W) < H
  · rw [if_pos hy]
    obtain ⟨j1, j2, j3⟩ := idx_lt hx0 hx1 hy.1 hy.2
    rw [Int.mul_comm H W] at j2
    have hb := hB ((i / W - way * dropI W k (i % W)) * W + i % W)
    have hp := h6 _ j1 (by omega)
    by_cases e : p ((i / W - way * dropI W k (i % W)) * W + i % W) = 1
    · rw [if_pos (inkB_iff.2 ⟨hx0, hx1, hy.1, hy.2, e⟩), e]
    · rw [if_neg (fun h => e (inkB_iff.1 h).2.2.2.2)]; omega
  · rw [if_neg hy, if_neg (fun h => hy ⟨(inkB_iff.1 h).2.2.1, (inkB_iff.1 h).2.2.2.1⟩)]
end Go.Proofs.Ytoonkpjddfiopaa

/- Plain laws: the greatest of the drops; the errors and the images of the reference's moves. No program in sight. -/
namespace Go.Proofs.Ytoonkpjddfiopaa
open Go.RowKit
set_option linter.unusedVariables false

def mxS (W k : Int) : Nat → Int
  | 0 => 0
  | n + 1 => if mxS W k n ≤ dropI W k n then dropI W k n else mxS W k n
theorem mxS_eq {W k : Int} (h3 : -3 ≤ k) (h4 : k ≤ 3) (n : Nat) (hn : n ≤ W) : mxS W k n = if n = 0 then 0 else if k < 0 then (W - 1) * (-k) / 64 else ((n : Int) - 1) * k / 64 := by
  induction n with
  | zero => rfl
  | succ n ih =>
    rw [mxS, ih (by omega)]
    unfold dropI
    rcases (by omega : k = -3 ∨ k = -2 ∨ k = -1 ∨ k = 0 ∨ k = 1 ∨ k = 2 ∨ k = 3) with rfl | rfl | rfl | rfl | rfl | rfl | rfl <;> simp only [reduceIte, Int.reduceNeg, Int.reduceLT, Int.neg_neg] <;> by_cases e : n = 0
    all_goals first | subst e | skip
    all_goals simp only [*, reduceIte, Nat.reduceAdd, Int.natCast_add, Int.natCast_one, Int.natCast_zero, Int.sub_zero, Nat.add_eq_zero_iff, Nat.succ_ne_zero, and_false]
    all_goals (split <;> omega)
theorem mxS_grt {W k : Int} (h1 : 0 ≤ W) (h3 : -3 ≤ k) (h4 : k ≤ 3) : mxS W k W.toNat = grt W k := by
  rw [mxS_eq h3 h4 _ (by omega)]
  unfold grt
  rcases (by omega : k = -3 ∨ k = -2 ∨ k = -1 ∨ k = 0 ∨ k = 1 ∨ k = 2 ∨ k = 3) with rfl | rfl | rfl | rfl | rfl | rfl | rfl <;> (simp only [reduceIte, Int.reduceNeg, Int.reduceLT, Int.neg_neg]; split <;> split <;> omega)
theorem mxS_bd {W k : Int} (h2 : W ≤ 640) (h3 : -3 ≤ k) (h4 : k ≤ 3) (n : Nat) (hn : n ≤ W) : 0 ≤ mxS W k n ∧ mxS W k n ≤ 29 := by
  rw [mxS_eq h3 h4 _ hn]
  rcases (by omega : k = -3 ∨ k = -2 ∨ k = -1 ∨ k = 0 ∨ k = 1 ∨ k = 2 ∨ k = 3) with rfl | rfl | rfl | rfl | rfl | rfl | rfl <;> (simp only [reduceIte, Int.reduceNeg, Int.reduceLT, Int.neg_neg]; split <;> omega)
theorem mxS_up {W k : Int} {n : Nat} (h : mxS W k n ≤ dropI W k n) : mxS W k (n + 1) = dropI W k n := by rw [mxS, if_pos h]
theorem mxS_no {W k : Int} {n : Nat} (h : ¬ mxS W k n ≤ dropI W k n) : mxS W k (n + 1) = mxS W k n := by rw [mxS, if_neg h]

/-- what the reference has drawn before the place (x, y), row by row of the new image -/
def drawR (W H : Int) (p : Int → Int) (k way y x : Int) : Int → Int := fun i => if i / W < y ∨ i / W = y ∧ i % W < x then movR W H p k way i else 0
theorem drawR_start {W H : Int} {p : Int → Int} {k way i : Int} (h0 : 0 ≤ i) (hW : 0 ≤ W) : drawR W H p k way 0 0 i = 0 := by
  unfold drawR
  have := emod_nn h0 hW
  have h2 : 0 ≤ i / W := Int.ediv_nonneg h0 hW
  rw [if_neg (by omega)]
theorem drawR_row {W h H : Int} {p : Int → Int} {k way y i : Int} (hW : 0 ≤ W) (h0 : 0 ≤ i) (hi : i < W * h) : drawR W H p k way y W i = drawR W H p k way (y + 1) 0 i := by
  have hW' : 0 < W := by
    rcases Int.lt_or_le 0 W with h | h
    · exact h
    · obtain rfl : W = 0 := by omega
      simp at hi; omega
  have h1 : 0 ≤ i % W := Int.emod_nonneg _ (by omega)
  have h2 : i % W < W := Int.emod_lt_of_pos _ hW'
  unfold drawR
  by_cases e : i / W < y + 1
  · rw [if_pos (by omega), if_pos (by omega)]
  · rw [if_neg (by omega), if_neg (by omega)]
theorem drawR_end {W h H : Int} {p : Int → Int} {k way i : Int} (hW : 0 ≤ W) (h0 : 0 ≤ i) (hi : i < W * h) : drawR W H p k way h 0 i = movR W H p k way i := by
  have hW' : 0 < W := by
    rcases Int.lt_or_le 0 W with h | h
    · exact h
    · obtain rfl : W = 0 := by omega
      simp at hi; omega
  have : i / W < h := Int.ediv_lt_of_lt_mul hW' (by rw [Int.mul_comm]; exact hi)
  unfold drawR
  rw [if_pos (by omega)]
theorem drawR_yes {W H : Int} {p : Int → Int} {k way y x i : Int} (hx0 : 0 ≤ x) (hx : x < W) (h : inkB W H p x (y - way * dropI W k x) = true) : upd (drawR W H p k way y x) (y * W + x) 1 i = drawR W H p k way y (x + 1) i := by
  have a := idx_mod (y := y) hx0 hx
  have b := idx_div (y := y) hx0 hx
  show (if i = y * W + x then (1 : Int) else drawR W H p k way y x i) = _
  by_cases e : i = y * W + x
  · rw [if_pos e]; subst e
    unfold drawR movR
    rw [a, b, if_pos (by omega), if_pos h]
  · rw [if_neg e]
    unfold drawR
    have : ¬ (i / W = y ∧ i % W = x) := fun ⟨h1, h2⟩ => e (by
      have := Int.emod_add_mul_ediv i W
      rw [h1, h2, Int.mul_comm] at this; omega)
    by_cases e2 : i / W < y ∨ i / W = y ∧ i % W < x
    · rw [if_pos e2, if_pos (by omega)]
    · rw [if_neg e2, if_neg (by omega)]
theorem drawR_no {W H : Int} {p : Int → Int} {k way y x i : Int} (hx0 : 0 ≤ x) (hx : x < W) (h : inkB W H p x (y - way * dropI W k x) = false) : drawR W H p k way y x i = drawR W H p k way y (x + 1) i := by
  have a := idx_mod (y := y) hx0 hx
  have b := idx_div (y := y) hx0 hx
  unfold drawR
  by_cases e : i / W = y ∧ i % W = x
  · rw [if_neg (by omega), if_pos (by omega)]
    unfold movR
    rw [e.1, e.2, if_neg (by rw [h]; simp)]
  · by_cases e2 : i / W < y ∨ i / W = y ∧ i % W < x
    · rw [if_pos e2, if_pos (by omega)]
    · rw [if_neg e2, if_neg (by omega)]

/-- the row y is full before the place x -/
theorem rowB_step (p : Int → Int) (b : Int) (x : Nat) : rowB (x + 1) p b = (rowB x p b && decide (p (b + x) = 1)) := rfl
theorem fullR_yes {W : Int} {p : Int → Int} {m : Nat} (h : 0 < W) (e : rowB W.toNat p (m * W) = true) : fullR W p (m + 1) = fullR W p m + 1 := by
  unfold fullR; rw [if_pos h, if_pos h, sumN, if_pos e]
theorem fullR_no {W : Int} {p : Int → Int} {m : Nat} (h : 0 < W) (e : rowB W.toNat p (m * W) = false) : fullR W p (m + 1) = fullR W p m := by
  unfold fullR; rw [if_pos h, if_pos h, sumN, if_neg (by rw [e]; simp)]; simp
end Go.Proofs.Ytoonkpjddfiopaa

/- Plain laws: a skew and back is the image again; the sums of the columns stay; the drops of neighbouring columns. No program in sight. -/
namespace Go.Proofs.Ytoonkpjddfiopaa
open Go.RowKit
set_option linter.unusedVariables false

theorem drop_le_grt {W k x : Int} (h3 : -3 ≤ k) (h4 : k ≤ 3) (h5 : 0 ≤ x) (h6 : x < W) : dropI W k x ≤ grt W k := by
  unfold dropI grt
  rcases (by omega : k = -3 ∨ k = -2 ∨ k = -1 ∨ k = 0 ∨ k = 1 ∨ k = 2 ∨ k = 3) with rfl | rfl | rfl | rfl | rfl | rfl | rfl <;> (simp only [reduceIte, Int.reduceNeg, Int.reduceLT, Int.neg_neg]; split <;> omega)
theorem drop_step {W k x : Int} (h3 : -3 ≤ k) (h4 : k ≤ 3) : (dropI W k x - dropI W k (x - 1) ≤ 1 ∧ dropI W k (x - 1) - dropI W k x ≤ 1) ∧ (0 < k → dropI W k (x - 1) ≤ dropI W k x) ∧ (k < 0 → dropI W k x ≤ dropI W k (x - 1)) ∧ (k = 0 → dropI W k x = 0) := by
  unfold dropI
  rcases (by omega : k = -3 ∨ k = -2 ∨ k = -1 ∨ k = 0 ∨ k = 1 ∨ k = 2 ∨ k = 3) with rfl | rfl | rfl | rfl | rfl | rfl | rfl <;> (simp only [reduceIte, Int.reduceNeg, Int.reduceLT, Int.neg_neg]; refine ⟨⟨?_, ?_⟩, fun _ => ?_, fun _ => ?_, fun _ => ?_⟩ <;> first | omega | contradiction)

theorem sumN_add (a b : Nat) (f : Int → Int) : sumN (a + b) f = sumN a f + sumN b (fun i => f (a + i)) := by
  induction b with
  | zero => simp [sumN]
  | succ b ih => rw [← Nat.add_assoc, sumN, sumN, ih, Int.natCast_add]; omega
theorem sumN_zero {n : Nat} {f : Int → Int} (h : ∀ i : Int, 0 ≤ i → i < n → f i = 0) : sumN n f = 0 := by
  rw [sumN_congr (g := fun _ => 0) h]
  induction n with
  | zero => rfl
  | succ n ih => rw [sumN, ih (fun i a b => h i a (by omega))]; rfl
theorem sumN_single {n : Nat} {f : Int → Int} {x : Int} (h0 : 0 ≤ x) (h : x < n) : sumN n (fun j => if j = x then f j else 0) = f x := by
  induction n with
  | zero => omega
  | succ n ih =>
    rw [sumN]
    by_cases e : x = n
    · subst e; rw [if_pos rfl, sumN_zero (fun i a b => if_neg (by omega))]; omega
    · rw [if_neg (by omega), ih (by omega)]; omega
theorem colS_rows {W : Nat} {p : Int → Int} {x : Int} (h0 : 0 ≤ x) (hx : x < W) (H : Nat) : colS W (H * W) p x = sumN H (fun y => p (y * W + x)) := by
  induction H with
  | zero => simp [colS, sumN]
  | succ H ih =>
    rw [sumN, ← ih, Nat.add_mul, Nat.one_mul]
    unfold colS
    rw [sumN_add]
    congr 1
    rw [← sumN_single (f := fun j => p (H * W + j)) h0 hx]
    refine sumN_congr fun j a b => ?_
    rw [Int.natCast_mul, idx_mod a b]
theorem sumN_shift {h H d : Nat} {f : Int → Int} (hd : d + H ≤ h) : sumN h (fun t => if 0 ≤ t - (d : Int) ∧ t - (d : Int) < H then f (t - d) else 0) = sumN H f := by
  obtain ⟨r, rfl⟩ : ∃ r, h = d + H + r := ⟨h - (d + H), by omega⟩
  rw [sumN_add, sumN_add, sumN_zero (n := d) (fun i a b => if_neg (by omega)), sumN_zero (n := r) (fun i a b => if_neg (by omega)), sumN_congr (n := H) (g := f) (fun i a b => by
    show (if _ then _ else _) = _
    rw [if_pos (by omega)]; congr 1; omega)]
  omega
theorem mov_at {W H h : Int} {p : Int → Int} {k way : Int} {x y : Int} (hx0 : 0 ≤ x) (hx : x < W) : movQ W H p k way (y * W + x) = if 0 ≤ y - way * dropI W k x ∧ y - way * dropI W k x < H then p ((y - way * dropI W k x) * W + x) else 0 := by
  unfold movQ; rw [idx_div hx0 hx, idx_mod hx0 hx]
theorem colS_mov {W H h : Int} {n m : Nat} {p : Int → Int} {k : Int} (hn : (n : Int) = W * H) (hm : (m : Int) = W * h) (hH : 0 ≤ H) (h3 : -3 ≤ k) (h4 : k ≤ 3) (hW2 : W ≤ 640) (hh : h = H + grt W k) {x : Int} (h0 : 0 ≤ x) (hx : x < W) :
    colS W m (movQ W H p k 1) x = colS W n p x := by
  have g1 := drop_le_grt (W := W) h3 h4 h0 hx
  obtain ⟨g2, _⟩ := drop_bd hW2 h3 h4 h0 hx
  obtain ⟨Wn, rfl⟩ : ∃ Wn : Nat, W = Wn := ⟨W.toNat, by omega⟩
  obtain ⟨Hn, rfl⟩ : ∃ Hn : Nat, H = Hn := ⟨H.toNat, by omega⟩
  obtain ⟨hN, rfl⟩ : ∃ hN : Nat, h = hN := ⟨h.toNat, by omega⟩
  have e1 : n = Hn * Wn := by rw [Int.mul_comm, ← Int.natCast_mul] at hn; omega
  have e2 : m = hN * Wn := by rw [Int.mul_comm, ← Int.natCast_mul] at hm; omega
  rw [e1, e2, colS_rows h0 hx, colS_rows h0 hx]
  obtain ⟨d, hd⟩ : ∃ d : Nat, dropI Wn k x = d := ⟨(dropI Wn k x).toNat, by omega⟩
  rw [← sumN_shift (h := hN) (d := d) (f := fun y => p (y * Wn + x)) (by omega)]
  refine sumN_congr fun i a b => ?_
  rw [mov_at (h := 0) h0 hx, Int.one_mul, hd]
theorem mov_back {W H h : Int} {n : Nat} {p : Int → Int} {k : Int} (hn : (n : Int) = W * H) (hW : 0 ≤ W) (h3 : -3 ≤ k) (h4 : k ≤ 3) (hW2 : W ≤ 640) (hh : h = H + grt W k) {i : Int} (h0 : 0 ≤ i) (hi : i < n) :
    movQ W h (movQ W H p k 1) k (-1) i = p i := by
  have hW' : 0 < W := by
    rcases Int.lt_or_le 0 W with h | h
    · exact h
    · obtain rfl : W = 0 := by omega
      simp at hn; omega
  obtain ⟨x, y, x0, x1, y0, y1, rfl, _, _⟩ := idx_of (H := H) h0 hW' (by rw [Int.mul_comm]; omega)
  have g1 := drop_le_grt (W := W) h3 h4 x0 x1
  obtain ⟨g2, _⟩ := drop_bd hW2 h3 h4 x0 x1
  rw [mov_at (h := 0) x0 x1, if_pos (by omega), mov_at (h := 0) x0 x1, if_pos (by omega)]
  rw [show y - -1 * dropI W k x - 1 * dropI W k x = y by omega]
end Go.Proofs.Ytoonkpjddfiopaa

/- Plain laws for CleanFound: of full rows with single specks between them the skew is found. No program in sight. -/
namespace Go.Proofs.Ytoonkpjddfiopaa
open Go.RowKit
set_option linter.unusedVariables false

/-- an image of full rows M and of single pixels that touch nothing -/
structure SpkQ (W H : Int) (M : List Int) (p : Int → Int) : Prop where
  bit : ∀ x y, 0 ≤ x → x < W → 0 ≤ y → y < H → p (y * W + x) = 0 ∨ p (y * W + x) = 1
  row : ∀ x y, 0 ≤ x → x < W → 0 ≤ y → y < H → y ∈ M → p (y * W + x) = 1
  iso : ∀ x y u v, 0 ≤ x → x < W → 0 ≤ y → y < H → 0 ≤ u → u < W → 0 ≤ v → v < H → y ∉ M → p (y * W + x) = 1 → x - u ≤ 1 → u - x ≤ 1 → y - v ≤ 1 → v - y ≤ 1 → ¬ (u = x ∧ v = y) → p (v * W + u) = 0
/-- the rows are at least three apart -/
def GapM (M : List Int) : Prop := ∀ a ∈ M, ∀ b ∈ M, a < b → a + 3 ≤ b

theorem k7 {k : Int} (h3 : -3 ≤ k) (h4 : k ≤ 3) : k = -3 ∨ k = -2 ∨ k = -1 ∨ k = 0 ∨ k = 1 ∨ k = 2 ∨ k = 3 := by omega
theorem drop_two {W k x : Int} (h3 : -3 ≤ k) (h4 : k ≤ 3) (h : dropI W k x ≠ dropI W k (x + 1)) : dropI W k (x - 1) = dropI W k x ∧ dropI W k (x + 1) = dropI W k (x + 2) := by
  unfold dropI at *
  rcases k7 h3 h4 with rfl | rfl | rfl | rfl | rfl | rfl | rfl <;> (simp only [reduceIte, Int.reduceNeg, Int.reduceLT, Int.neg_neg] at *; omega)
theorem drop_edge {W k x : Int} (h3 : -3 ≤ k) (h4 : k ≤ 3) : (0 < k → x = 0 → dropI W k x = dropI W k (x + 1)) ∧ (k < 0 → x + 2 = W → dropI W k x = dropI W k (x + 1)) ∧ (k = 0 → dropI W k x = dropI W k (x + 1)) := by
  unfold dropI
  rcases k7 h3 h4 with rfl | rfl | rfl | rfl | rfl | rfl | rfl <;> (simp only [reduceIte, Int.reduceNeg, Int.reduceLT, Int.neg_neg]; refine ⟨fun _ _ => ?_, fun _ _ => ?_, fun _ => ?_⟩ <;> first | omega | contradiction)
theorem drop_far {W k k' : Int} (hW : 65 ≤ W) (h3 : -3 ≤ k) (h4 : k ≤ 3) (h3' : -3 ≤ k') (h4' : k' ≤ 3)
    (a : dropI W k' 64 - dropI W k 64 = dropI W k' 0 - dropI W k 0) (b : dropI W k' (W - 1) - dropI W k (W - 1) = dropI W k' 0 - dropI W k 0) (c : dropI W k' (W - 65) - dropI W k (W - 65) = dropI W k' 0 - dropI W k 0) : k = k' := by
  unfold dropI at *
  rcases k7 h3 h4 with rfl | rfl | rfl | rfl | rfl | rfl | rfl <;> rcases k7 h3' h4' with rfl | rfl | rfl | rfl | rfl | rfl | rfl <;> first | rfl | (exfalso; simp only [reduceIte, Int.reduceNeg, Int.reduceLT, Int.neg_neg] at *; omega)
theorem step_ex {W k k' : Int} (hW : 65 ≤ W) (h3 : -3 ≤ k) (h4 : k ≤ 3) (h3' : -3 ≤ k') (h4' : k' ≤ 3) (hne : k ≠ k') :
    ∃ x, 0 ≤ x ∧ x + 1 < W ∧ dropI W k' x - dropI W k x ≠ dropI W k' (x + 1) - dropI W k (x + 1) := by
  refine Classical.byContradiction fun hno => hne ?_
  have h : ∀ x, 0 ≤ x → x + 1 < W → dropI W k' x - dropI W k x = dropI W k' (x + 1) - dropI W k (x + 1) := fun x a b =>
    Classical.byContradiction fun hc => hno ⟨x, a, b, hc⟩
  have c : ∀ n : Nat, (n : Int) < W → dropI W k' n - dropI W k n = dropI W k' 0 - dropI W k 0 := by
    intro n
    induction n with
    | zero => intro _; rfl
    | succ n ih =>
      intro hn
      rw [← ih (by omega)]
      exact (h n (by omega) (by omega)).symm
  have c2 := c (W - 1).toNat (by omega)
  have c3 := c (W - 65).toNat (by omega)
  rw [Int.toNat_of_nonneg (by omega)] at c2 c3
  exact drop_far hW h3 h4 h3' h4' (c 64 (by omega)) c2 c3
theorem SpkQ.pair {W H : Int} {M : List Int} {p : Int → Int} (hs : SpkQ W H M p) {x y : Int} (h0 : 0 ≤ x) (h1 : x + 1 < W) (h2 : 0 ≤ y) (h3 : y < H) (a : p (y * W + x) = 1) (b : p (y * W + (x + 1)) = 1) : y ∈ M :=
  Classical.byContradiction fun h => by
    have := hs.iso x y (x + 1) y h0 (by omega) h2 h3 (by omega) h1 h2 h3 h a (by omega) (by omega) (by omega) (by omega) (by omega)
    omega
/-- straightened by another skew, no row is full -/
theorem no_full {W H : Int} {M : List Int} {p : Int → Int} {k k' : Int} (y : Int) (hs : SpkQ W H M p) (hg : GapM M) (hW : 65 ≤ W) (h3 : -3 ≤ k) (h4 : k ≤ 3) (h3' : -3 ≤ k') (h4' : k' ≤ 3) (hne : k ≠ k') :
    ¬ ∀ x, 0 ≤ x → x < W → 0 ≤ y + dropI W k' x - dropI W k x ∧ y + dropI W k' x - dropI W k x < H ∧ p ((y + dropI W k' x - dropI W k x) * W + x) = 1 := by
  intro hall
  obtain ⟨x, h0, h1, hd⟩ := step_ex hW h3 h4 h3' h4' hne
  have s1 := (drop_step (W := W) (x := x + 1) h3 h4)
  have s2 := (drop_step (W := W) (x := x + 1) h3' h4')
  rw [show x + 1 - 1 = x by omega] at s1 s2
  obtain ⟨⟨s1a, s1b⟩, s1c, s1d, s1e⟩ := s1
  obtain ⟨⟨s2a, s2b⟩, s2c, s2d, s2e⟩ := s2
  obtain ⟨a1, a2, a3⟩ := hall x h0 (by omega)
  obtain ⟨b1, b2, b3⟩ := hall (x + 1) (by omega) h1
  have hgap : ∀ a ∈ M, ∀ b ∈ M, a ≠ b → a + 3 ≤ b ∨ b + 3 ≤ a := fun a ha b hb e => by
    rcases Int.lt_or_gt_of_ne e with h | h
    · exact .inl (hg a ha b hb h)
    · exact .inr (hg b hb a ha h)
  by_cases hd1 : dropI W k' (x + 1) = dropI W k' x ∨ dropI W k (x + 1) = dropI W k x ∨ (dropI W k' (x + 1) - dropI W k (x + 1)) - (dropI W k' x - dropI W k x) = 1 ∨ (dropI W k' (x + 1) - dropI W k (x + 1)) - (dropI W k' x - dropI W k x) = -1
  · have hr1 : y + dropI W k' x - dropI W k x ∈ M := Classical.byContradiction fun h => by
      have := hs.iso x _ (x + 1) _ h0 (by omega) a1 a2 (by omega) h1 b1 b2 h a3 (by omega) (by omega) (by omega) (by omega) (by omega)
      omega
    have hr2 : y + dropI W k' (x + 1) - dropI W k (x + 1) ∈ M := Classical.byContradiction fun h => by
      have := hs.iso (x + 1) _ x _ (by omega) h1 b1 b2 h0 (by omega) a1 a2 h b3 (by omega) (by omega) (by omega) (by omega) (by omega)
      omega
    have := hgap _ hr1 _ hr2 (by omega)
    omega
  · obtain ⟨t1, t2⟩ := drop_two (W := W) (k := k) (x := x) h3 h4 (by omega)
    obtain ⟨t3, t4⟩ := drop_two (W := W) (k := k') (x := x) h3' h4' (by omega)
    obtain ⟨e1, e2, e3⟩ := drop_edge (W := W) (x := x) h3 h4
    obtain ⟨g1, g2, g3⟩ := drop_edge (W := W) (x := x) h3' h4'
    have hx0 : 1 ≤ x := by
      refine Classical.byContradiction fun h => ?_
      have hx : x = 0 := by omega
      clear hall hgap a3 b3 t1 t2 t3 t4 e2 g2
      omega
    have hx2 : x + 2 < W := by
      refine Classical.byContradiction fun h => ?_
      have hx : x + 2 = W := by omega
      clear hall hgap a3 b3 t1 t2 t3 t4 e1 g1
      omega
    have hr1 : y + dropI W k' x - dropI W k x ∈ M := by
      obtain ⟨c1, c2, c3⟩ := hall (x - 1) (by omega) (by omega)
      rw [t1, t3] at c3
      refine hs.pair (x := x - 1) (by omega) (by omega) a1 a2 c3 ?_
      rw [show x - 1 + 1 = x by omega]; exact a3
    have hr2 : y + dropI W k' (x + 1) - dropI W k (x + 1) ∈ M := by
      obtain ⟨c1, c2, c3⟩ := hall (x + 2) (by omega) (by omega)
      rw [← t2, ← t4] at c3
      refine hs.pair (x := x + 1) (by omega) (by omega) b1 b2 b3 ?_
      rw [show x + 1 + 1 = x + 2 by omega]; exact c3
    have := hgap _ hr1 _ hr2 (by omega)
    omega

theorem sumN_ge {n : Nat} {f : Int → Int} (h : ∀ i : Int, 0 ≤ i → i < n → 0 ≤ f i) {i : Int} (h0 : 0 ≤ i) (hi : i < n) : f i ≤ sumN n f := by
  induction n with
  | zero => omega
  | succ n ih =>
    rw [sumN]
    have h9 := h n (by omega) (by omega)
    by_cases e : i = n
    · subst e
      have : 0 ≤ sumN n f := by
        clear ih h9
        have h' : ∀ i : Int, 0 ≤ i → i < n → 0 ≤ f i := fun i a b => h i a (by omega)
        clear h h0 hi
        induction n with
        | zero => simp [sumN]
        | succ n ih => rw [sumN]; have := h' n (by omega) (by omega); have := ih (fun i a b => h' i a (by omega)); omega
      omega
    · have := ih (fun i a b => h i a (by omega)) (by omega)
      omega

/-- the tilted image -/
structure TiltQ (W H k : Int) (h : Int) (n : Nat) (p t : Int → Int) : Prop where
  hh : h = H + grt W k
  hn : (n : Int) = W * h
  ok : chk W h n t = 0
  isB : IsB t
  eq : ∀ i : Int, 0 ≤ i → i < n → t i = movQ W H p k 1 i
section
variable {W H k h : Int} {n : Nat} {p t : Int → Int} {M : List Int}
theorem TiltQ.at_ (ht : TiltQ W H k h n p t) {x y : Int} (x0 : 0 ≤ x) (x1 : x < W) (y0 : 0 ≤ y) (y1 : y < h) : t (y * W + x) = if 0 ≤ y - dropI W k x ∧ y - dropI W k x < H then p ((y - dropI W k x) * W + x) else 0 := by
  obtain ⟨g1, g2, g3⟩ := idx_lt x0 x1 y0 y1
  rw [ht.eq _ g1 (by rw [ht.hn, Int.mul_comm W h]; omega), mov_at (h := 0) x0 x1, Int.one_mul]
theorem TiltQ.back_at (ht : TiltQ W H k h n p t) (h3 : -3 ≤ k) (h4 : k ≤ 3) {x y : Int} (x0 : 0 ≤ x) (x1 : x < W) (y0 : 0 ≤ y) (y1 : y < H) : movQ W h t k (-1) (y * W + x) = p (y * W + x) := by
  have hW := (chk_ok ht.ok).2.1
  have g1 := drop_le_grt (W := W) h3 h4 x0 x1
  obtain ⟨g2, _⟩ := drop_bd hW h3 h4 x0 x1
  have hh := ht.hh
  rw [mov_at (h := 0) x0 x1, show y - -1 * dropI W k x = y + dropI W k x by omega, if_pos (by omega), ht.at_ x0 x1 (by omega) (by omega), show y + dropI W k x - dropI W k x = y by omega, if_pos ⟨y0, y1⟩]
theorem TiltQ.back (ht : TiltQ W H k h n p t) (h3 : -3 ≤ k) (h4 : k ≤ 3) {i : Int} (h0 : 0 ≤ i) (hi : i < W * H) (hW0 : 0 < W) : movQ W h t k (-1) i = p i := by
  obtain ⟨x, y, x0, x1, y0, y1, rfl, _, _⟩ := idx_of (H := H) h0 hW0 (by rw [Int.mul_comm]; exact hi)
  exact ht.back_at h3 h4 x0 x1 y0 y1
theorem TiltQ.other (ht : TiltQ W H k h n p t) (hs : SpkQ W H M p) (hg : GapM M) (hW : 65 ≤ W) (h3 : -3 ≤ k) (h4 : k ≤ 3) {k' : Int} (h3' : -3 ≤ k') (h4' : k' ≤ 3) (hne : k ≠ k') : fsN W h n t k' ≤ 0 := by
  unfold fsN
  split
  · rename_i hM
    have hc := chk_mov hM (show h - grt W k' = h + -1 * grt W k' by omega)
    obtain ⟨c1, c2, c3, c4, c5, c6⟩ := chk_ok hc
    unfold fullS fullP
    rw [if_pos (by omega), sumN_zero]
    · exact Int.le_refl _
    · intro i i0 i1
      refine if_neg fun he => ?_
      obtain ⟨y, rfl⟩ := Int.eq_ofNat_of_zero_le i0
      have hr := (rowS_iff (H := h - grt W k') (by omega) c5 (isB_mov ht.isB) c6 (by omega)).1 he
      unfold rowB at hr
      rw [allN_iff] at hr
      refine no_full y hs hg hW h3 h4 h3' h4' hne fun x x0 x1 => ?_
      have hx := of_decide_eq_true (hr x x0 (by omega))
      rw [mov_at (h := 0) x0 x1, show (y : Int) - -1 * dropI W k' x = y + dropI W k' x by omega] at hx
      split at hx
      · rename_i hb
        rw [ht.at_ x0 x1 hb.1 hb.2] at hx
        split at hx
        · rename_i hb2
          exact ⟨hb2.1, hb2.2, hx⟩
        · omega
      · omega
  · omega
theorem TiltQ.same (ht : TiltQ W H k h n p t) (hs : SpkQ W H M p) (hW : 65 ≤ W) (h3 : -3 ≤ k) (h4 : k ≤ 3) {y : Int} (y0 : 0 ≤ y) (y1 : y < H) (hy : y ∈ M) : 1 ≤ fsN W h n t k := by
  obtain ⟨d1, d2, d3, d4, d5, d6⟩ := chk_ok ht.ok
  have hh := ht.hh
  obtain ⟨gb1, gb2⟩ := grt_bd (W := W) (by omega) d2 h3 h4
  have hM : movE W h n t k (-1) = 0 := movE_mk ht.ok h3 h4 (by omega) (by omega)
  unfold fsN
  rw [if_pos hM]
  have hc := chk_mov hM (show h - grt W k = h + -1 * grt W k by omega)
  obtain ⟨c1, c2, c3, c4, c5, c6⟩ := chk_ok hc
  have eH : h - grt W k = H := by omega
  rw [eH] at c5 c6 ⊢
  unfold fullS fullP
  rw [if_pos (by omega)]
  obtain ⟨yn, rfl⟩ := Int.eq_ofNat_of_zero_le y0
  have hr : rowS W (W * H).toNat (movQ W h t k (-1)) yn = W := by
    refine (rowS_iff (H := H) (by omega) c5 (isB_mov ht.isB) c6 y1).2 ?_
    unfold rowB
    rw [allN_iff]
    intro x x0 x1
    rw [decide_eq_true_iff, ht.back_at h3 h4 x0 (by omega) y0 y1]
    exact hs.row x yn x0 (by omega) y0 y1 hy
  have := sumN_ge (n := H.toNat) (f := fun y => if rowS W (W * H).toNat (movQ W h t k (-1)) y = W then 1 else 0) (fun i _ _ => by split <;> omega) y0 (by omega)
  rw [if_pos hr] at this
  exact this
/-- the skew is found -/
theorem TiltQ.find (ht : TiltQ W H k h n p t) (hs : SpkQ W H M p) (hg : GapM M) (hW : 65 ≤ W) (h3 : -3 ≤ k) (h4 : k ≤ 3) {y : Int} (y0 : 0 ≤ y) (y1 : y < H) (hy : y ∈ M) : findS W h n t = k := by
  have hs1 := ht.same hs hW h3 h4 y0 y1 hy
  have h00 : -1 < fsN W h n t 0 := by
    obtain ⟨d1, d2, d3, d4, d5, d6⟩ := chk_ok ht.ok
    exact fsN_ok.2 (movE_mk ht.ok (by omega) (by omega) (by rw [grt_0]; omega) (by rw [grt_0]; omega))
  obtain ⟨b1, b2, b3, b4⟩ := best_ok h00 (fun k => (fsN_bd W h n t k).1)
  have e : findS W h n t = (fsL (fsN W h n t) L7).1 := rfl
  rw [e]
  refine Classical.byContradiction fun hne => ?_
  have hm := mem_L7.1 b2
  have h1 := ht.other hs hg hW h3 h4 hm.1 hm.2 (fun e => hne e.symm)
  have h2 := (b4 k (mem_L7.2 ⟨h3, h4⟩)).1
  omega
end
end Go.Proofs.Ytoonkpjddfiopaa

/- Plain laws for CleanFound: single specks are added. No program in sight. -/
namespace Go.Proofs.Ytoonkpjddfiopaa
open Go.RowKit
set_option linter.unusedVariables false

theorem place_inj {x y u v W : Int} (h0 : 0 ≤ x) (h1 : x < W) (h2 : 0 ≤ u) (h3 : u < W) (h : y * W + x = v * W + u) : x = u ∧ y = v := by
  have a := idx_mod (y := y) h0 h1; have b := idx_mod (y := v) h2 h3
  have c := idx_div (y := y) h0 h1; have d := idx_div (y := v) h2 h3
  rw [h] at a c
  exact ⟨a.symm.trans b, c.symm.trans d⟩
/-- the pixel and its neighbours are paper -/
def FreeQ (W H : Int) (p : Int → Int) (x y : Int) : Prop := ∀ u v, 0 ≤ u → u < W → 0 ≤ v → v < H → x - u ≤ 1 → u - x ≤ 1 → y - v ≤ 1 → v - y ≤ 1 → p (v * W + u) = 0
theorem SpkQ.add {W H : Int} {M : List Int} {p : Int → Int} (hs : SpkQ W H M p) {x y : Int} (x0 : 0 ≤ x) (x1 : x < W) (y0 : 0 ≤ y) (y1 : y < H) (hf : FreeQ W H p x y) : SpkQ W H M (upd p (y * W + x) 1) := by
  refine ⟨fun a b a0 a1 b0 b1 => ?_, fun a b a0 a1 b0 b1 hm => ?_, fun a b u v a0 a1 b0 b1 u0 u1 v0 v1 hm h1 n1 n2 n3 n4 hne => ?_⟩
  · unfold upd; split
    · exact .inr rfl
    · exact hs.bit a b a0 a1 b0 b1
  · unfold upd; split
    · rfl
    · exact hs.row a b a0 a1 b0 b1 hm
  · unfold upd at *
    have hI : ∀ c d, 0 ≤ c → c < W → d * W + c = y * W + x → c = x ∧ d = y := fun c d c0 c1 e => place_inj c0 c1 x0 x1 e
    by_cases e1 : b * W + a = y * W + x
    · obtain ⟨rfl, rfl⟩ := hI a b a0 a1 e1
      rw [if_neg fun e => hne (by obtain ⟨rfl, rfl⟩ := hI u v u0 u1 e; exact ⟨rfl, rfl⟩)]
      exact hf u v u0 u1 v0 v1 n1 n2 n3 n4
    · rw [if_neg e1] at h1
      by_cases e2 : v * W + u = y * W + x
      · obtain ⟨rfl, rfl⟩ := hI u v u0 u1 e2
        have := hf a b a0 a1 b0 b1 (by omega) (by omega) (by omega) (by omega)
        omega
      · rw [if_neg e2]
        exact hs.iso a b u v a0 a1 b0 b1 u0 u1 v0 v1 hm h1 n1 n2 n3 n4 hne
open Classical in
/-- one speck more, if its place is free -/
noncomputable def spkS (W H : Int) (p : Int → Int) (n : Int) : Int → Int := if FreeQ W H p (n % W) (n / W % H) then upd p (n / W % H * W + n % W) 1 else p
noncomputable def spkL (W H : Int) (a : Int → Int) (p : Int → Int) : Nat → Int → Int
  | 0 => p
  | m + 1 => spkS W H (spkL W H a p m) (a m)
theorem SpkQ.step {W H : Int} {M : List Int} {p : Int → Int} (hs : SpkQ W H M p) (hW : 0 < W) (hH : 0 < H) (n : Int) : SpkQ W H M (spkS W H p n) := by
  unfold spkS
  split
  · rename_i hf
    exact hs.add (Int.emod_nonneg _ (by omega)) (Int.emod_lt_of_pos _ hW) (Int.emod_nonneg _ (by omega)) (Int.emod_lt_of_pos _ hH) hf
  · exact hs
theorem SpkQ.list {W H : Int} {M : List Int} {p : Int → Int} (hs : SpkQ W H M p) (hW : 0 < W) (hH : 0 < H) (a : Int → Int) (m : Nat) : SpkQ W H M (spkL W H a p m) := by
  induction m with
  | zero => exact hs
  | succ m ih => exact ih.step hW hH _
theorem spkS_01 {W H : Int} {p : Int → Int} (h : ∀ i, p i = 0 ∨ p i = 1) (n i : Int) : spkS W H p n i = 0 ∨ spkS W H p n i = 1 := by
  unfold spkS
  split
  · unfold upd; split
    · exact .inr rfl
    · exact h i
  · exact h i
theorem spkL_01 {W H : Int} {p : Int → Int} (h : ∀ i, p i = 0 ∨ p i = 1) (a : Int → Int) (m : Nat) (i : Int) : spkL W H a p m i = 0 ∨ spkL W H a p m i = 1 := by
  induction m generalizing i with
  | zero => exact h i
  | succ m ih => exact spkS_01 ih _ _
theorem spk_ruled {W H : Int} (hW : 0 < W) (M : List Int) : SpkQ W H M (ruQ W M) := by
  refine ⟨fun x y x0 x1 _ _ => ?_, fun x y x0 x1 _ _ hm => ?_, fun x y u v x0 x1 _ _ _ _ _ _ hm h1 => ?_⟩
  · unfold ruQ; split <;> simp
  · unfold ruQ; rw [idx_div x0 x1, if_pos hm]
  · unfold ruQ at h1; rw [idx_div x0 x1, if_neg hm] at h1; omega
theorem ruM_gap {r : Int → Int} (hr : IsB r) (m : Nat) : GapM (ruM r m) := by
  have hstep : ∀ i j : Nat, i < j → ruY r i + 3 ≤ ruY r j := by
    intro i j hij
    have h1 := ruY_mono hr (show i + 1 ≤ j by omega)
    have := hr ((i + 1 : Nat) : Int)
    simp only [ruY, Int.natCast_add, Int.natCast_one] at h1 this
    omega
  intro a ha b hb hlt
  unfold ruM at *
  split at ha
  · rename_i e; rw [if_pos e] at hb; simp at ha hb; omega
  · rename_i e; rw [if_neg e] at hb
    obtain ⟨i, _, rfl⟩ := List.mem_map.1 ha
    obtain ⟨j, _, rfl⟩ := List.mem_map.1 hb
    rcases Nat.lt_trichotomy i j with h | h | h
    · exact hstep i j h
    · subst h; omega
    · have := hstep j i h; omega
theorem ruM_some {r : Int → Int} (m : Nat) : ∃ y, y ∈ ruM r m := by
  unfold ruM
  split
  · exact ⟨2, by simp⟩
  · exact ⟨ruY r 0, List.mem_map.2 ⟨0, List.mem_range.2 (by omega), rfl⟩⟩

end Go.Proofs.Ytoonkpjddfiopaa

/- Walks: copies of bytes and of images; two grey images compared; the reference's checks. -/
namespace Go.Proofs.Ytoonkpjddfiopaa
open Go.RowKit
set_option linter.unusedVariables false

/-- a slice over fresh memory, or none -/
def OutSl (w w' : World) (n : Nat) (q : Int → Int) (v : Value) : Prop := ∃ A c, v = .slice A n c ∧ n ≤ c ∧ (A = none → c = 0) ∧ (∀ a, A = some a → w.heap.size ≤ a.block) ∧ ArrB w' w'.heap.size A n q
theorem own_out {w w' : World} {n : Nat} {e : TypeId} {v : Value} {q : Int → Int} {xs : List Value} (h : w'.ownsRow w.heap.size e 1 v n xs) (hx : xs = (List.range n).map (fun (j : Nat) => Value.int .u8 (q j))) : OutSl w w' n q v := by
  have hn : ∀ A c, v = .slice A n c → A = none → c = 0 := by
    rintro A c rfl rfl
    rcases h.2 with ⟨h, _⟩ | ⟨g, cap, cur, h, _⟩
    · simp at h; exact h.2
    · simp at h
  obtain ⟨A, c, rfl, hc, ha⟩ := own_arr h
  refine ⟨A, c, rfl, hc, hn A c rfl, fun a e => (own_ge h (k := a.block) (by subst e; simp [Value.ownBlock])).1, Arr.congr ha fun i h0 hi => ?_⟩
  subst hx
  simp only [List.getD_eq_getElem?_getD, List.getElem?_map]
  rw [List.getElem?_eq_getElem (by simp; omega)]
  simp [Int.toNat_of_nonneg h0]

set_option maxRecDepth 100000 in
set_option maxHeartbeats 400000 in
theorem copyBytes_any (A : Option Addr) (n c : Nat) (p : Int → Int) (w : World) (hA : ArrB w w.heap.size A n p) (hc : A = none → c = 0) (hn : n ≤ 140737488355328) :
    Calls Try.prog 21 #[.slice A n c] w (New w fun v w' => OutSl w w' n p v) := by
  obtain ⟨i0, hi0, hz0, hz1, hz2⟩ := info_parts infoU8
  have hnil := World.ownsRow_nil w w.heap.size 5 1
  cases A with
  | none =>
    have hn0 : n = 0 := by
      rcases Nat.eq_zero_or_pos n with h | h
      · exact h
      · obtain ⟨b, off, e, _⟩ := hA h; cases e
    subst hn0
    obtain rfl := hc rfl
    go_enter Try.func21, Try.ntmps21
    go_wp2_with (at_builtin; refine wpList_append_own_none rfl (.tmp 4) (.tmp 5) 22 rfl w.heap.size 5 i0 1 Try.underlying22 hi0 _ 0 [] rfl hnil rfl ?_)
    go_ret
    exact ⟨_, rfl, own_out hnil (by simp), Below.refl _ _⟩
  | some ad =>
    go_enter Try.func21, Try.ntmps21
    go_wp2_with (at_builtin; refine wpList_append_own _ rfl (.tmp 4) (.tmp 5) 22 rfl w.heap.size 5 i0 (.int .u8 0) 1 1 Try.underlying22 hi0 hz0 hz1 hz2 rfl (by decide) _ 0 [] rfl hnil ad n c ((List.range n).map (fun (j : Nat) => Value.int .u8 (p j))) rfl (by simp) ?c1 ?c2 ?c3 ?c4 (Nat.le_refl _) ?_)
    case c1 =>
      intro j u hj
      have hjn : j < n := by
        rcases Nat.lt_or_ge j n with h | h
        · exact h
        · rw [List.getElem?_eq_none (by simpa using h)] at hj; cases hj
      obtain ⟨b, off, e, _, hcell⟩ := hA (by omega)
      injection e with e; subst e
      have := hcell j (by omega) (by omega)
      simp [hjn] at hj
      subst hj
      rw [Int.toNat_natCast] at this
      unfold Addr.add
      split
      · rename_i e; subst e; exact this
      · exact this
    case c2 => intro u hu; simp at hu; obtain ⟨j, _, rfl⟩ := hu; rfl
    case c3 => unfold maxLen; omega
    case c4 => omega
    intro v' w1 hown' hg _
    go_wp2
    go_ret
    refine ⟨_, rfl, ?_, (Below.refl _ _).grown hg (Nat.le_refl _) (fun k hk => by simp [Value.ownBlock] at hk)⟩
    try rw [Nat.zero_add, List.nil_append] at hown'
    exact own_out hown' rfl

theorem ArrB.far {w : World} {B n : Nat} {A : Option Addr} {q : Int → Int} (h : ArrB w B A n q) {p : Addr} (hp : ∀ a, A = some a → a.block ≠ p.block) (u : Value) : ArrB (w.setCell p u) B A n q := fun hn => by
  obtain ⟨b, off, e, hb, hc⟩ := h hn
  exact ⟨b, off, e, hb, fun i h0 hi => (World.cell?_of_block (heap_setCell_other w p b u (hp _ e))).trans (hc i h0 hi)⟩
theorem ArrB.drew {w : World} {B n : Nat} {A : Option Addr} {q : Int → Int} (h : ArrB w B A n q) : ArrB w.drew B A n q := h
/-- an image over a fresh slice, or none -/
def OutCopy (w w' : World) (W H : Int) (n : Nat) (q : Int → Int) (v : Value) : Prop := ∃ s, v = .agg #[.int .i64 W, .int .i64 H, s] ∧ OutSl w w' n q s

set_option maxHeartbeats 1000000 in
theorem copyInk_any (W H : Int) (A : Option Addr) (n c : Nat) (p : Int → Int) (w : World) (hA : ArrB w w.heap.size A n p) (hc : A = none → c = 0) (hn : n ≤ 140737488355328) :
    Calls Try.prog 35 #[.agg #[.int .i64 W, .int .i64 H, .slice A n c]] w (New w fun v w' => OutCopy w w' W H n p v) := by
  have CB := Lib.hid fun w' hA' => copyBytes_any A n c p w' hA' hc hn
  clear hc
  go_enter Try.func35, Try.ntmps35
  go_wp2_with fail
  have k1 := (Blk.new w 29 #[.int .i64 W, .int .i64 H, .slice A n c]).alloc (.cells #[.int .i64 0, .int .i64 0, .slice none 0 0] 29)
  have k2 := Blk.new' (w := w.alloc (.cells #[.int .i64 W, .int .i64 H, .slice A n c] 29)) (World.size_alloc _ _) 29 #[.int .i64 0, .int .i64 0, .slice none 0 0]
  have b1 : Below w.heap.size w ((w.alloc (.cells #[.int .i64 W, .int .i64 H, .slice A n c] 29)).alloc (.cells #[.int .i64 0, .int .i64 0, .slice none 0 0] 29)) := by (repeat (first | exact Below.refl _ _ | assumption | refine Below.drew ?_ | refine below_drewN ?_ _ | refine Below.alloc ?_ (by first | omega | (simp; done) | (simp; omega)) _ | refine Below.setCell ?_ (by first | omega | (simp; done) | (simp; omega)) _ | refine below_setRow ?_ (by first | omega | (simp; done) | (simp; omega)) _ ))
  have hA1 := hA.to b1
  generalize (w.alloc (.cells #[.int .i64 W, .int .i64 H, .slice A n c] 29)).alloc (.cells #[.int .i64 0, .int .i64 0, .slice none 0 0] 29) = w1 at *
  clear hA
  have K1 := Lib.hid k1; have K2 := Lib.hid k2; have B1 := Lib.hid b1; have A1 := Lib.hid hA1
  obtain ⟨p1, p2, p3⟩ := k1.cells3
  obtain ⟨r1, r2, r3⟩ := k2.cells3
  obtain ⟨f1, f2, f3⟩ := k2.frozen3
  clear k1 k2 b1 hA1
  go_region_held3 (fun w' => w'.cell? ⟨w.heap.size, 0, none⟩ = some (.int .i64 W) ∧ w'.cell? ⟨w.heap.size, 1, none⟩ = some (.int .i64 H) ∧ w'.cell? ⟨w.heap.size, 2, none⟩ = some (.slice A n c))
    (simp [go_sem, *])
    (first
      | (go_at_call 21; refine (CB.out _ A1.out.drew).mono ?_; rintro e w2 ⟨_, rfl, ⟨A', c', rfl, hc', hnil', hge', ha'⟩, hb2⟩
         have k3 := K1.out.drew.below' hb2; have k4 := K2.out.drew.below' hb2
         obtain ⟨x1, x2, x3⟩ := k3.cells3; obtain ⟨y1, y2, y3⟩ := k4.cells3; obtain ⟨z1, z2, z3⟩ := k4.frozen3
         have b2 : Below w.heap.size w w2 := B1.out.drew.trans (hb2.mono B1.out.size)
         have z2 := K2.out.lt))
  go_wp2
  refine bodyPost_ret (v := .agg #[.int .i64 W, .int .i64 H, .slice A' n c']) (by simp [results, Try.results35, go_sem, y1, y2, y3]) rfl ?_
  have hfar : ∀ i, ∀ a, A' = some a → a.block ≠ (⟨w.heap.size + 1, i, none⟩ : Addr).block := fun i a e h => by
    have := hge' a e
    simp at h this
    omega
  refine ⟨_, rfl, ⟨_, rfl, A', c', rfl, hc', hnil', fun a e => ?_, ?_⟩, by (repeat (first | exact Below.refl _ _ | assumption | refine Below.drew ?_ | refine below_drewN ?_ _ | refine Below.alloc ?_ (by first | omega | (simp; done) | (simp; omega)) _ | refine Below.setCell ?_ (by first | omega | (simp; done) | (simp; omega)) _ | refine below_setRow ?_ (by first | omega | (simp; done) | (simp; omega)) _ ))⟩
  · have := hge' a e; have := B1.out.size; simp at *; omega
  · simpa using ((ha'.far (hfar 0) _).far (hfar 1) _).far (hfar 2) _
end Go.Proofs.Ytoonkpjddfiopaa
