/- Walks: the skews in their order; FindSkew. -/
import Derived.Test.YtdimlpcbbkokiaaW7
import Derived.RangeFuncNested
import Derived.RangeFuncBound
import Derived.RangeFuncCalls
import Derived.RangeFuncLeaves
import Derived.RangeFuncFrom
import Derived.Shelf.Abstract
import Derived.Shelf.RegionOpen
import Derived.OwnWalkIn
import Derived.TacticsInMore
import Derived.LoopNIn
import Derived.LoopIn
import Derived.BigGuardIn
namespace Go.Proofs.Ytdimlpcbbkokiaa
open Go.RowKit Go.Shelf
set_option linter.unusedVariables false
attribute [local go_sem] Oper.semAt_some

def skp : Nat → List Int
  | 0 => []
  | 1 => [0]
  | n + 2 => skp (n + 1) ++ [(n : Int) + 1, -((n : Int) + 1)]
theorem skp_len (n : Nat) : (skp n).length ≤ 2 * n := by
  induction n using skp.induct with
  | case1 => simp [skp]
  | case2 => simp [skp]
  | case3 n ih => simp [skp]; omega

theorem keeps_of_below {W W' : World} (h : Below W.heap.size W W') : KeepsOthers W W' :=
  ⟨h.size, fun k o hk _ => (h.block k (Array.getElem?_eq_some_iff.1 hk).1).trans hk⟩

theorem isB_mov {W H : Int} {p : Int → Int} {k way : Int} (hB : IsB p) : IsB (movQ W H p k way) := by
  intro i; unfold movQ; split
  · exact hB _
  · omega
theorem chk_mk {W H : Int} {n : Nat} {p : Int → Int} (h1 : 0 ≤ W) (h2 : W ≤ 640) (h3 : 0 ≤ H) (h4 : H ≤ 640) (hn : (n : Int) = W * H) (hp : ∀ i : Int, 0 ≤ i → i < n → p i ≤ 1) : chk W H n p = 0 := by
  unfold chk
  have hq : pixB n p = true := allN_iff.2 fun i a b => by simpa using hp i a b
  rw [if_pos (sidesB_iff.2 ⟨h1, h2, h3, h4, hn⟩), hq]; rfl
theorem chk_mov {W H h : Int} {n : Nat} {p : Int → Int} {k way : Int} (hE : movE W H n p k way = 0) (hh : h = H + way * grt W k) : chk W h (W * h).toNat (movQ W H p k way) = 0 := by
  obtain ⟨hc, hk1, hk2, hh1, hh2⟩ := movE_ok hE
  obtain ⟨hW1, hW2, hH1, hH2, hnn, hp⟩ := chk_ok hc
  subst hh
  refine chk_mk hW1 hW2 hh1 hh2 (Int.toNat_of_nonneg (area_bd hW1 hW2 hh1 hh2).1) fun i h0 hi => ?_
  rw [Int.toNat_of_nonneg (area_bd hW1 hW2 hh1 hh2).1] at hi
  unfold movQ
  split
  · rename_i hs
    have hp' : 0 < W := by
      rcases Int.lt_or_le 0 W with h | h
      · exact h
      · have : W = 0 := by omega
        subst this; simp at hi; omega
    obtain ⟨j1, j2, -⟩ := idx_lt (Int.emod_nonneg i (show W ≠ 0 by omega)) (Int.emod_lt_of_pos i hp') hs.1 hs.2
    rw [Int.mul_comm H W] at j2
    exact hp _ j1 (by omega)
  · omega

/-- how many full rows an image has when it is straightened by k; -1 if it cannot be -/
def fsN (W H : Int) (n : Nat) (p : Int → Int) (k : Int) : Int :=
  if movE W H n p k (-1) = 0 then fullS W (H - grt W k) (W * (H - grt W k)).toNat (movQ W H p k (-1)) else -1
def fsStep (f : Int → Int) (s : Int × Int) (k : Int) : Int × Int := if s.2 < f k then (k, f k) else s
def fsL (f : Int → Int) (l : List Int) : Int × Int := l.foldl (fsStep f) (0, -1)
theorem fsL_snoc (f : Int → Int) (l : List Int) (k : Int) : fsL f (l ++ [k]) = fsStep f (fsL f l) k := by simp [fsL]
def findS (W H : Int) (n : Nat) (p : Int → Int) : Int := (fsL (fsN W H n p) [0, 1, -1, 2, -2, 3, -3]).1
theorem fsL_bd {f : Int → Int} (hf : ∀ k, -1 ≤ f k ∧ f k ≤ 640) (l : List Int) : -1 ≤ (fsL f l).2 ∧ (fsL f l).2 ≤ 640 := by
  unfold fsL
  suffices ∀ s : Int × Int, (-1 ≤ s.2 ∧ s.2 ≤ 640) → -1 ≤ (l.foldl (fsStep f) s).2 ∧ (l.foldl (fsStep f) s).2 ≤ 640 from this _ (by simp)
  induction l with
  | nil => exact fun s h => h
  | cons k l ih =>
    intro s h
    refine ih _ ?_
    unfold fsStep
    split
    · exact hf k
    · exact h
theorem fsN_bd (W H : Int) (n : Nat) (p : Int → Int) (k : Int) : -1 ≤ fsN W H n p k ∧ fsN W H n p k ≤ 640 := by
  unfold fsN
  split
  · rename_i hE
    obtain ⟨hc, hk1, hk2, hh1, hh2⟩ := movE_ok hE
    have := fullP_bd W (W * (H - grt W k)).toNat (H - grt W k).toNat (movQ W H p k (-1))
    unfold fullS
    omega
  · omega

theorem ownFrom_of_below {β : Type} {B : Nat} {I : β → World → Prop} (hI : ∀ s W W', I s W → Below B W W' → I s W') (hsz : ∀ s W, I s W → B ≤ W.heap.size) : OwnFrom B I :=
  fun s W W' row hs hg hr => hI s W W' hs ((Below.refl B W).grown hg (hsz s W hs) fun k e => (hr k e).1)

end Go.Proofs.Ytdimlpcbbkokiaa
