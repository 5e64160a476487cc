/- Walks: how many pixels have each level; the threshold of a grey image. -/
import Derived.Test.YtdimlpcbbkokiaaW6
namespace Go.Proofs.Ytdimlpcbbkokiaa
open Go.RowKit
set_option linter.unusedVariables false

def cntS (n : Nat) (p : Int → Int) (v : Int) : Int := sumN n fun j => if p j = v then 1 else 0
theorem cntS_bd (n : Nat) (p : Int → Int) (v : Int) : 0 ≤ cntS n p v ∧ cntS n p v ≤ n := by
  have := sumN_bd (n := n) (f := fun j => if p j = v then 1 else 0) (m := 1) (fun i a b => by
    show 0 ≤ (if p i = v then (1 : Int) else 0) ∧ (if p i = v then (1 : Int) else 0) ≤ 1
    split <;> omega)
  unfold cntS; omega
theorem cntS_step {n : Nat} {p : Int → Int} (v : Int) : upd (cntS n p) (p n) (cntS n p (p n) + 1) v = cntS (n + 1) p v := by
  show (if v = p n then _ else _) = sumN (n + 1) _
  rw [sumN]
  by_cases e : v = p n
  · subst e; rw [if_pos rfl, if_pos rfl]; rfl
  · rw [if_neg e, if_neg (fun h => e h.symm)]; simp [cntS]

theorem make256 (w : World) : (Instr.makeSlice 25 (.int .i64 256) (.int .i64 256)).run Try.prog w =
    .ok (.slice (some ⟨w.heap.size, 0, none⟩) 256 256) (w.alloc (.cells (i64s 256 (fun _ => 0)) 3)) := makeI 256 (by omega) (by omega) w

/-- threshold, gap and last level behind m levels -/
def levP (c : Int → Int) : Nat → Int × Int × Int
  | 0 => (128, 0, -1)
  | m + 1 =>
    if c m = 0 then levP c m
    else if 0 ≤ (levP c m).2.2 ∧ (levP c m).2.1 < m - (levP c m).2.2 then (((levP c m).2.2 + m + 1) / 2, m - (levP c m).2.2, m)
    else ((levP c m).1, (levP c m).2.1, m)
def levelS (n : Nat) (p : Int → Int) : Int := (levP (cntS n p) 256).1
theorem levP_bd (c : Int → Int) (m : Nat) : 0 ≤ (levP c m).1 ∧ (levP c m).1 ≤ 128 + m ∧ 0 ≤ (levP c m).2.1 ∧ (levP c m).2.1 ≤ m ∧ -1 ≤ (levP c m).2.2 ∧ (levP c m).2.2 < m := by
  induction m with
  | zero => simp [levP]
  | succ m ih =>
    rw [levP]
    split
    · omega
    · split
      · simp only; omega
      · simp only; omega

end Go.Proofs.Ytdimlpcbbkokiaa
