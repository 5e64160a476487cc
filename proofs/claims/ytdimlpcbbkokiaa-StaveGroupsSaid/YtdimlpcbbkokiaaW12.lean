/- Walk: Ruled: images of full rows. -/
import Derived.Test.YtdimlpcbbkokiaaW3
import Derived.Test.YtdimlpcbbkokiaaLib2
import Derived.Deep.DeepCutAuto
import Derived.Deep.Cut
namespace Go.Proofs.Ytdimlpcbbkokiaa
open Go.RowKit
set_option linter.unusedVariables false

/-- the place of row number i -/
def ruY (r : Int → Int) : Nat → Int
  | 0 => r 0 % 6
  | i + 1 => ruY r i + (3 + r (i + 1) % 4)
/-- the places of the first m rows -/
def ruL (r : Int → Int) (m : Nat) : List Int := (List.range m).map (ruY r)
theorem ruL_snoc (r : Int → Int) (m : Nat) : ruL r (m + 1) = ruL r m ++ [ruY r m] := by simp [ruL, List.range_succ]
theorem ruY_bd {r : Int → Int} (hr : IsB r) (i : Nat) : 0 ≤ ruY r i ∧ ruY r i ≤ 5 + 6 * i := by
  induction i with
  | zero => have := hr 0; simp only [ruY]; omega
  | succ i ih => have := hr (i + 1); simp only [ruY]; omega
/-- y behind m rows -/
def ruE (r : Int → Int) : Nat → Int
  | 0 => 0
  | m + 1 => ruY r m

def ruM (r : Int → Int) (m : Nat) : List Int := if m = 0 then [2] else ruL r m
def ruYe (r : Int → Int) (m : Nat) : Int := if m = 0 then 2 else ruE r m
theorem ruL_len (r : Int → Int) (m : Nat) : (ruL r m).length = m := by simp [ruL]
theorem ruYe_bd {r : Int → Int} (hr : IsB r) {m : Nat} (hm : m ≤ 12) : 0 ≤ ruYe r m ∧ ruYe r m ≤ 77 := by
  unfold ruYe
  split
  · omega
  · obtain ⟨j, rfl⟩ : ∃ j, m = j + 1 := ⟨m - 1, by omega⟩
    have := ruY_bd hr j
    simp only [ruE]; omega
theorem ruY_mono {r : Int → Int} (hr : IsB r) {i j : Nat} (h : i ≤ j) : ruY r i ≤ ruY r j := by
  induction j with
  | zero => have : i = 0 := by omega
            subst this; exact Int.le_refl _
  | succ j ih =>
    by_cases e : i = j + 1
    · subst e; exact Int.le_refl _
    · have := ih (by omega)
      have := hr ((j + 1 : Nat) : Int)
      simp only [ruY]
      simp only [Int.natCast_add, Int.natCast_one] at this
      omega
theorem ruM_bd {r : Int → Int} (hr : IsB r) {m : Nat} (y : Int) (h : y ∈ ruM r m) : 0 ≤ y ∧ y ≤ ruYe r m := by
  unfold ruM ruYe at *
  split at h
  · rename_i e; rw [if_pos e]; simp at h; omega
  · rename_i e
    rw [if_neg e]
    obtain ⟨i, hi, rfl⟩ := List.mem_map.1 h
    have hi := List.mem_range.1 hi
    obtain ⟨j, rfl⟩ : ∃ j, m = j + 1 := ⟨m - 1, by omega⟩
    exact ⟨(ruY_bd hr i).1, ruY_mono hr (by omega)⟩
theorem getD_lit {l : List Int} {i : Int} (h0 : 0 ≤ i) (hi : i < l.length) : (l.map (Value.int .i64)).getD i.toNat default = .int .i64 (lit l i) := by
  unfold lit
  simp only [List.getD_eq_getElem?_getD, List.getElem?_map]
  rw [List.getElem?_eq_getElem (by omega)]
  simp

/-- the pixels of an image whose full rows are L -/
def ruQ (W : Int) (L : List Int) : Int → Int := fun k => if k / W ∈ L then 1 else 0
def ruP (W : Int) (L : List Int) (t : Nat) (x : Int) : Int → Int := fun k => if k / W ∈ L.take t ∨ (L[t]? = some (k / W) ∧ k % W < x) then 1 else 0
theorem ruP_start {W : Int} (L : List Int) {k : Int} (h0 : 0 ≤ k) (hW : 0 < W) : ruP W L 0 0 k = 0 := by
  have := Int.emod_nonneg k (show W ≠ 0 by omega)
  unfold ruP; rw [if_neg]; simp; intro _; omega
theorem ruP_end (W : Int) (L : List Int) (k : Int) : ruP W L L.length 0 k = ruQ W L k := by
  unfold ruP ruQ; simp
theorem ruP_row {W : Int} {L : List Int} {t : Nat} (ht : t < L.length) {k : Int} (hW : 0 < W) : ruP W L t W k = ruP W L (t + 1) 0 k := by
  unfold ruP
  have h1 := Int.emod_lt_of_pos k hW
  have h2 := Int.emod_nonneg k (show W ≠ 0 by omega)
  rw [List.take_add_one]
  by_cases h : L[t]? = some (k / W)
  · rw [if_pos (.inr ⟨h, h1⟩), if_pos (.inl (by rw [h]; simp))]
  · have e1 : (k / W ∈ L.take t ∨ L[t]? = some (k / W) ∧ k % W < W) ↔ k / W ∈ L.take t := ⟨fun x => x.elim id fun y => absurd y.1 h, .inl⟩
    have e2 : (k / W ∈ L.take t ++ L[t]?.toList ∨ L[t + 1]? = some (k / W) ∧ k % W < 0) ↔ k / W ∈ L.take t := by
      constructor
      · rintro (x | x)
        · rcases List.mem_append.1 x with x | x
          · exact x
          · exfalso; apply h
            cases hh : L[t]? with
            | none => rw [hh] at x; simp at x
            | some v => rw [hh] at x; simp at x; rw [x]
        · omega
      · exact fun x => .inl (List.mem_append.2 (.inl x))
    simp only [e1, e2]
theorem ruP_set {W : Int} {L : List Int} {t : Nat} (ht : t < L.length) {x k : Int} (hx0 : 0 ≤ x) (hx : x < W) :
    upd (ruP W L t x) (lit L t * W + x) 1 k = ruP W L t (x + 1) k := by
  have hL : L[t]? = some (lit L t) := by unfold lit; simp [List.getElem?_eq_getElem ht]
  unfold upd
  by_cases e : k = lit L t * W + x
  · rw [if_pos e]
    unfold ruP
    rw [e, idx_div hx0 hx, idx_mod hx0 hx, if_pos (.inr ⟨hL, by omega⟩)]
  · rw [if_neg e]
    unfold ruP
    have hne : ¬ (lit L t = k / W ∧ k % W = x) := by
      rintro ⟨h1, h2⟩
      have := Int.emod_add_mul_ediv k W
      rw [h2, ← h1, Int.mul_comm] at this
      omega
    rw [hL]
    by_cases c1 : k / W ∈ L.take t
    · rw [if_pos (.inl c1), if_pos (.inl c1)]
    · by_cases c2 : some (lit L t) = some (k / W) ∧ k % W < x
      · rw [if_pos (.inr c2), if_pos (.inr ⟨c2.1, by omega⟩)]
      · rw [if_neg (fun h => h.elim c1 c2), if_neg]
        rintro (h | ⟨h1, h2⟩)
        · exact c1 h
        · have h1' : lit L t = k / W := by simpa using h1
          by_cases h3 : k % W = x
          · exact hne ⟨h1', h3⟩
          · exact c2 ⟨h1, by omega⟩

end Go.Proofs.Ytdimlpcbbkokiaa
