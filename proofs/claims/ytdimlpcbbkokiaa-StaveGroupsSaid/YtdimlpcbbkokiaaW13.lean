/- Walk: CleanStraight. -/
import Derived.Test.YtdimlpcbbkokiaaW11
import Derived.Test.YtdimlpcbbkokiaaW12
namespace Go.Proofs.Ytdimlpcbbkokiaa
open Go.RowKit
set_option linter.unusedVariables false

/-! ### the best skew, in plain numbers -/
def absI (x : Int) : Int := if x < 0 then -x else x
def L7 : List Int := [0, 1, -1, 2, -2, 3, -3]
theorem fsL_spec (f : Int → Int) (l : List Int) : (∀ k ∈ l, f k ≤ (fsL f l).2) ∧ -1 ≤ (fsL f l).2 ∧
    ((fsL f l).2 = -1 ∨ ∃ pre post, l = pre ++ (fsL f l).1 :: post ∧ f (fsL f l).1 = (fsL f l).2 ∧ ∀ k ∈ pre, f k < (fsL f l).2) := by
  suffices H : ∀ r : List Int, (∀ k ∈ r.reverse, f k ≤ (fsL f r.reverse).2) ∧ -1 ≤ (fsL f r.reverse).2 ∧
      ((fsL f r.reverse).2 = -1 ∨ ∃ pre post, r.reverse = pre ++ (fsL f r.reverse).1 :: post ∧ f (fsL f r.reverse).1 = (fsL f r.reverse).2 ∧ ∀ k ∈ pre, f k < (fsL f r.reverse).2) by
    have := H l.reverse
    rwa [List.reverse_reverse] at this
  intro r
  induction r with
  | nil => simp [fsL]
  | cons x r ih =>
    rw [List.reverse_cons, fsL_snoc]
    generalize r.reverse = s at *
    obtain ⟨h1, h2, h3⟩ := ih
    generalize fsL f s = q at *
    unfold fsStep
    by_cases hx : q.2 < f x
    · rw [if_pos hx]
      refine ⟨fun k hk => ?_, by simp only; omega, .inr ⟨s, [], rfl, rfl, fun k hk => by have := h1 k hk; simp only; omega⟩⟩
      simp only
      rcases List.mem_append.1 hk with hk | hk
      · have := h1 k hk; omega
      · have : k = x := by simpa using hk
        subst this; exact Int.le_refl _
    · rw [if_neg hx]
      refine ⟨fun k hk => ?_, h2, ?_⟩
      · rcases List.mem_append.1 hk with hk | hk
        · exact h1 k hk
        · have : k = x := by simpa using hk
          subst this; omega
      · rcases h3 with h3 | ⟨pre, post, e, e2, e3⟩
        · exact .inl h3
        · exact .inr ⟨pre, post ++ [x], by rw [e]; simp, e2, e3⟩
theorem L7_order {pre post : List Int} {b k : Int} (h : L7 = pre ++ b :: post) (hk : k ∈ L7) (hp : k ∉ pre) : absI b < absI k ∨ absI b = absI k ∧ k ≤ b := by
  have hlen : pre.length + (post.length + 1) = 7 := by
    have := congrArg List.length h
    simpa [L7] using this.symm
  have hb : L7[pre.length]? = some b := by rw [h]; simp
  have hpre : pre = L7.take pre.length := by rw [h]; simp
  rw [hpre] at hp
  generalize pre.length = j at *
  have hj : j < 7 := by omega
  clear h hpre hlen
  unfold L7 at *
  match j, hj with
  | 0, _ | 1, _ | 2, _ | 3, _ | 4, _ | 5, _ | 6, _ => simp at hb hk hp; subst hb; unfold absI; rcases hk with rfl | rfl | rfl | rfl | rfl | rfl | rfl <;> simp_all
theorem best_ok {f : Int → Int} (h0 : -1 < f 0) (hf : ∀ k, -1 ≤ f k) : f (fsL f L7).1 = (fsL f L7).2 ∧ (fsL f L7).1 ∈ L7 ∧ -1 < (fsL f L7).2 ∧
    ∀ k ∈ L7, f k ≤ (fsL f L7).2 ∧ (f k = (fsL f L7).2 → absI (fsL f L7).1 < absI k ∨ absI (fsL f L7).1 = absI k ∧ k ≤ (fsL f L7).1) := by
  obtain ⟨h1, h2, h3⟩ := fsL_spec f L7
  have h4 : f 0 ≤ (fsL f L7).2 := h1 0 (by simp [L7])
  rcases h3 with h3 | ⟨pre, post, e, e2, e3⟩
  · omega
  · have hmem : ∀ b, L7 = pre ++ b :: post → b ∈ L7 := fun b h => by rw [h]; simp
    refine ⟨e2, hmem _ e, by omega, fun k hk => ⟨h1 k hk, fun he => L7_order e hk fun hp => ?_⟩⟩
    have := e3 k hp
    omega
theorem mem_L7 {k : Int} : k ∈ L7 ↔ -3 ≤ k ∧ k ≤ 3 := by
  unfold L7; simp; omega

theorem xor1_0 : bits .xor .u8 0 1 = 1 := by decide
theorem xor1_1 : bits .xor .u8 1 1 = 0 := by decide
def ArrU (w : World) (B : Nat) (A : Option Addr) (n : Nat) (q : Int → Int) : Prop := Arr w B A n fun j => .int .u16 (q j)
theorem ruQ_01 (W : Int) (L : List Int) (i : Int) : ruQ W L i = 0 ∨ ruQ W L i = 1 := by unfold ruQ; split <;> simp

theorem movE_mk {W H : Int} {n : Nat} {p : Int → Int} {k way : Int} (hc : chk W H n p = 0) (h1 : -3 ≤ k) (h2 : k ≤ 3) (h3 : 0 ≤ H + way * grt W k) (h4 : H + way * grt W k ≤ 640) : movE W H n p k way = 0 := by
  unfold movE
  rw [if_neg (by omega), if_neg (by omega), if_neg (by omega)]
theorem isB_01 {q : Int → Int} (h : ∀ i, q i = 0 ∨ q i = 1) : IsB q := fun i => by rcases h i with e | e <;> rw [e] <;> omega
theorem grt_0 (W : Int) : grt W 0 = 0 := by unfold grt; simp
theorem fsN_ok {W H : Int} {n : Nat} {p : Int → Int} {k : Int} : -1 < fsN W H n p k ↔ movE W H n p k (-1) = 0 := by
  unfold fsN
  by_cases h : movE W H n p k (-1) = 0
  · rw [if_pos h]
    have := fullP_bd W (W * (H - grt W k)).toNat (H - grt W k).toNat (movQ W H p k (-1))
    unfold fullS
    simp only [h, iff_true]; omega
  · rw [if_neg h]; simp [h]
structure CsR (w : World) (W H : Int) (N g B9 : Nat) (q : Int → Int) (wr : World) : Prop where
  bl : Below w.heap.size w wr
  k9 : Blk wr B9 24 #[.int .i64 W, .int .i64 H, .slice (some ⟨g, 0, none⟩) N N]
  kg : Blk wr g 5 (u8s N q)
  hq : ∀ i, q i = 0 ∨ q i = 1

end Go.Proofs.Ytdimlpcbbkokiaa
