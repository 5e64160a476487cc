/- Texts of mine in build order: S20, Q2, Q4, S21, T56. Conditions: each theorem's own. -/
import Derived.Test.YtdimlpcbbkokiaaMStaveFoundx10
/- Plain: lines that bend together are all found, one after the other, and then nothing more. No program in sight. -/
namespace Go.Proofs.Ytdimlpcbbkokiaa
open Go.RowKit
set_option linter.unusedVariables false
section
variable {N W H : Int} {c : Int → Int → Int}
theorem least_restF {F : Int → Int → Bool} {l : Int → Int} (hc : ∀ x y, 0 ≤ c x y ∧ c x y ≤ 2) (hF : ∀ x : Int, 0 ≤ x → x < W → F x (l x) = false) (hl : ∀ x : Int, 0 ≤ x → x < W → 0 ≤ l x ∧ l x < H) (hs : ∀ x : Int, 0 ≤ x → x + 1 < W → l x - 1 ≤ l (x + 1) ∧ l (x + 1) ≤ l x + 1) (k x : Nat) (hk : (x : Int) + k + 1 = W) :
    gAt N W H c F x (l x) ≤ c x (l x) + (costP c l W.toNat - costP c l (x + 1)) := by
  induction k generalizing x with
  | zero =>
    have e : (x : Int) = W - 1 := by omega
    rw [show W.toNat = x + 1 by omega]
    have h1 := gAt_last (N := N) (W := W) (H := H) (c := c) (F := F) (l x)
    rw [← e, hF x (by omega) (by omega), if_neg (by simp)] at h1
    rw [h1]
    omega
  | succ k ih =>
    have ih := ih (x + 1) (by omega)
    have hx := hl x (by omega) (by omega)
    have hx' := hl ((x : Int) + 1) (by omega) (by omega)
    have hst := hs x (by omega) (by omega)
    rw [gAt_step (by omega) (by omega), if_neg (by rw [hF x (by omega) (by omega)]; simp)]
    have lo : nxLo (l x) = if l x - 1 < 0 then 0 else l x - 1 := rfl
    obtain ⟨i, hi⟩ : ∃ i : Nat, nxLo (l x) + i = l ((x : Int) + 1) := ⟨(l ((x : Int) + 1) - nxLo (l x)).toNat, by rw [lo]; split <;> omega⟩
    have hin := (nx_in hx.1 hx.2 i).2 (by rw [hi]; omega)
    have hm := mfold_at (N := N) (f := goTo (gAt N W H c F ((x : Int) + 1)) (l x)) (lo := nxLo (l x)) hin
    rw [hi] at hm
    rw [show ((x + 1 : Nat) : Int) = (x : Int) + 1 by omega] at ih
    have hcost := costP_step c l (x + 1) (by omega)
    rw [show ((x + 1 : Nat) : Int) = (x : Int) + 1 by omega, show (x : Int) + 1 - 1 = x by omega] at hcost
    rw [hcost] at ih
    have hgo : goTo (gAt N W H c F ((x : Int) + 1)) (l x) (l ((x : Int) + 1)) = gAt N W H c F ((x : Int) + 1) (l ((x : Int) + 1)) + if l ((x : Int) + 1) = l x then 0 else 1 := rfl
    rw [hgo] at hm
    clear hgo
    by_cases h : l ((x : Int) + 1) = l x
    · rw [if_pos h] at hm
      rw [if_neg (by simp [h])] at ih
      omega
    · rw [if_neg h] at hm
      rw [if_pos h] at ih
      omega
theorem least_allF {k : Nat} {l : Int → Int} (hc : ∀ x y, 0 ≤ c x y ∧ c x y ≤ 2) (hW : 0 < W) (hF : ∀ x : Int, 0 ≤ x → x < W → FB N W H c k (l x * W + x) = false) (hl : ∀ x : Int, 0 ≤ x → x < W → 0 ≤ l x ∧ l x < H) (hs : ∀ x : Int, 0 ≤ x → x + 1 < W → l x - 1 ≤ l (x + 1) ∧ l (x + 1) ≤ l x + 1) :
    GC N W H c k ≤ costP c l W.toNat := by
  have h1 := least_restF (N := N) (F := fun x y => FB N W H c k (y * W + x)) hc hF hl hs (W.toNat - 1) 0 (by omega)
  have h0 := hl 0 (by omega) hW
  have h2 := fmin_le (g := gAt N W H c (fun x y => FB N W H c k (y * W + x)) 0) (n := H.toNat) (i := l 0) h0.1 (by omega)
  have e : GC N W H c k = gAt N W H c (fun x y => FB N W H c k (y * W + x)) 0 (fmin (gAt N W H c (fun x y => FB N W H c k (y * W + x)) 0) H.toNat) := rfl
  rw [e]
  have h3 : costP c l (0 + 1) = c 0 (l 0) := by simp [costP]
  rw [h3] at h1
  simp only [Int.natCast_zero] at h1
  omega
end
/-- k lines are found: us in the order of finding; rs are left -/
structure Fnd (N W H : Int) (c : Int → Int → Int) (T : Nat) (C : Nat → Int) (R : Int → Int) (k : Nat) (us rs : List Nat) : Prop where
  perm : (us ++ rs).Perm (List.range T)
  len : us.length = k
  ln : ∀ j, j < k → Good N W H c j ∧ ∀ x : Nat, (x : Int) < W → LN N W H c j x = C (us.getD j 0) + R x
section
variable {N W H : Int} {c : Int → Int → Int} {T : Nat} {C : Nat → Int} {R : Int → Int} {k : Nat} {us rs : List Nat}
theorem getD_mem {us : List Nat} {j : Nat} (h : j < us.length) : us.getD j 0 ∈ us := by
  rw [List.getD_eq_getElem?_getD, List.getElem?_eq_getElem h]
  exact List.getElem_mem h
theorem mem_getD {us : List Nat} {t : Nat} (h : t ∈ us) : ∃ j, j < us.length ∧ us.getD j 0 = t := by
  obtain ⟨j, hj, e⟩ := List.getElem_of_mem h
  exact ⟨j, hj, by rw [List.getD_eq_getElem?_getD, List.getElem?_eq_getElem hj]; exact e⟩
theorem Fnd.fb (h : Fnd N W H c T C R k us rs) (hW : 0 < W) (m : Nat) (hm : m ≤ k) (i : Int) : FB N W H c m i = true ↔ ∃ j, j < m ∧ C (us.getD j 0) + R (i % W) - 2 ≤ i / W ∧ i / W ≤ C (us.getD j 0) + R (i % W) + 2 := by
  have h1 : 0 ≤ i % W := Int.emod_nonneg _ (by omega)
  have h2 : i % W < W := Int.emod_lt_of_pos _ hW
  induction m with
  | zero => simp [FB]
  | succ m ih =>
    have e : pathP N W H c (fun x y => FB N W H c m (y * W + x)) (i % W).toNat = C (us.getD m 0) + R (i % W) := by
      have := (h.ln m (by omega)).2 (i % W).toNat (by omega)
      rw [Int.toNat_of_nonneg h1] at this
      exact this
    rw [FB]
    unfold mkF
    have ih := ih (by omega)
    rw [Bool.or_eq_true, decide_eq_true_iff, e]
    constructor
    · rintro (a | a)
      · obtain ⟨j, hj, a⟩ := ih.1 a
        exact ⟨j, by omega, a⟩
      · exact ⟨m, by omega, a⟩
    · rintro ⟨j, hj, a⟩
      by_cases e : j = m
      · subst e; exact .inr a
      · exact .inl (ih.2 ⟨j, by omega, a⟩)
theorem Fnd.nodup (h : Fnd N W H c T C R k us rs) : (us ++ rs).Nodup := h.perm.nodup_iff.2 List.nodup_range
theorem Fnd.lt (h : Fnd N W H c T C R k us rs) {t : Nat} (ht : t ∈ us ++ rs) : t < T := List.mem_range.1 (h.perm.mem_iff.1 ht)
theorem Fnd.apart (h : Fnd N W H c T C R k us rs) {a b : Nat} (ha : a ∈ us) (hb : b ∈ rs) : a ≠ b := (List.nodup_append.1 h.nodup).2.2 a ha b hb
theorem Fnd.next (h : Fnd N W H c T C R k us rs) (hL : Lns c W T C R) (hc : ∀ x y, 0 ≤ c x y ∧ c x y ≤ 2) (hN : 3 * W < N) (hW : 0 < W) (hH : 0 < H) (hin : ∀ t (x : Int), t < T → 0 ≤ x → x < W → 0 ≤ C t + R x ∧ C t + R x < H) (h8 : 8 * bnd R W.toNat ≤ W) (hk : k < T) :
    ∃ s, Fnd N W H c T C R (k + 1) (us ++ [s]) (rs.erase s) := by
  have hlen := h.perm.length_eq
  rw [List.length_append, List.length_range, h.len] at hlen
  obtain ⟨t, ht⟩ : ∃ t, t ∈ rs := by
    cases rs with
    | nil => simp at hlen; omega
    | cons a r => exact ⟨a, List.mem_cons_self⟩
  have htT := h.lt (List.mem_append.2 (.inr ht))
  have hF : ∀ x : Int, 0 ≤ x → x < W → FB N W H c k ((C t + R x) * W + x) = false := fun x x0 x1 => by
    rw [Bool.eq_false_iff]
    intro hf
    obtain ⟨j, hj, a, b⟩ := (h.fb hW k (Nat.le_refl _) _).1 hf
    rw [idx_div x0 x1, idx_mod x0 x1] at a b
    have hu := getD_mem (us := us) (j := j) (by rw [h.len]; exact hj)
    have e := hL.one (h.lt (List.mem_append.2 (.inl hu))) htT (by omega) (by omega)
    exact h.apart hu ht e
  have hG := least_allF (N := N) (H := H) (l := fun x => C t + R x) hc hW hF (fun x x0 x1 => hin t x htT x0 x1) (fun x x0 x1 => by have := hL.near x x0 x1; show C t + R x - 1 ≤ C t + R (x + 1) ∧ C t + R (x + 1) ≤ C t + R x + 1; omega)
  rw [hL.cost htT W.toNat (by omega)] at hG
  have hg : GC N W H c k < N := by omega
  have hcost := ln_cost hc hN hW hH hg
  obtain ⟨s, hs, hsl⟩ := hL.least (l := fun i => LN N W H c k i.toNat) (n := W.toNat) (by omega) (by omega) (fun x x0 x1 => by
    have := ln_step hc hN hW hH hg x.toNat (by omega)
    show -1 ≤ LN N W H c k (x + 1).toNat - LN N W H c k x.toNat ∧ LN N W H c k (x + 1).toNat - LN N W H c k x.toNat ≤ 1
    rw [show (x + 1).toNat = x.toNat + 1 by omega]
    omega) (by rw [hcost]; exact hG)
  have hsl2 : ∀ x : Nat, (x : Int) < W → LN N W H c k x = C s + R x := fun x hx => by
    have := hsl x (by omega)
    rwa [Int.toNat_natCast] at this
  have hsu : s ∉ us := fun hm => by
    obtain ⟨j, hj, e⟩ := mem_getD hm
    have h3 := (ln_ok hc hN hW hH hg 0 (by omega)).2.2
    have h4 : FB N W H c k (LN N W H c k 0 * W + ((0 : Nat) : Int)) = true := (h.fb hW k (Nat.le_refl _) _).2 ⟨j, by rw [← h.len]; exact hj, by
      have := hsl2 0 (by omega)
      rw [idx_div (by omega) (by omega), idx_mod (by omega) (by omega), e, this]
      omega⟩
    rw [h4] at h3; cases h3
  have hsr : s ∈ rs := by
    rcases List.mem_append.1 (h.perm.mem_iff.2 (List.mem_range.2 hs)) with g | g
    · exact absurd g hsu
    · exact g
  refine ⟨s, ?_, by rw [List.length_append, h.len]; rfl, fun j hj => ?_⟩
  · rw [List.append_assoc]
    exact ((List.perm_cons_erase hsr).symm.append_left us).trans h.perm
  · by_cases e : j = k
    · subst e
      refine ⟨⟨hg, by omega⟩, fun x hx => ?_⟩
      rw [hsl2 x hx, List.getD_eq_getElem?_getD, List.getElem?_append_right (by rw [h.len]; exact Nat.le_refl _), h.len, Nat.sub_self]
      rfl
    · obtain ⟨a, b⟩ := h.ln j (by omega)
      refine ⟨a, fun x hx => ?_⟩
      rw [b x hx, List.getD_eq_getElem?_getD, List.getD_eq_getElem?_getD, List.getElem?_append_left (by rw [h.len]; omega)]
theorem Fnd.stop (h : Fnd N W H c T C R T us rs) (hL : Lns c W T C R) (hc : ∀ x y, 0 ≤ c x y ∧ c x y ≤ 2) (hN : 3 * W < N) (hW : 0 < W) (hH : 0 < H) : ¬ Good N W H c T := by
  rintro ⟨hg, h8⟩
  have hlen := h.perm.length_eq
  rw [List.length_append, List.length_range, h.len] at hlen
  have hrs : rs = [] := List.eq_nil_of_length_eq_zero (by omega)
  have ho := hL.off (l := fun i => LN N W H c T i.toNat) W.toNat (by omega) fun j hj t ht e => by
    have e : LN N W H c T (j : Int).toNat = C t + R j := e
    rw [Int.toNat_natCast] at e
    have hm := h.perm.mem_iff.2 (List.mem_range.2 ht)
    rw [hrs, List.append_nil] at hm
    obtain ⟨i, hi, e2⟩ := mem_getD hm
    have h3 := (ln_ok hc hN hW hH hg j (by omega)).2.2
    have h4 : FB N W H c T (LN N W H c T j * W + (j : Int)) = true := (h.fb hW T (Nat.le_refl _) _).2 ⟨i, by rw [← h.len]; exact hi, by
      rw [idx_div (by omega) (by omega), idx_mod (by omega) (by omega), e2, e]
      omega⟩
    rw [h4] at h3; cases h3
  rw [ln_cost hc hN hW hH hg] at ho
  omega
theorem Fnd.all (hL : Lns c W T C R) (hc : ∀ x y, 0 ≤ c x y ∧ c x y ≤ 2) (hN : 3 * W < N) (hW : 0 < W) (hH : 0 < H) (hin : ∀ t (x : Int), t < T → 0 ≤ x → x < W → 0 ≤ C t + R x ∧ C t + R x < H) (h8 : 8 * bnd R W.toNat ≤ W) : ∀ k, k ≤ T → ∃ us rs, Fnd N W H c T C R k us rs
  | 0, _ => ⟨[], List.range T, List.Perm.refl _, rfl, fun j hj => by omega⟩
  | k + 1, hk => by
    obtain ⟨us, rs, h⟩ := Fnd.all hL hc hN hW hH hin h8 k (by omega)
    obtain ⟨s, hs⟩ := h.next hL hc hN hW hH hin h8 (by omega)
    exact ⟨_, _, hs⟩
/-- they are all found, and in their order they are the lines -/
theorem found_all (hL : Lns c W T C R) (hc : ∀ x y, 0 ≤ c x y ∧ c x y ≤ 2) (hN : 3 * W < N) (hW : 0 < W) (hH : 0 < H) (hin : ∀ t (x : Int), t < T → 0 ≤ x → x < W → 0 ≤ C t + R x ∧ C t + R x < H) (h8 : 8 * bnd R W.toNat ≤ W) (hT : T ≤ 60) :
    Many N W H c T ∧ ∀ l : List Nat, l.Perm (List.range T) → l.Pairwise (fun i j => LN N W H c i 0 ≤ LN N W H c j 0) → ∀ j, j < T → ∀ x : Nat, (x : Int) < W → LN N W H c (l.getD j 0) x = C j + R x := by
  obtain ⟨us, rs, h⟩ := Fnd.all (H := H) hL hc hN hW hH hin h8 T (Nat.le_refl _)
  refine ⟨⟨hT, fun j hj => (h.ln j hj).1, fun _ => h.stop hL hc hN hW hH⟩, fun l hp hs j hj x hx => ?_⟩
  have hlen := h.perm.length_eq
  rw [List.length_append, List.length_range, h.len] at hlen
  have hrs : rs = [] := List.eq_nil_of_length_eq_zero (by omega)
  have hup := h.perm
  rw [hrs, List.append_nil] at hup
  have hll := hp.length_eq
  rw [List.length_range] at hll
  have e1 : (List.range T).map (fun i => us.getD i 0) = us := by
    apply List.ext_getElem?
    intro i
    by_cases hi : i < T
    · rw [List.getElem?_map, List.getElem?_range hi, List.getElem?_eq_getElem (by rw [h.len]; exact hi), Option.map_some, List.getD_eq_getElem?_getD, List.getElem?_eq_getElem (by rw [h.len]; exact hi)]
      rfl
    · rw [List.getElem?_eq_none (by simp; omega), List.getElem?_eq_none (by rw [h.len]; omega)]
  have hu : (l.map fun i => us.getD i 0).Perm (List.range T) := by
    have := hp.map fun i => us.getD i 0
    rw [e1] at this
    exact this.trans hup
  have hmem : ∀ i, i ∈ l → i < T := fun i hi => List.mem_range.1 (hp.mem_iff.1 hi)
  have hsrt : (l.map fun i => us.getD i 0).Pairwise fun a b => C a ≤ C b := by
    rw [List.pairwise_map]
    refine hs.imp_of_mem fun {a b} ha hb hab => ?_
    have h1 := (h.ln a (hmem a ha)).2 0 (by omega)
    have h2 := (h.ln b (hmem b hb)).2 0 (by omega)
    rw [h1, h2] at hab
    omega
  have hrg : (List.range T).Pairwise fun a b => C a ≤ C b := by
    refine List.Pairwise.imp_of_mem (R := fun a b => a < b) (fun {a b} ha hb hab => ?_) List.pairwise_lt_range
    have := hL.lt hab (List.mem_range.1 hb)
    omega
  have hun : (l.map fun i => us.getD i 0) = List.range T := sorted_uniq (key := C) hu hsrt hrg fun i j hi hj e => hL.one (List.mem_range.1 (hu.mem_iff.1 hi)) (List.mem_range.1 (hu.mem_iff.1 hj)) (by omega) (by omega)
  have hjl : l.getD j 0 < T := hmem _ (getD_mem (by omega))
  rw [(h.ln _ hjl).2 x hx]
  have e2 : us.getD (l.getD j 0) 0 = j := by
    have e3 : (l.map fun i => us.getD i 0)[j]? = some j := by rw [hun, List.getElem?_range hj]
    rw [List.getElem?_map, List.getElem?_eq_getElem (by omega), Option.map_some] at e3
    rw [List.getD_eq_getElem?_getD (l := l), List.getElem?_eq_getElem (by omega)]
    exact Option.some.inj e3
  rw [e2]
end
end Go.Proofs.Ytdimlpcbbkokiaa

/- Plain laws: the greatest of the drops; the errors and the images of the reference's moves. No program in sight. -/
namespace Go.Proofs.Ytdimlpcbbkokiaa
open Go.RowKit
set_option linter.unusedVariables false

def mxS (W k : Int) : Nat → Int
  | 0 => 0
  | n + 1 => if mxS W k n ≤ dropI W k n then dropI W k n else mxS W k n
theorem mxS_eq {W k : Int} (h3 : -3 ≤ k) (h4 : k ≤ 3) (n : Nat) (hn : n ≤ W) : mxS W k n = if n = 0 then 0 else if k < 0 then (W - 1) * (-k) / 64 else ((n : Int) - 1) * k / 64 := by
  induction n with
  | zero => rfl
  | succ n ih =>
    rw [mxS, ih (by omega)]
    unfold dropI
    rcases (by omega : k = -3 ∨ k = -2 ∨ k = -1 ∨ k = 0 ∨ k = 1 ∨ k = 2 ∨ k = 3) with rfl | rfl | rfl | rfl | rfl | rfl | rfl <;> simp only [reduceIte, Int.reduceNeg, Int.reduceLT, Int.neg_neg] <;> by_cases e : n = 0
    all_goals first | subst e | skip
    all_goals simp only [*, reduceIte, Nat.reduceAdd, Int.natCast_add, Int.natCast_one, Int.natCast_zero, Int.sub_zero, Nat.add_eq_zero_iff, Nat.succ_ne_zero, and_false]
    all_goals (split <;> omega)
theorem mxS_grt {W k : Int} (h1 : 0 ≤ W) (h3 : -3 ≤ k) (h4 : k ≤ 3) : mxS W k W.toNat = grt W k := by
  rw [mxS_eq h3 h4 _ (by omega)]
  unfold grt
  rcases (by omega : k = -3 ∨ k = -2 ∨ k = -1 ∨ k = 0 ∨ k = 1 ∨ k = 2 ∨ k = 3) with rfl | rfl | rfl | rfl | rfl | rfl | rfl <;> (simp only [reduceIte, Int.reduceNeg, Int.reduceLT, Int.neg_neg]; split <;> split <;> omega)
theorem mxS_bd {W k : Int} (h2 : W ≤ 640) (h3 : -3 ≤ k) (h4 : k ≤ 3) (n : Nat) (hn : n ≤ W) : 0 ≤ mxS W k n ∧ mxS W k n ≤ 29 := by
  rw [mxS_eq h3 h4 _ hn]
  rcases (by omega : k = -3 ∨ k = -2 ∨ k = -1 ∨ k = 0 ∨ k = 1 ∨ k = 2 ∨ k = 3) with rfl | rfl | rfl | rfl | rfl | rfl | rfl <;> (simp only [reduceIte, Int.reduceNeg, Int.reduceLT, Int.neg_neg]; split <;> omega)
theorem mxS_up {W k : Int} {n : Nat} (h : mxS W k n ≤ dropI W k n) : mxS W k (n + 1) = dropI W k n := by rw [mxS, if_pos h]
theorem mxS_no {W k : Int} {n : Nat} (h : ¬ mxS W k n ≤ dropI W k n) : mxS W k (n + 1) = mxS W k n := by rw [mxS, if_neg h]

/-- what the reference has drawn before the place (x, y), row by row of the new image -/
def drawR (W H : Int) (p : Int → Int) (k way y x : Int) : Int → Int := fun i => if i / W < y ∨ i / W = y ∧ i % W < x then movR W H p k way i else 0
theorem drawR_start {W H : Int} {p : Int → Int} {k way i : Int} (h0 : 0 ≤ i) (hW : 0 ≤ W) : drawR W H p k way 0 0 i = 0 := by
  unfold drawR
  have := emod_nn h0 hW
  have h2 : 0 ≤ i / W := Int.ediv_nonneg h0 hW
  rw [if_neg (by omega)]
theorem drawR_row {W h H : Int} {p : Int → Int} {k way y i : Int} (hW : 0 ≤ W) (h0 : 0 ≤ i) (hi : i < W * h) : drawR W H p k way y W i = drawR W H p k way (y + 1) 0 i := by
  have hW' : 0 < W := by
    rcases Int.lt_or_le 0 W with h | h
    · exact h
    · obtain rfl : W = 0 := by omega
      simp at hi; omega
  have h1 : 0 ≤ i % W := Int.emod_nonneg _ (by omega)
  have h2 : i % W < W := Int.emod_lt_of_pos _ hW'
  unfold drawR
  by_cases e : i / W < y + 1
  · rw [if_pos (by omega), if_pos (by omega)]
  · rw [if_neg (by omega), if_neg (by omega)]
theorem drawR_end {W h H : Int} {p : Int → Int} {k way i : Int} (hW : 0 ≤ W) (h0 : 0 ≤ i) (hi : i < W * h) : drawR W H p k way h 0 i = movR W H p k way i := by
  have hW' : 0 < W := by
    rcases Int.lt_or_le 0 W with h | h
    · exact h
    · obtain rfl : W = 0 := by omega
      simp at hi; omega
  have : i / W < h := Int.ediv_lt_of_lt_mul hW' (by rw [Int.mul_comm]; exact hi)
  unfold drawR
  rw [if_pos (by omega)]
theorem drawR_yes {W H : Int} {p : Int → Int} {k way y x i : Int} (hx0 : 0 ≤ x) (hx : x < W) (h : inkB W H p x (y - way * dropI W k x) = true) : upd (drawR W H p k way y x) (y * W + x) 1 i = drawR W H p k way y (x + 1) i := by
  have a := idx_mod (y := y) hx0 hx
  have b := idx_div (y := y) hx0 hx
  show (if i = y * W + x then (1 : Int) else drawR W H p k way y x i) = _
  by_cases e : i = y * W + x
  · rw [if_pos e]; subst e
    unfold drawR movR
    rw [a, b, if_pos (by omega), if_pos h]
  · rw [if_neg e]
    unfold drawR
    have : ¬ (i / W = y ∧ i % W = x) := fun ⟨h1, h2⟩ => e (by
      have := Int.emod_add_mul_ediv i W
      rw [h1, h2, Int.mul_comm] at this; omega)
    by_cases e2 : i / W < y ∨ i / W = y ∧ i % W < x
    · rw [if_pos e2, if_pos (by omega)]
    · rw [if_neg e2, if_neg (by omega)]
theorem drawR_no {W H : Int} {p : Int → Int} {k way y x i : Int} (hx0 : 0 ≤ x) (hx : x < W) (h : inkB W H p x (y - way * dropI W k x) = false) : drawR W H p k way y x i = drawR W H p k way y (x + 1) i := by
  have a := idx_mod (y := y) hx0 hx
  have b := idx_div (y := y) hx0 hx
  unfold drawR
  by_cases e : i / W = y ∧ i % W = x
  · rw [if_neg (by omega), if_pos (by omega)]
    unfold movR
    rw [e.1, e.2, if_neg (by rw [h]; simp)]
  · by_cases e2 : i / W < y ∨ i / W = y ∧ i % W < x
    · rw [if_pos e2, if_pos (by omega)]
    · rw [if_neg e2, if_neg (by omega)]

/-- the row y is full before the place x -/
theorem rowB_step (p : Int → Int) (b : Int) (x : Nat) : rowB (x + 1) p b = (rowB x p b && decide (p (b + x) = 1)) := rfl
theorem fullR_yes {W : Int} {p : Int → Int} {m : Nat} (h : 0 < W) (e : rowB W.toNat p (m * W) = true) : fullR W p (m + 1) = fullR W p m + 1 := by
  unfold fullR; rw [if_pos h, if_pos h, sumN, if_pos e]
theorem fullR_no {W : Int} {p : Int → Int} {m : Nat} (h : 0 < W) (e : rowB W.toNat p (m * W) = false) : fullR W p (m + 1) = fullR W p m := by
  unfold fullR; rw [if_pos h, if_pos h, sumN, if_neg (by rw [e]; simp)]; simp
end Go.Proofs.Ytdimlpcbbkokiaa

/- Plain laws: a skew and back is the image again; the sums of the columns stay; the drops of neighbouring columns. No program in sight. -/
namespace Go.Proofs.Ytdimlpcbbkokiaa
open Go.RowKit
set_option linter.unusedVariables false

theorem drop_le_grt {W k x : Int} (h3 : -3 ≤ k) (h4 : k ≤ 3) (h5 : 0 ≤ x) (h6 : x < W) : dropI W k x ≤ grt W k := by
  unfold dropI grt
  rcases (by omega : k = -3 ∨ k = -2 ∨ k = -1 ∨ k = 0 ∨ k = 1 ∨ k = 2 ∨ k = 3) with rfl | rfl | rfl | rfl | rfl | rfl | rfl <;> (simp only [reduceIte, Int.reduceNeg, Int.reduceLT, Int.neg_neg]; split <;> omega)
theorem drop_step {W k x : Int} (h3 : -3 ≤ k) (h4 : k ≤ 3) : (dropI W k x - dropI W k (x - 1) ≤ 1 ∧ dropI W k (x - 1) - dropI W k x ≤ 1) ∧ (0 < k → dropI W k (x - 1) ≤ dropI W k x) ∧ (k < 0 → dropI W k x ≤ dropI W k (x - 1)) ∧ (k = 0 → dropI W k x = 0) := by
  unfold dropI
  rcases (by omega : k = -3 ∨ k = -2 ∨ k = -1 ∨ k = 0 ∨ k = 1 ∨ k = 2 ∨ k = 3) with rfl | rfl | rfl | rfl | rfl | rfl | rfl <;> (simp only [reduceIte, Int.reduceNeg, Int.reduceLT, Int.neg_neg]; refine ⟨⟨?_, ?_⟩, fun _ => ?_, fun _ => ?_, fun _ => ?_⟩ <;> first | omega | contradiction)

theorem sumN_add (a b : Nat) (f : Int → Int) : sumN (a + b) f = sumN a f + sumN b (fun i => f (a + i)) := by
  induction b with
  | zero => simp [sumN]
  | succ b ih => rw [← Nat.add_assoc, sumN, sumN, ih, Int.natCast_add]; omega
theorem sumN_zero {n : Nat} {f : Int → Int} (h : ∀ i : Int, 0 ≤ i → i < n → f i = 0) : sumN n f = 0 := by
  rw [sumN_congr (g := fun _ => 0) h]
  induction n with
  | zero => rfl
  | succ n ih => rw [sumN, ih (fun i a b => h i a (by omega))]; rfl
theorem sumN_single {n : Nat} {f : Int → Int} {x : Int} (h0 : 0 ≤ x) (h : x < n) : sumN n (fun j => if j = x then f j else 0) = f x := by
  induction n with
  | zero => omega
  | succ n ih =>
    rw [sumN]
    by_cases e : x = n
    · subst e; rw [if_pos rfl, sumN_zero (fun i a b => if_neg (by omega))]; omega
    · rw [if_neg (by omega), ih (by omega)]; omega
theorem colS_rows {W : Nat} {p : Int → Int} {x : Int} (h0 : 0 ≤ x) (hx : x < W) (H : Nat) : colS W (H * W) p x = sumN H (fun y => p (y * W + x)) := by
  induction H with
  | zero => simp [colS, sumN]
  | succ H ih =>
    rw [sumN, ← ih, Nat.add_mul, Nat.one_mul]
    unfold colS
    rw [sumN_add]
    congr 1
    rw [← sumN_single (f := fun j => p (H * W + j)) h0 hx]
    refine sumN_congr fun j a b => ?_
    rw [Int.natCast_mul, idx_mod a b]
theorem sumN_shift {h H d : Nat} {f : Int → Int} (hd : d + H ≤ h) : sumN h (fun t => if 0 ≤ t - (d : Int) ∧ t - (d : Int) < H then f (t - d) else 0) = sumN H f := by
  obtain ⟨r, rfl⟩ : ∃ r, h = d + H + r := ⟨h - (d + H), by omega⟩
  rw [sumN_add, sumN_add, sumN_zero (n := d) (fun i a b => if_neg (by omega)), sumN_zero (n := r) (fun i a b => if_neg (by omega)), sumN_congr (n := H) (g := f) (fun i a b => by
    show (if _ then _ else _) = _
    rw [if_pos (by omega)]; congr 1; omega)]
  omega
theorem mov_at {W H h : Int} {p : Int → Int} {k way : Int} {x y : Int} (hx0 : 0 ≤ x) (hx : x < W) : movQ W H p k way (y * W + x) = if 0 ≤ y - way * dropI W k x ∧ y - way * dropI W k x < H then p ((y - way * dropI W k x) * W + x) else 0 := by
  unfold movQ; rw [idx_div hx0 hx, idx_mod hx0 hx]
theorem colS_mov {W H h : Int} {n m : Nat} {p : Int → Int} {k : Int} (hn : (n : Int) = W * H) (hm : (m : Int) = W * h) (hH : 0 ≤ H) (h3 : -3 ≤ k) (h4 : k ≤ 3) (hW2 : W ≤ 640) (hh : h = H + grt W k) {x : Int} (h0 : 0 ≤ x) (hx : x < W) :
    colS W m (movQ W H p k 1) x = colS W n p x := by
  have g1 := drop_le_grt (W := W) h3 h4 h0 hx
  obtain ⟨g2, _⟩ := drop_bd hW2 h3 h4 h0 hx
  obtain ⟨Wn, rfl⟩ : ∃ Wn : Nat, W = Wn := ⟨W.toNat, by omega⟩
  obtain ⟨Hn, rfl⟩ : ∃ Hn : Nat, H = Hn := ⟨H.toNat, by omega⟩
  obtain ⟨hN, rfl⟩ : ∃ hN : Nat, h = hN := ⟨h.toNat, by omega⟩
  have e1 : n = Hn * Wn := by rw [Int.mul_comm, ← Int.natCast_mul] at hn; omega
  have e2 : m = hN * Wn := by rw [Int.mul_comm, ← Int.natCast_mul] at hm; omega
  rw [e1, e2, colS_rows h0 hx, colS_rows h0 hx]
  obtain ⟨d, hd⟩ : ∃ d : Nat, dropI Wn k x = d := ⟨(dropI Wn k x).toNat, by omega⟩
  rw [← sumN_shift (h := hN) (d := d) (f := fun y => p (y * Wn + x)) (by omega)]
  refine sumN_congr fun i a b => ?_
  rw [mov_at (h := 0) h0 hx, Int.one_mul, hd]
theorem mov_back {W H h : Int} {n : Nat} {p : Int → Int} {k : Int} (hn : (n : Int) = W * H) (hW : 0 ≤ W) (h3 : -3 ≤ k) (h4 : k ≤ 3) (hW2 : W ≤ 640) (hh : h = H + grt W k) {i : Int} (h0 : 0 ≤ i) (hi : i < n) :
    movQ W h (movQ W H p k 1) k (-1) i = p i := by
  have hW' : 0 < W := by
    rcases Int.lt_or_le 0 W with h | h
    · exact h
    · obtain rfl : W = 0 := by omega
      simp at hn; omega
  obtain ⟨x, y, x0, x1, y0, y1, rfl, _, _⟩ := idx_of (H := H) h0 hW' (by rw [Int.mul_comm]; omega)
  have g1 := drop_le_grt (W := W) h3 h4 x0 x1
  obtain ⟨g2, _⟩ := drop_bd hW2 h3 h4 x0 x1
  rw [mov_at (h := 0) x0 x1, if_pos (by omega), mov_at (h := 0) x0 x1, if_pos (by omega)]
  rw [show y - -1 * dropI W k x - 1 * dropI W k x = y by omega]
end Go.Proofs.Ytdimlpcbbkokiaa

/- Plain: the image of Wavy: its lines are found and grouped as they were drawn; each strip has five full rows; nothing is left. No program in sight. -/
namespace Go.Proofs.Ytdimlpcbbkokiaa
open Go.RowKit
set_option linter.unusedVariables false
/-- where line t lies, before it bends -/
def wvC (low : Int) (t : Nat) : Int := 5 - low + ((t / 5 : Nat) : Int) * 36 + 6 * ((t % 5 : Nat) : Int)
theorem wvL_C (low : Int) (R : Int → Int) (t j : Nat) : wvL low R t j = wvC low t + R j := rfl
section
variable {W : Int} {L : Nat → Nat → Int} {T : Nat} {i : Int}
theorem wvQ_iff (hW : 0 < W) : wvQ W L T 0 i = 1 ↔ ∃ s, s < T ∧ L s (i % W).toNat = i / W := by
  have m0 := Int.emod_nonneg i (show W ≠ 0 by omega)
  unfold wvQ
  constructor
  · intro h
    split at h
    · rename_i c
      rcases c with c | c
      · obtain ⟨s, h1, h2⟩ := List.any_eq_true.1 c
        exact ⟨s, List.mem_range.1 h1, of_decide_eq_true h2⟩
      · omega
    · omega
  · rintro ⟨s, h1, h2⟩
    rw [if_pos (.inl (List.any_eq_true.2 ⟨s, List.mem_range.2 h1, decide_eq_true h2⟩))]
end
theorem wavy_lns (p : Int → Int) (W low : Int) (T M : Nat) (hW : 0 < W) : Lns (cst (wvQ W (wvL low (rsF p M)) T 0) W) W T (wvC low) (rsF p M) where
  ink := fun t x ht x0 x1 => by
    unfold cst
    rw [if_pos]
    rw [wvQ_iff hW]
    refine ⟨t, ht, ?_⟩
    rw [idx_mod x0 x1, idx_div x0 x1, wvL_C, Int.toNat_of_nonneg x0]
  paper := fun x y x0 x1 hno => by
    unfold cst
    rw [if_neg]
    rw [wvQ_iff hW]
    rintro ⟨s, hs, e⟩
    rw [idx_mod x0 x1, idx_div x0 x1, wvL_C, Int.toNat_of_nonneg x0] at e
    exact hno s hs e.symm
  far := fun t _ => by unfold wvC; omega
  near := fun x _ _ => (rsF_near M x).1
  rare := fun x _ _ h => bend_rare M x h
section
variable {W H low high : Int} {k ns M : Nat} {p : Int → Int}
theorem wvC_bd {t : Nat} (ht : t < 5 * ns) : 5 - low ≤ wvC low t ∧ wvC low t + 12 ≤ 5 - low + (ns : Int) * 36 := by unfold wvC; omega
theorem wavy_in (hH : H = 5 + (high - low) + (ns : Int) * 24 + ((ns : Int) - 1) * 12 + 6) (hR : ∀ x : Int, 0 ≤ x → x < W → low ≤ rsF p M x ∧ rsF p M x ≤ high) (t : Nat) (x : Int) (ht : t < 5 * ns) (x0 : 0 ≤ x) (x1 : x < W) : 0 ≤ wvC low t + rsF p M x ∧ wvC low t + rsF p M x < H := by
  have h1 := wvC_bd (low := low) ht
  have h2 := hR x x0 x1
  omega
/-- the lines are all found -/
theorem wavy_found (hW : 0 < W) (hW2 : W ≤ 640) (hH : H = 5 + (high - low) + (ns : Int) * 24 + ((ns : Int) - 1) * 12 + 6) (hH0 : 0 < H) (hns : ns ≤ 3) (hR : ∀ x : Int, 0 ≤ x → x < W → low ≤ rsF p M x ∧ rsF p M x ≤ high) :
    Many 1073741824 W H (cst (wvQ W (wvL low (rsF p M)) (5 * ns) 0) W) (5 * ns) ∧ ∀ l : List Nat, l.Perm (List.range (5 * ns)) → l.Pairwise (fun i j => LN 1073741824 W H (cst (wvQ W (wvL low (rsF p M)) (5 * ns) 0) W) i 0 ≤ LN 1073741824 W H (cst (wvQ W (wvL low (rsF p M)) (5 * ns) 0) W) j 0) → ∀ j, j < 5 * ns → ∀ x : Nat, (x : Int) < W → LN 1073741824 W H (cst (wvQ W (wvL low (rsF p M)) (5 * ns) 0) W) (l.getD j 0) x = wvL low (rsF p M) j x := by
  have h8 := bend_8 (p := p) M W.toNat (by omega)
  exact found_all (wavy_lns p W low (5 * ns) M hW) (cst_bd _ W) (by omega) hW hH0 (wavy_in hH hR) (by omega) (by omega)
end
/-! ### groups -/
theorem stS_all {e : Nat → Bool} : ∀ (n i0 : Nat), (∀ i, i < n → e (i0 + 5 * i) = true) → stS e (5 * n) i0 = (List.range n).map fun i => i0 + 5 * i
  | 0, i0, _ => by rw [stS_few (by omega)]; rfl
  | n + 1, i0, h => by
    rw [stS_yes (by omega) (by have := h 0 (by omega); simpa using this), show 5 * (n + 1) - 5 = 5 * n by omega, stS_all n (i0 + 5) (fun i hi => by have := h (i + 1) (by omega); rwa [show i0 + 5 * (i + 1) = i0 + 5 + 5 * i by omega] at this), List.range_succ_eq_map, List.map_cons, List.map_map]
    congr 1
    refine List.map_congr_left fun i _ => ?_
    show i0 + 5 + 5 * i = i0 + 5 * (i + 1)
    omega
theorem wavy_even (low : Int) (R : Int → Int) (K1 a : Nat) (hK : 0 < K1) : eB (fun _ => K1) (wvL low R) (5 * a) = true := by
  have hg : ∀ j : Int, 0 ≤ j → j ≤ (7 : Nat) → gapF (fun j => wvL low R (5 * a + j)) K1 j.toNat = 6 := fun j j0 j1 => by
    unfold gapF
    split
    · show wvL low R (5 * a + (j.toNat / 2 + 1)) _ - wvL low R (5 * a + j.toNat / 2) _ = 6
      rw [wvL_at low R a (j.toNat / 2 + 1) _ (by omega), wvL_at low R a (j.toNat / 2) _ (by omega)]; omega
    · show wvL low R (5 * a + (j.toNat / 2 + 1)) _ - wvL low R (5 * a + j.toNat / 2) _ = 6
      rw [wvL_at low R a (j.toNat / 2 + 1) _ (by omega), wvL_at low R a (j.toNat / 2) _ (by omega)]; omega
  obtain ⟨-, j1, a1, b1, e1⟩ := minAq_le (q := fun j => gapF (fun j => wvL low R (5 * a + j)) K1 j.toNat) (minA := minA) (fun _ => rfl) (fun _ _ => rfl) 7
  obtain ⟨-, j2, a2, b2, e2⟩ := maxAq_ge (q := fun j => gapF (fun j => wvL low R (5 * a + j)) K1 j.toNat) (maxA := maxA) (fun _ => rfl) (fun _ _ => rfl) 7
  have f1 : minA (fun j => gapF (fun j => wvL low R (5 * a + j)) K1 j.toNat) 7 = 6 := e1.trans (hg j1 a1 b1)
  have f2 : maxA (fun j => gapF (fun j => wvL low R (5 * a + j)) K1 j.toNat) 7 = 6 := e2.trans (hg j2 a2 b2)
  unfold eB evenB
  rw [Bool.and_eq_true]
  constructor
  · rw [List.all_eq_true]
    intro i _
    exact decide_eq_true ⟨hK, rfl⟩
  · show evenV _ K1 = true
    unfold evenV
    rw [f1, f2]
    decide
theorem wavy_groups (low : Int) (R : Int → Int) (K1 ns : Nat) (hK : 0 < K1) : stS (eB (fun _ => K1) (wvL low R)) (5 * ns) 0 = (List.range ns).map (5 * ·) := by
  rw [stS_all ns 0 fun i _ => by rw [Nat.zero_add]; exact wavy_even low R K1 i hK]
  refine List.map_congr_left fun i _ => ?_
  show 0 + 5 * i = 5 * i
  omega
/-! ### strips -/
section
variable {W H low high : Int} {ns M a : Nat} {p : Int → Int}
theorem wavy_strip (hW : 0 < W) (hH : H = 5 + (high - low) + (ns : Int) * 24 + ((ns : Int) - 1) * 12 + 6) (hR : ∀ x : Int, 0 ≤ x → x < W → low ≤ rsF p M x ∧ rsF p M x ≤ high) (ha : a < ns) {x y : Int} (x0 : 0 ≤ x) (x1 : x < W) (y0 : 0 ≤ y) (y1 : y < 29) :
    recQ W H (wvQ W (wvL low (rsF p M)) (5 * ns) 0) (fun j => wvL low (rsF p M) (5 * a + 4) j) 26 (y * W + x) = if 2 ≤ y ∧ (y - 2) % 6 = 0 then 1 else 0 := by
  unfold recQ
  rw [idx_mod x0 x1, idx_div x0 x1]
  have e4 : wvL low (rsF p M) (5 * a + 4) x.toNat = 5 - low + (a : Int) * 36 + 24 + rsF p M x := by
    rw [wvL_at low _ a 4 _ (by omega), Int.toNat_of_nonneg x0]
    omega
  have hb := hR x x0 x1
  show (if 0 ≤ wvL low (rsF p M) (5 * a + 4) x.toNat - 26 + y ∧ wvL low (rsF p M) (5 * a + 4) x.toNat - 26 + y < H then wvQ W (wvL low (rsF p M)) (5 * ns) 0 ((wvL low (rsF p M) (5 * a + 4) x.toNat - 26 + y) * W + x) else 0) = _
  rw [e4]
  by_cases c : 2 ≤ y ∧ (y - 2) % 6 = 0
  · rw [if_pos c, if_pos (by omega), wvQ_iff hW]
    obtain ⟨k, hk⟩ : ∃ k : Nat, y = 2 + 6 * (k : Int) := ⟨((y - 2) / 6).toNat, by omega⟩
    refine ⟨5 * a + k, by omega, ?_⟩
    rw [idx_mod x0 x1, idx_div x0 x1, wvL_at low _ a k _ (by omega), Int.toNat_of_nonneg x0, hk]
    omega
  · rw [if_neg c]
    split
    · rcases wvQ_is01 (W := W) (L := wvL low (rsF p M)) (t := 5 * ns) (x := 0) ((5 - low + (a : Int) * 36 + 24 + rsF p M x - 26 + y) * W + x) with h | h
      · exact h
      · exfalso
        obtain ⟨s, hs, e⟩ := (wvQ_iff hW).1 h
        rw [idx_mod x0 x1, idx_div x0 x1] at e
        unfold wvL at e
        rw [Int.toNat_of_nonneg x0] at e
        have hd : ((s / 5 : Nat) : Int) * 36 + 6 * ((s % 5 : Nat) : Int) = (a : Int) * 36 + y - 2 := by omega
        obtain ⟨u, hu⟩ : ∃ u : Nat, s / 5 = u := ⟨_, rfl⟩
        obtain ⟨v, hv⟩ : ∃ v : Nat, s % 5 = v := ⟨_, rfl⟩
        rw [hu, hv] at hd
        have hv5 : v < 5 := by omega
        clear e hu hs h e4 hb
        omega
    · rfl
theorem sumN_const (n : Nat) (v : Int) (hv : v = 0 ∨ v = 1) : sumN n (fun _ => v) = if v = 1 then (n : Int) else 0 := by
  induction n with
  | zero => simp [sumN]
  | succ n ih =>
    rw [sumN, ih]
    rcases hv with rfl | rfl
    · simp
    · simp
theorem wavy_rows {K1 N2 y : Nat} (hK : W = K1) (hW : 0 < W) (hN : N2 = 29 * K1) (hH : H = 5 + (high - low) + (ns : Int) * 24 + ((ns : Int) - 1) * 12 + 6) (hR : ∀ x : Int, 0 ≤ x → x < W → low ≤ rsF p M x ∧ rsF p M x ≤ high) (ha : a < ns) (hy : y < 29) :
    rowS W N2 (recQ W H (wvQ W (wvL low (rsF p M)) (5 * ns) 0) (fun j => wvL low (rsF p M) (5 * a + 4) j) 26) y = if 2 ≤ (y : Int) ∧ ((y : Int) - 2) % 6 = 0 then W else 0 := by
  have h1 := rowS_row (W := K1) (H := 29) (n := N2) (y := y) (p := recQ W H (wvQ W (wvL low (rsF p M)) (5 * ns) 0) (fun j => wvL low (rsF p M) (5 * a + 4) j) 26) (by omega) hN hy
  rw [← hK] at h1
  rw [h1, sumN_congr (g := fun _ => if 2 ≤ (y : Int) ∧ ((y : Int) - 2) % 6 = 0 then 1 else 0) (fun x x0 x1 => wavy_strip hW hH hR ha x0 (by omega) (by omega) (by omega)), sumN_const _ _ (by split <;> simp)]
  by_cases c : 2 ≤ (y : Int) ∧ ((y : Int) - 2) % 6 = 0
  · rw [if_pos c, if_pos c, if_pos rfl, hK]
  · rw [if_neg c, if_neg c, if_neg (by omega)]
end
/-! ### nothing is left -/
theorem wavy_gone {W low : Int} {H : Nat} {ns M K1 : Nat} {p : Int → Int} (hK : W = K1) (hW : 0 < W) (hin : ∀ (t : Nat) (x : Int), t < 5 * ns → 0 ≤ x → x < W → 0 ≤ wvC low t + rsF p M x ∧ wvC low t + rsF p M x < H) (i : Int) (h0 : 0 ≤ i) :
    strike (colI (wvQ W (wvL low (rsF p M)) (5 * ns) 0) W H 1 (fun a j => wvL low (rsF p M) (5 * a + j)) K1 ns) W (wvQ W (wvL low (rsF p M)) (5 * ns) 0) i = 0 := by
  have m0 := Int.emod_nonneg i (show W ≠ 0 by omega)
  have m1 := Int.emod_lt_of_pos i hW
  have hd := Int.emod_add_mul_ediv i W
  rcases wvQ_is01 (W := W) (L := wvL low (rsF p M)) (t := 5 * ns) (x := 0) i with h | h
  · exact strike_paper h
  · obtain ⟨s, hs, e⟩ := (wvQ_iff hW).1 h
    obtain ⟨x, hx⟩ : ∃ x : Nat, i % W = x := ⟨(i % W).toNat, by omega⟩
    rw [hx, Int.toNat_natCast, wvL_C] at e
    have hxW : (x : Int) < W := by omega
    have hb := hin s x hs (by omega) hxW
    obtain ⟨y, hy⟩ : ∃ y : Nat, wvC low s + rsF p M x = y := ⟨(wvC low s + rsF p M x).toNat, by omega⟩
    have hi : i = (y : Int) * W + x := by
      rw [hx, ← e, hy, Int.mul_comm] at hd
      omega
    have alone : ∀ z : Int, (z = (y : Int) - 1 ∨ z = (y : Int) + 1) → wvQ W (wvL low (rsF p M)) (5 * ns) 0 (z * W + x) ≠ 1 := fun z hz hq => by
      obtain ⟨t, ht, e2⟩ := (wvQ_iff hW).1 hq
      rw [idx_mod (by omega) hxW, idx_div (by omega) hxW, Int.toNat_natCast, wvL_C] at e2
      have hL := wavy_lns p W low (5 * ns) M hW
      have e3 : t = s := hL.one ht hs (by omega) (by omega)
      rw [e3] at e2
      omega
    have RO : RunOf (wvQ W (wvL low (rsF p M)) (5 * ns) 0) W H x y (y + 1) := ⟨by omega, by omega, fun g hg => alone g (by omega), fun j a b => by
      obtain rfl : j = y := by omega
      rw [← hi]; exact h, fun _ => by
      have := alone ((y : Int) + 1) (.inr rfl)
      push_cast
      exact this⟩
    rw [hi]
    refine (strike_run (W := W) (N := K1) hK (fun _ => Iff.rfl) (fun a j x' ha hj hx' => ?_) (by omega) RO (Nat.le_refl _) (by omega)).2 ⟨⟨y, Nat.le_refl _, by omega, s / 5, s % 5, x, by omega, by omega, by omega, ?_⟩, by omega⟩
    · show 0 ≤ wvL low (rsF p M) (5 * a + j) x' ∧ wvL low (rsF p M) (5 * a + j) x' < H
      rw [wvL_C]
      exact hin (5 * a + j) x' (by omega) (by omega) (by omega)
    · show wvL low (rsF p M) (5 * (s / 5) + s % 5) x * W + (x : Int) = _
      rw [show 5 * (s / 5) + s % 5 = s by omega, wvL_C, hy]
end Go.Proofs.Ytdimlpcbbkokiaa

/- Walk: StaveFound. Written by gen/t56.py. -/
namespace Go.Proofs.Ytdimlpcbbkokiaa
open Go.RowKit Go.Shelf
set_option linter.unusedVariables false
attribute [local go_sem] Oper.semAt_some
theorem TraceOut.lines {w w' : World} {W H : Int} {p : Int → Int} {v : Value} {T K1 : Nat} {L : Nat → Nat → Int} (h : TraceOut w W H p v w') (hK : W.toNat = K1) (hM : Many 1073741824 W H (cst p W) T)
    (hl : ∀ l : List Nat, l.Perm (List.range T) → l.Pairwise (fun i j => LN 1073741824 W H (cst p W) i 0 ≤ LN 1073741824 W H (cst p W) j 0) → ∀ j, j < T → ∀ x : Nat, (x : Int) < W → LN 1073741824 W H (cst p W) (l.getD j 0) x = L j x) : ∃ vv, FoundM w.heap.size w' (fun _ => K1) L T v vv := by
  obtain ⟨k, l, vs, mk, lp, lw, rows, lns⟩ := h
  obtain rfl := mk.uniq hM
  have hll := lp.length_eq
  rw [List.length_range] at hll
  have HL := hl l lp lw
  subst hK
  refine ⟨fun i => vs (l.getD i 0), ?_, fun i hi => ?_⟩
  · have e : l.map vs = (List.range k).map fun i => vs (l.getD i 0) := by
      apply List.ext_getElem?
      intro i
      by_cases hi : i < k
      · rw [List.getElem?_map, List.getElem?_map, List.getElem?_range hi, List.getElem?_eq_getElem (by omega), Option.map_some, Option.map_some, List.getD_eq_getElem?_getD, List.getElem?_eq_getElem (by omega)]
        rfl
      · rw [List.getElem?_eq_none (by simp; omega), List.getElem?_eq_none (by simp; omega)]
    rw [← e]; exact rows
  · have hm : l.getD i 0 < k := List.mem_range.1 (lp.mem_iff.1 (getD_mem (by omega)))
    have h1 := lns _ hm
    rw [List.map_congr_left (g := fun j => Value.int .i64 (L i j)) (fun j hj => by rw [HL i hi j (by have := List.mem_range.1 hj; omega)])] at h1
    exact h1

set_option maxRecDepth 100000 in
set_option maxHeartbeats 8000000 in
theorem staveFound_any (wd sv : Int) (A : Option Addr) (n c : Nat) (p : Int → Int) (w : World) (hA : ArrB w w.heap.size A n p) (hn : n ≤ maxLen) (hnc : n ≤ c) (hB : IsB p) (hwd : 0 ≤ wd ∧ wd ≤ 255) (hsv : 0 ≤ sv ∧ sv ≤ 255) :
    Calls Try.prog 11 #[.int .u8 wd, .int .u8 sv, .slice A n c] w fun e w' => e = .returned (.bool true) ∧ Below w.heap.size w w' := by
  have AW := Lib.hid fun w' => awake3_any w'
  obtain ⟨W, hW⟩ : ∃ W, 40 + wd % 120 = W := ⟨_, rfl⟩
  obtain ⟨k, hk⟩ : ∃ k : Nat, W = (k : Int) + 1 := ⟨(W - 1).toNat, by omega⟩
  obtain ⟨M, hM⟩ : ∃ M : Nat, (M : Int) = min (n : Int) 14 := ⟨min n 14, by omega⟩
  obtain ⟨low, hlow⟩ : ∃ l, minA (rsF p M) k = l := ⟨_, rfl⟩
  obtain ⟨high, hhigh⟩ : ∃ l, maxA (rsF p M) k = l := ⟨_, rfl⟩
  obtain ⟨ns, hns⟩ : ∃ ns : Nat, 1 + sv % 3 = (ns : Int) := ⟨(1 + sv % 3).toNat, by omega⟩
  obtain ⟨H, hH⟩ : ∃ H, H = 5 + (high - low) + (ns : Int) * 24 + ((ns : Int) - 1) * 12 + 6 := ⟨_, rfl⟩
  have hW0 : 40 ≤ W ∧ W ≤ 159 := by omega
  have hn3 : ns ≤ 3 ∧ 1 ≤ ns := by omega
  have hM14 : M ≤ 14 := by omega
  have hR0 : ∀ x : Int, 0 ≤ x → x < W → low ≤ rsF p M x ∧ rsF p M x ≤ high := by
    intro x x0 x1
    have h2 := (minAq_le (q := rsF p M) (minA := minA) (fun _ => rfl) (fun _ _ => rfl) k).1 x x0 (by omega)
    have h3 := (maxAq_ge (q := rsF p M) (maxA := maxA) (fun _ => rfl) (fun _ _ => rfl) k).1 x x0 (by omega)
    rw [hlow] at h2
    rw [hhigh] at h3
    exact ⟨h2, h3⟩
  have hlo : -14 ≤ low ∧ low ≤ 14 := by
    obtain ⟨-, j, -, -, e⟩ := minAq_le (q := rsF p M) (minA := minA) (fun _ => rfl) (fun _ _ => rfl) k
    have := rsF_bd (p := p) M j
    rw [← hlow, e]; omega
  have hhi : low ≤ high ∧ high ≤ 14 := by
    obtain ⟨-, j, -, -, e⟩ := maxAq_ge (q := rsF p M) (maxA := maxA) (fun _ => rfl) (fun _ _ => rfl) k
    have h1 := rsF_bd (p := p) M j
    have h2 := hR0 0 (by omega) (by omega)
    rw [hhigh] at e
    omega
  have hH0 : 1 ≤ H ∧ H ≤ 640 := by omega
  have nbd := area_bd (W := W) (H := H) (by omega) (by omega) (by omega) hH0.2
  obtain ⟨N, hN⟩ : ∃ N : Nat, (N : Int) = W * H := ⟨(W * H).toNat, Int.toNat_of_nonneg nbd.1⟩
  obtain ⟨Hn, hHn⟩ : ∃ Hn : Nat, H = Hn := ⟨H.toNat, by omega⟩
  have hWp : 0 < W := by omega
  obtain ⟨K1, hK1⟩ : ∃ K1, k + 1 = K1 := ⟨_, rfl⟩
  have hkK : W = (K1 : Int) := by omega
  obtain ⟨N2, hN2⟩ : ∃ N2, N2 = 29 * K1 := ⟨_, rfl⟩
  have FND := Lib.hid (wavy_found (p := p) (M := M) hWp (by omega) hH (by omega) hn3.1 hR0)
  have GRP := Lib.hid (wavy_groups low (rsF p M) K1 ns (by omega))
  have ROWS := Lib.hid fun (a y : Nat) (ha : a < ns) (hy : y < 29) => wavy_rows (p := p) (M := M) (y := y) hkK hWp hN2 hH hR0 ha hy
  have INR := Lib.hid fun (t x : Nat) (ht : t < 5 * ns) (hx : x < K1) => (show 0 ≤ wvL low (rsF p M) t x ∧ wvL low (rsF p M) t x < Hn from by
    have h := wavy_in hH hR0 t (x : Int) ht (by omega) (by omega)
    rw [hHn] at h
    exact h)
  have GONE := Lib.hid fun i hi => wavy_gone (low := low) (H := Hn) (ns := ns) (M := M) (p := p) hkK hWp (fun t x ht x0 x1 => by rw [← hHn]; exact wavy_in hH hR0 t x ht x0 x1) i hi
  have WV := Lib.hid fun w' hA' => wavy_any wd sv W low high H A n c k M ns N p w' hA' hn hnc hB hwd hsv hW hk hM hlow hhigh hns hH hN
  have FITS := Lib.hid fun (t : Nat) (ht : t < ns) => wavy_fits (t := t) (R := rsF p M) hk hH ht hW0.1 hR0 (fun i => (rsF_near (p := p) M i).1)
  obtain ⟨L, hL⟩ : ∃ L, L = wvL low (rsF p M) := ⟨_, rfl⟩
  rw [← hL] at WV FITS FND GRP ROWS INR GONE
  rw [hK1] at FITS
  obtain ⟨Q, hQ⟩ : ∃ Q, wvQ W L (5 * ns) 0 = Q := ⟨_, rfl⟩
  rw [hQ] at FND ROWS GONE
  have HQ := Lib.hid hQ
  obtain ⟨T, hT⟩ : ∃ T, 5 * ns = T := ⟨_, rfl⟩
  rw [hT] at FND GRP INR
  have HT := Lib.hid hT
  have hQ01 : Is01 Q := by rw [← hQ]; exact wvQ_is01
  have HN29 := Lib.hid hN2
  have HK := Lib.hid hkK; have HN := Lib.hid hN
  have hWn : W.toNat = K1 := by omega
  have HWN := Lib.hid hWn
  have NB : (N : Int) ≤ 409600 := by omega
  clear hW hM hlow hhigh hns hH hR0 hL hk hkK hK1 hN2 hQ hT hhi hlo hWn hB hN nbd
  subst hHn
  go_enter Try.func11, Try.ntmps11
  go_wp2_with fail
  refine (WV.out _ hA).mono ?_
  rintro e w1 ⟨_, rfl, ⟨gp, Bs, vo, vs, rfl, hgp, hgB, kp, hS⟩, hb1⟩
  rw [HWN.out] at hS
  obtain ⟨Ao, co, eo, -, -⟩ := own_arr hS.row
  rw [List.length_map, List.length_range] at eo
  subst eo
  rw [HQ.out] at kp
  have zz1 := hb1.size
  have kx := Blk.new w1 24 #[.int .i64 W, .int .i64 (Hn : Int), .slice (some ⟨gp, 0, none⟩) N N]
  have kp2 := kp.alloc (.cells #[.int .i64 W, .int .i64 (Hn : Int), .slice (some ⟨gp, 0, none⟩) N N] 24)
  have S2 := hS.below ((Below.refl _ _).alloc (Nat.le_refl _) (.cells #[.int .i64 W, .int .i64 (Hn : Int), .slice (some ⟨gp, 0, none⟩) N N] 24))
  have b2 : Below w.heap.size w (w1.alloc (.cells #[.int .i64 W, .int .i64 (Hn : Int), .slice (some ⟨gp, 0, none⟩) N N] 24)) := hb1.alloc zz1 _
  have hgx : gp ≠ w1.heap.size := by have := kp.lt; omega
  clear hS kp hb1 WV hA
  go_wp2_with fail
  generalize w1.alloc (.cells #[.int .i64 W, .int .i64 (Hn : Int), .slice (some ⟨gp, 0, none⟩) N N] 24) = w2 at *
  generalize w1.heap.size = bx at *
  clear HWN
  have hNm : N ≤ maxLen := by unfold maxLen; omega
  have hchk : chk W Hn N Q = 0 := chk_01 (by omega) (by omega) (by omega) hH0.2 HN.out fun i _ _ => is01_le hQ01 i
  have CHK := Lib.hid hchk
  have TR := Lib.hid fun w' hA' => trace_ok W Hn (some ⟨gp, 0, none⟩) N N Q w' hA' hNm (is01_B hQ01) hchk (by omega) hH0.1
  clear hchk
  have zx := kx.lt
  have zp := kp2.lt
  obtain ⟨p1, p2, p3⟩ := kx.cells3
  refine (TR.out w2 (kp2.arrB zp)).mono ?_
  rintro e w3 ⟨_, rfl, ⟨vT, rfl, TO⟩, hb3⟩
  obtain ⟨vv, FM⟩ := TO.lines (K1 := K1) (by have := HK.out; omega) FND.out.1 FND.out.2
  obtain ⟨AT, cT, rfl, hTc, -, LT⟩ := FM.toLines
  have STV := Lib.hid fun w' hL' => staves_any AT T cT (fun _ => K1) L w' hL' hTc (by have := HT.out; omega) (fun i _ => by show K1 ≤ 1000000; have := HK.out; omega) (fun i j hi hj => by have := INR.out i j hi hj; omega)
  rw [GRP.out] at STV
  have b3 := below_call b2 b2.size hb3
  have k3 := kx.below' hb3
  have kq3 := kp2.below' hb3
  have S3 := S2.below hb3
  clear TR TO FM b2 kx kp2 S2 hb3 p1 p2 p3 FND GRP
  go_wp2_with fail
  refine (STV.out w3 LT).mono ?_
  rintro e w4 ⟨_, rfl, ⟨vg, SG⟩, hb4⟩
  have b4 := below_call b3 b3.size hb4
  have k4 := k3.below' hb4
  have kq4 := kq3.below' hb4
  have S4 := S3.below hb4
  obtain ⟨Ag, cg, eg, -, -⟩ := own_arr SG.row
  rw [List.length_map, List.length_range] at eg
  subst eg
  have SS := Lib.hid fun w' h1 h2 => sameStaves_true w3.heap.size Bs (fun _ => K1) L ((List.range ns).map (5 * ·)) Ag Ao cg co vg vs w' h1 h2 (by simp; omega) (fun _ _ _ _ => by show K1 ≤ maxLen; unfold maxLen; have := HK.out; omega)
  simp only [List.length_map, List.length_range] at SS
  have u1 : IntKind.i64.wrap (5 * (ns : Int)) = (T : Int) := (IntWalk.i64_in _ (by omega)).trans (by have := HT.out; omega)
  clear STV LT b3 k3 kq3 S3 hb4
  go_wp2_with fail
  refine (SS.out w4 SG S4).mono ?_
  rintro e w5 ⟨rfl, hb5⟩
  have b5 := below_call b4 b4.size hb5
  have k5 := k4.below' hb5
  have kq5 := kq4.below' hb5
  obtain ⟨Ag2, cg2, eg2, SI⟩ := (SG.below hb5).stavesIn
  injection eg2 with eg3 eg4 eg5
  subst eg3 eg5
  have SIH := Lib.hid SI
  clear SS SG S4 k4 kq4 b4 hb5 SI eg4 u1
  obtain ⟨p1, p2, p3⟩ := k5.cells3
  go_wp2_with fail
  clear p1 p2 p3
  go_loopw [53] (fun s wr => ∃ i : Nat, i ≤ ns ∧ s = .int .i64 i ∧ Below w5.heap.size w5 wr) (fun s _ => ns - (intOf s).toNat)
  case atStart => exact ⟨0, by omega, rfl, Below.refl _ _⟩
  case round =>
    obtain ⟨i, hi, rfl, d6⟩ := hrel
    have b6 := below_call b5 b5.size d6
    have k6 := k5.below' d6
    have kq6 := kq5.below' d6
    obtain ⟨p1, p2, p3⟩ := k6.cells3
    by_cases il : (i : Int) < ns
    · obtain ⟨bS, oS, AL, cL, eS, hbS, hcS, hLS⟩ := SIH.out.to d6 i (by omega)
      cases eS
      obtain ⟨SQ, hSQ⟩ : ∃ SQ : Int → Int, SQ = recQ W Hn Q (L (5 * i + 4)) 26 := ⟨_, rfl⟩
      have hSQ1 : Is01 SQ := by rw [hSQ]; exact recQ_01 hQ01
      have hKW := HK.out
      have hN29 := HN29.out
      have hN2m : N2 ≤ maxLen := by unfold maxLen; omega
      have RW := Lib.hid fun (y : Nat) (hy : y < 29) => (show rowS W N2 SQ y = if 2 ≤ (y : Int) ∧ ((y : Int) - 2) % 6 = 0 then W else 0 from by rw [hSQ]; exact ROWS.out i y (by omega) hy)
      have hst : stChk W Hn N Q 5 (fun _ => K1) (fun j => L (5 * i + j)) = 0 := stChk_mk CHK.out (FITS.out i (by omega))
      have hmm : ∀ j, j < 5 → (fun _ : Nat => K1) j ≤ maxLen := fun j _ => by show K1 ≤ maxLen; unfold maxLen; omega
      have RC := Lib.hid fun w' hA' hL' => (show Calls Try.prog 44 #[.agg #[.int .i64 W, .int .i64 (Hn : Int), .slice (some ⟨gp, 0, none⟩) N N], .agg #[.slice AL 5 cL], .int .i64 26, .int .i64 2] w' (New w' fun v w'' => OutT w' w'' 0 W 29 N2 SQ v) from by
        rw [hSQ]
        exact rectify_all W Hn (some ⟨gp, 0, none⟩) AL N N 5 cL Q (fun _ => K1) (fun j => L (5 * i + j)) 26 2 0 W 29 N2 w' hA' hNm (is01_B hQ01) hL' hmm (recE_mk hst (by omega) (by omega) (by omega)) ⟨fun _ => ⟨rfl, by decide, by rw [hN29, hKW]; push_cast; omega⟩, fun h => absurd rfl h⟩)
      have CS := Lib.hid fun w' hA' hL' => check_st W Hn (some ⟨gp, 0, none⟩) AL N N 5 cL Q (fun _ => K1) (fun j => L (5 * i + j)) 0 w' hA' hNm hL' hmm hst
      have PR := Lib.hid fun A' c' w' hA' => (show Calls Try.prog 26 #[.agg #[.int .i64 W, .int .i64 29, .slice A' N2 c']] w' (New w' fun v w'' => ∃ g1 g2, v = .tuple #[.slice (some ⟨g1, 0, none⟩) 29 29, .slice (some ⟨g2, 0, none⟩) W.toNat W.toNat, .int .i64 0] ∧ w'.heap.size ≤ g1 ∧ w'.heap.size ≤ g2 ∧ g1 ≠ g2 ∧ Blk w'' g1 3 (i64s 29 (rowS W N2 SQ)) ∧ Blk w'' g2 3 (i64s W.toNat (colS W N2 SQ))) from
        profile_ok W 29 A' N2 c' SQ w' hA' hN2m (is01_B hSQ1) (chk_01 (by omega) (by omega) (by omega) (by omega) (by rw [hN29, hKW]; push_cast; omega) fun j _ _ => is01_le hSQ1 j))
      clear hSQ hSQ1 hN29 hKW hst
      go_upto_region 11 with fail
      have bA : Below wr.heap.size wr (wr.alloc (.cells #[.slice AL 5 cL] 54)) := (Below.refl _ _).alloc (Nat.le_refl _) _
      have ks7 := Blk.new wr 54 #[.slice AL 5 cL]
      have k7 := k6.below' bA
      have kq7 := kq6.below' bA
      have L7 := hLS.below bA
      have d7 := d6.trans (bA.mono d6.size)
      clear k6 kq6 hLS p1 p2 p3 hcS bA
      generalize wr.alloc (.cells #[.slice AL 5 cL] 54) = w7 at *
      generalize wr.heap.size = gs at *
      obtain ⟨p1, p2, p3⟩ := k7.cells3
      have s1 := ks7.cells0
      go_wp2_with fail
      refine (RC.out w7 (kq7.arrB kq7.lt) L7).mono ?_
      rintro e w8 ⟨_, rfl, ⟨Ar, cr, rfl, hgr, har⟩, hb8⟩
      have d8 := below_call d7 d7.size hb8
      have bB : Below w8.heap.size w8 (w8.alloc (.cells #[.int .i64 W, .int .i64 29, .slice Ar N2 cr] 24)) := (Below.refl _ _).alloc (Nat.le_refl _) _
      have l9 := Blk.new w8 24 #[.int .i64 W, .int .i64 29, .slice Ar N2 cr]
      have k9 := (k7.below' hb8).below' bB
      have kq9 := (kq7.below' hb8).below' bB
      have ks9 := (ks7.below' hb8).below' bB
      have L9 := (L7.below hb8).below bB
      have har9 := har.to bB
      have d9 := d8.trans (bB.mono d8.size)
      clear k7 kq7 ks7 L7 p1 p2 p3 s1 hb8 d7 d8 bB har RC hgr
      obtain ⟨p1, p2, p3⟩ := k9.cells3
      have s1 := ks9.cells0
      obtain ⟨l1, l2, l3⟩ := l9.cells3
      go_upto_region 12 with fail
      generalize w8.alloc (.cells #[.int .i64 W, .int .i64 29, .slice Ar N2 cr] 24) = w9 at *
      generalize w8.heap.size = gl at *
      go_wp2_with fail
      refine (CS.out w9 (kq9.arrB kq9.lt) L9).mono ?_
      rintro e w10 ⟨rfl, hb10⟩
      have d10 := below_call d9 d9.size hb10
      have k10 := k9.below' hb10
      have l10 := l9.below' hb10
      have har10 := har9.to hb10
      clear k9 kq9 ks9 L9 p1 p2 p3 s1 l1 l2 l3 hb10 d9 har9 CS l9
      obtain ⟨p1, p2, p3⟩ := k10.cells3
      obtain ⟨l1, l2, l3⟩ := l10.cells3
      go_wp2_with fail
      refine (PR.out Ar cr w10 har10).mono ?_
      rintro e w11 ⟨_, rfl, ⟨g1, g2, rfl, hg1, hg2, hg12, kr1, kr2⟩, hb11⟩
      have d11 := below_call d10 d10.size hb11
      have k11 := k10.below' hb11
      clear k10 l10 p1 p2 p3 l1 l2 l3 hb11 d10 har10 PR
      obtain ⟨p1, p2, p3⟩ := k11.cells3
      have e1 : ((0 : Int) == W) = false := by simp; omega
      have e2 : (W != 0) = true := by simp; omega
      have e3 : (W == 0) = false := by simp; omega
      go_wp2_with fail
      generalize hw11 : w11 = w12 at *
      clear hw11
      go_loopw [86] (fun s wr => ∃ y : Nat, y ≤ 29 ∧ s = .int .i64 y ∧ w12 = wr) (fun s _ => 29 - (intOf s).toNat)
      case atStart => exact ⟨0, by omega, rfl, rfl⟩
      case round =>
        obtain ⟨y, hy, rfl, rfl⟩ := hrel
        by_cases yl : (y : Int) < 29
        · have hrow := RW.out y (by omega)
          have hc : w12.cell? ⟨g1, y, none⟩ = some (.int .i64 (rowS W N2 SQ y)) := by
            rw [kr1.cell]
            have h := i64s_at (n := 29) (q := rowS W N2 SQ) (i := (y : Int)) (by omega) (by omega)
            rwa [Int.toNat_natCast] at h
          obtain ⟨u, hu⟩ : ∃ u : Int, (y : Int) - 2 = u := ⟨_, rfl⟩
          have v1 : IntKind.i64.wrap ((y : Int) - 2) = u := (IntWalk.i64_in _ (by omega)).trans hu
          rw [hu] at hrow
          by_cases c2 : 2 ≤ (y : Int)
          · have t1 : u.tmod 6 = u % 6 := Int.tmod_eq_emod_of_nonneg (by omega)
            by_cases c6 : u % 6 = 0
            · rw [if_pos ⟨c2, c6⟩] at hrow
              rw [hrow] at hc
              rw [c6] at t1
              clear hu hrow c6
              go_wp2_with fail
              go_round
              case rel => exact ⟨y + 1, by omega, by go_num, trivial⟩
              case measure => simp [intOf]; omega
            · rw [if_neg (fun h => c6 h.2)] at hrow
              rw [hrow] at hc
              obtain ⟨r, hr⟩ : ∃ r, u % 6 = r := ⟨_, rfl⟩
              rw [hr] at t1 c6
              have c7 : (r == 0) = false := by simp [c6]
              clear hu hrow hr c6
              go_wp2_with fail
              go_round
              case rel => exact ⟨y + 1, by omega, by go_num, trivial⟩
              case measure => simp [intOf]; omega
          · rw [if_neg (fun h => c2 h.1)] at hrow
            rw [hrow] at hc
            have c3 : decide (2 ≤ (y : Int)) = false := decide_eq_false c2
            clear hu hrow
            go_wp2_with fail
            go_round
            case rel => exact ⟨y + 1, by omega, by go_num, trivial⟩
            case measure => simp [intOf]; omega
        · go_wp2_with fail
          go_round
          case rel => exact ⟨i + 1, by omega, by go_num, d11⟩
          case measure => simp [intOf]; omega
    · have hKW := HK.out
      have hNk : N = K1 * Hn := by
        have h1 := HN.out
        rw [hKW] at h1
        exact_mod_cast h1
      have hN1 : 0 < N := by
        have h1 := HN.out
        have h2 : 0 < W * (Hn : Int) := Int.mul_pos hWp (by omega)
        omega
      have RMV := Lib.hid fun w' hA' hS' => remove_ok W 1 Hn K1 (some ⟨gp, 0, none⟩) Ag N N ns cg Q (fun _ => 5) (fun _ _ => K1) (fun i j => L (5 * i + j)) w' hKW (by omega) (by omega) hA' hNk (fun j _ _ => hQ01 j) (by omega) ⟨by omega, by omega⟩ hS' (fun _ _ _ _ => by unfold maxLen; omega) (fun i hi => stFits_iff.2 (FITS.out i hi))
      have CN := Lib.hid fun A' c' w' hA' => count_zero W Hn A' N c' (fun _ => 0) w' hA' hN1 hNm (chk_01 (by omega) (by omega) (by omega) hH0.2 HN.out fun _ _ _ => by omega) (fun _ _ _ => rfl)
      clear hKW hNk hN1
      have SI6 := SIH.out.to d6
      go_wp2_with fail
      refine (RMV.out wr (kq6.arrB kq6.lt) SI6).mono ?_
      rintro e w7 ⟨_, rfl, ⟨A3, c3, rfl, hg3, ha3⟩, hb7⟩
      have ha3' : ArrB w7 w7.heap.size A3 N (fun _ => 0) := ha3.congr fun i i0 _ => GONE.out i i0
      have b7 := below_call b6 b6.size hb7
      have bA : Below w7.heap.size w7 (w7.alloc (.cells #[.int .i64 W, .int .i64 (Hn : Int), .slice A3 N c3] 24)) := (Below.refl _ _).alloc (Nat.le_refl _) _
      have l8 := Blk.new w7 24 #[.int .i64 W, .int .i64 (Hn : Int), .slice A3 N c3]
      have ha8 := ha3'.to bA
      have b8 := b7.trans (bA.mono b7.size)
      clear RMV ha3 ha3' b7 hb7 bA p1 p2 p3 SI6
      obtain ⟨l1, l2, l3⟩ := l8.cells3
      go_upto_region 25 with fail
      generalize w7.alloc (.cells #[.int .i64 W, .int .i64 (Hn : Int), .slice A3 N c3] 24) = w8 at *
      go_wp2_with fail
      refine (CN.out A3 c3 w8 ha8).mono ?_
      rintro e w9 ⟨rfl, hb9⟩
      have b9 := below_call b8 b8.size hb9
      go_wp2_with fail
      refine (AW.out _).mono ?_
      rintro e w20 ⟨rfl, hb20⟩
      have b20 := below_call b9 b9.size hb20
      go_wp2
      go_ret
      exact ⟨rfl, b20⟩
end Go.Proofs.Ytdimlpcbbkokiaa
