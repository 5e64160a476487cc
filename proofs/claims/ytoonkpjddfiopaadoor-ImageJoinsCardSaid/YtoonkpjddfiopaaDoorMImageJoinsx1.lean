/- Texts of mine in build order: J28, C18, J29, J30. Conditions: each theorem's own. -/
import Derived.Test.YtoonkpjddfiopaaDoorMImageSetsx8
import Derived.Test.YtoonkpjddfiopaaDoorMImageSpecksx1
import Derived.Test.YtoonkpjddfiopaaDoorMImageThinsx1
import Derived.Test.YtoonkpjddfiopaaDoorMImageTurnsx1
import Derived.Deep.Upon
import Derived.Deep.CutBlock
/- Slices read from the front and appended to (a queue): what is known of one, its tail, an append. -/
namespace Go.Proofs.YtoonkpjddfiopaaDoor
open Go.RowKit
set_option linter.unusedVariables false
attribute [local go_sem] Oper.semAt_some

section
variable {α : Type} {enc : α → List Value} {k : Nat}
/-- a slice over an array: it reads as l; if there is room behind it, that can be written -/
structure QAt (w : World) (k : Nat) (enc : α → List Value) (A : Option Addr) (c : Nat) (l : List α) (room : Bool) : Prop where
  le : l.length ≤ c
  max : c ≤ maxLen
  lt : ∀ a, A = some a → a.block < w.heap.size
  read : l ≠ [] → ∃ g o, A = some ⟨g, o, none⟩ ∧ ∀ j, j < l.length * k → w.cell? ⟨g, o + j, none⟩ = (flatE enc l)[j]?
  spare : c = l.length ∨ (room = true ∧ ∃ g o, A = some ⟨g, o, none⟩ ∧ ∀ j, l.length * k ≤ j → j < c * k → (w.cell? ⟨g, o + j, none⟩).isSome = true ∧ w.frozen? ⟨g, o + j, none⟩ = false)
/-- in different blocks -/
def nbA (A B : Option Addr) : Prop := ∀ a b, A = some a → B = some b → a.block ≠ b.block
variable {w w' : World} {A : Option Addr} {c : Nat} {l : List α} {room : Bool}
theorem QAt.nil (w : World) (k : Nat) (enc : α → List Value) : QAt w k enc none 0 [] false :=
  ⟨Nat.le_refl _, Nat.zero_le _, (fun _ h => by cases h), (fun h => absurd rfl h), .inl rfl⟩
theorem QAt.keep (h : QAt w k enc A c l room) (hs : w.heap.size ≤ w'.heap.size) (hk : ∀ a, A = some a → w'.heap[a.block]? = w.heap[a.block]?) : QAt w' k enc A c l room := by
  refine ⟨h.le, h.max, fun a e => Nat.lt_of_lt_of_le (h.lt a e) hs, fun hl => ?_, h.spare.imp id fun ⟨r, g, o, e, hc⟩ => ⟨r, g, o, e, fun j j0 j1 => ?_⟩⟩
  · obtain ⟨g, o, e, hc⟩ := h.read hl
    exact ⟨g, o, e, fun j hj => (World.cell?_of_block (a := ⟨g, o + j, none⟩) (hk ⟨g, o, none⟩ e : w'.heap[g]? = w.heap[g]?)).trans (hc j hj)⟩
  · rw [World.cell?_of_block (a := ⟨g, o + j, none⟩) (hk ⟨g, o, none⟩ e : w'.heap[g]? = w.heap[g]?), World.frozen?_of_block (a := ⟨g, o + j, none⟩) (hk ⟨g, o, none⟩ e : w'.heap[g]? = w.heap[g]?)]
    exact hc j j0 j1
theorem QAt.below (h : QAt w k enc A c l room) (hb : Below w.heap.size w w') : QAt w' k enc A c l room := h.keep hb.size fun a e => hb.block _ (h.lt a e)
theorem QAt.grown (h : QAt w k enc A c l room) {row : Option Nat} (hg : w.grownBy w' row) (hn : ∀ a, A = some a → some a.block ≠ row) : QAt w' k enc A c l room := h.keep hg.size fun a e => hg.block _ (h.lt a e) (hn a e)
theorem QAt.at_ (hk : ∀ a, (enc a).length = k) (h : QAt w k enc A c l room) {i : Nat} {r : α} (hi : l[i]? = some r) : ∃ g o, A = some ⟨g, o, none⟩ ∧ ∀ t, t < k → w.cell? ⟨g, o + (i * k + t), none⟩ = (enc r)[t]? := by
  have hl := (List.getElem?_eq_some_iff.1 hi).1
  obtain ⟨g, o, e, hc⟩ := h.read (by intro e; rw [e] at hl; simp at hl)
  refine ⟨g, o, e, fun t ht => ?_⟩
  rw [hc _ ?_, flatE_at hk l i r hi t ht]
  have := Nat.mul_le_mul_right k (show i + 1 ≤ l.length from hl)
  rw [Nat.succ_mul] at this; omega
theorem QAt.tail {a : α} {g o : Nat} (hk : ∀ a, (enc a).length = k) (h : QAt w k enc (some ⟨g, o, none⟩) c (a :: l) room) (hc : c ≠ 1) : QAt w k enc (some ⟨g, o + k, none⟩) (c - 1) l room := by
  have hle := h.le
  rw [List.length_cons] at hle
  have hfl : flatE enc (a :: l) = enc a ++ flatE enc l := rfl
  refine ⟨by omega, by have := h.max; omega, (fun b e => by cases e; exact (h.lt ⟨g, o, none⟩ rfl : g < _)), fun hl => ⟨g, o + k, rfl, fun j hj => ?_⟩, ?_⟩
  · obtain ⟨g', o', e, hcell⟩ := h.read (by simp)
    cases e
    have := hcell (k + j) (by rw [List.length_cons, Nat.succ_mul]; omega)
    rw [hfl, List.getElem?_append_right (by rw [hk]; omega), hk, show k + j - k = j by omega] at this
    rw [← this]; congr 2; omega
  · rcases h.spare with e | ⟨r, g', o', e, hcell⟩
    · exact .inl (by rw [e, List.length_cons]; omega)
    · cases e
      refine .inr ⟨r, g, o + k, rfl, fun j j0 j1 => ?_⟩
      have hm : (c - 1) * k + k = c * k := by rw [← Nat.succ_mul]; congr 1; omega
      have := hcell (k + j) (by rw [List.length_cons, Nat.succ_mul]; omega) (by omega)
      rw [show o + (k + j) = o + k + j by omega] at this
      exact this
theorem QAt.last {a : α} {g o : Nat} (h : QAt w k enc (some ⟨g, o, none⟩) 1 (a :: l) room) : l = [] ∧ QAt w k enc (some ⟨g, o, none⟩) 0 l false := by
  have hle := h.le
  rw [List.length_cons] at hle
  have e : l = [] := List.eq_nil_of_length_eq_zero (by omega)
  subst e
  exact ⟨rfl, Nat.le_refl _, Nat.zero_le _, h.lt, fun h => absurd rfl h, .inl rfl⟩
theorem QAt.head {a : α} {g o : Nat} (hk : ∀ a, (enc a).length = k) (h : QAt w k enc (some ⟨g, o, none⟩) c (a :: l) room) : QAt w k enc (some ⟨g, o, none⟩) 1 [a] false := by
  refine ⟨Nat.le_refl _, by unfold maxLen; omega, h.lt, fun _ => ⟨g, o, rfl, fun j hj => ?_⟩, .inl rfl⟩
  obtain ⟨g', o', e, hcell⟩ := h.read (by simp)
  cases e
  rw [List.length_singleton, Nat.one_mul] at hj
  rw [hcell j (by rw [List.length_cons, Nat.succ_mul]; omega)]
  show (enc a ++ flatE enc l)[j]? = (enc a ++ flatE enc [])[j]?
  rw [List.getElem?_append_left (by rw [hk]; exact hj), List.getElem?_append_left (by rw [hk]; exact hj)]
theorem ERow.qat {B T : Nat} {v : Value} (h : ERow w B T k enc v l) (hl : l ≠ []) : ∃ g c, v = .slice (some ⟨g, 0, none⟩) l.length c ∧ B ≤ g ∧ QAt w k enc (some ⟨g, 0, none⟩) c l true := by
  obtain ⟨g, c, cs, rfl, hc, hB, hb, hs, hm, ht⟩ := h.blk hl
  refine ⟨g, c, rfl, hB, hc, hm, fun a e => by cases e; exact hb.lt, fun _ => ⟨g, 0, rfl, fun j hj => ?_⟩, .inr ⟨rfl, g, 0, rfl, fun j j0 j1 => ⟨?_, hb.frozen _⟩⟩⟩
  · rw [Nat.zero_add, hb.cell, ← ht, List.getElem?_take, if_pos hj, Array.getElem?_toList]
  · rw [Nat.zero_add, hb.cell, Array.getElem?_eq_getElem (by omega)]; rfl
theorem setCells_grown (g : Nat) : ∀ (vs : List Value) (o : Nat) (w : World), w.grownBy (w.setCells g o vs) (some g)
  | [], o, w => ⟨rfl, rfl, rfl, Nat.le_refl _, fun _ _ _ => rfl⟩
  | v :: vs, o, w => by
    have h := setCells_grown g vs (o + 1) (w.setCell ⟨g, o, none⟩ v)
    have hs : (w.setCell ⟨g, o, none⟩ v).heap.size = w.heap.size := by simp
    exact ⟨h.os, h.tape, h.output, by rw [← hs]; exact h.size, fun j hj hn => (h.block j (by rw [hs]; exact hj) hn).trans (heap_setCell_other w ⟨g, o, none⟩ j v fun e => hn (by rw [e]))⟩
theorem grown_weak {row : Option Nat} (h : w.grownBy w' none) : w.grownBy w' row := ⟨h.os, h.tape, h.output, h.size, fun j hj _ => h.block j hj (by simp)⟩
theorem run_append_q {P : Program} (w : World) (t ty e : TypeId) (i : TypeInfo) (z : Value) (bytes : Nat) (ht : P.underlying t = some (.slice e)) (hi : P.info? e = some i) (hz : i.zero = some z) (hsize : i.size = k) (hby : i.bytes = bytes) (hzs : z.cells.size = k) (hsz : 0 < k) (hk : ∀ a, (enc a).length = k)
    {A : Option Addr} {c : Nat} {l : List α} {room : Bool} (h : QAt w k enc A c l room) (r : α) (ad : Addr) (c' : Nat) (hnews : ∀ j u, (enc r)[j]? = some u → w.cell? (ad.add j) = some u) (h1 : ∀ u ∈ enc r, u.oneCell' = true)
    (h63 : l.length + 1 ≤ maxLen) (hbytes : (l.length + 1) * bytes ≤ 140737488355328) :
    ∃ A' c'' w', (Builtin.append_ #[t, t] ty #[.slice A l.length c, .slice (some ad) 1 c']).run P w = .ok (.slice A' (l.length + 1) c'') w' ∧ QAt w' k enc A' c'' (l ++ [r]) true ∧ w.grownBy w' (if room then A.map (·.block) else none) ∧
      ∀ a', A' = some a' → (room = true ∧ ∃ a, A = some a ∧ a'.block = a.block) ∨ w.heap.size ≤ a'.block := by
  have hlen : (l ++ [r]).length = l.length + 1 := by simp
  have hfl : flatE enc (l ++ [r]) = flatE enc l ++ enc r := flatE_snoc l r
  have hfn := flatE_len hk l
  have hnl : (enc r).length = 1 * k := by rw [hk]; omega
  by_cases hc : l.length + 1 ≤ c
  · obtain ⟨hr, g, o, rfl, hsp⟩ : room = true ∧ ∃ g o, A = some ⟨g, o, none⟩ ∧ ∀ j, l.length * k ≤ j → j < c * k → (w.cell? ⟨g, o + j, none⟩).isSome = true ∧ w.frozen? ⟨g, o + j, none⟩ = false := by
      rcases h.spare with e | h
      · omega
      · exact h
    have hck : l.length * k + k ≤ c * k := by have := Nat.mul_le_mul_right k hc; rw [Nat.succ_mul] at this; exact this
    have hsome : ∀ j, j < (enc r).length → (w.cell? ⟨g, o + l.length * k + j, none⟩).isSome = true := fun j hj => by
      rw [hk] at hj
      rw [show o + l.length * k + j = o + (l.length * k + j) by omega]; exact (hsp _ (by omega) (by omega)).1
    have hrun := run_append_room_cells (P := P) w t ty e i ht hi g o l.length c ad 1 c' (enc r) (by rw [hsize]; exact hnl) hnews h1 hc (by rw [hsize]; exact hsome)
      (fun j hj => by rw [hk] at hj; rw [hsize, show o + l.length * k + j = o + (l.length * k + j) by omega]; exact (hsp _ (by omega) (by omega)).2)
    rw [hsize] at hrun
    have hgr := setCells_grown g (enc r) (o + l.length * k) w
    refine ⟨_, _, _, hrun, ⟨by rw [hlen]; exact hc, h.max, fun a e => by cases e; exact Nat.lt_of_lt_of_le (h.lt _ rfl) hgr.size, fun _ => ⟨g, o, rfl, fun j hj => ?_⟩, .inr ⟨rfl, g, o, rfl, fun j j0 j1 => ?_⟩⟩, by rw [hr, if_pos rfl]; exact hgr, fun a' e => by cases e; exact .inl ⟨hr, _, rfl, rfl⟩⟩
    · rw [hlen, Nat.succ_mul] at hj
      rw [hfl]
      by_cases hjl : j < l.length * k
      · rw [World.cell?_setCells_out g _ _ _ _ (fun _ _ => .inl (by show o + j < _; omega)), List.getElem?_append_left (by rw [hfn]; exact hjl)]
        obtain ⟨g', o', e, hcell⟩ := h.read (by intro e; rw [e] at hjl; simp at hjl)
        cases e
        exact hcell j hjl
      · have := World.cell?_setCells_in g (enc r) (o + l.length * k) w hsome (j - l.length * k) (by rw [hk]; omega)
        rw [show o + l.length * k + (j - l.length * k) = o + j by omega] at this
        rw [this, List.getElem?_append_right (by rw [hfn]; omega), hfn, List.getElem?_eq_getElem]
    · rw [hlen, Nat.succ_mul] at j0
      rw [World.cell?_setCells_out g _ _ _ _ (fun _ _ => .inr (by show _ ≤ o + j; rw [hk]; omega)), World.frozen?_setCells]
      exact hsp j (by omega) j1
  · have hcl : c = l.length := by have := h.le; omega
    have new : ∀ v' w1, w1.ownsRow w.heap.size e k v' (l.length + 1) (flatE enc l ++ enc r) → w.grownBy w1 none → (Builtin.append_ #[t, t] ty #[.slice A l.length c, .slice (some ad) 1 c']).run P w = .ok v' w1 → ∃ A' c'' w', (Builtin.append_ #[t, t] ty #[.slice A l.length c, .slice (some ad) 1 c']).run P w = .ok (.slice A' (l.length + 1) c'') w' ∧ QAt w' k enc A' c'' (l ++ [r]) true ∧ w.grownBy w' (if room then A.map (·.block) else none) ∧
      ∀ a', A' = some a' → (room = true ∧ ∃ a, A = some a ∧ a'.block = a.block) ∨ w.heap.size ≤ a'.block := fun v' w1 ho hg hr => by
      have hE : ERow w1 w.heap.size e k enc v' (l ++ [r]) := by unfold ERow; rw [hlen, hfl]; exact ho
      obtain ⟨g, c2, rfl, hB, hq⟩ := hE.qat (by simp)
      rw [hlen] at hr
      exact ⟨_, c2, w1, hr, hq, grown_weak hg, fun a' e => by cases e; exact .inr hB⟩
    cases A with
    | none =>
      have hl : l = [] := by
        refine Classical.byContradiction fun hl => ?_
        obtain ⟨g, o, e, -⟩ := h.read hl
        cases e
      subst hl
      have hc0 : c = 0 := hcl
      subst hc0
      obtain ⟨v', w1, hr, ho, hg, -⟩ := run_append_own (P := P) w w.heap.size t ty e i z k bytes ht hi hz hsize hby hzs hsz (.slice none 0 0) 0 [] (World.ownsRow_nil w _ e k) ad 1 c' (enc r) hnl hnews h1 (by simpa using h63) (by simpa using hbytes) (Nat.le_refl _)
      exact new v' w1 (by simpa [flatE] using ho) hg hr
    | some a =>
      have holds : ∀ j u, (flatE enc l)[j]? = some u → w.cell? (a.add j) = some u := fun j u hu => by
        have hj := (List.getElem?_eq_some_iff.1 hu).1
        rw [hfn] at hj
        obtain ⟨g, o, e, hcell⟩ := h.read (by intro e; rw [e] at hj; simp at hj)
        cases e
        rw [Addr.add_lit, hcell j hj]; exact hu
      obtain ⟨v', w1, hr, ho, hg⟩ := run_append_arg_grows (P := P) w t ty e i z k bytes ht hi hz hsize hby hzs hsz a l.length c (flatE enc l) hfn holds ad 1 c' (enc r) hnl hnews (by omega) h63 hbytes
      exact new v' w1 ho hg hr
/-- the block that an append may write -/
def rwBk (room : Bool) (A : Option Addr) : Option Nat := if room then A.map (·.block) else none
/-- where the new slice lies: as before, or in a new block -/
def WhQ (room : Bool) (A A' : Option Addr) (H : Nat) : Prop := ∀ a', A' = some a' → (room = true ∧ ∃ a, A = some a ∧ a'.block = a.block) ∨ H ≤ a'.block
theorem wpList_append_q {P : Program} (w : World) {ops : Array Oper} {rest : List Oper} {o : Oper} {a : Act} {Q : Exit → Act → World → Prop} (hgd : o.guard = none) (s x : Operand) (t : TypeId)
    (ho : o.op = .call { callee := .builtin .append, args := #[s, x], argTypes := #[t, t] }) (e : TypeId) (i : TypeInfo) (z : Value) (bytes : Nat) (ht : P.underlying t = some (.slice e)) (hi : P.info? e = some i) (hz : i.zero = some z) (hsize : i.size = k) (hby : i.bytes = bytes) (hzs : z.cells.size = k) (hsz : 0 < k) (hk : ∀ a, (enc a).length = k)
    {A : Option Addr} {c n : Nat} {l : List α} {room : Bool} (hn : l.length = n) (hs : a.eval s = .slice A n c) (h : QAt w k enc A c l room) (r : α) (ad : Addr) (c' : Nat) (hx : a.eval x = .slice (some ad) 1 c') (hnews : ∀ j u, (enc r)[j]? = some u → w.cell? (ad.add j) = some u) (h1 : ∀ u ∈ enc r, u.oneCell' = true)
    (h63 : n + 1 ≤ maxLen) (hbytes : (n + 1) * bytes ≤ 140737488355328)
    (hgo : ∀ A' c'' w', QAt w' k enc A' c'' (l ++ [r]) true → w.grownBy w' (rwBk room A) → WhQ room A A' w.heap.size →
      wpList P ops Q rest (a.put o.dst (.slice A' (n + 1) c'')) w') : wpList P ops Q (o :: rest) a w := by
  subst hn
  refine wpList_plain hgd fun _ hK => ?_
  obtain ⟨A', c'', w', hr, h2, h3, h4⟩ := run_append_q (P := P) w t o.type e i z bytes ht hi hz hsize hby hzs hsz hk h r ad c' hnews h1 h63 hbytes
  unfold Oper.wp execOp
  simp only [ho, resolve, invoke, builtin, Sem.run_bind, Sem.run_pure, Result.andThen_ok, List.map_toArray, List.map_cons, List.map_nil, hs, hx, hr]
  exact hK _ _ (hgo A' c'' w' h2 h3 h4)
end
end Go.Proofs.YtoonkpjddfiopaaDoor

/- Plain: a part of a grid is joined; whose each place is. No program in sight. -/
namespace Go.Proofs.YtoonkpjddfiopaaDoor
open Classical in
set_option linter.unusedVariables false
/-- seen, in line, and left: together the whole list; nothing that is left touches what has been seen -/
def Jn (W : Nat) (e : Bool) (l V line left : List Nat) : Prop := (V ++ line ++ left).Perm l ∧ ∀ x ∈ V, ∀ y ∈ left, ¬ AdjN W e x y
theorem Jn.start (W : Nat) (e : Bool) (a : Nat) (l : List Nat) : Jn W e (a :: l) [] [a] l := ⟨by simp, fun x hx => by simp at hx⟩
open Classical in
theorem Jn.step {W : Nat} {e : Bool} {l V line left : List Nat} {p : Nat} (h : Jn W e l V (p :: line) left) :
    Jn W e l (V ++ [p]) (line ++ left.filter fun q => decide (AdjN W e p q)) (left.filter fun q => !decide (AdjN W e p q)) := by
  refine ⟨?_, fun x hx y hy => ?_⟩
  · refine List.Perm.trans ?_ h.1
    have h1 : (left.filter (fun q => decide (AdjN W e p q)) ++ left.filter (fun q => !decide (AdjN W e p q))).Perm left := List.filter_append_perm _ _
    have : (V ++ [p] ++ (line ++ left.filter fun q => decide (AdjN W e p q)) ++ left.filter fun q => !decide (AdjN W e p q)) = V ++ (p :: line) ++ (left.filter (fun q => decide (AdjN W e p q)) ++ left.filter (fun q => !decide (AdjN W e p q))) := by simp
    rw [this]
    exact List.Perm.append_left _ h1
  · rw [List.mem_filter] at hy
    rcases List.mem_append.1 hx with hx | hx
    · exact h.2 x hx y hy.1
    · rw [List.mem_singleton] at hx
      subst hx
      simpa using hy.2
theorem Jn.end_ {W : Nat} {e : Bool} {l V left : List Nat} {a : Nat} (hn : l.Nodup) (hl : ∀ y ∈ l, Cn (· ∈ l) (AdjN W e) a y) (ha : a ∉ left) (hal : a ∈ l) (h : Jn W e l V [] left) : left = [] := by
  have hm : ∀ x, x ∈ l ↔ x ∈ V ∨ x ∈ left := fun x => by rw [← h.1.mem_iff]; simp
  refine List.eq_nil_iff_forall_not_mem.2 fun y hy => ?_
  have hc := hl y ((hm y).2 (.inr hy))
  have : y ∈ V := hc.closed (S := (· ∈ V)) (((hm a).1 hal).resolve_right ha) fun x z hx hz hA => by
    rcases (hm z).1 hz with h1 | h1
    · exact h1
    · exact absurd hA (h.2 x hx z h1)
  have hd := (h.1.nodup_iff).2 hn
  rw [List.append_nil, List.nodup_append] at hd
  exact hd.2.2 y this y hy rfl
theorem Jn.len {W : Nat} {e : Bool} {l V line left : List Nat} (h : Jn W e l V line left) : V.length + line.length + left.length = l.length := by
  have := h.1.length_eq; simp only [List.length_append] at this; exact this
theorem Jn.mem {W : Nat} {e : Bool} {l V line left : List Nat} (h : Jn W e l V line left) : (∀ x ∈ line, x ∈ l) ∧ ∀ x ∈ left, x ∈ l :=
  ⟨fun x hx => (h.1.mem_iff).1 (by simp [hx]), fun x hx => (h.1.mem_iff).1 (by simp [hx])⟩
/-- the members of a part lead to each other within it -/
theorem part_cn {n : Nat} {ink : Nat → Prop} {A : Nat → Nat → Prop} {r y : Nat} (hin : ∀ i, ink i → i < n) (hy : y ∈ partN n ink A r) : Cn (· ∈ partN n ink A r) A r y := by
  have hc := (mem_partN.1 hy).2
  refine hc.closed (S := fun y => Cn (· ∈ partN n ink A r) A r y) (.refl (mem_partN.2 ⟨hin _ hc.left, .refl hc.left⟩)) fun x z hx hz hA => ?_
  refine hx.step (mem_partN.2 ⟨hin z hz, ?_⟩) hA
  exact ((mem_partN.1 hx.right).2).step hz hA
/-- a part begins with its root -/
theorem part_head {n : Nat} {ink : Nat → Prop} {A : Nat → Nat → Prop} {r : Nat} (hin : ∀ i, ink i → i < n) (hr : Root ink A r) : ∃ l, partN n ink A r = r :: l := by
  have hm : r ∈ partN n ink A r := mem_partN.2 ⟨hin _ hr.1, .refl hr.1⟩
  have hs := partN_sorted (n := n) (ink := ink) (A := A) (i := r)
  match e : partN n ink A r with
  | [] => rw [e] at hm; simp at hm
  | x :: l =>
    rw [e] at hm hs
    have hx : x ∈ partN n ink A r := by rw [e]; simp
    have h1 := hr.2 x (mem_partN.1 hx).2
    rcases List.mem_cons.1 hm with h | h
    · exact ⟨l, by rw [h]⟩
    · have := (List.pairwise_cons.1 hs).1 r h; omega
/-- fewer parts if more are neighbours -/
theorem filter_len {p q : Nat → Bool} (h : ∀ x, p x = true → q x = true) : ∀ l : List Nat, (l.filter p).length ≤ (l.filter q).length
  | [] => by simp
  | a :: l => by
    have ih := filter_len h l
    simp only [List.filter_cons]
    by_cases h1 : p a = true
    · rw [if_pos h1, if_pos (h a h1)]; simp; exact ih
    · rw [if_neg h1]
      split
      · simp; omega
      · exact ih
theorem adj_true {W : Nat} {e : Bool} {i j : Nat} (h : AdjN W e i j) : AdjN W true i j := ⟨h.1, h.2.1, h.2.2.1, h.2.2.2.1, h.2.2.2.2.1, .inl rfl⟩
open Classical in
theorem roots_less (n W : Nat) (ink : Nat → Prop) (e : Bool) : (rootN n ink (AdjN W true)).length ≤ (rootN n ink (AdjN W e)).length := by
  unfold rootN
  refine filter_len (fun x hx => ?_) _
  rw [decide_eq_true_eq] at hx ⊢
  exact ⟨hx.1, fun j hj => hx.2 j (hj.mono (fun _ h => h) fun _ _ h => adj_true h)⟩
/-- whose each place is: t parts are done, and s places of the next one -/
structure Own (n : Nat) (R : List Nat) (P : Nat → List Nat) (o : Int → Int) (t s : Nat) : Prop where
  old : ∀ (i j r : Nat), R[j]? = some r → j < t → i ∈ P r → o i = j + 1
  now : ∀ (i r : Nat), R[t]? = some r → i ∈ (P r).take s → o i = t + 1
  no : ∀ i : Nat, (∀ j r, R[j]? = some r → j < t → i ∉ P r) → (∀ r, R[t]? = some r → i ∉ (P r).take s) → o i = 0
theorem Own.start (n : Nat) (R : List Nat) (P : Nat → List Nat) : Own n R P (fun _ => 0) 0 0 := ⟨fun _ _ _ _ h => by omega, fun _ _ _ h => by simp at h, fun _ _ _ => rfl⟩
theorem Own.next {n : Nat} {R : List Nat} {P : Nat → List Nat} {o : Int → Int} {t r : Nat} (hr : R[t]? = some r) (h : Own n R P o t (P r).length) : Own n R P o (t + 1) 0 := by
  refine ⟨fun i j r' hj hlt hi => ?_, fun _ _ _ h => by simp at h, fun i h1 _ => ?_⟩
  · by_cases e : j = t
    · subst e
      rw [hr] at hj; cases hj
      exact h.now i r hr (by rw [List.take_length]; exact hi)
    · exact h.old i j r' hj (by omega) hi
  · exact h.no i (fun j r' hj hlt => h1 j r' hj (by omega)) fun r' hr' => by
      rw [hr] at hr'; cases hr'
      rw [List.take_length]
      exact h1 t r hr (by omega)
theorem Own.step {n : Nat} {R : List Nat} {P : Nat → List Nat} {o : Int → Int} {t s r x : Nat} (hd : ∀ j r', R[j]? = some r' → j < t → x ∉ P r') (hn : (P r).Nodup) (hr : R[t]? = some r) (hx : (P r)[s]? = some x) (h : Own n R P o t s) :
    o x = 0 ∧ Own n R P (upd o x (t + 1)) t (s + 1) := by
  have hs : s < (P r).length := (List.getElem?_eq_some_iff.1 hx).1
  have hxe : (P r)[s] = x := (List.getElem?_eq_some_iff.1 hx).2
  have hnot : x ∉ (P r).take s := fun hm => by
    obtain ⟨i, hi, e⟩ := List.mem_take_iff_getElem.1 hm
    have h2 := List.pairwise_iff_getElem.1 hn i s (by omega) hs (by omega)
    rw [e, hxe] at h2
    exact h2 rfl
  have htk : (P r).take (s + 1) = (P r).take s ++ [x] := by rw [List.take_add_one, hx]; rfl
  refine ⟨h.no x (fun j r' hj hl => hd j r' hj hl) (fun r' hr' => by rw [hr] at hr'; cases hr'; exact hnot), ⟨fun i j r' hj hlt hi => ?_, fun i r' hr' hi => ?_, fun i h1 h2 => ?_⟩⟩
  · rw [upd_ne]
    · exact h.old i j r' hj hlt hi
    · intro e
      have e' : i = x := by omega
      exact hd j r' hj hlt (e' ▸ hi)
  · rw [hr] at hr'; cases hr'
    rw [htk] at hi
    rcases List.mem_append.1 hi with hi | hi
    · rw [upd_ne]
      · exact h.now i r hr hi
      · intro e
        have e' : i = x := by omega
        exact hnot (e' ▸ hi)
    · rw [List.mem_singleton] at hi
      subst hi
      exact upd_at _ _ _
  · have h3 := h2 r hr
    rw [htk, List.mem_append] at h3
    rw [upd_ne]
    · exact h.no i h1 fun r' hr' => by rw [hr] at hr'; cases hr'; exact fun hm => h3 (.inl hm)
    · intro e
      have e' : i = x := by omega
      exact h3 (.inr (by simp [e']))
/-- when all parts are done -/
theorem own_all {n W : Nat} {e : Bool} {p o : Int → Int} (h : Own n (rootN n (InkN n p) (AdjN W e)) (partN n (InkN n p) (AdjN W e)) o (rootN n (InkN n p) (AdjN W e)).length 0) :
    (∀ i : Nat, i < n → (o i = 0 ↔ p i ≠ 1) ∧ 0 ≤ o i) ∧ ∀ i j : Nat, InkN n p i → InkN n p j → AdjN W e i j → o i = o j := by
  have ix : ∀ i, InkN n p i → ∃ k r, (rootN n (InkN n p) (AdjN W e))[k]? = some r ∧ k < (rootN n (InkN n p) (AdjN W e)).length ∧ Root (InkN n p) (AdjN W e) r ∧ Cn (InkN n p) (AdjN W e) r i ∧ i ∈ partN n (InkN n p) (AdjN W e) r := fun i hi => by
    obtain ⟨r, _, h2, h3⟩ := root_ex AdjN.symm hi
    have hm : r ∈ rootN n (InkN n p) (AdjN W e) := mem_rootN.2 ⟨h2.1.1, h2⟩
    obtain ⟨k, hk, e⟩ := List.getElem_of_mem hm
    exact ⟨k, r, by rw [List.getElem?_eq_getElem hk, e], hk, h2, h3, mem_partN.2 ⟨hi.1, h3⟩⟩
  have noink : ∀ i : Nat, i < n → p i ≠ 1 → o i = 0 := fun i hi hp => h.no i (fun j r hj _ hm => hp (mem_partN.1 hm).2.right.2) fun r hr => by simp
  refine ⟨fun i hi => ?_, fun i j hi hj hA => ?_⟩
  · by_cases hp : p i = 1
    · obtain ⟨k, r, h1, h2, _, _, h5⟩ := ix i ⟨hi, hp⟩
      have := h.old i k r h1 h2 h5
      exact ⟨⟨fun e => by omega, fun e => absurd hp e⟩, by omega⟩
    · have := noink i hi hp
      exact ⟨⟨fun _ => hp, fun _ => this⟩, by omega⟩
  · obtain ⟨k, r, h1, h2, h3, h4, h5⟩ := ix i hi
    have hm : j ∈ partN n (InkN n p) (AdjN W e) r := mem_partN.2 ⟨hj.1, h4.step hj hA⟩
    rw [h.old i k r h1 h2 h5, h.old j k r h1 h2 hm]
/-- parts of two roots have nothing in common -/
theorem part_apart {n W : Nat} {e : Bool} {p : Int → Int} {j t r r' x : Nat} (hj : (rootN n (InkN n p) (AdjN W e))[j]? = some r') (ht : (rootN n (InkN n p) (AdjN W e))[t]? = some r) (hlt : j < t) (hx : x ∈ partN n (InkN n p) (AdjN W e) r) : x ∉ partN n (InkN n p) (AdjN W e) r' := fun hx' => by
  have m1 := (mem_rootN.1 (List.mem_of_getElem? hj)).2
  have m2 := (mem_rootN.1 (List.mem_of_getElem? ht)).2
  have er := root_uniq AdjN.symm m1 m2 ((mem_partN.1 hx').2.trans ((mem_partN.1 hx).2.symm AdjN.symm))
  obtain ⟨a1, b1⟩ := List.getElem?_eq_some_iff.1 hj
  obtain ⟨a2, b2⟩ := List.getElem?_eq_some_iff.1 ht
  have := List.pairwise_iff_getElem.1 (rootN_sorted (n := n) (ink := InkN n p) (A := AdjN W e)) j t a1 a2 hlt
  omega
end Go.Proofs.YtoonkpjddfiopaaDoor

/- Walks: slices.Clone of points, joined. -/
namespace Go.Proofs.YtoonkpjddfiopaaDoor
open Go.RowKit Go.Shelf
set_option linter.unusedVariables false
attribute [local go_sem] Oper.semAt_some

set_option maxRecDepth 100000 in
set_option maxHeartbeats 1000000 in
theorem clonePt_any (W : Nat) (l : List Nat) (A : Option Addr) (n c : Nat) (w : World) (hA : EArr w w.heap.size 2 (encP W) A l) (hl : l ≠ []) (hL : l.length = n) (hn : n ≤ 1000000) :
    Calls Tryd.prog 115 #[.slice A n c] w (New w fun v w' => ∃ g c', v = .slice (some ⟨g, 0, none⟩) n c' ∧ w.heap.size ≤ g ∧ QAt w' 2 (encP W) (some ⟨g, 0, none⟩) c' l true) := by
  obtain ⟨r0, hr0, hrz0, hrz1, hrz2⟩ := info_parts info_Pt
  obtain ⟨b, rfl, hb, hc⟩ := hA hl
  have E1 : ∀ W, (binOp .eql 45 (.slice (some ⟨b, 0, none⟩) n c) (.slice none 0 0)).run Tryd.prog W = .ok (.bool false) W := fun W => Go.run_eql_slice_nil W _ _ _ _ _ Tryd.underlying45
  have HC := Lib.hid hc
  have HL := Lib.hid hL
  have HNE := Lib.hid hl
  clear hc hA hL hl
  go_enter Tryd.func115, Tryd.ntmps115
  go_wp2_with (at_builtin; refine wpList_append_own _ rfl (.tmp 5) (.tmp 6) 45 rfl w.heap.size 51 r0 (.agg #[.int .i64 0, .int .i64 0]) 2 16 Tryd.underlying45 hr0 hrz0 hrz1 hrz2 rfl (by decide) _ 0 [] rfl (World.ownsRow_made w #[] 0 (Nat.le_refl _) (by decide) rfl) ⟨b, 0, none⟩ n c (flatE (encP W) l) rfl (by rw [flatE_len (encP_len W), HL.out]) ?c1 ?c2 ?c3 ?c4 ?c5 ?_)
  case c1 =>
    intro j u hj
    have hjn : j < l.length * 2 := by have := (List.getElem?_eq_some_iff.1 hj).1; rw [flatE_len (encP_len W)] at this; exact this
    obtain ⟨r, hr⟩ : ∃ r, l[j / 2]? = some r := ⟨l[j / 2]'(by omega), List.getElem?_eq_getElem _⟩
    have h1 := HC.out (j / 2) r hr (j % 2) (by omega)
    have h2 := flatE_at (encP_len W) l (j / 2) r hr (j % 2) (by omega)
    rw [show j / 2 * 2 + j % 2 = j by omega] at h1 h2
    rw [← h2, hj] at h1
    rw [Addr.add_lit, Nat.zero_add]
    exact (Below.cell ((Below.refl _ _).alloc (Nat.le_refl _) _) (p := ⟨b, j, none⟩) hb).trans h1
  case c2 =>
    intro u hu
    obtain ⟨a, _, h⟩ := List.mem_flatMap.1 hu
    rcases List.mem_cons.1 h with rfl | h
    · rfl
    · rcases List.mem_cons.1 h with rfl | h
      · rfl
      · simp at h
  case c3 => unfold maxLen; omega
  case c4 => omega
  case c5 => simp
  intro v' w7 own7 hg7 _
  have b7 : Below w.heap.size w w7 := ((Below.refl w.heap.size w).alloc (Nat.le_refl _) (.cells #[] 51)).grown hg7 (by simp) (fun k hk => by cases hk; exact Nat.le_refl _)
  have hE : ERow w7 w.heap.size 51 2 (encP W) v' l := by unfold ERow; rw [HL.out]; simpa using own7
  obtain ⟨g, c2, rfl, hB, hq⟩ := hE.qat HNE.out
  rw [HL.out]
  go_wp2
  go_ret
  exact ⟨_, rfl, ⟨g, c2, rfl, hB, hq⟩, b7⟩
open Classical in
/-- neighbours, as a test -/
noncomputable def nrB (W : Nat) (e : Bool) (p q : Nat) : Bool := decide (AdjN W e p q)
theorem nrB_iff {W : Nat} {e : Bool} {p q : Nat} : nrB W e p q = true ↔ AdjN W e p q := @decide_eq_true_iff _ (Classical.propDecidable _)
theorem Jn.step' {W : Nat} {e : Bool} {l V line left : List Nat} {p : Nat} (h : Jn W e l V (p :: line) left) : Jn W e l (V ++ [p]) (line ++ left.filter fun q => nrB W e p q) (left.filter fun q => !nrB W e p q) := h.step
theorem row_ne {room : Bool} {A B : Option Addr} (h : room = true → nbA A B) : ∀ b, B = some b → some b.block ≠ rwBk room A := fun b eb e => by
  unfold rwBk at e
  cases room with
  | false => cases e
  | true =>
    rw [if_pos rfl] at e
    cases A with
    | none => cases e
    | some a => exact h rfl a b rfl eb (Option.some.inj e).symm
theorem row_gp {room : Bool} {A : Option Addr} {g : Nat} (h : ∀ a, A = some a → a.block ≠ g) : some g ≠ rwBk room A := fun e => by
  unfold rwBk at e
  cases room with
  | false => cases e
  | true =>
    rw [if_pos rfl] at e
    cases A with
    | none => cases e
    | some a => exact h a rfl (Option.some.inj e).symm
theorem row_ge {room : Bool} {A : Option Addr} {B : Nat} (h : ∀ a, A = some a → B ≤ a.block) : ∀ j, rwBk room A = some j → B ≤ j := fun j e => by
  unfold rwBk at e
  cases room with
  | false => cases e
  | true =>
    rw [if_pos rfl] at e
    cases A with
    | none => cases e
    | some a => cases e; exact h a rfl
theorem nb_move {room : Bool} {A A' B : Option Addr} {H : Nat} (h : room = true → nbA A B) (hw : WhQ room A A' H) (hB : ∀ b, B = some b → b.block < H) : nbA A' B := fun a b ea eb => by
  rcases hw a ea with ⟨hr, a0, e0, e1⟩ | h1
  · rw [e1]; exact h hr a0 b e0 eb
  · have := hB b eb; omega
theorem nbA.symm {A B : Option Addr} (h : nbA A B) : nbA B A := fun a b ea eb e => h b a eb ea e.symm
theorem filt_more {f : Nat → Bool} {left : List Nat} {j q : Nat} (h : left[j]? = some q) : (left.take (j + 1)).filter f = (left.take j).filter f ++ if f q then [q] else [] := by
  rw [List.take_add_one, h, List.filter_append]
  congr 1
  cases hf : f q <;> simp [List.filter, hf]
/-- neighbours, by the greater differences of their columns and rows -/
theorem nr_max {W : Nat} {e : Bool} {p q : Nat} (hne : p ≠ q) {x y u v mx my : Int} (hx : ((p % W : Nat) : Int) = x) (hy : ((p / W : Nat) : Int) = y) (hu : ((q % W : Nat) : Int) = u) (hv : ((q / W : Nat) : Int) = v) (hmx : max (x - u) (u - x) = mx) (hmy : max (y - v) (v - y) = my) :
    nrB W e p q = ((max mx my == 1) && (e || (mx + my == 1))) := by
  apply Bool.eq_iff_iff.2
  rw [nrB_iff, Bool.and_eq_true, Bool.or_eq_true, beq_iff_eq, beq_iff_eq]
  have hd : ¬ (x = u ∧ y = v) := fun ⟨h1, h2⟩ => hne (divmod_eq (W := W) (by rw [hx, hu, h1]) (by rw [hy, hv, h2]))
  unfold AdjN
  have a1 : ((p : Int) % W) = x := by rw [← hx]; push_cast; rfl
  have a2 : ((q : Int) % W) = u := by rw [← hu]; push_cast; rfl
  have a3 : ((p : Int) / W) = y := by rw [← hy]; push_cast; rfl
  have a4 : ((q : Int) / W) = v := by rw [← hv]; push_cast; rfl
  rw [a1, a2, a3, a4]
  constructor
  · rintro ⟨_, h1, h2, h3, h4, h5⟩
    refine ⟨by omega, ?_⟩
    rcases h5 with h5 | h5 | h5
    · exact .inl h5
    · exact .inr (by omega)
    · exact .inr (by omega)
  · rintro ⟨h1, h2⟩
    refine ⟨hne, by omega, by omega, by omega, by omega, ?_⟩
    rcases h2 with h2 | h2
    · exact .inl h2
    · by_cases e1 : x = u
      · exact .inr (.inl e1)
      · exact .inr (.inr (by omega))
def lenS : Value → Nat
  | .slice _ n _ => n
  | _ => 0
set_option maxRecDepth 100000 in
set_option maxHeartbeats 4000000 in
theorem joined_any (W : Nat) (e : Bool) (a : Nat) (l : List Nat) (A : Option Addr) (n c : Nat) (w : World) (hA : EArr w w.heap.size 2 (encP W) A (a :: l)) (hL : (a :: l).length = n) (hn : n ≤ 1000000) (hnd : (a :: l).Nodup)
    (hcn : ∀ y ∈ a :: l, Cn (· ∈ a :: l) (AdjN W e) a y) (hb : ∀ i ∈ a :: l, i < 1000000) :
    Calls Tryd.prog 62 #[.slice A n c, .bool e] w fun x w' => x = .returned (.bool true) ∧ Below w.heap.size w w' := by
  have CL := Lib.hid fun w' hA' => clonePt_any W (a :: l) A n c w' hA' (by simp) hL hn
  have HL := Lib.hid hL
  have n0 : n ≠ 0 := by rw [← hL]; simp
  have n1 : ¬ (n : Int) = 0 := by omega
  have n2 : ((n : Int) == 0) = false := by simp; omega
  have HA := Lib.hid hA
  obtain ⟨r0, hr0, hrz0, hrz1, hrz2⟩ := info_parts info_Pt
  clear hA hL
  go_enter Tryd.func62, Tryd.ntmps62
  go_wp2_with fail
  refine (CL.out _ HA.out).mono ?_
  rintro x w2 ⟨_, rfl, ⟨gc, c', rfl, hgc, hq⟩, hb2⟩
  have hle := hq.le
  have hmx := hq.max
  rw [HL.out] at hle
  have i1 : (1 : Int) ≤ (c' : Int) := by omega
  have i2 : (1 : Int) ≤ (n : Int) := by omega
  have i3 : (n : Int) ≤ (c' : Int) := by omega
  have i4 : 1 ≤ c' := by omega
  have i5 : 1 ≤ n := by omega
  clear CL HA
  go_upto_region 5 with fail
  go_cut [5] (fun v wx => ∃ A1 c1 rm, v = .slice A1 (n - 1) c1 ∧ wx = w2 ∧ QAt w2 2 (encP W) A1 c1 l rm ∧ ∀ b, A1 = some b → b.block = gc)
  case first =>
    by_cases h : c' = 1
    · subst h
      obtain ⟨e0, q0⟩ := hq.last
      have en : n - 1 = 0 := by omega
      go_wp2_with fail
      go_meet
      exact ⟨some ⟨gc, 0, none⟩, 0, false, by rw [en], by first | rfl | trivial, q0, fun b e => by cases e; rfl⟩
    · have q1 := hq.tail (encP_len W) h
      go_wp2_with fail
      go_meet
      exact ⟨_, _, _, rfl, by first | rfl | trivial, q1, fun b e => by cases e; rfl⟩
  case rest =>
  obtain ⟨A1, c1, rm, rfl, rfl, hql, hA1⟩ := hcut
  have hqh := hq.head (encP_len W)
  have hlt := hq.lt ⟨gc, 0, none⟩ rfl
  have HJ0 : Hid (Jn W e (a :: l) [] [a] l ∧ a ∉ l) := Lib.hid ⟨Jn.start W e a l, (List.nodup_cons.1 hnd).1⟩
  have HND := Lib.hid hnd; have HCN := Lib.hid hcn; have HB := Lib.hid hb
  have hlen : l.length = n - 1 := by have := HL.out; rw [List.length_cons] at this; omega
  clear hq hnd hcn hb hle hmx i1 i2 i3 i4
  generalize wc = w2 at *
  go_wp2_with fail
  go_loopw [5, 6] (fun v5 v6 wr => ∃ (V line left : List Nat) (A1 A2 : Option Addr) (n1 c1 n2 c2 : Nat) (r1 r2 : Bool), v5 = .slice A1 n1 c1 ∧ v6 = .slice A2 n2 c2 ∧ left.length = n1 ∧ line.length = n2 ∧ Hid (Jn W e (a :: l) V line left ∧ a ∉ left) ∧ Below w.heap.size w wr ∧
    QAt wr 2 (encP W) A1 c1 left r1 ∧ QAt wr 2 (encP W) A2 c2 line r2 ∧ (r2 = true → nbA A2 A1) ∧ ∀ b, A2 = some b → w.heap.size ≤ b.block) (fun v5 v6 _ => lenS v5 + lenS v6)
  case atStart => exact ⟨[], [a], l, A1, _, n - 1, c1, 1, 1, rm, false, rfl, rfl, hlen, rfl, HJ0, hb2, hql, hqh, (fun h => by cases h), fun b e => by cases e; exact hgc⟩
  case round =>
    obtain ⟨V, line, left, A1, A2, n1, c1, n2, c2, r1, r2, rfl, rfl, hn1, hn2, hJ, hbw, q1, q2, d21, hA2⟩ := hrel
    clear hb2 hql hqh hA1
    cases line with
    | nil =>
      obtain rfl : n2 = 0 := hn2.symm
      have hl0 : left = [] := Jn.end_ HND.out HCN.out hJ.out.2 (List.mem_cons_self ..) hJ.out.1
      obtain rfl : n1 = 0 := by rw [← hn1, hl0]; rfl
      clear q1 q2 d21
      go_wp2_with fail
      go_ret
      exact ⟨rfl, hbw⟩
    | cons p line =>
      have hlenJ := hJ.out.1.len
      rw [List.length_cons, hn1] at hlenJ
      have hLn := HL.out
      rw [hLn] at hlenJ
      obtain ⟨m2, hm2⟩ : ∃ m, line.length = m := ⟨_, rfl⟩
      have e2 : n2 = m2 + 1 := by rw [← hn2, List.length_cons, hm2]
      subst e2
      rw [hm2] at hlenJ
      have hle2 := q2.le
      rw [List.length_cons, hm2] at hle2
      obtain ⟨g2, o2, rfl, hc2⟩ := q2.at_ (encP_len W) (i := 0) (r := p) rfl
      have a0 := hc2 0 (by omega)
      have a1 := hc2 1 (by omega)
      change _ = some (Value.int .i64 ((p % W : Nat) : Int)) at a0
      change _ = some (Value.int .i64 ((p / W : Nat) : Int)) at a1
      rw [show o2 + (0 * 2 + 0) = o2 by omega] at a0
      rw [show o2 + (0 * 2 + 1) = o2 + 1 by omega] at a1
      have hpb : p < 1000000 := HB.out p (hJ.out.1.mem.1 p (List.mem_cons_self ..))
      have xb : ((p % W : Nat) : Int) ≤ 1000000 := by have := Nat.mod_le p W; omega
      have yb : ((p / W : Nat) : Int) ≤ 1000000 := by have := Nat.div_le_self p W; omega
      have x0 : 0 ≤ ((p % W : Nat) : Int) := Int.natCast_nonneg _
      have y0 : 0 ≤ ((p / W : Nat) : Int) := Int.natCast_nonneg _
      obtain ⟨X, hX⟩ : ∃ X : Int, ((p % W : Nat) : Int) = X := ⟨_, rfl⟩
      obtain ⟨Y, hY⟩ : ∃ Y : Int, ((p / W : Nat) : Int) = Y := ⟨_, rfl⟩
      rw [hX] at a0 xb x0
      rw [hY] at a1 yb y0
      have HX := Lib.hid hX; have HY := Lib.hid hY
      have i1 : (0 : Int) < ((m2 + 1 : Nat) : Int) := by omega
      have i2 : (1 : Int) ≤ ((m2 + 1 : Nat) : Int) := by omega
      have i4 : 1 ≤ c2 := by omega
      have i5 : m2 + 1 ≤ c2 := by omega
      have i6 : (1 : Int) ≤ (c2 : Int) := by omega
      have i7 : ((m2 + 1 : Nat) : Int) ≤ (c2 : Int) := by omega
      have i8 : 0 < m2 + 1 := by omega
      obtain ⟨gp, hgp⟩ : ∃ g, wr.heap.size = g := ⟨_, rfl⟩
      have kp : Blk (wr.alloc (.cells #[.int .i64 X, .int .i64 Y] 51)) gp 51 #[.int .i64 X, .int .i64 Y] := Blk.new' hgp _ _
      have bA : Below wr.heap.size wr (wr.alloc (.cells #[.int .i64 X, .int .i64 Y] 51)) := (Below.refl _ _).alloc (Nat.le_refl _) _
      have z2 : g2 < gp := by have : g2 < wr.heap.size := q2.lt ⟨g2, o2, none⟩ rfl; omega
      have z1 : ∀ b, A1 = some b → b.block < gp := fun b e => by have := q1.lt b e; omega
      have zw : w.heap.size ≤ gp := by have := hbw.size; omega
      have zg2 : w.heap.size ≤ g2 := hA2 _ rfl
      have q1' := q1.below bA
      have q2' := q2.below bA
      have bw' := below_call hbw hbw.size bA
      have Z1 := Lib.hid z1
      have HJ := Lib.hid hJ.out
      clear hX hY q1 q2 hbw bA hpb hc2 hJ hn2 hA2 hle2
      go_upto_region 8 with fail
      generalize wr.alloc (.cells #[.int .i64 X, .int .i64 Y] 51) = w3 at *
      clear a0 a1 hgp z1
      go_cut [6] (fun v wx => ∃ A2 c2' r2', v = .slice A2 m2 c2' ∧ wx = w3 ∧ QAt w3 2 (encP W) A2 c2' line r2' ∧ (r2' = true → r2 = true) ∧ ∀ b, A2 = some b → b.block = g2)
      case first =>
        by_cases h : c2 = 1
        · subst h
          obtain ⟨e0, q0⟩ := q2'.last
          have en : m2 = 0 := by omega
          subst en
          go_wp2_with fail
          go_meet
          exact ⟨some ⟨g2, o2, none⟩, 0, false, rfl, by first | rfl | trivial, q0, (fun h => by cases h), fun b e => by cases e; rfl⟩
        · have q1 := q2'.tail (encP_len W) h
          go_wp2_with fail
          go_meet
          exact ⟨some ⟨g2, o2 + 2, none⟩, c2 - 1, r2, rfl, by first | rfl | trivial, q1, id, fun b e => by cases e; rfl⟩
      case rest =>
      obtain ⟨A2, c2', r2', rfl, rfl, q2, hr2, hb2⟩ := hcut
      have d2 : r2' = true → nbA A2 A1 := fun h a b ea eb => by have := d21 (hr2 h) _ _ rfl eb; rw [hb2 a ea]; exact this
      have h2g : ∀ b, A2 = some b → b.block < gp ∧ w.heap.size ≤ b.block := fun b e => by have : b.block = g2 := hb2 b e; omega
      clear q2' d21 hr2 hb2 i1 i2 i4 i5 i6 i7 i8
      generalize wc = w3 at *
      have JS : Hid (∀ f g, f = left.filter (fun q => nrB W e p q) → g = left.filter (fun q => !nrB W e p q) → Jn W e (a :: l) (V ++ [p]) (line ++ f) g ∧ a ∉ g) := Lib.hid fun f g hf hg => by
        subst hf hg
        exact ⟨HJ.out.1.step', fun h => HJ.out.2 (List.mem_filter.1 h).1⟩
      have LB := Lib.hid (fun q (h : q ∈ left) => HB.out q (HJ.out.1.mem.2 q h))
      have HN1 := Lib.hid hn1
      have HM2 := Lib.hid hm2
      have NP : Hid (p ∉ left) := Lib.hid fun h => by
        have := (HJ.out.1.1.nodup_iff).2 HND.out
        rw [List.append_assoc, List.nodup_append] at this
        have h2 := this.2.1
        rw [List.cons_append, List.nodup_cons] at h2
        exact h2.1 (List.mem_append_right _ h)
      clear HJ hn1 hm2
      go_wp2_with fail
      go_loopw [6, 8, 32] (fun v6 v8 s wx => ∃ (j : Nat) (A2 A3 : Option Addr) (n2 c2 n3 c3 : Nat) (r2 r3 : Bool), j ≤ n1 ∧ s = .int .i64 j ∧ v6 = .slice A2 n2 c2 ∧ v8 = .slice A3 n3 c3 ∧ (line ++ (left.take j).filter fun q => nrB W e p q).length = n2 ∧ ((left.take j).filter fun q => !nrB W e p q).length = n3 ∧ n2 ≤ m2 + j ∧ n3 ≤ j ∧ n2 + n3 = m2 + j ∧
        Below w.heap.size w wx ∧ Blk wx gp 51 #[.int .i64 X, .int .i64 Y] ∧ QAt wx 2 (encP W) A1 c1 left r1 ∧ QAt wx 2 (encP W) A2 c2 (line ++ (left.take j).filter fun q => nrB W e p q) r2 ∧ QAt wx 2 (encP W) A3 c3 ((left.take j).filter fun q => !nrB W e p q) r3 ∧
        Hid ((r2 = true → nbA A2 A1) ∧ nbA A2 A3 ∧ nbA A3 A2 ∧ (r3 = true → nbA A3 A1) ∧ (∀ b, A2 = some b → b.block ≠ gp ∧ w.heap.size ≤ b.block) ∧ ∀ b, A3 = some b → b.block ≠ gp ∧ w.heap.size ≤ b.block)) (fun _ _ s _ => n1 - (intOf s).toNat)
      case atStart => exact ⟨0, A2, none, m2, c2', 0, 0, r2', false, by omega, rfl, rfl, rfl, by rw [List.take_zero, List.filter_nil, List.append_nil, HM2.out], by rw [List.take_zero]; rfl, by omega, by omega, by omega, bw', kp, q1', by rw [List.take_zero, List.filter_nil, List.append_nil]; exact q2, by rw [List.take_zero]; exact QAt.nil _ _ _,
          Lib.hid ⟨d2, (fun _ _ _ h => by cases h), (fun _ _ h => by cases h), (fun h => by cases h), (fun b e => by have := h2g b e; omega), fun _ h => by cases h⟩⟩
      case round =>
        obtain ⟨j, A2, A3, n2, c2, n3, c3, r2, r3, hj, rfl, rfl, rfl, hl2, hl3, hb2, hb3, hs23, hbw, kp2, q1, q2, q3, hD⟩ := hrel
        clear bw' kp q1'
        have hwl := hbw.size
        by_cases jl : (j : Int) < n1
        · obtain ⟨q, hq⟩ : ∃ q, left[j]? = some q := ⟨left[j]'(by rw [HN1.out]; omega), List.getElem?_eq_getElem _⟩
          have hqm := List.mem_of_getElem? hq
          have hqb := LB.out q hqm
          have hpq : p ≠ q := fun h => NP.out (h ▸ hqm)
          obtain ⟨g1, o1, e1, hc1⟩ := q1.at_ (encP_len W) hq
          have a0 := hc1 0 (by omega)
          have a1 := hc1 1 (by omega)
          change _ = some (Value.int .i64 ((q % W : Nat) : Int)) at a0
          change _ = some (Value.int .i64 ((q / W : Nat) : Int)) at a1
          rw [show o1 + (j * 2 + 0) = o1 + j * 2 by omega] at a0
          rw [show o1 + (j * 2 + 1) = o1 + j * 2 + 1 by omega] at a1
          have ub : ((q % W : Nat) : Int) ≤ 1000000 := by have := Nat.mod_le q W; omega
          have vb : ((q / W : Nat) : Int) ≤ 1000000 := by have := Nat.div_le_self q W; omega
          have u0 : 0 ≤ ((q % W : Nat) : Int) := Int.natCast_nonneg _
          have v0 : 0 ≤ ((q / W : Nat) : Int) := Int.natCast_nonneg _
          obtain ⟨mx, hmx⟩ : ∃ m : Int, max (X - ((q % W : Nat) : Int)) (((q % W : Nat) : Int) - X) = m := ⟨_, rfl⟩
          obtain ⟨my, hmy⟩ : ∃ m : Int, max (Y - ((q / W : Nat) : Int)) (((q / W : Nat) : Int) - Y) = m := ⟨_, rfl⟩
          have NRB := Lib.hid (nr_max (e := e) hpq HX.out HY.out rfl rfl hmx hmy)
          obtain ⟨U, hU⟩ : ∃ U : Int, ((q % W : Nat) : Int) = U := ⟨_, rfl⟩
          obtain ⟨Vv, hV⟩ : ∃ Vv : Int, ((q / W : Nat) : Int) = Vv := ⟨_, rfl⟩
          rw [hU] at a0 ub u0 hmx
          rw [hV] at a1 vb v0 hmy
          have w1 : IntKind.i64.wrap (X - U) = X - U := IntWalk.i64_in _ (by omega)
          have w2 : IntKind.i64.wrap (U - X) = U - X := IntWalk.i64_in _ (by omega)
          have w3 : IntKind.i64.wrap (Y - Vv) = Y - Vv := IntWalk.i64_in _ (by omega)
          have w4 : IntKind.i64.wrap (Vv - Y) = Vv - Y := IntWalk.i64_in _ (by omega)
          have m1 : (if X - U < U - X then U - X else X - U) = mx := by rw [← hmx]; split <;> omega
          have m3 : (if Y - Vv < Vv - Y then Vv - Y else Y - Vv) = my := by rw [← hmy]; split <;> omega
          have m2 : max (X - U) (U - X) = mx := hmx
          have m4 : max (Y - Vv) (Vv - Y) = my := hmy
          have mb1 : 0 ≤ mx ∧ mx ≤ 1000000 := by omega
          have mb2 : 0 ≤ my ∧ my ≤ 1000000 := by omega
          obtain ⟨mm, hmm⟩ : ∃ m : Int, max mx my = m := ⟨_, rfl⟩
          have m5 : (if mx < my then my else mx) = mm := by rw [← hmm]; split <;> omega
          have m6 : max mx my = mm := hmm
          obtain ⟨ms, hms⟩ : ∃ m : Int, mx + my = m := ⟨_, rfl⟩
          have w5 : IntKind.i64.wrap (mx + my) = ms := (IntWalk.i64_in _ (by omega)).trans hms
          rw [hmm, hms] at NRB
          obtain ⟨k1, hk1⟩ : ∃ b, (mm == 1) = b := ⟨_, rfl⟩
          obtain ⟨k2, hk2⟩ : ∃ b, (ms == 1) = b := ⟨_, rfl⟩
          rw [hk1, hk2] at NRB
          obtain ⟨gq, hgq⟩ : ∃ g, wr.heap.size = g := ⟨_, rfl⟩
          have kq : Blk (wr.alloc (.cells #[.int .i64 U, .int .i64 Vv] 51)) gq 51 #[.int .i64 U, .int .i64 Vv] := Blk.new' hgq _ _
          have bA : Below wr.heap.size wr (wr.alloc (.cells #[.int .i64 U, .int .i64 Vv] 51)) := (Below.refl _ _).alloc (Nat.le_refl _) _
          have kp3 := kp2.below' bA
          have q1' := q1.below bA
          have q2' := q2.below bA
          have q3' := q3.below bA
          have bw3 := below_call hbw hbw.size bA
          have T1 := Lib.hid (filt_more (f := fun q => nrB W e p q) hq)
          have T2 := Lib.hid (filt_more (f := fun q => !nrB W e p q) hq)
          have HUV : Hid (encP W q = [.int .i64 U, .int .i64 Vv]) := Lib.hid (by unfold encP; rw [hU, hV])
          subst e1
          clear hU hV hmx hmy hmm hms mb1 mb2 hq hqm hqb hpq hc1 kp2 q1 q2 q3 hbw hwl
          go_upto_region 13 with fail
          generalize wr.alloc (.cells #[.int .i64 U, .int .i64 Vv] 51) = w6 at *
          clear a0 a1 bA hgq
          obtain ⟨s0, s1⟩ := kp3.cells2
          obtain ⟨t0, t1⟩ := kq.cells2
          go_cut [11, 12] (fun t s wx => t = .int .i64 mx ∧ s = .int .i64 my ∧ Below w6.heap.size w6 wx)
          case first =>
            refine wp_region_held_drew (S := fun w' => w'.cell? ⟨gp, 0, none⟩ = some (.int .i64 X) ∧ w'.cell? ⟨gp, 1, none⟩ = some (.int .i64 Y) ∧ w'.cell? ⟨gq, 0, none⟩ = some (.int .i64 U) ∧ w'.cell? ⟨gq, 1, none⟩ = some (.int .i64 Vv)) (by kernel_rfl) ⟨s0, s1, t0, t1⟩ (fun hHeld => ?_)
            refine wpAnyH_take (i := 0) (oi := _) (v := ?_) (by simp only [List.getElem?_toArray, List.getElem?_cons_zero]; exact rfl) (by kernel_rfl) (by kernel_rfl) (by kernel_rfl) (by exact fun _ _ _ h => h) (Or.inl ⟨by rfl, ?_⟩) (by assumption) ?_
            rotate_left 1
            · intro w hSw
              (try dsimp only at hSw)
              go_simp
              try with_reducible rfl
            try simp only [Act.put, List.setIfInBounds_toArray, List.set_cons_zero, List.set_cons_succ]
            refine wpAnyH_take (i := 1) (oi := _) (v := ?_) (by simp only [List.getElem?_toArray, List.getElem?_cons_zero, List.getElem?_cons_succ]; exact rfl) (by kernel_rfl) (by kernel_rfl) (by kernel_rfl) (by exact fun _ _ _ h => h) (Or.inl ⟨by rfl, ?_⟩) (by assumption) ?_
            rotate_left 1
            · intro w hSw
              (try dsimp only at hSw)
              go_simp
              try with_reducible rfl
            try simp only [Act.put, List.setIfInBounds_toArray, List.set_cons_zero, List.set_cons_succ]
            refine wpAnyH_take (i := 2) (oi := _) (v := ?_) (by simp only [List.getElem?_toArray, List.getElem?_cons_zero, List.getElem?_cons_succ]; exact rfl) (by kernel_rfl) (by kernel_rfl) (by kernel_rfl) (by exact fun _ _ _ h => h) (Or.inl ⟨by rfl, ?_⟩) (by assumption) ?_
            rotate_left 1
            · intro w hSw
              (try dsimp only at hSw)
              go_simp
              try with_reducible rfl
            try simp only [Act.put, List.setIfInBounds_toArray, List.set_cons_zero, List.set_cons_succ]
            refine wpAnyH_take (i := 3) (oi := _) (v := ?_) (by simp only [List.getElem?_toArray, List.getElem?_cons_zero, List.getElem?_cons_succ]; exact rfl) (by kernel_rfl) (by kernel_rfl) (by kernel_rfl) (by exact fun _ _ _ h => h) (Or.inl ⟨by rfl, ?_⟩) (by assumption) ?_
            rotate_left 1
            · intro w hSw
              (try dsimp only at hSw)
              go_simp
              try with_reducible rfl
            try simp only [Act.put, List.setIfInBounds_toArray, List.set_cons_zero, List.set_cons_succ]
            refine wpAnyH_take (i := 4) (oi := _) (v := ?_) (by simp only [List.getElem?_toArray, List.getElem?_cons_zero, List.getElem?_cons_succ]; exact rfl) (by kernel_rfl) (by kernel_rfl) (by kernel_rfl) (by exact fun _ _ _ h => h) (Or.inl ⟨by rfl, ?_⟩) (by assumption) ?_
            rotate_left 1
            · intro w hSw
              (try dsimp only at hSw)
              go_simp
              try with_reducible rfl
            try simp only [Act.put, List.setIfInBounds_toArray, List.set_cons_zero, List.set_cons_succ]
            refine wpAnyH_take (i := 5) (oi := _) (v := ?_) (by simp only [List.getElem?_toArray, List.getElem?_cons_zero, List.getElem?_cons_succ]; exact rfl) (by kernel_rfl) (by kernel_rfl) (by kernel_rfl) (by exact fun _ _ _ h => h) (Or.inl ⟨by rfl, ?_⟩) (by assumption) ?_
            rotate_left 1
            · intro w hSw
              (try dsimp only at hSw)
              go_simp
              try with_reducible rfl
            try simp only [Act.put, List.setIfInBounds_toArray, List.set_cons_zero, List.set_cons_succ]
            refine wpAnyH_take (i := 6) (oi := _) (v := ?_) (by simp only [List.getElem?_toArray, List.getElem?_cons_zero, List.getElem?_cons_succ]; exact rfl) (by kernel_rfl) (by kernel_rfl) (by kernel_rfl) (by exact fun _ _ _ h => h) (Or.inl ⟨by rfl, ?_⟩) (by assumption) ?_
            rotate_left 1
            · intro w hSw
              (try dsimp only at hSw)
              go_simp
              try with_reducible rfl
            try simp only [Act.put, List.setIfInBounds_toArray, List.set_cons_zero, List.set_cons_succ]
            refine wpAnyH_take (i := 7) (oi := _) (v := ?_) (by simp only [List.getElem?_toArray, List.getElem?_cons_zero, List.getElem?_cons_succ]; exact rfl) (by kernel_rfl) (by kernel_rfl) (by kernel_rfl) (by exact fun _ _ _ h => h) (Or.inl ⟨by rfl, ?_⟩) (by assumption) ?_
            rotate_left 1
            · intro w hSw
              (try dsimp only at hSw)
              go_simp
              try with_reducible rfl
            try simp only [Act.put, List.setIfInBounds_toArray, List.set_cons_zero, List.set_cons_succ]
            refine wpAnyH_take (i := 8) (oi := _) (v := ?_) (by simp only [List.getElem?_toArray, List.getElem?_cons_zero, List.getElem?_cons_succ]; exact rfl) (by kernel_rfl) (by kernel_rfl) (by kernel_rfl) (by exact fun _ _ _ h => h) (Or.inl ⟨by rfl, ?_⟩) (by assumption) ?_
            rotate_left 1
            · intro w hSw
              (try dsimp only at hSw)
              go_simp
              try with_reducible rfl
            try simp only [Act.put, List.setIfInBounds_toArray, List.set_cons_zero, List.set_cons_succ]
            refine wpAnyH_take (i := 9) (oi := _) (v := ?_) (by simp only [List.getElem?_toArray, List.getElem?_cons_zero, List.getElem?_cons_succ]; exact rfl) (by kernel_rfl) (by kernel_rfl) (by kernel_rfl) (by exact fun _ _ _ h => h) (Or.inl ⟨by rfl, ?_⟩) (by assumption) ?_
            rotate_left 1
            · intro w hSw
              (try dsimp only at hSw)
              go_simp
              try with_reducible rfl
            try simp only [Act.put, List.setIfInBounds_toArray, List.set_cons_zero, List.set_cons_succ]
            refine wpAnyH_take (i := 10) (oi := _) (v := ?_) (by simp only [List.getElem?_toArray, List.getElem?_cons_zero, List.getElem?_cons_succ]; exact rfl) (by kernel_rfl) (by kernel_rfl) (by kernel_rfl) (by exact fun _ _ _ h => h) (Or.inl ⟨by rfl, ?_⟩) (by assumption) ?_
            rotate_left 1
            · intro w hSw
              (try dsimp only at hSw)
              go_simp
              try with_reducible rfl
            try simp only [Act.put, List.setIfInBounds_toArray, List.set_cons_zero, List.set_cons_succ]
            refine wpAnyH_take (i := 11) (oi := _) (v := ?_) (by simp only [List.getElem?_toArray, List.getElem?_cons_zero, List.getElem?_cons_succ]; exact rfl) (by kernel_rfl) (by kernel_rfl) (by kernel_rfl) (by exact fun _ _ _ h => h) (Or.inl ⟨by rfl, ?_⟩) (by assumption) ?_
            rotate_left 1
            · intro w hSw
              (try dsimp only at hSw)
              go_simp
              try with_reducible rfl
            try simp only [Act.put, List.setIfInBounds_toArray, List.set_cons_zero, List.set_cons_succ]
            refine wpAnyH_take (i := 12) (oi := _) (v := ?_) (by simp only [List.getElem?_toArray, List.getElem?_cons_zero, List.getElem?_cons_succ]; exact rfl) (by kernel_rfl) (by kernel_rfl) (by kernel_rfl) (by exact fun _ _ _ h => h) (Or.inl ⟨by rfl, ?_⟩) (by assumption) ?_
            rotate_left 1
            · intro w hSw
              (try dsimp only at hSw)
              go_simp
              try with_reducible rfl
            try simp only [Act.put, List.setIfInBounds_toArray, List.set_cons_zero, List.set_cons_succ]
            refine wpAnyH_take (i := 13) (oi := _) (v := ?_) (by simp only [List.getElem?_toArray, List.getElem?_cons_zero, List.getElem?_cons_succ]; exact rfl) (by kernel_rfl) (by kernel_rfl) (by kernel_rfl) (by exact fun _ _ _ h => h) (Or.inl ⟨by rfl, ?_⟩) (by assumption) ?_
            rotate_left 1
            · intro w hSw
              (try dsimp only at hSw)
              go_simp
              try with_reducible rfl
            try simp only [Act.put, List.setIfInBounds_toArray, List.set_cons_zero, List.set_cons_succ]
            refine wpAnyH_take (i := 14) (oi := _) (v := ?_) (by simp only [List.getElem?_toArray, List.getElem?_cons_zero, List.getElem?_cons_succ]; exact rfl) (by kernel_rfl) (by kernel_rfl) (by kernel_rfl) (by exact fun _ _ _ h => h) (Or.inl ⟨by rfl, ?_⟩) (by assumption) ?_
            rotate_left 1
            · intro w hSw
              (try dsimp only at hSw)
              go_simp
              try with_reducible rfl
            try simp only [Act.put, List.setIfInBounds_toArray, List.set_cons_zero, List.set_cons_succ]
            refine wpAnyH_take (i := 15) (oi := _) (v := ?_) (by simp only [List.getElem?_toArray, List.getElem?_cons_zero, List.getElem?_cons_succ]; exact rfl) (by kernel_rfl) (by kernel_rfl) (by kernel_rfl) (by exact fun _ _ _ h => h) (Or.inl ⟨by rfl, ?_⟩) (by assumption) ?_
            rotate_left 1
            · intro w hSw
              (try dsimp only at hSw)
              go_simp
              try with_reducible rfl
            try simp only [Act.put, List.setIfInBounds_toArray, List.set_cons_zero, List.set_cons_succ]
            refine wpAnyH_take (i := 16) (oi := _) (v := ?_) (by simp only [List.getElem?_toArray, List.getElem?_cons_zero, List.getElem?_cons_succ]; exact rfl) (by kernel_rfl) (by kernel_rfl) (by kernel_rfl) (by exact fun _ _ _ h => h) (Or.inl ⟨by rfl, ?_⟩) (by assumption) ?_
            rotate_left 1
            · intro w hSw
              (try dsimp only at hSw)
              go_simp
              try with_reducible rfl
            try simp only [Act.put, List.setIfInBounds_toArray, List.set_cons_zero, List.set_cons_succ]
            refine wpAnyH_take (i := 17) (oi := _) (v := ?_) (by simp only [List.getElem?_toArray, List.getElem?_cons_zero, List.getElem?_cons_succ]; exact rfl) (by kernel_rfl) (by kernel_rfl) (by kernel_rfl) (by exact fun _ _ _ h => h) (Or.inl ⟨by rfl, ?_⟩) (by assumption) ?_
            rotate_left 1
            · intro w hSw
              (try dsimp only at hSw)
              go_simp
              try with_reducible rfl
            try simp only [Act.put, List.setIfInBounds_toArray, List.set_cons_zero, List.set_cons_succ]
            refine wpAnyH_take (i := 18) (oi := _) (v := ?_) (by simp only [List.getElem?_toArray, List.getElem?_cons_zero, List.getElem?_cons_succ]; exact rfl) (by kernel_rfl) (by kernel_rfl) (by kernel_rfl) (by exact fun _ _ _ h => h) (Or.inl ⟨by rfl, ?_⟩) (by assumption) ?_
            rotate_left 1
            · intro w hSw
              (try dsimp only at hSw)
              go_simp
              try with_reducible rfl
            try simp only [Act.put, List.setIfInBounds_toArray, List.set_cons_zero, List.set_cons_succ]
            refine wpAnyH_take (i := 19) (oi := _) (v := ?_) (by simp only [List.getElem?_toArray, List.getElem?_cons_zero, List.getElem?_cons_succ]; exact rfl) (by kernel_rfl) (by kernel_rfl) (by kernel_rfl) (by exact fun _ _ _ h => h) (Or.inl ⟨by rfl, ?_⟩) (by assumption) ?_
            rotate_left 1
            · intro w hSw
              (try dsimp only at hSw)
              go_simp
              try with_reducible rfl
            try simp only [Act.put, List.setIfInBounds_toArray, List.set_cons_zero, List.set_cons_succ]
            refine wpAnyH_take (i := 20) (oi := _) (v := ?_) (by simp only [List.getElem?_toArray, List.getElem?_cons_zero, List.getElem?_cons_succ]; exact rfl) (by kernel_rfl) (by kernel_rfl) (by kernel_rfl) (by exact fun _ _ _ h => h) (Or.inl ⟨by rfl, ?_⟩) (by assumption) ?_
            rotate_left 1
            · intro w hSw
              (try dsimp only at hSw)
              go_simp
              try with_reducible rfl
            try simp only [Act.put, List.setIfInBounds_toArray, List.set_cons_zero, List.set_cons_succ]
            refine wpAnyH_take (i := 21) (oi := _) (v := ?_) (by simp only [List.getElem?_toArray, List.getElem?_cons_zero, List.getElem?_cons_succ]; exact rfl) (by kernel_rfl) (by kernel_rfl) (by kernel_rfl) (by exact fun _ _ _ h => h) (Or.inl ⟨by rfl, ?_⟩) (by assumption) ?_
            rotate_left 1
            · intro w hSw
              (try dsimp only at hSw)
              go_simp
              try with_reducible rfl
            try simp only [Act.put, List.setIfInBounds_toArray, List.set_cons_zero, List.set_cons_succ]
            refine wpAnyH_take (i := 22) (oi := _) (v := ?_) (by simp only [List.getElem?_toArray, List.getElem?_cons_zero, List.getElem?_cons_succ]; exact rfl) (by kernel_rfl) (by kernel_rfl) (by kernel_rfl) (by exact fun _ _ _ h => h) (Or.inl ⟨by rfl, ?_⟩) (by assumption) ?_
            rotate_left 1
            · intro w hSw
              (try dsimp only at hSw)
              go_simp
              try with_reducible rfl
            try simp only [Act.put, List.setIfInBounds_toArray, List.set_cons_zero, List.set_cons_succ]
            refine wpAnyH_take (i := 23) (oi := _) (v := ?_) (by simp only [List.getElem?_toArray, List.getElem?_cons_zero, List.getElem?_cons_succ]; exact rfl) (by kernel_rfl) (by kernel_rfl) (by kernel_rfl) (by exact fun _ _ _ h => h) (Or.inl ⟨by rfl, ?_⟩) (by assumption) ?_
            rotate_left 1
            · intro w hSw
              (try dsimp only at hSw)
              go_simp
              try with_reducible rfl
            try simp only [Act.put, List.setIfInBounds_toArray, List.set_cons_zero, List.set_cons_succ]
            refine wpAnyH_done (by kernel_rfl) ?_ _
            go_wp2_with fail
            go_meet
            exact ⟨rfl, rfl, (Below.refl _ _).drew⟩
          case rest =>
          obtain ⟨rfl, rfl, bC⟩ := hcut
          have kp4 := kp3.below' bC
          have kq4 := kq.below' bC
          have q1 := q1'.below bC
          have q2 := q2'.below bC
          have q3 := q3'.below bC
          have hbw := below_call bw3 bw3.size bC
          obtain ⟨t0, t1⟩ := kq4.cells2
          generalize wc = w7 at *
          have bn : Below w7.heap.size w7 (w7.alloc (.cells #[.int .i64 U, .int .i64 Vv] 51)) := (Below.refl _ _).alloc (Nat.le_refl _) _
          have hsz : (w7.alloc (.cells #[.int .i64 U, .int .i64 Vv] 51)).heap.size = w7.heap.size + 1 := World.size_alloc _ _
          have NW : ∀ jj u, (encP W q)[jj]? = some u → (w7.alloc (.cells #[.int .i64 U, .int .i64 Vv] 51)).cell? ((⟨w7.heap.size, 0, none⟩ : Addr).add jj) = some u := fun jj u hu => by
            rw [HUV.out] at hu
            rw [Addr.add_lit, Nat.zero_add]
            match jj, hu with
            | 0, hu => cases hu; exact (Blk.new w7 51 #[.int .i64 U, .int .i64 Vv]).cell 0
            | 1, hu => cases hu; exact (Blk.new w7 51 #[.int .i64 U, .int .i64 Vv]).cell 1
            | jj + 2, hu => simp at hu
          have OC : ∀ u ∈ encP W q, u.oneCell' = true := fun u hu => by
            rw [HUV.out] at hu
            rcases List.mem_cons.1 hu with rfl | hu
            · rfl
            · rcases List.mem_cons.1 hu with rfl | hu
              · rfl
              · simp at hu
          have NW' := Lib.hid NW; have OC' := Lib.hid OC
          have Q1 := Lib.hid (q1.below bn); have Q2 := Lib.hid (q2.below bn); have Q3 := Lib.hid (q3.below bn)
          have KP := Lib.hid (kp4.below' bn)
          have BW := Lib.hid (below_call hbw hbw.size bn)
          obtain ⟨D1, D2, D3, D4, D5, D6⟩ := hD.out
          have ZS := Lib.hid (show w.heap.size ≤ (w7.alloc (.cells #[.int .i64 U, .int .i64 Vv] 51)).heap.size by have := hbw.size; omega)
          clear kp3 kq q1' q2' q3' bw3 s0 s1 bC kp4 q1 q2 q3 hbw NW OC w1 w2 w3 w4 m1 m2 m3 m4 hsz bn
          rcases (show (k1 = true ∧ e = true ∧ nrB W e p q = true) ∨ (k1 = true ∧ e = false ∧ k2 = true ∧ nrB W e p q = true) ∨ (k1 = true ∧ e = false ∧ k2 = false ∧ nrB W e p q = false) ∨ (k1 = false ∧ nrB W e p q = false) by rw [NRB.out]; cases k1 <;> cases e <;> cases k2 <;> simp) with ⟨rfl, he, hnr⟩ | ⟨rfl, he, rfl, hnr⟩ | ⟨rfl, he, rfl, hnr⟩ | ⟨rfl, hnr⟩
          · have HNR := Lib.hid hnr
            have HE := Lib.hid he
            clear hnr NRB
            subst he
            go_wp2_with (at_builtin; refine wpList_append_q _ rfl (.tmp 71) (.tmp 73) 45 rfl 51 r0 (.agg #[.int .i64 0, .int .i64 0]) 16 Tryd.underlying45 hr0 hrz0 hrz1 hrz2 rfl (by decide) (encP_len W) hl2 rfl Q2.out q ⟨w7.heap.size, 0, none⟩ 1 rfl NW'.out OC'.out ?c3 ?c4 ?_)
            case c3 => unfold maxLen; omega
            case c4 => omega
            intro A' c'' w8 qn hgr hwh
            have zsz := hgr.size
            have kp8 := KP.out.grown hgr (row_gp fun a e => (D5 a e).1)
            have q18 := Q1.out.grown hgr (row_ne D1)
            have q38 := Q3.out.grown hgr (row_ne fun _ => D2)
            have bw8 := BW.out.grown hgr ZS.out (row_ge fun a e => (D5 a e).2)
            have d1 := nb_move D1 hwh fun b e => by have h := Q1.out.lt b e; rw [World.size_alloc] at h; exact h
            have d2 := nb_move (fun _ => D2) hwh fun b e => by have h := Q3.out.lt b e; rw [World.size_alloc] at h; exact h
            have D5' : ∀ b, A' = some b → b.block ≠ gp ∧ w.heap.size ≤ b.block := fun b e => by
              have zgp := KP.out.lt
              have zs := ZS.out
              rw [World.size_alloc] at zgp zs
              rcases hwh b e with ⟨_, a0, e0, e1⟩ | h1
              · rw [e1]; exact D5 a0 e0
              · exact ⟨by omega, by omega⟩
            have E2 := T1.out
            have E3 := T2.out
            simp only [HNR.out, if_true, Bool.not_true, Bool.false_eq_true, if_false, List.append_nil] at E2 E3
            have HD2 := Lib.hid (⟨(fun _ => d1), d2, d2.symm, D4, D5', D6⟩ : (true = true → nbA A' _) ∧ nbA A' A3 ∧ nbA A3 A' ∧ (r3 = true → nbA A3 _) ∧ (∀ b, A' = some b → b.block ≠ gp ∧ w.heap.size ≤ b.block) ∧ ∀ b, A3 = some b → b.block ≠ gp ∧ w.heap.size ≤ b.block)
            first | rw [List.append_assoc, ← E2] at qn | rw [← E2] at qn
            rw [← E3] at q38
            have l3' := hl3
            rw [← E3] at l3'
            have l2' : (line ++ (left.take (j + 1)).filter fun q => nrB W true p q).length = n2 + 1 := by rw [E2, ← List.append_assoc, List.length_append, hl2]; rfl
            clear hgr hwh
            go_wp2_with fail
            go_round
            case rel => exact ⟨j + 1, A', A3, n2 + 1, c'', n3, c3, true, r3, by omega, by go_num, rfl, rfl, l2', l3', by omega, by omega, by omega, bw8, kp8, q18, qn, q38, HD2⟩
            case measure => simp [intOf]; omega
          · have HNR := Lib.hid hnr
            clear hnr NRB
            subst he
            go_wp2_with (at_builtin; refine wpList_append_q _ rfl (.tmp 71) (.tmp 73) 45 rfl 51 r0 (.agg #[.int .i64 0, .int .i64 0]) 16 Tryd.underlying45 hr0 hrz0 hrz1 hrz2 rfl (by decide) (encP_len W) hl2 rfl Q2.out q ⟨w7.heap.size, 0, none⟩ 1 rfl NW'.out OC'.out ?c3 ?c4 ?_)
            case c3 => unfold maxLen; omega
            case c4 => omega
            intro A' c'' w8 qn hgr hwh
            have zsz := hgr.size
            have kp8 := KP.out.grown hgr (row_gp fun a e => (D5 a e).1)
            have q18 := Q1.out.grown hgr (row_ne D1)
            have q38 := Q3.out.grown hgr (row_ne fun _ => D2)
            have bw8 := BW.out.grown hgr ZS.out (row_ge fun a e => (D5 a e).2)
            have d1 := nb_move D1 hwh fun b e => by have h := Q1.out.lt b e; rw [World.size_alloc] at h; exact h
            have d2 := nb_move (fun _ => D2) hwh fun b e => by have h := Q3.out.lt b e; rw [World.size_alloc] at h; exact h
            have D5' : ∀ b, A' = some b → b.block ≠ gp ∧ w.heap.size ≤ b.block := fun b e => by
              have zgp := KP.out.lt
              have zs := ZS.out
              rw [World.size_alloc] at zgp zs
              rcases hwh b e with ⟨_, a0, e0, e1⟩ | h1
              · rw [e1]; exact D5 a0 e0
              · exact ⟨by omega, by omega⟩
            have E2 := T1.out
            have E3 := T2.out
            simp only [HNR.out, if_true, Bool.not_true, Bool.false_eq_true, if_false, List.append_nil] at E2 E3
            have HD2 := Lib.hid (⟨(fun _ => d1), d2, d2.symm, D4, D5', D6⟩ : (true = true → nbA A' _) ∧ nbA A' A3 ∧ nbA A3 A' ∧ (r3 = true → nbA A3 _) ∧ (∀ b, A' = some b → b.block ≠ gp ∧ w.heap.size ≤ b.block) ∧ ∀ b, A3 = some b → b.block ≠ gp ∧ w.heap.size ≤ b.block)
            first | rw [List.append_assoc, ← E2] at qn | rw [← E2] at qn
            rw [← E3] at q38
            have l3' := hl3
            rw [← E3] at l3'
            have l2' : (line ++ (left.take (j + 1)).filter fun q => nrB W false p q).length = n2 + 1 := by rw [E2, ← List.append_assoc, List.length_append, hl2]; rfl
            clear hgr hwh
            go_wp2_with fail
            go_round
            case rel => exact ⟨j + 1, A', A3, n2 + 1, c'', n3, c3, true, r3, by omega, by go_num, rfl, rfl, l2', l3', by omega, by omega, by omega, bw8, kp8, q18, qn, q38, HD2⟩
            case measure => simp [intOf]; omega
          · have HNR := Lib.hid hnr
            clear hnr NRB
            subst he
            go_wp2_with (at_builtin; refine wpList_append_q _ rfl (.tmp 75) (.tmp 77) 45 rfl 51 r0 (.agg #[.int .i64 0, .int .i64 0]) 16 Tryd.underlying45 hr0 hrz0 hrz1 hrz2 rfl (by decide) (encP_len W) hl3 rfl Q3.out q ⟨w7.heap.size, 0, none⟩ 1 rfl NW'.out OC'.out ?c3 ?c4 ?_)
            case c3 => unfold maxLen; omega
            case c4 => omega
            intro A' c'' w8 qn hgr hwh
            have zsz := hgr.size
            have kp8 := KP.out.grown hgr (row_gp fun a e => (D6 a e).1)
            have q18 := Q1.out.grown hgr (row_ne D4)
            have q28 := Q2.out.grown hgr (row_ne fun _ => D3)
            have bw8 := BW.out.grown hgr ZS.out (row_ge fun a e => (D6 a e).2)
            have d1 := nb_move D4 hwh fun b e => by have h := Q1.out.lt b e; rw [World.size_alloc] at h; exact h
            have d2 := nb_move (fun _ => D3) hwh fun b e => by have h := Q2.out.lt b e; rw [World.size_alloc] at h; exact h
            have D6' : ∀ b, A' = some b → b.block ≠ gp ∧ w.heap.size ≤ b.block := fun b e => by
              have zgp := KP.out.lt
              have zs := ZS.out
              rw [World.size_alloc] at zgp zs
              rcases hwh b e with ⟨_, a0, e0, e1⟩ | h1
              · rw [e1]; exact D6 a0 e0
              · exact ⟨by omega, by omega⟩
            have E2 := T1.out
            have E3 := T2.out
            simp only [HNR.out, if_true, Bool.not_false, Bool.false_eq_true, if_false, List.append_nil] at E2 E3
            have HD2 := Lib.hid (⟨D1, d2.symm, d2, (fun _ => d1), D5, D6'⟩ : (r2 = true → nbA A2 _) ∧ nbA A2 A' ∧ nbA A' A2 ∧ (true = true → nbA A' _) ∧ (∀ b, A2 = some b → b.block ≠ gp ∧ w.heap.size ≤ b.block) ∧ ∀ b, A' = some b → b.block ≠ gp ∧ w.heap.size ≤ b.block)
            rw [← E3] at qn
            rw [← E2] at q28
            have l2' := hl2
            rw [← E2] at l2'
            have l3' : ((left.take (j + 1)).filter fun q => !nrB W false p q).length = n3 + 1 := by rw [E3, List.length_append, hl3]; rfl
            clear hgr hwh
            go_wp2_with fail
            go_round
            case rel => exact ⟨j + 1, A2, A', n2, c2, n3 + 1, c'', r2, true, by omega, by go_num, rfl, rfl, l2', l3', by omega, by omega, by omega, bw8, kp8, q18, q28, qn, HD2⟩
            case measure => simp [intOf]; omega
          · have HNR := Lib.hid hnr
            clear hnr NRB
            go_wp2_with (at_builtin; refine wpList_append_q _ rfl (.tmp 75) (.tmp 77) 45 rfl 51 r0 (.agg #[.int .i64 0, .int .i64 0]) 16 Tryd.underlying45 hr0 hrz0 hrz1 hrz2 rfl (by decide) (encP_len W) hl3 rfl Q3.out q ⟨w7.heap.size, 0, none⟩ 1 rfl NW'.out OC'.out ?c3 ?c4 ?_)
            case c3 => unfold maxLen; omega
            case c4 => omega
            intro A' c'' w8 qn hgr hwh
            have zsz := hgr.size
            have kp8 := KP.out.grown hgr (row_gp fun a e => (D6 a e).1)
            have q18 := Q1.out.grown hgr (row_ne D4)
            have q28 := Q2.out.grown hgr (row_ne fun _ => D3)
            have bw8 := BW.out.grown hgr ZS.out (row_ge fun a e => (D6 a e).2)
            have d1 := nb_move D4 hwh fun b e => by have h := Q1.out.lt b e; rw [World.size_alloc] at h; exact h
            have d2 := nb_move (fun _ => D3) hwh fun b e => by have h := Q2.out.lt b e; rw [World.size_alloc] at h; exact h
            have D6' : ∀ b, A' = some b → b.block ≠ gp ∧ w.heap.size ≤ b.block := fun b e => by
              have zgp := KP.out.lt
              have zs := ZS.out
              rw [World.size_alloc] at zgp zs
              rcases hwh b e with ⟨_, a0, e0, e1⟩ | h1
              · rw [e1]; exact D6 a0 e0
              · exact ⟨by omega, by omega⟩
            have E2 := T1.out
            have E3 := T2.out
            simp only [HNR.out, if_true, Bool.not_false, Bool.false_eq_true, if_false, List.append_nil] at E2 E3
            have HD2 := Lib.hid (⟨D1, d2.symm, d2, (fun _ => d1), D5, D6'⟩ : (r2 = true → nbA A2 _) ∧ nbA A2 A' ∧ nbA A' A2 ∧ (true = true → nbA A' _) ∧ (∀ b, A2 = some b → b.block ≠ gp ∧ w.heap.size ≤ b.block) ∧ ∀ b, A' = some b → b.block ≠ gp ∧ w.heap.size ≤ b.block)
            rw [← E3] at qn
            rw [← E2] at q28
            have l2' := hl2
            rw [← E2] at l2'
            have l3' : ((left.take (j + 1)).filter fun q => !nrB W e p q).length = n3 + 1 := by rw [E3, List.length_append, hl3]; rfl
            clear hgr hwh
            go_wp2_with fail
            go_round
            case rel => exact ⟨j + 1, A2, A', n2, c2, n3 + 1, c'', r2, true, by omega, by go_num, rfl, rfl, l2', l3', by omega, by omega, by omega, bw8, kp8, q18, q28, qn, HD2⟩
            case measure => simp [intOf]; omega
        · obtain rfl : j = n1 := by omega
          have ht : left.take j = left := List.take_of_length_le (by rw [HN1.out]; exact Nat.le_refl _)
          rw [ht] at hl2 hl3 q2 q3
          have JJ := JS.out _ _ rfl rfl
          obtain ⟨D1, D2, D3, D4, D5, D6⟩ := hD.out
          have HQ2 := Lib.hid q2; have HQ3 := Lib.hid q3; have HBW := Lib.hid hbw; have HJJ := Lib.hid JJ
          clear q1 q2 q3 hbw JJ ht
          go_wp2_with fail
          go_round
          case rel => exact ⟨V ++ [p], _, _, A3, A2, n3, c3, n2, c2, r3, r2, rfl, rfl, hl3, hl2, HJJ, HBW.out, HQ3.out, HQ2.out, (fun _ => D2), fun b e => (D5 b e).2⟩
          case measure => show n3 + n2 < j + (m2 + 1); omega
end Go.Proofs.YtoonkpjddfiopaaDoor

/- Walk of the law ImageJoins. Written by gen/j30.py. -/
namespace Go.Proofs.YtoonkpjddfiopaaDoor
open Go.RowKit Go.Shelf
set_option linter.unusedVariables false
attribute [local go_sem] Oper.semAt_some

/-- how many places are some part's -/
def ownS (N : Nat) (o : Int → Int) : Int := sumN N fun i => if o i = 0 then 0 else 1
theorem ownS_upd {N : Nat} {o : Int → Int} {x : Nat} {v : Int} (hx : x < N) (h0 : o x = 0) (hv : v ≠ 0) : ownS N (upd o x v) = ownS N o + 1 := by
  unfold ownS
  have e : ∀ i : Int, 0 ≤ i → i < N → (fun i => if upd o x v i = 0 then (0 : Int) else 1) i = upd (fun i => if o i = 0 then 0 else 1) x 1 i := fun i _ _ => by
    show (if upd o x v i = 0 then (0 : Int) else 1) = upd (fun i => if o i = 0 then 0 else 1) x 1 i
    unfold upd
    by_cases h : i = x
    · rw [if_pos h, if_pos h, if_neg hv]
    · rw [if_neg h, if_neg h]
  rw [sumN_congr e, sumN_upd, if_pos hx]
  show _ - (if o x = 0 then (0 : Int) else 1) + 1 = _
  rw [if_pos h0]; omega
theorem ownS_0 (N : Nat) : ownS N (fun _ => 0) = 0 := by unfold ownS; rw [sumN_congr (g := fun _ => 0) fun _ _ _ => if_pos rfl, sumN_none]
theorem ownS_bd (N : Nat) (o : Int → Int) : 0 ≤ ownS N o ∧ ownS N o ≤ N := by
  have := sumN_bd (n := N) (f := fun i => if o i = 0 then (0 : Int) else 1) (m := 1) fun i _ _ => by
    show 0 ≤ (if o i = 0 then (0 : Int) else 1) ∧ (if o i = 0 then (0 : Int) else 1) ≤ 1
    split <;> omega
  unfold ownS; omega
theorem adj_diff {W : Nat} {e : Bool} {x y u v : Nat} (hx : x < W) (hu : u < W) {dx dy : Int} (h1 : (u : Int) = x + dx) (h2 : (v : Int) = y + dy) (b1 : -1 ≤ dx) (b2 : dx ≤ 1) (b3 : 0 ≤ dy) (b4 : dy ≤ 1) (hne : ¬ (dx = 0 ∧ dy = 0)) (hd : ¬ (dx ≠ 0 ∧ dy ≠ 0 ∧ e = false)) : AdjN W e (y * W + x) (v * W + u) := by
  obtain ⟨p1, p2⟩ := place_div (y := y) hx
  obtain ⟨q1, q2⟩ := place_div (y := v) hu
  have a1 : (((y * W + x : Nat) : Int) % W) = x := by rw [← Int.natCast_emod, p2]
  have a2 : (((y * W + x : Nat) : Int) / W) = y := by rw [← Int.natCast_ediv, p1]
  have a3 : (((v * W + u : Nat) : Int) % W) = u := by rw [← Int.natCast_emod, q2]
  have a4 : (((v * W + u : Nat) : Int) / W) = v := by rw [← Int.natCast_ediv, q1]
  unfold AdjN
  rw [a1, a2, a3, a4]
  refine ⟨fun e => hne ?_, by omega, by omega, by omega, by omega, ?_⟩
  · rw [← e] at a3 a4
    have := a1.symm.trans a3
    have := a2.symm.trans a4
    omega
  · cases e with
    | true => exact .inl rfl
    | false =>
      right
      by_cases h : dx = 0
      · exact .inl (by omega)
      · exact .inr (by have : ¬ dy ≠ 0 := fun h' => hd ⟨h, h', rfl⟩
                       omega)
set_option maxRecDepth 100000 in
set_option maxHeartbeats 8000000 in
theorem imageJoins_any (s : Int) (eb : Bool) (A : Option Addr) (n c : Nat) (r : Int → Int) (w : World) (hA : ArrB w w.heap.size A n r) (hn : n ≤ maxLen) (hr : IsB r) (hs : 0 ≤ s ∧ s ≤ 65535) :
    Calls Tryd.prog 9 #[.int .u16 s, .slice A n c, .bool eb] w fun e w' => e = .returned (.bool true) ∧ Below w.heap.size w w' := by
  obtain ⟨hs0, hs1⟩ := hs
  obtain ⟨W, hW⟩ : ∃ W : Nat, s % 41 = W := ⟨(s % 41).toNat, by omega⟩
  obtain ⟨H, hH⟩ : ∃ H : Nat, s / 41 % 31 = H := ⟨(s / 41 % 31).toNat, by omega⟩
  have W1 : W ≤ 40 := by omega
  have H1 : H ≤ 30 := by omega
  obtain ⟨N, hN⟩ : ∃ N : Nat, N = W * H := ⟨_, rfl⟩
  have hN9 : N ≤ 1200 := by rw [hN]; exact Nat.mul_le_mul W1 H1
  have hNI : (N : Int) = (W : Int) * H := by rw [hN]; push_cast; rfl
  have hnm : N ≤ maxLen := by unfold maxLen; omega
  obtain ⟨p, hp⟩ : ∃ p, bitQ n r = p := ⟨_, rfl⟩
  have p01 : ∀ i, p i = 0 ∨ p i = 1 := fun i => by rw [← hp]; exact bit01 n r i
  have ck : chk W H N p = 0 := chk_mk (by omega) (by omega) (by omega) (by omega) hNI fun i _ _ => by rcases p01 i with e | e <;> omega
  have MA := Lib.hid fun w' h' => made_any s W H A n c r w' h' hn hr hs0 hs1 hW hH N hNI
  rw [hp] at MA
  have C1 := Lib.hid fun A' c' w' h1 => comps_any W H eb A' N c' p w' h1 (by omega) (by omega) hN (fun i _ _ => p01 i)
  have C2 := Lib.hid fun A' c' w' h1 => comps_any W H true A' N c' p w' h1 (by omega) (by omega) hN (fun i _ _ => p01 i)
  have CT := Lib.hid fun (g : Nat) w' h1 => count_some W H g 0 N N p w' h1 hnm ck (fun i _ _ => p01 i)
  obtain ⟨R, hR⟩ : ∃ R, rootN N (InkN N p) (AdjN W eb) = R := ⟨_, rfl⟩
  obtain ⟨K1, hK1⟩ : ∃ k, R.length = k := ⟨_, rfl⟩
  obtain ⟨K2, hK2⟩ : ∃ k, (rootN N (InkN N p) (AdjN W true)).length = k := ⟨_, rfl⟩
  have k21 : K2 ≤ K1 := by rw [← hK1, ← hK2, ← hR]; exact roots_less N W (InkN N p) eb
  have k12 : ¬ (K1 : Int) < K2 := by omega
  have k1200 : K1 ≤ 1200 := by rw [← hK1, ← hR, ← rootK_n]; have := rootK_len N (InkN N p) (AdjN W eb); omega
  have HK1 : Hid ((rootK N (InkN N p) (AdjN W eb)).length = K1) := Lib.hid <| by rw [rootK_n, hR]; exact hK1
  have HK2 := Lib.hid hK2
  have RR := Lib.hid hR
  have RL := Lib.hid hK1
  obtain ⟨PP, hPP⟩ : ∃ P, partN N (InkN N p) (AdjN W eb) = P := ⟨_, rfl⟩
  have HPP := Lib.hid hPP
  have RT := Lib.hid fun (t r : Nat) (h : R[t]? = some r) => (mem_rootN.1 (hR ▸ List.mem_of_getElem? h : r ∈ rootN N (InkN N p) (AdjN W eb))).2
  have PN := Lib.hid fun (r : Nat) => (by rw [← hPP]; exact partN_sorted.imp fun h => Nat.ne_of_lt h : (PP r).Nodup)
  have PM := Lib.hid fun (r x : Nat) (h : x ∈ PP r) => (by rw [← hPP] at h; exact (mem_partN.1 h).2.right : InkN N p x)
  have PA := Lib.hid fun (j t r r' x : Nat) (hj : R[j]? = some r') (ht : R[t]? = some r) (hl : j < t) (hx : x ∈ PP r) => (by
    rw [← hPP] at hx ⊢; rw [← hR] at hj ht
    exact part_apart hj ht hl hx : x ∉ PP r')
  have PL := Lib.hid fun (r : Nat) => (by rw [← hPP]; unfold partN; exact Nat.le_trans (List.length_filter_le _ _) (by simp) : (PP r).length ≤ N)
  have PJ := Lib.hid fun (r : Nat) (hr : Root (InkN N p) (AdjN W eb) r) => (by
    obtain ⟨l, hl⟩ := part_head (n := N) (fun i (h : InkN N p i) => h.1) hr
    refine ⟨l, by rw [← hPP]; exact hl, fun y hy => ?_⟩
    rw [← hl] at hy ⊢
    exact part_cn (fun i (h : InkN N p i) => h.1) hy : ∃ l, PP r = r :: l ∧ ∀ y ∈ r :: l, Cn (· ∈ r :: l) (AdjN W eb) r y)
  have OA := Lib.hid fun (o : Int → Int) (h : Own N R PP o K1 0) => own_all (n := N) (W := W) (e := eb) (p := p) (o := o) (by rw [hR, hPP, hK1]; exact h)
  obtain ⟨M, hM⟩ : ∃ M, sumN N p = M := ⟨_, rfl⟩
  rw [hM] at CT
  have OM := Lib.hid fun (o : Int → Int) (h : ∀ i : Nat, i < N → (o i = 0 ↔ p i ≠ 1) ∧ 0 ≤ o i) => (by
    rw [← hM]
    unfold ownS
    refine sumN_congr fun i i0 i1 => ?_
    have h2 := (h i.toNat (by omega)).1
    rw [Int.toNat_of_nonneg i0] at h2
    show (if o i = 0 then (0 : Int) else 1) = p i
    rcases p01 i with e | e
    · rw [if_pos (h2.2 (by omega)), e]
    · rw [if_neg (fun h3 => h2.1 h3 e), e] : ownS N o = M)
  have HA := Lib.hid hA
  have P01 := Lib.hid p01
  have HN := Lib.hid hN
  have hmk := makeI (N : Int) (by omega) (by omega)
  rw [Int.toNat_natCast] at hmk
  have AW := Lib.hid awake1_any
  clear hA hn hr hs0 hs1 hW hH hN hNI hp p01 ck hR hK1 hK2 hPP hM k21
  have K0 := Kp.nil w
  have b0 := Below.refl w.heap.size w
  go_enter Tryd.func9, Tryd.ntmps9
  go_wp2_with fail
  refine (MA.out _ HA.out).mono ?_
  rintro e v1 ⟨_, rfl, ⟨gva, rfl, hgva, kva⟩, hb1⟩
  have K1a := (K0.below hb1).addA (kva.arrB kva.lt)
  have b1a := below_call b0 b0.size hb1
  have z1 := b1a.size
  have b1 : Below w.heap.size w (v1.alloc (.cells #[.int .i64 W, .int .i64 H, .slice (some ⟨gva, 0, none⟩) N N] 24)) := by (repeat (first | exact Below.refl _ _ | assumption | refine Below.drew ?_ | refine below_drewN ?_ _ | refine Below.alloc ?_ (by first | omega | (simp; done) | (simp; omega)) _ | refine Below.setCell ?_ (by first | omega | (simp; done) | (simp; omega)) _ | refine below_setRow ?_ (by first | omega | (simp; done) | (simp; omega)) _ ))
  have K1 := K1a.new 24 #[.int .i64 W, .int .i64 H, .slice (some ⟨gva, 0, none⟩) N N]
  have zva := kva.lt
  clear K0 b0 K1a b1a hb1  z1 MA hgva kva
  obtain ⟨p1, p2, p3⟩ := (K1.b 0 rfl).cells3
  go_wp2_with fail
  generalize v1.alloc (.cells #[.int .i64 W, .int .i64 H, .slice (some ⟨gva, 0, none⟩) N N] 24) = w1 at *
  refine (C1.out _ _ _ (K1.a 0 rfl)).mono ?_
  rintro x v2 ⟨_, rfl, ⟨vl, rfl, crl⟩, hb2⟩
  have Rl := Lib.hid (crl.base (Nat.zero_le _))
  have K2 := K1.below hb2
  have b2 := below_call b1 b1.size hb2
  have y2 := hb2.size
  clear K1 b1 crl p1 p2 p3
  clear hb2
  obtain ⟨p1, p2, p3⟩ := (K2.b 0 rfl).cells3
  go_wp2_with fail
  refine (C2.out _ _ _ (K2.a 0 rfl)).mono ?_
  rintro x v3 ⟨_, rfl, ⟨vc, rfl, crc⟩, hb3⟩
  have Rc := Lib.hid (crc.base (Nat.zero_le _))
  have K3 := K2.below hb3
  have b3 := below_call b2 b2.size hb3
  have y3 := hb3.size
  clear K2 b2 crc p1 p2 p3
  replace Rl := Lib.hid (Rl.out.below hb3)
  clear hb3
  obtain ⟨AL, cL, rfl, hcL⟩ := Rl.out.val
  obtain ⟨AC, cC, rfl, hcC⟩ := Rc.out.val
  rw [HK1.out] at Rl hcL ⊢
  rw [rootK_n, HK2.out] at hcC ⊢
  clear Rc C1 C2 hcC y2 y3
  obtain ⟨p1, p2, p3⟩ := (K3.b 0 rfl).cells3
  obtain ⟨go, hgo⟩ : ∃ g, v3.heap.size = g := ⟨_, rfl⟩
  have ko : Blk (v3.alloc (.cells (i64s N fun _ => 0) 3)) go 3 (i64s N fun _ => 0) := Blk.new' hgo _ _
  have bA : Below v3.heap.size v3 (v3.alloc (.cells (i64s N fun _ => 0) 3)) := (Below.refl _ _).alloc (Nat.le_refl _) _
  have kg := (K3.b 0 rfl).below' bA
  have kgl := (K3.b 0 rfl).lt
  have aa := (K3.a 0 rfl).to bA
  have zlt : gva < go := by have := zva; have := (K3.b 0 rfl).lt; omega
  have RL2 := Rl.out.below bA
  have bw := below_call b3 b3.size bA
  have zw : w.heap.size ≤ go := by have := b3.size; omega
  go_upto_region 8 with fail
  clear p1 p2 p3 K3 b3 bA Rl hmk
  have zs : (v3.alloc (.cells (i64s N fun _ => 0) 3)).heap.size = go + 1 := by simp [hgo]
  generalize v3.alloc (.cells (i64s N fun _ => 0) 3) = w3 at *
  have KG := Lib.hid kg
  have BW := Lib.hid bw
  have gvl : v1.heap.size < go := by omega
  obtain ⟨gl, hgl⟩ : ∃ g, w3.heap.size = g := ⟨_, rfl⟩
  have zgl : go < gl := by omega
  obtain ⟨L, hL1, hL2, hL3⟩ := RL2
  have LM : Hid (L.map (·.1) = R) := Lib.hid (by rw [hL1, rootK_n]; exact RR.out)
  have LL : Hid (L.length = K1) := Lib.hid (by have h9 := congrArg List.length LM.out; rw [List.length_map] at h9; exact h9.trans RL.out)
  have KO := Lib.hid ko
  have E5 := Lib.hid fun (wx : World) (bu : But gl go w3 wx) => hL2.but bu hgl KO.out (by decide)
  have E2 := Lib.hid fun (t : Nat × (Int × Int × Int × Int) × Value) (ht : t ∈ L) (wx : World) (bu : But gl go w3 wx) => (by have h := (hL3 t ht).2.but bu hgl KO.out (by decide); rw [HPP.out] at h; exact h : ERow wx 0 51 2 (encP W) t.2.2 (PP t.1))
  have PX := Lib.hid fun (wx : World) (bu : But gl go w3 wx) (x : Nat) (hx : x < N) => (by
    obtain ⟨b, off, e, hb, hc⟩ := ArrB.at_ aa (i := (x : Int)) (by omega) (by omega)
    cases e
    rw [Int.toNat_natCast, Nat.zero_add] at hc
    exact (World.cell?_of_block (a := ⟨gva, x, none⟩) (bu.block gva (by omega) (by omega))).trans hc : wx.cell? ⟨gva, x, none⟩ = some (.int .u8 (p x)))
  have AR := Lib.hid fun (wx : World) (bu : But gl go w3 wx) => (fun hn => by
    refine ⟨gva, 0, rfl, by have := bu.size; omega, fun i i0 i1 => ?_⟩
    have := PX.out wx bu i.toNat (by omega)
    rw [Int.toNat_of_nonneg i0] at this
    rw [Nat.zero_add]; exact this : ArrB wx wx.heap.size (some ⟨gva, 0, none⟩) N p)
  clear kg aa bw hgo kgl hL1 hL2 hL3 RR HPP
  go_wp2_with fail
  go_loopw [61, 13] (fun t m wr => ∃ (k : Nat) (o : Int → Int) (tot : Int), k ≤ K1 ∧ t = .int .i64 k ∧ m = .int .i64 tot ∧ But gl go w3 wr ∧ Blk wr go 3 (i64s N o) ∧ Hid (Own N R PP o k 0) ∧ Hid (tot = ownS N o)) (fun t _ _ => K1 - (intOf t).toNat)
  case atStart => exact ⟨0, fun _ => 0, 0, by omega, rfl, rfl, But.refl _ (by omega), ko, Lib.hid (Own.start N R PP), Lib.hid (ownS_0 N).symm⟩
  case round =>
    obtain ⟨k, o, tot, hk, rfl, rfl, bu, kk, hO, hT⟩ := hrel
    clear ko
    by_cases kl : (k : Int) < K1
    · obtain ⟨⟨rt, ⟨c1, c2, c3, c4⟩, v⟩, hLk⟩ : ∃ y, L[k]? = some y := ⟨L[k]'(by rw [LL.out]; omega), List.getElem?_eq_getElem _⟩
      have hRk : R[k]? = some rt := by rw [← LM.out, List.getElem?_map, hLk]; rfl
      have hLm := List.mem_of_getElem? hLk
      have EP := E2.out _ hLm wr bu
      change ERow wr 0 51 2 (encP W) v (PP rt) at EP
      obtain ⟨AP, cP, rfl, hcP, -⟩ := EP.arr (encP_len W)
      obtain ⟨P, hP⟩ : ∃ P, (PP rt).length = P := ⟨_, rfl⟩
      rw [hP] at hcP
      have EPx := Lib.hid fun (wx : World) (bux : But gl go w3 wx) => (by
        have h := E2.out _ hLm wx bux
        change ERow wx 0 51 2 (encP W) (.slice AP (PP rt).length cP) (PP rt) at h
        obtain ⟨A', c', ev, -, hE⟩ := h.arr (encP_len W)
        have eA : A' = AP := by cases ev; rfl
        exact eA ▸ hE : EArr wx wx.heap.size 2 (encP W) AP (PP rt))
      obtain ⟨A', c', ev, -, hE⟩ := (E5.out wr bu).arr encC_len
      have eA : A' = AL := by cases ev; rfl
      subst eA
      obtain ⟨gL, eL, hgL, hcl⟩ := hE (by intro e; rw [e] at hLk; simp at hLk)
      have q0 := hcl k _ hLk 0 (by omega); have q1 := hcl k _ hLk 1 (by omega); have q2 := hcl k _ hLk 2 (by omega); have q3 := hcl k _ hLk 3 (by omega); have q4 := hcl k _ hLk 4 (by omega)
      change _ = some (Value.int .i64 c1) at q0
      change _ = some (Value.int .i64 c2) at q1
      change _ = some (Value.int .i64 c3) at q2
      change _ = some (Value.int .i64 c4) at q3
      change _ = some (Value.slice AP (PP rt).length cP) at q4
      rw [hP] at q4
      rw [Nat.add_zero] at q0
      subst eL
      have HP := Lib.hid hP
      have HRK := Lib.hid hRk
      have PLN : P ≤ 1200 := by have := PL.out rt; omega
      obtain ⟨gc, hgc⟩ : ∃ g, wr.heap.size = g := ⟨_, rfl⟩
      have kc : Blk (wr.alloc (.cells #[.int .i64 c1, .int .i64 c2, .int .i64 c3, .int .i64 c4, .slice AP P cP] 47)) gc 47 #[.int .i64 c1, .int .i64 c2, .int .i64 c3, .int .i64 c4, .slice AP P cP] := Blk.new' hgc _ _
      have bn : Below wr.heap.size wr (wr.alloc (.cells #[.int .i64 c1, .int .i64 c2, .int .i64 c3, .int .i64 c4, .slice AP P cP] 47)) := (Below.refl _ _).alloc (Nat.le_refl _) _
      have bu5 := bu.then (bn.mono bu.size)
      have kk5 := kk.below' bn
      have zgc : gl ≤ gc := by have := bu.size; omega
      have HLK := Lib.hid hLm
      have lk := kc.cell 4
      change _ = some (Value.slice AP P cP) at lk
      clear hLk hRk hLm EP hP hE hcl hgL ev bu kk
      go_upto_region 11 with fail
      clear q0 q1 q2 q3 q4 hgc bn
      generalize wr.alloc (.cells #[.int .i64 c1, .int .i64 c2, .int .i64 c3, .int .i64 c4, .slice AP P cP] 47) = w5 at *
      go_wp2_with fail
      go_loopw [69, 13] (fun t m wx => ∃ (q : Nat) (o : Int → Int) (tot : Int), q ≤ P ∧ t = .int .i64 q ∧ m = .int .i64 tot ∧ But gl go w3 wx ∧ Blk wx go 3 (i64s N o) ∧ Blk wx gc 47 #[.int .i64 c1, .int .i64 c2, .int .i64 c3, .int .i64 c4, .slice AP P cP] ∧ Hid (Own N R PP o k q) ∧ Hid (tot = ownS N o)) (fun t _ _ => P - (intOf t).toNat)
      case atStart => exact ⟨0, o, tot, by omega, rfl, rfl, bu5, kk5, kc, hO, hT⟩
      case round =>
        obtain ⟨q, o, tot, hq, rfl, rfl, bu, kk, kc, hO, hT⟩ := hrel
        clear bu5 kk5 lk
        by_cases ql : (q : Int) < P
        · obtain ⟨x, hx⟩ : ∃ x, (PP rt)[q]? = some x := ⟨(PP rt)[q]'(by rw [HP.out]; omega), List.getElem?_eq_getElem _⟩
          have hxm := List.mem_of_getElem? hx
          obtain ⟨xN, xp⟩ := PM.out rt x hxm
          have ST := hO.out.step (fun j r' hj hl => PA.out j k rt r' x hj HRK.out hl hxm) (PN.out rt) HRK.out hx
          obtain ⟨gP, eP, hgP, hcp⟩ := EPx.out wr bu (by intro e; rw [e] at hx; simp at hx)
          have a0 := hcp q x hx 0 (by omega)
          have a1 := hcp q x hx 1 (by omega)
          change _ = some (Value.int .i64 ((x % W : Nat) : Int)) at a0
          change _ = some (Value.int .i64 ((x / W : Nat) : Int)) at a1
          rw [Nat.add_zero] at a0
          have hW0 : 0 < W := by
            rcases Nat.eq_zero_or_pos W with h | h
            · have := HN.out; rw [h, Nat.zero_mul] at this; omega
            · exact h
          have xm := Nat.mod_lt x hW0
          have xd : x / W < H := Nat.div_lt_of_lt_mul (by have := HN.out; omega)
          have xe : ((x / W : Nat) : Int) * W + ((x % W : Nat) : Int) = x := by
            have := Nat.mod_add_div x W
            rw [Nat.mul_comm] at this
            have h2 : (((x / W * W + x % W : Nat)) : Int) = x := by omega
            rw [← h2]; push_cast; rfl
          have yw : ((x / W : Nat) : Int) * W ≤ 1200 := by
            have h1 : (0 : Int) ≤ ((x % W : Nat) : Int) := Int.natCast_nonneg _
            omega
          have yw0 : 0 ≤ ((x / W : Nat) : Int) * W := Int.mul_nonneg (Int.natCast_nonneg _) (by omega)
          have x0 : 0 ≤ ((x % W : Nat) : Int) := Int.natCast_nonneg _
          have y0 : 0 ≤ ((x / W : Nat) : Int) := Int.natCast_nonneg _
          have xm' : ((x % W : Nat) : Int) < W := by omega
          have xd' : ((x / W : Nat) : Int) < H := by omega
          generalize ((x % W : Nat) : Int) = X at *
          generalize ((x / W : Nat) : Int) = Y at *
          have f1 : ¬ X < 0 := by omega
          have f2 : ¬ (W : Int) ≤ X := by omega
          have f3 : ¬ Y < 0 := by omega
          have f4 : ¬ (H : Int) ≤ Y := by omega
          have v1 : IntKind.i64.wrap (Y * W) = Y * W := IntWalk.i64_in _ (by omega)
          have v2 : IntKind.i64.wrap (Y * W + X) = (x : Int) := (IntWalk.i64_in _ (by omega)).trans xe
          have v3 : IntKind.i64.wrap ((k : Int) + 1) = (k : Int) + 1 := IntWalk.i64_in _ (by omega)
          have tb := ownS_bd N o
          rw [← hT.out] at tb
          have v4 : IntKind.i64.wrap (tot + 1) = tot + 1 := IntWalk.i64_in _ (by omega)
          have xN' : (x : Int) < (N : Int) := by omega
          have xn0 : (0 : Int) ≤ (x : Int) := by omega
          have oc := kk.i64at (i := (x : Int)) xn0 xN'
          rw [Int.toNat_natCast, ST.1] at oc
          have pc := PX.out wr bu x xN
          rw [xp] at pc
          have mg := KG.out.but bu (by omega) (by omega)
          have bn : Below wr.heap.size wr (wr.alloc (.cells #[.int .i64 X, .int .i64 Y] 51)) := (Below.refl _ _).alloc (Nat.le_refl _) _
          have zgv : gva < wr.heap.size := by have := bu.size; omega
          have oc6 := (bn.cell (p := ⟨go, x, none⟩) kk.lt).trans oc
          have pc6 := (bn.cell (p := ⟨gva, x, none⟩) zgv).trans pc
          have kk6 := kk.below' bn
          have kc6 := kc.below' bn
          have bu6 := bu.then (bn.mono bu.size)
          obtain ⟨p1, p2, p3⟩ := (mg.below' bn).cells3
          have fz := kk6.frozen x
          obtain ⟨s0, s1⟩ := (Blk.new wr 51 #[.int .i64 X, .int .i64 Y]).cells2
          have kk7 := kk6.i64set (x : Int) xn0 ((k : Int) + 1)
          rw [Int.toNat_natCast] at kk7
          have bu7 := bu6.set x (.int .i64 ((k : Int) + 1))
          have kc7 := kc6.far (p := ⟨go, x, none⟩) (by show gc ≠ go; omega) (.int .i64 ((k : Int) + 1))
          have HO := Lib.hid ST.2
          have HT : Hid (tot + 1 = ownS N (upd o x ((k : Int) + 1))) := Lib.hid (by rw [ownS_upd xN ST.1 (by omega), hT.out])
          subst eP
          clear hx hxm xp hcp xm xd xe yw yw0 x0 y0 tb ST mg hgP oc pc bu kk kc hO hT kk6 kc6 bu6
          go_upto_region 14 with fail
          clear a0 a1
          generalize wr.alloc (.cells #[.int .i64 X, .int .i64 Y] 51) = w6 at *
          go_wp2_with fail
          go_roundw
          case rel => exact ⟨q + 1, _, tot + 1, by omega, by go_num, rfl, bu7, kk7, kc7, HO, HT⟩
          case measure => simp [intOf]; omega
        · obtain rfl : q = P := by omega
          have lk := kc.cell 4
          change _ = some (Value.slice AP q cP) at lk
          obtain ⟨l', hl', hcn⟩ := PJ.out rt (RT.out k rt HRK.out)
          have JN := Lib.hid (joined_any W eb rt l' AP q cP wr (hl' ▸ EPx.out wr bu) (hl' ▸ HP.out) (by omega) (hl' ▸ PN.out rt) hcn (fun i hi => by have := (PM.out rt i (hl' ▸ hi)).1; omega))
          have HO : Hid (Own N R PP o (k + 1) 0) := Lib.hid (Own.next HRK.out (by rw [HP.out]; exact hO.out))
          clear hl' hcn
          go_wp2_with fail
          refine JN.out.mono ?_
          rintro z w8 ⟨rfl, hb8⟩
          have bu8 := bu.then (hb8.mono bu.size)
          have kk8 := kk.below' hb8
          clear bu kk kc lk JN hb8 hO
          go_wp2_with fail
          go_roundw
          case rel => exact ⟨k + 1, o, tot, by omega, by go_num, rfl, bu8, kk8, HO, hT⟩
          case measure => simp [intOf]; omega
    · obtain rfl : k = K1 := by omega
      obtain ⟨OI, OJ⟩ := OA.out o hO.out
      obtain rfl : tot = M := by rw [hT.out]; exact OM.out o OI
      have m1 := KG.out.but bu (by omega) (by omega)
      obtain ⟨p1, p2, p3⟩ := m1.cells3
      have bE : Below w.heap.size w wr := BW.out.trans (bu.to hgl (by omega) (by omega))
      have CTT := Lib.hid (CT.out gva wr (AR.out wr bu))
      have OI' := Lib.hid OI
      have OJ' := Lib.hid OJ
      have ONN := Lib.hid hO
      clear CT OA OM E5 E2 PX AR PJ PA PN RT PL OI OJ hT hO BW KO
      go_wp2_with fail
      refine CTT.out.mono ?_
      rintro z w9 ⟨rfl, hb9⟩
      have kk9 := kk.below' hb9
      have m9 := m1.below' hb9
      have b9 := below_call bE bE.size hb9
      clear bE bu kk m1 hb9 CTT p1 p2 p3
      have KK := Lib.hid kk9; have MM := Lib.hid m9; have B9 := Lib.hid b9
      obtain ⟨p1, p2, p3⟩ := m9.cells3
      clear kk9 m9 b9
      go_wp2_with fail
      go_loopw [155] (fun t wx => ∃ y : Nat, y ≤ H ∧ t = .int .i64 y ∧ Below w9.heap.size w9 wx) (fun t _ => H - (intOf t).toNat)
      case atStart => exact ⟨0, by omega, rfl, Below.refl _ _⟩
      case round =>
        obtain ⟨y, hy, rfl, hby⟩ := hrel
        clear p1 p2 p3
        obtain ⟨p1, p2, p3⟩ := (MM.out.below' hby).cells3
        by_cases yl : (y : Int) < H
        · go_wp2_with fail
          go_loopw [160] (fun t wx => ∃ x : Nat, x ≤ W ∧ t = .int .i64 x ∧ Below w9.heap.size w9 wx) (fun t _ => W - (intOf t).toNat)
          case atStart => exact ⟨0, by omega, rfl, hby⟩
          case round =>
            obtain ⟨x, hx, rfl, hbx⟩ := hrel
            clear p1 p2 p3 hby
            by_cases xl : (x : Int) < W
            · obtain ⟨gd, hgd⟩ : ∃ g, wr.heap.size = g := ⟨_, rfl⟩
              have kd : Blk (wr.alloc (.cells #[.int .i64 1, .int .i64 0, .int .i64 0, .int .i64 1, .int .i64 1, .int .i64 1, .int .i64 (-1), .int .i64 1] 51)) gd 51 #[.int .i64 1, .int .i64 0, .int .i64 0, .int .i64 1, .int .i64 1, .int .i64 1, .int .i64 (-1), .int .i64 1] := Blk.new' hgd _ _
              have bd : Below w9.heap.size w9 (wr.alloc (.cells #[.int .i64 1, .int .i64 0, .int .i64 0, .int .i64 1, .int .i64 1, .int .i64 1, .int .i64 (-1), .int .i64 1] 51)) := hbx.alloc hbx.size _
              clear hbx
              go_upto_region 32 with fail
              generalize wr.alloc (.cells #[.int .i64 1, .int .i64 0, .int .i64 0, .int .i64 1, .int .i64 1, .int .i64 1, .int .i64 (-1), .int .i64 1] 51) = w10 at *
              clear hgd
              go_wp2_with fail
              go_loopw [169] (fun t wx => ∃ k : Nat, k ≤ 4 ∧ t = .int .i64 k ∧ Below w9.heap.size w9 wx ∧ Blk wx gd 51 #[.int .i64 1, .int .i64 0, .int .i64 0, .int .i64 1, .int .i64 1, .int .i64 1, .int .i64 (-1), .int .i64 1]) (fun t _ => 4 - (intOf t).toNat)
              case atStart => exact ⟨0, by omega, rfl, bd, kd⟩
              case round =>
                obtain ⟨k, hk, rfl, hbk, kk⟩ := hrel
                clear bd kd
                by_cases kl : (k : Int) < 4
                · obtain ⟨dx, dy, c0, c1, e1, e2, e3, e4, e5⟩ : ∃ dx dy : Int, wr.cell? ⟨gd, k * 2, none⟩ = some (.int .i64 dx) ∧ wr.cell? ⟨gd, k * 2 + 1, none⟩ = some (.int .i64 dy) ∧ -1 ≤ dx ∧ dx ≤ 1 ∧ 0 ≤ dy ∧ dy ≤ 1 ∧ ¬ (dx = 0 ∧ dy = 0) := by
                    rcases (show k = 0 ∨ k = 1 ∨ k = 2 ∨ k = 3 by omega) with rfl | rfl | rfl | rfl
                    · exact ⟨1, 0, kk.cell 0, kk.cell 1, by omega, by omega, by omega, by omega, by omega⟩
                    · exact ⟨0, 1, kk.cell 2, kk.cell 3, by omega, by omega, by omega, by omega, by omega⟩
                    · exact ⟨1, 1, kk.cell 4, kk.cell 5, by omega, by omega, by omega, by omega, by omega⟩
                    · exact ⟨-1, 1, kk.cell 6, kk.cell 7, by omega, by omega, by omega, by omega, by omega⟩
                  have bn : Below wr.heap.size wr (wr.alloc (.cells #[.int .i64 dx, .int .i64 dy] 51)) := (Below.refl _ _).alloc (Nat.le_refl _) _
                  have kk5 := kk.below' bn
                  have hb5 := below_call hbk hbk.size bn
                  obtain ⟨gq, hgq⟩ : ∃ g, wr.heap.size = g := ⟨_, rfl⟩
                  have kq : Blk (wr.alloc (.cells #[.int .i64 dx, .int .i64 dy] 51)) gq 51 #[.int .i64 dx, .int .i64 dy] := Blk.new' hgq _ _
                  obtain ⟨U, hU⟩ : ∃ U : Int, (x : Int) + dx = U := ⟨_, rfl⟩
                  obtain ⟨V, hV⟩ : ∃ U : Int, (y : Int) + dy = U := ⟨_, rfl⟩
                  have v1 : IntKind.i64.wrap ((x : Int) + dx) = U := (IntWalk.i64_in _ (by omega)).trans hU
                  have v2 : IntKind.i64.wrap ((y : Int) + dy) = V := (IntWalk.i64_in _ (by omega)).trans hV
                  have HU := Lib.hid hU; have HV := Lib.hid hV
                  have V0 : 0 ≤ V := by omega
                  have Ub : -1 ≤ U ∧ U ≤ 40 := by omega
                  have Vb : V ≤ 40 := by omega
                  clear hU hV kk hbk bn
                  go_upto_region 34 with fail
                  clear c0 c1 hgq
                  generalize wr.alloc (.cells #[.int .i64 dx, .int .i64 dy] 51) = w11 at *
                  obtain ⟨t0, t1⟩ := kq.cells2
                  obtain ⟨p1, p2, p3⟩ := (MM.out.below' hb5).cells3
                  by_cases hin : U < 0 ∨ (W : Int) ≤ U ∨ (H : Int) ≤ V ∨ (dx ≠ 0 ∧ dy ≠ 0 ∧ eb = false)
                  · rcases (show U < 0 ∨ (¬ U < 0 ∧ (W : Int) ≤ U) ∨ (¬ U < 0 ∧ ¬ (W : Int) ≤ U ∧ (H : Int) ≤ V) ∨ (¬ U < 0 ∧ ¬ (W : Int) ≤ U ∧ ¬ (H : Int) ≤ V ∧ dx ≠ 0 ∧ dy ≠ 0 ∧ eb = false) by
                      rcases hin with h | h | h | h
                      · exact .inl h
                      · by_cases h1 : U < 0
                        · exact .inl h1
                        · exact .inr (.inl ⟨h1, h⟩)
                      · by_cases h1 : U < 0
                        · exact .inl h1
                        · by_cases h2 : (W : Int) ≤ U
                          · exact .inr (.inl ⟨h1, h2⟩)
                          · exact .inr (.inr (.inl ⟨h1, h2, h⟩))
                      · by_cases h1 : U < 0
                        · exact .inl h1
                        · by_cases h2 : (W : Int) ≤ U
                          · exact .inr (.inl ⟨h1, h2⟩)
                          · by_cases h3 : (H : Int) ≤ V
                            · exact .inr (.inr (.inl ⟨h1, h2, h3⟩))
                            · exact .inr (.inr (.inr ⟨h1, h2, h3, h⟩))) with q1 | ⟨q1, q2⟩ | ⟨q1, q2, q3⟩ | ⟨q1, q2, q3, q4, q5, q6⟩
                    · clear hin Ub
                      go_quiet (fail)
                      go_wp2_with fail
                      go_roundw
                      case rel => exact ⟨k + 1, by omega, by go_num, by (repeat (first | exact Below.refl _ _ | assumption | refine Below.drew ?_ | refine below_drewN ?_ _ | refine Below.alloc ?_ (by first | omega | (simp; done) | (simp; omega)) _ | refine Below.setCell ?_ (by first | omega | (simp; done) | (simp; omega)) _ | refine below_setRow ?_ (by first | omega | (simp; done) | (simp; omega)) _ )), kk5.drewN _⟩
                      case measure => simp [intOf]; omega
                    · clear hin Ub
                      go_quiet (fail)
                      go_wp2_with fail
                      go_roundw
                      case rel => exact ⟨k + 1, by omega, by go_num, by (repeat (first | exact Below.refl _ _ | assumption | refine Below.drew ?_ | refine below_drewN ?_ _ | refine Below.alloc ?_ (by first | omega | (simp; done) | (simp; omega)) _ | refine Below.setCell ?_ (by first | omega | (simp; done) | (simp; omega)) _ | refine below_setRow ?_ (by first | omega | (simp; done) | (simp; omega)) _ )), kk5.drewN _⟩
                      case measure => simp [intOf]; omega
                    · clear hin Ub
                      go_quiet (fail)
                      go_wp2_with fail
                      go_roundw
                      case rel => exact ⟨k + 1, by omega, by go_num, by (repeat (first | exact Below.refl _ _ | assumption | refine Below.drew ?_ | refine below_drewN ?_ _ | refine Below.alloc ?_ (by first | omega | (simp; done) | (simp; omega)) _ | refine Below.setCell ?_ (by first | omega | (simp; done) | (simp; omega)) _ | refine below_setRow ?_ (by first | omega | (simp; done) | (simp; omega)) _ )), kk5.drewN _⟩
                      case measure => simp [intOf]; omega
                    · subst q6
                      have w1 : (dx != 0) = true := by simp [q4]
                      have w2 : (dy != 0) = true := by simp [q5]
                      clear hin Ub
                      go_quiet (fail)
                      go_wp2_with fail
                      go_roundw
                      case rel => exact ⟨k + 1, by omega, by go_num, by (repeat (first | exact Below.refl _ _ | assumption | refine Below.drew ?_ | refine below_drewN ?_ _ | refine Below.alloc ?_ (by first | omega | (simp; done) | (simp; omega)) _ | refine Below.setCell ?_ (by first | omega | (simp; done) | (simp; omega)) _ | refine below_setRow ?_ (by first | omega | (simp; done) | (simp; omega)) _ )), kk5.drewN _⟩
                      case measure => simp [intOf]; omega
                  · have q1 : ¬ U < 0 := fun h => hin (.inl h)
                    have q2 : ¬ (W : Int) ≤ U := fun h => hin (.inr (.inl h))
                    have q3 : ¬ (H : Int) ≤ V := fun h => hin (.inr (.inr (.inl h)))
                    have q4 : ¬ (dx ≠ 0 ∧ dy ≠ 0 ∧ eb = false) := fun h => hin (.inr (.inr (.inr h)))
                    obtain ⟨u, eu⟩ : ∃ u : Nat, U = u := ⟨U.toNat, by omega⟩
                    obtain ⟨v, ev⟩ : ∃ v : Nat, V = v := ⟨V.toNat, by omega⟩
                    have hxW : x < W := by omega
                    have huW : u < W := by omega
                    have AJ := adj_diff (e := eb) hxW huW (y := y) (v := v) (by rw [← eu]; exact HU.out.symm) (by rw [← ev]; exact HV.out.symm) e1 e2 e3 e4 e5 q4
                    obtain ⟨z1, hz1⟩ : ∃ z, y * W + x = z := ⟨_, rfl⟩
                    obtain ⟨z2, hz2⟩ : ∃ z, v * W + u = z := ⟨_, rfl⟩
                    have n1 : z1 < N := by
                      have := Nat.mul_le_mul_right W (show y + 1 ≤ H by omega)
                      rw [Nat.add_mul, Nat.mul_comm H W] at this
                      have := HN.out; omega
                    have n2 : z2 < N := by
                      have := Nat.mul_le_mul_right W (show v + 1 ≤ H by omega)
                      rw [Nat.add_mul, Nat.mul_comm H W] at this
                      have := HN.out; omega
                    have i1 : (y : Int) * W + x = (z1 : Int) := by rw [← hz1]; push_cast; rfl
                    have i2 : V * W + U = (z2 : Int) := by rw [← hz2, eu, ev]; push_cast; rfl
                    have i3 : 0 ≤ (y : Int) * W := Int.mul_nonneg (by omega) (by omega)
                    have i4 : 0 ≤ V * W := Int.mul_nonneg (by omega) (by omega)
                    have v3 : IntKind.i64.wrap ((y : Int) * W) = (y : Int) * W := IntWalk.i64_in _ (by omega)
                    have v4 : IntKind.i64.wrap ((y : Int) * W + x) = (z1 : Int) := (IntWalk.i64_in _ (by omega)).trans i1
                    have v5 : IntKind.i64.wrap (V * W) = V * W := IntWalk.i64_in _ (by omega)
                    have v6 : IntKind.i64.wrap (V * W + U) = (z2 : Int) := (IntWalk.i64_in _ (by omega)).trans i2
                    have n1' : (z1 : Int) < (N : Int) := by omega
                    have n2' : (z2 : Int) < (N : Int) := by omega
                    have ka := KK.out.below' hb5
                    have a1 := ka.i64at (i := (z1 : Int)) (by omega) n1'
                    have a2 := ka.i64at (i := (z2 : Int)) (by omega) n2'
                    rw [Int.toNat_natCast] at a1 a2
                    rw [hz1, hz2] at AJ
                    have SAME : 0 < o z1 → 0 < o z2 → o z1 = o z2 := fun h1 h2 => by
                      have g1 := (OI'.out z1 n1).1
                      have g2 := (OI'.out z2 n2).1
                      refine OJ'.out z1 z2 ⟨n1, ?_⟩ ⟨n2, ?_⟩ AJ
                      · rcases P01.out z1 with h | h
                        · have := g1.2 (by omega); omega
                        · exact h
                      · rcases P01.out z2 with h | h
                        · have := g2.2 (by omega); omega
                        · exact h
                    obtain ⟨oa, hoa⟩ : ∃ a, o z1 = a := ⟨_, rfl⟩
                    obtain ⟨ob, hob⟩ : ∃ a, o z2 = a := ⟨_, rfl⟩
                    rw [hoa] at a1 SAME; rw [hob] at a2 SAME
                    have Q4 := Lib.hid q4
                    clear hin hoa hob AJ i1 i2 i3 i4 hz1 hz2 eu ev huW n1 n2 q4 ka Ub e5
                    rcases (show dx = 0 ∨ (dx ≠ 0 ∧ dy = 0) ∨ (dx ≠ 0 ∧ dy ≠ 0 ∧ eb = true) by
                      by_cases h1 : dx = 0
                      · exact .inl h1
                      · by_cases h2 : dy = 0
                        · exact .inr (.inl ⟨h1, h2⟩)
                        · refine .inr (.inr ⟨h1, h2, ?_⟩)
                          cases h3 : eb
                          · exact absurd ⟨h1, h2, h3⟩ Q4.out
                          · rfl) with g1 | ⟨g1, g2⟩ | ⟨g1, g2, g3⟩
                    · have w1 : (dx != 0) = false := by simp [g1]
                      clear g1
                      go_quiet (fail)
                      go_upto_region 36 with fail
                      go_quiet (fail)
                      rcases (show ¬ 0 < oa ∨ (0 < oa ∧ ¬ 0 < ob) ∨ (0 < oa ∧ 0 < ob ∧ oa = ob) by
                        by_cases h1 : 0 < oa
                        · by_cases h2 : 0 < ob
                          · exact .inr (.inr ⟨h1, h2, SAME h1 h2⟩)
                          · exact .inr (.inl ⟨h1, h2⟩)
                        · exact .inl h1) with h1 | ⟨h1, h2⟩ | ⟨h1, h2, rfl⟩
                      all_goals
                        clear SAME
                        go_wp2_with fail
                        go_roundw
                        case rel => exact ⟨k + 1, by omega, by go_num, by (repeat (first | exact Below.refl _ _ | assumption | refine Below.drew ?_ | refine below_drewN ?_ _ | refine Below.alloc ?_ (by first | omega | (simp; done) | (simp; omega)) _ | refine Below.setCell ?_ (by first | omega | (simp; done) | (simp; omega)) _ | refine below_setRow ?_ (by first | omega | (simp; done) | (simp; omega)) _ )), by first | exact kk5.drewN _ | exact (kk5.drewN _).drewN _⟩
                        case measure => simp [intOf]; omega
                    · have w1 : (dx != 0) = true := by simp [g1]
                      have w2 : (dy != 0) = false := by simp [g2]
                      clear g1 g2
                      go_quiet (fail)
                      go_upto_region 36 with fail
                      go_quiet (fail)
                      rcases (show ¬ 0 < oa ∨ (0 < oa ∧ ¬ 0 < ob) ∨ (0 < oa ∧ 0 < ob ∧ oa = ob) by
                        by_cases h1 : 0 < oa
                        · by_cases h2 : 0 < ob
                          · exact .inr (.inr ⟨h1, h2, SAME h1 h2⟩)
                          · exact .inr (.inl ⟨h1, h2⟩)
                        · exact .inl h1) with h1 | ⟨h1, h2⟩ | ⟨h1, h2, rfl⟩
                      all_goals
                        clear SAME
                        go_wp2_with fail
                        go_roundw
                        case rel => exact ⟨k + 1, by omega, by go_num, by (repeat (first | exact Below.refl _ _ | assumption | refine Below.drew ?_ | refine below_drewN ?_ _ | refine Below.alloc ?_ (by first | omega | (simp; done) | (simp; omega)) _ | refine Below.setCell ?_ (by first | omega | (simp; done) | (simp; omega)) _ | refine below_setRow ?_ (by first | omega | (simp; done) | (simp; omega)) _ )), by first | exact kk5.drewN _ | exact (kk5.drewN _).drewN _⟩
                        case measure => simp [intOf]; omega
                    · subst g3
                      have w1 : (dx != 0) = true := by simp [g1]
                      have w2 : (dy != 0) = true := by simp [g2]
                      clear g1 g2
                      go_quiet (fail)
                      go_upto_region 36 with fail
                      go_quiet (fail)
                      rcases (show ¬ 0 < oa ∨ (0 < oa ∧ ¬ 0 < ob) ∨ (0 < oa ∧ 0 < ob ∧ oa = ob) by
                        by_cases h1 : 0 < oa
                        · by_cases h2 : 0 < ob
                          · exact .inr (.inr ⟨h1, h2, SAME h1 h2⟩)
                          · exact .inr (.inl ⟨h1, h2⟩)
                        · exact .inl h1) with h1 | ⟨h1, h2⟩ | ⟨h1, h2, rfl⟩
                      all_goals
                        clear SAME
                        go_wp2_with fail
                        go_roundw
                        case rel => exact ⟨k + 1, by omega, by go_num, by (repeat (first | exact Below.refl _ _ | assumption | refine Below.drew ?_ | refine below_drewN ?_ _ | refine Below.alloc ?_ (by first | omega | (simp; done) | (simp; omega)) _ | refine Below.setCell ?_ (by first | omega | (simp; done) | (simp; omega)) _ | refine below_setRow ?_ (by first | omega | (simp; done) | (simp; omega)) _ )), by first | exact kk5.drewN _ | exact (kk5.drewN _).drewN _⟩
                        case measure => simp [intOf]; omega
                · obtain rfl : k = 4 := by omega
                  go_wp2_with fail
                  go_roundw
                  case rel => exact ⟨x + 1, by omega, by go_num, hbk⟩
                  case measure => simp [intOf]; omega
            · obtain rfl : x = W := by omega
              go_wp2_with fail
              go_roundw
              case rel => exact ⟨y + 1, by omega, by go_num, hbx⟩
              case measure => simp [intOf]; omega
        · have b10 := below_call B9.out B9.out.size hby
          go_wp2_with fail
          refine (AW.out _).mono ?_
          rintro z w11 ⟨rfl, hb11⟩
          have b11 := below_call b10 b10.size hb11
          go_wp2
          go_ret
          exact ⟨rfl, b11⟩

end Go.Proofs.YtoonkpjddfiopaaDoor
