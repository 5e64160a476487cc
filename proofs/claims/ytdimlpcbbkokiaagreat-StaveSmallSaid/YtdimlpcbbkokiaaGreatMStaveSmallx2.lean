/- Texts of mine in build order: W10, W11, W12, W13, Q1, W15, Lib3, W21, T1, T4, T2. Conditions: each theorem's own. -/
import Derived.Test.YtdimlpcbbkokiaaGreatMStaveSmallx1
import Derived.Deep.RegionHeld3
import Derived.Deep.DeepCutAuto
import Derived.Deep.Cut
import Derived.Laws.AppendOwn
import Derived.StillTailTactics
import Derived.BigQuiet
import Derived.Deep.QuietTactic
/- Walks: two lists of bytes, two images compared. -/
namespace Go.Proofs.YtdimlpcbbkokiaaGreat
open Go.RowKit
set_option linter.unusedVariables false

def sameB (n m : Nat) (p q : Int → Int) : Bool := decide (n = m) && allN n fun i => decide (p i = q i)
theorem sameB_iff {n m : Nat} {p q : Int → Int} : sameB n m p q = true ↔ n = m ∧ ∀ i : Int, 0 ≤ i → i < n → p i = q i := by
  unfold sameB; rw [Bool.and_eq_true, decide_eq_true_iff, allN_iff]; simp

set_option maxHeartbeats 400000 in
theorem sameBytes_any (A B : Option Addr) (n m c d : Nat) (p q : Int → Int) (w : World) (hA : ArrB w w.heap.size A n p) (hB : ArrB w w.heap.size B m q) (hn : n ≤ maxLen) (hm : m ≤ maxLen) :
    Calls Tryz.prog 81 #[.slice A n c, .slice B m d] w fun e w' => e = .returned (.bool (sameB n m p q)) ∧ ∃ k, w' = w.drewN k := by
  unfold maxLen at hn hm
  by_cases hnm : n = m
  · subst hnm
    go_enter Tryz.func81, Tryz.ntmps81
    go_wp2
    go_loopw [5] (fun s wr => ∃ i : Int, 0 ≤ i ∧ i ≤ n ∧ s = .int .i64 i ∧ (∀ j : Int, 0 ≤ j → j < i → p j = q j) ∧ ∃ k, wr = w.drewN k) (fun s _ => n - (intOf s).toNat)
    case atStart => exact ⟨0, by omega, by omega, rfl, fun j a b => by omega, 0, rfl⟩
    case round =>
      obtain ⟨i, h0, hi, rfl, hall, k, rfl⟩ := hrel
      have HA := Lib.hid hall; clear hall
      by_cases hlt : i < n
      · obtain ⟨b, off, rfl, hb, hc⟩ := hA.at_ h0 hlt
        obtain ⟨b', off', rfl, hb', hc'⟩ := hB.at_ h0 hlt
        by_cases he : p i = q i
        · have hbool : (p i != q i) = false := by simp [he]
          have HE := Lib.hid he; clear he
          go_wp2_with fail
          go_quiet (fail)
          go_wp2
          go_roundw
          case rel =>
            refine ⟨i + 1, by omega, by omega, by go_num, fun j a b => ?_, _, rfl⟩
            by_cases e : j = i
            · rw [e]; exact HE.out
            · exact HA.out j a (by omega)
          case measure => simp [intOf]; omega
        · have hbool : (p i != q i) = true := by simp [he]
          have HE := Lib.hid he; clear he
          have hr : Hid (sameB n n p q = false) := by
            show _ = _
            rw [Bool.eq_false_iff]; intro h; exact HE.out ((sameB_iff.1 h).2 i h0 hlt)
          go_wp2_with fail
          go_quiet (fail)
          go_wp2
          go_ret
          exact ⟨ret_bool hr.out.symm, _, World.drewN_drewN _ _ _⟩
      · have hr : Hid (sameB n n p q = true) := by
          show _ = _
          exact sameB_iff.2 ⟨rfl, fun j a b => HA.out j a (by omega)⟩
        go_wp2
        go_ret
        exact ⟨ret_bool hr.out.symm, _, rfl⟩
  · have hr : Hid (sameB n m p q = false) := by
      show _ = _
      rw [Bool.eq_false_iff]; intro h; exact hnm (sameB_iff.1 h).1
    go_enter Tryz.func81, Tryz.ntmps81
    go_wp2
    all_goals
      go_ret
      exact ⟨ret_bool hr.out.symm, 0, rfl⟩

theorem drewN_below {w : World} (k : Nat) : Below w.heap.size w (w.drewN k) := below_drewN (Below.refl _ _) k

set_option maxHeartbeats 1000000 in
theorem sameInk_any (W H W' H' : Int) (A B : Option Addr) (n m c d : Nat) (p q : Int → Int) (w : World) (hA : ArrB w w.heap.size A n p) (hB : ArrB w w.heap.size B m q) (hn : n ≤ maxLen) (hm : m ≤ maxLen) :
    Calls Tryz.prog 40 #[.agg #[.int .i64 W, .int .i64 H, .slice A n c], .agg #[.int .i64 W', .int .i64 H', .slice B m d]] w
      fun e w' => e = .returned (.bool (decide (W = W') && decide (H = H') && sameB n m p q)) ∧ Below w.heap.size w w' := by
  have SA := Lib.hid fun w1 h1 h2 => sameBytes_any A B n m c d p q w1 h1 h2 hn hm
  by_cases hW : W = W'
  · subst hW
    by_cases hH : H = H'
    · subst hH
      have hr : Hid ((decide (W = W) && decide (H = H) && sameB n m p q) = sameB n m p q) := by show _ = _; simp
      rw [hr.out]
      go_enter Tryz.func40, Tryz.ntmps40
      go_wp2_with fail
      refine (SA.out _ (hA.to (by (repeat (first | exact Below.refl _ _ | assumption | refine Below.drew ?_ | refine below_drewN ?_ _ | refine Below.alloc ?_ (by first | omega | (simp; done) | (simp; omega)) _ | refine Below.setCell ?_ (by first | omega | (simp; done) | (simp; omega)) _ | refine below_setRow ?_ (by first | omega | (simp; done) | (simp; omega)) _ )))) (hB.to (by (repeat (first | exact Below.refl _ _ | assumption | refine Below.drew ?_ | refine below_drewN ?_ _ | refine Below.alloc ?_ (by first | omega | (simp; done) | (simp; omega)) _ | refine Below.setCell ?_ (by first | omega | (simp; done) | (simp; omega)) _ | refine below_setRow ?_ (by first | omega | (simp; done) | (simp; omega)) _ ))))).mono ?_
      rintro e w' ⟨rfl, k, rfl⟩
      generalize hb : sameB n m p q = b
      have HBB := Lib.hid hb; clear hb
      cases b <;> (go_wp2; go_ret; exact ⟨ret_bool HBB.out.symm, by (repeat (first | exact Below.refl _ _ | assumption | refine Below.drew ?_ | refine below_drewN ?_ _ | refine Below.alloc ?_ (by first | omega | (simp; done) | (simp; omega)) _ | refine Below.setCell ?_ (by first | omega | (simp; done) | (simp; omega)) _ | refine below_setRow ?_ (by first | omega | (simp; done) | (simp; omega)) _ ))⟩)
    · have hb : (H == H') = false := by simp [hH]
      have hr : Hid ((decide (W = W) && decide (H = H') && sameB n m p q) = false) := by show _ = _; simp [hH]
      rw [hr.out]
      have HH := Lib.hid hH; clear hH
      go_enter Tryz.func40, Tryz.ntmps40
      go_wp2
      go_ret
      exact ⟨rfl, by (repeat (first | exact Below.refl _ _ | assumption | refine Below.drew ?_ | refine below_drewN ?_ _ | refine Below.alloc ?_ (by first | omega | (simp; done) | (simp; omega)) _ | refine Below.setCell ?_ (by first | omega | (simp; done) | (simp; omega)) _ | refine below_setRow ?_ (by first | omega | (simp; done) | (simp; omega)) _ ))⟩
  · have hb : (W == W') = false := by simp [hW]
    have hr : Hid ((decide (W = W') && decide (H = H') && sameB n m p q) = false) := by show _ = _; simp [hW]
    rw [hr.out]
    have HW := Lib.hid hW; clear hW
    go_enter Tryz.func40, Tryz.ntmps40
    go_wp2
    go_ret
    exact ⟨rfl, by (repeat (first | exact Below.refl _ _ | assumption | refine Below.drew ?_ | refine below_drewN ?_ _ | refine Below.alloc ?_ (by first | omega | (simp; done) | (simp; omega)) _ | refine Below.setCell ?_ (by first | omega | (simp; done) | (simp; omega)) _ | refine below_setRow ?_ (by first | omega | (simp; done) | (simp; omega)) _ ))⟩

theorem sameInk_true (W H : Int) (A B : Option Addr) (n c d : Nat) (p q : Int → Int) (w : World) (hA : ArrB w w.heap.size A n p) (hB : ArrB w w.heap.size B n q) (hn : n ≤ maxLen) (he : ∀ i : Int, 0 ≤ i → i < n → p i = q i) :
    Calls Tryz.prog 40 #[.agg #[.int .i64 W, .int .i64 H, .slice A n c], .agg #[.int .i64 W, .int .i64 H, .slice B n d]] w
      fun e w' => e = .returned (.bool true) ∧ Below w.heap.size w w' :=
  (sameInk_any W H W H A B n n c d p q w hA hB hn hn).mono fun e w' ⟨h, hb⟩ => ⟨by rw [h, sameB_iff.2 ⟨rfl, he⟩]; simp, hb⟩
end Go.Proofs.YtdimlpcbbkokiaaGreat

/- Walks: a line of ink; the examples of the chapter. -/
namespace Go.Proofs.YtdimlpcbbkokiaaGreat
open Go.RowKit
set_option linter.unusedVariables false

def gA : Int → Int := movQ 129 1 (fun _ => 1) (-1) 1
theorem awA1 : movE 129 1 129 (fun _ => 1) (-1) 1 = 0 := by decide +kernel
theorem awA2 : (3 : Int) = 1 + grt 129 (-1) := by decide +kernel
theorem awA3 : findS 129 3 387 gA = -1 := by decide +kernel
theorem awA4 : chk 129 3 387 gA = 0 := by decide +kernel
theorem awB1 : movE 64 1 64 (fun _ => 1) 1 1 = 0 := by decide +kernel
theorem awB2 : (1 : Int) = 1 + grt 64 1 := by decide +kernel
theorem awB3 : allN 64 (fun i => decide (movQ 64 1 (fun _ => 1) 1 1 i = 1)) = true := by decide +kernel
theorem awL1 : levelS 4 (lit [10, 20, 200, 210]) = 110 := by decide +kernel
theorem awL2 : levelS 3 (lit [200, 0, 100]) = 50 := by decide +kernel
theorem awS1 : sidesB 4 1 (4 : Nat) = true := by decide
theorem awS2 : sidesB 3 1 (3 : Nat) = true := by decide

theorem cells_a : #[Value.int .u8 10, .int .u8 20, .int .u8 200, .int .u8 210] = u8s 4 (lit [10, 20, 200, 210]) := u8s_lit (l := [10, 20, 200, 210])
theorem cells_b : #[Value.int .u8 200, .int .u8 0, .int .u8 100] = u8s 3 (lit [200, 0, 100]) := u8s_lit (l := [200, 0, 100])
theorem isB_1 : IsB (fun _ => 1) := fun _ => by simp
theorem Blk.to {w : World} {g : Nat} {t : TypeId} {cs cs' : Array Value} (h : Blk w g t cs) (e : cs = cs') : Blk w g t cs' := e ▸ h

end Go.Proofs.YtdimlpcbbkokiaaGreat

/- Walk: Ruled: images of full rows. -/
namespace Go.Proofs.YtdimlpcbbkokiaaGreat
open Go.RowKit
set_option linter.unusedVariables false

/-- the place of row number i -/
def ruY (r : Int → Int) : Nat → Int
  | 0 => r 0 % 6
  | i + 1 => ruY r i + (3 + r (i + 1) % 4)
/-- the places of the first m rows -/
def ruL (r : Int → Int) (m : Nat) : List Int := (List.range m).map (ruY r)
theorem ruL_snoc (r : Int → Int) (m : Nat) : ruL r (m + 1) = ruL r m ++ [ruY r m] := by simp [ruL, List.range_succ]
theorem ruY_bd {r : Int → Int} (hr : IsB r) (i : Nat) : 0 ≤ ruY r i ∧ ruY r i ≤ 5 + 6 * i := by
  induction i with
  | zero => have := hr 0; simp only [ruY]; omega
  | succ i ih => have := hr (i + 1); simp only [ruY]; omega
/-- y behind m rows -/
def ruE (r : Int → Int) : Nat → Int
  | 0 => 0
  | m + 1 => ruY r m

def ruM (r : Int → Int) (m : Nat) : List Int := if m = 0 then [2] else ruL r m
def ruYe (r : Int → Int) (m : Nat) : Int := if m = 0 then 2 else ruE r m
theorem ruL_len (r : Int → Int) (m : Nat) : (ruL r m).length = m := by simp [ruL]
theorem ruYe_bd {r : Int → Int} (hr : IsB r) {m : Nat} (hm : m ≤ 12) : 0 ≤ ruYe r m ∧ ruYe r m ≤ 77 := by
  unfold ruYe
  split
  · omega
  · obtain ⟨j, rfl⟩ : ∃ j, m = j + 1 := ⟨m - 1, by omega⟩
    have := ruY_bd hr j
    simp only [ruE]; omega
theorem ruY_mono {r : Int → Int} (hr : IsB r) {i j : Nat} (h : i ≤ j) : ruY r i ≤ ruY r j := by
  induction j with
  | zero => have : i = 0 := by omega
            subst this; exact Int.le_refl _
  | succ j ih =>
    by_cases e : i = j + 1
    · subst e; exact Int.le_refl _
    · have := ih (by omega)
      have := hr ((j + 1 : Nat) : Int)
      simp only [ruY]
      simp only [Int.natCast_add, Int.natCast_one] at this
      omega
theorem ruM_bd {r : Int → Int} (hr : IsB r) {m : Nat} (y : Int) (h : y ∈ ruM r m) : 0 ≤ y ∧ y ≤ ruYe r m := by
  unfold ruM ruYe at *
  split at h
  · rename_i e; rw [if_pos e]; simp at h; omega
  · rename_i e
    rw [if_neg e]
    obtain ⟨i, hi, rfl⟩ := List.mem_map.1 h
    have hi := List.mem_range.1 hi
    obtain ⟨j, rfl⟩ : ∃ j, m = j + 1 := ⟨m - 1, by omega⟩
    exact ⟨(ruY_bd hr i).1, ruY_mono hr (by omega)⟩
theorem getD_lit {l : List Int} {i : Int} (h0 : 0 ≤ i) (hi : i < l.length) : (l.map (Value.int .i64)).getD i.toNat default = .int .i64 (lit l i) := by
  unfold lit
  simp only [List.getD_eq_getElem?_getD, List.getElem?_map]
  rw [List.getElem?_eq_getElem (by omega)]
  simp

/-- the pixels of an image whose full rows are L -/
def ruQ (W : Int) (L : List Int) : Int → Int := fun k => if k / W ∈ L then 1 else 0
def ruP (W : Int) (L : List Int) (t : Nat) (x : Int) : Int → Int := fun k => if k / W ∈ L.take t ∨ (L[t]? = some (k / W) ∧ k % W < x) then 1 else 0
theorem ruP_start {W : Int} (L : List Int) {k : Int} (h0 : 0 ≤ k) (hW : 0 < W) : ruP W L 0 0 k = 0 := by
  have := Int.emod_nonneg k (show W ≠ 0 by omega)
  unfold ruP; rw [if_neg]; simp; intro _; omega
theorem ruP_end (W : Int) (L : List Int) (k : Int) : ruP W L L.length 0 k = ruQ W L k := by
  unfold ruP ruQ; simp
theorem ruP_row {W : Int} {L : List Int} {t : Nat} (ht : t < L.length) {k : Int} (hW : 0 < W) : ruP W L t W k = ruP W L (t + 1) 0 k := by
  unfold ruP
  have h1 := Int.emod_lt_of_pos k hW
  have h2 := Int.emod_nonneg k (show W ≠ 0 by omega)
  rw [List.take_add_one]
  by_cases h : L[t]? = some (k / W)
  · rw [if_pos (.inr ⟨h, h1⟩), if_pos (.inl (by rw [h]; simp))]
  · have e1 : (k / W ∈ L.take t ∨ L[t]? = some (k / W) ∧ k % W < W) ↔ k / W ∈ L.take t := ⟨fun x => x.elim id fun y => absurd y.1 h, .inl⟩
    have e2 : (k / W ∈ L.take t ++ L[t]?.toList ∨ L[t + 1]? = some (k / W) ∧ k % W < 0) ↔ k / W ∈ L.take t := by
      constructor
      · rintro (x | x)
        · rcases List.mem_append.1 x with x | x
          · exact x
          · exfalso; apply h
            cases hh : L[t]? with
            | none => rw [hh] at x; simp at x
            | some v => rw [hh] at x; simp at x; rw [x]
        · omega
      · exact fun x => .inl (List.mem_append.2 (.inl x))
    simp only [e1, e2]
theorem ruP_set {W : Int} {L : List Int} {t : Nat} (ht : t < L.length) {x k : Int} (hx0 : 0 ≤ x) (hx : x < W) :
    upd (ruP W L t x) (lit L t * W + x) 1 k = ruP W L t (x + 1) k := by
  have hL : L[t]? = some (lit L t) := by unfold lit; simp [List.getElem?_eq_getElem ht]
  unfold upd
  by_cases e : k = lit L t * W + x
  · rw [if_pos e]
    unfold ruP
    rw [e, idx_div hx0 hx, idx_mod hx0 hx, if_pos (.inr ⟨hL, by omega⟩)]
  · rw [if_neg e]
    unfold ruP
    have hne : ¬ (lit L t = k / W ∧ k % W = x) := by
      rintro ⟨h1, h2⟩
      have := Int.emod_add_mul_ediv k W
      rw [h2, ← h1, Int.mul_comm] at this
      omega
    rw [hL]
    by_cases c1 : k / W ∈ L.take t
    · rw [if_pos (.inl c1), if_pos (.inl c1)]
    · by_cases c2 : some (lit L t) = some (k / W) ∧ k % W < x
      · rw [if_pos (.inr c2), if_pos (.inr ⟨c2.1, by omega⟩)]
      · rw [if_neg (fun h => h.elim c1 c2), if_neg]
        rintro (h | ⟨h1, h2⟩)
        · exact c1 h
        · have h1' : lit L t = k / W := by simpa using h1
          by_cases h3 : k % W = x
          · exact hne ⟨h1', h3⟩
          · exact c2 ⟨h1, by omega⟩

end Go.Proofs.YtdimlpcbbkokiaaGreat

/- Walk: CleanStraight. -/
namespace Go.Proofs.YtdimlpcbbkokiaaGreat
open Go.RowKit
set_option linter.unusedVariables false

/-! ### the best skew, in plain numbers -/
def absI (x : Int) : Int := if x < 0 then -x else x
def L7 : List Int := [0, 1, -1, 2, -2, 3, -3]
theorem fsL_spec (f : Int → Int) (l : List Int) : (∀ k ∈ l, f k ≤ (fsL f l).2) ∧ -1 ≤ (fsL f l).2 ∧
    ((fsL f l).2 = -1 ∨ ∃ pre post, l = pre ++ (fsL f l).1 :: post ∧ f (fsL f l).1 = (fsL f l).2 ∧ ∀ k ∈ pre, f k < (fsL f l).2) := by
  suffices H : ∀ r : List Int, (∀ k ∈ r.reverse, f k ≤ (fsL f r.reverse).2) ∧ -1 ≤ (fsL f r.reverse).2 ∧
      ((fsL f r.reverse).2 = -1 ∨ ∃ pre post, r.reverse = pre ++ (fsL f r.reverse).1 :: post ∧ f (fsL f r.reverse).1 = (fsL f r.reverse).2 ∧ ∀ k ∈ pre, f k < (fsL f r.reverse).2) by
    have := H l.reverse
    rwa [List.reverse_reverse] at this
  intro r
  induction r with
  | nil => simp [fsL]
  | cons x r ih =>
    rw [List.reverse_cons, fsL_snoc]
    generalize r.reverse = s at *
    obtain ⟨h1, h2, h3⟩ := ih
    generalize fsL f s = q at *
    unfold fsStep
    by_cases hx : q.2 < f x
    · rw [if_pos hx]
      refine ⟨fun k hk => ?_, by simp only; omega, .inr ⟨s, [], rfl, rfl, fun k hk => by have := h1 k hk; simp only; omega⟩⟩
      simp only
      rcases List.mem_append.1 hk with hk | hk
      · have := h1 k hk; omega
      · have : k = x := by simpa using hk
        subst this; exact Int.le_refl _
    · rw [if_neg hx]
      refine ⟨fun k hk => ?_, h2, ?_⟩
      · rcases List.mem_append.1 hk with hk | hk
        · exact h1 k hk
        · have : k = x := by simpa using hk
          subst this; omega
      · rcases h3 with h3 | ⟨pre, post, e, e2, e3⟩
        · exact .inl h3
        · exact .inr ⟨pre, post ++ [x], by rw [e]; simp, e2, e3⟩
theorem L7_order {pre post : List Int} {b k : Int} (h : L7 = pre ++ b :: post) (hk : k ∈ L7) (hp : k ∉ pre) : absI b < absI k ∨ absI b = absI k ∧ k ≤ b := by
  have hlen : pre.length + (post.length + 1) = 7 := by
    have := congrArg List.length h
    simpa [L7] using this.symm
  have hb : L7[pre.length]? = some b := by rw [h]; simp
  have hpre : pre = L7.take pre.length := by rw [h]; simp
  rw [hpre] at hp
  generalize pre.length = j at *
  have hj : j < 7 := by omega
  clear h hpre hlen
  unfold L7 at *
  match j, hj with
  | 0, _ | 1, _ | 2, _ | 3, _ | 4, _ | 5, _ | 6, _ => simp at hb hk hp; subst hb; unfold absI; rcases hk with rfl | rfl | rfl | rfl | rfl | rfl | rfl <;> simp_all
theorem best_ok {f : Int → Int} (h0 : -1 < f 0) (hf : ∀ k, -1 ≤ f k) : f (fsL f L7).1 = (fsL f L7).2 ∧ (fsL f L7).1 ∈ L7 ∧ -1 < (fsL f L7).2 ∧
    ∀ k ∈ L7, f k ≤ (fsL f L7).2 ∧ (f k = (fsL f L7).2 → absI (fsL f L7).1 < absI k ∨ absI (fsL f L7).1 = absI k ∧ k ≤ (fsL f L7).1) := by
  obtain ⟨h1, h2, h3⟩ := fsL_spec f L7
  have h4 : f 0 ≤ (fsL f L7).2 := h1 0 (by simp [L7])
  rcases h3 with h3 | ⟨pre, post, e, e2, e3⟩
  · omega
  · have hmem : ∀ b, L7 = pre ++ b :: post → b ∈ L7 := fun b h => by rw [h]; simp
    refine ⟨e2, hmem _ e, by omega, fun k hk => ⟨h1 k hk, fun he => L7_order e hk fun hp => ?_⟩⟩
    have := e3 k hp
    omega
theorem mem_L7 {k : Int} : k ∈ L7 ↔ -3 ≤ k ∧ k ≤ 3 := by
  unfold L7; simp; omega

theorem xor1_0 : bits .xor .u8 0 1 = 1 := by decide
theorem xor1_1 : bits .xor .u8 1 1 = 0 := by decide
def ArrU (w : World) (B : Nat) (A : Option Addr) (n : Nat) (q : Int → Int) : Prop := Arr w B A n fun j => .int .u16 (q j)
theorem ruQ_01 (W : Int) (L : List Int) (i : Int) : ruQ W L i = 0 ∨ ruQ W L i = 1 := by unfold ruQ; split <;> simp

theorem movE_mk {W H : Int} {n : Nat} {p : Int → Int} {k way : Int} (hc : chk W H n p = 0) (h1 : -3 ≤ k) (h2 : k ≤ 3) (h3 : 0 ≤ H + way * grt W k) (h4 : H + way * grt W k ≤ 640) : movE W H n p k way = 0 := by
  unfold movE
  rw [if_neg (by omega), if_neg (by omega), if_neg (by omega)]
theorem isB_01 {q : Int → Int} (h : ∀ i, q i = 0 ∨ q i = 1) : IsB q := fun i => by rcases h i with e | e <;> rw [e] <;> omega
theorem grt_0 (W : Int) : grt W 0 = 0 := by unfold grt; simp
theorem fsN_ok {W H : Int} {n : Nat} {p : Int → Int} {k : Int} : -1 < fsN W H n p k ↔ movE W H n p k (-1) = 0 := by
  unfold fsN
  by_cases h : movE W H n p k (-1) = 0
  · rw [if_pos h]
    have := fullP_bd W (W * (H - grt W k)).toNat (H - grt W k).toNat (movQ W H p k (-1))
    unfold fullS
    simp only [h, iff_true]; omega
  · rw [if_neg h]; simp [h]
structure CsR (w : World) (W H : Int) (N g B9 : Nat) (q : Int → Int) (wr : World) : Prop where
  bl : Below w.heap.size w wr
  k9 : Blk wr B9 24 #[.int .i64 W, .int .i64 H, .slice (some ⟨g, 0, none⟩) N N]
  kg : Blk wr g 5 (u8s N q)
  hq : ∀ i, q i = 0 ∨ q i = 1

end Go.Proofs.YtdimlpcbbkokiaaGreat

/- Plain laws: full rows counted by sums and by pixels; moved images of pixels. No program in sight. -/
namespace Go.Proofs.YtdimlpcbbkokiaaGreat
open Go.RowKit
set_option linter.unusedVariables false

/-- the row y of the pixels is full -/
def rowB (W : Nat) (p : Int → Int) (b : Int) : Bool := allN W fun x => decide (p (b + x) = 1)
theorem sumN_one {n : Nat} {f : Int → Int} (h : ∀ i : Int, 0 ≤ i → i < n → f i = 0 ∨ f i = 1) : sumN n f ≤ n ∧ 0 ≤ sumN n f ∧ (sumN n f = n ↔ allN n (fun i => decide (f i = 1)) = true) := by
  induction n with
  | zero => simp [sumN, allN]
  | succ n ih =>
    obtain ⟨a, b, c⟩ := ih (fun i h0 hi => h i h0 (by omega))
    have d := h n (by omega) (by omega)
    rw [sumN, allN, Bool.and_eq_true, ← c]
    simp only [decide_eq_true_eq]
    refine ⟨by omega, by omega, ?_⟩
    omega
/-- the row's pixels, before place m -/
theorem rowS_part {W y : Nat} {p : Int → Int} (hW : 0 < W) (m : Nat) : rowS W m p y = sumN (min (m - y * W) W) (fun x => p (y * W + x)) := by
  induction m with
  | zero => simp [rowS, sumN]
  | succ m ih =>
    have hs : rowS W (m + 1) p y = rowS W m p y + (if (m : Int) / W = y then p m else 0) := rfl
    rw [hs, ih]
    have hd : (m : Int) / (W : Int) = ((m / W : Nat) : Int) := (Int.natCast_ediv m W).symm
    rw [hd]
    by_cases h : m / W = y
    · have h1 : y * W ≤ m := by rw [← h]; exact Nat.div_mul_le_self m W
      have h2 : m < y * W + W := by
        have := Nat.lt_div_mul_add (a := m) hW
        rw [h] at this; omega
      rw [if_pos (by rw [h])]
      have e1 : min (m - y * W) W = m - y * W := by omega
      have e2 : min (m + 1 - y * W) W = (m - y * W) + 1 := by omega
      rw [e1, e2, sumN]
      congr 2
      omega
    · rw [if_neg (by omega)]
      have hh : m < y * W ∨ y * W + W ≤ m := by
        rcases Nat.lt_or_ge (m / W) y with h' | h'
        · left
          exact (Nat.div_lt_iff_lt_mul hW).1 h'
        · right
          have : y + 1 ≤ m / W := by omega
          have := (Nat.le_div_iff_mul_le hW).1 this
          rw [Nat.add_mul] at this; omega
      rcases hh with hh | hh
      · have e1 : min (m - y * W) W = 0 := by omega
        have e2 : min (m + 1 - y * W) W = 0 := by omega
        rw [e1, e2]; simp [sumN]
      · have e1 : min (m - y * W) W = W := by omega
        have e2 : min (m + 1 - y * W) W = W := by omega
        rw [e1, e2]; simp
theorem rowS_row {W H n y : Nat} {p : Int → Int} (hW : 0 < W) (hn : n = H * W) (hy : y < H) : rowS W n p y = sumN W (fun x => p (y * W + x)) := by
  rw [rowS_part hW]
  have : (y + 1) * W ≤ H * W := Nat.mul_le_mul_right _ hy
  rw [Nat.add_mul] at this
  have e : min (n - y * W) W = W := by omega
  rw [e]
theorem rowS_iff {W H : Int} {n y : Nat} {p : Int → Int} (hW : 0 < W) (hn : (n : Int) = W * H) (hB : IsB p) (hp : ∀ i : Int, 0 ≤ i → i < n → p i ≤ 1) (hy : (y : Int) < H) :
    rowS W n p y = W ↔ rowB W.toNat p (y * W) = true := by
  obtain ⟨Wn, rfl⟩ : ∃ Wn : Nat, W = Wn := ⟨W.toNat, by omega⟩
  obtain ⟨Hn, rfl⟩ : ∃ Hn : Nat, H = Hn := ⟨H.toNat, by omega⟩
  have hn' : n = Hn * Wn := by rw [Int.mul_comm, ← Int.natCast_mul] at hn; omega
  rw [rowS_row (by omega) hn' (by omega)]
  have := (sumN_one (n := Wn) (f := fun x => p (y * Wn + x)) (fun i h0 hi => by
    have hl : ((y + 1 : Nat) : Int) * Wn ≤ Hn * Wn := Int.mul_le_mul_of_nonneg_right (by omega) (by omega)
    have hm : ((y + 1 : Nat) : Int) * Wn = y * Wn + Wn := by rw [Int.natCast_add, Int.add_mul]; simp
    have hc : (n : Int) = Hn * Wn := by rw [hn']; simp
    have h9 : 0 ≤ (y : Int) * Wn := Int.mul_nonneg (by omega) (by omega)
    have h1 := hp (y * Wn + i) (by omega) (by omega)
    have h2 := hB (y * Wn + i)
    show p _ = 0 ∨ p _ = 1
    omega)).2.2
  exact this
/-- full rows, as the document counts them -/
def fullR (W : Int) (p : Int → Int) (m : Nat) : Int := if 0 < W then sumN m (fun y => if rowB W.toNat p (y * W) = true then 1 else 0) else 0
theorem fullR_eq {W H : Int} {n : Nat} {p : Int → Int} (h : chk W H n p = 0) (hB : IsB p) (m : Nat) (hm : m ≤ H.toNat) : fullR W p m = fullP W n p m := by
  obtain ⟨h1, h2, h3, h4, h5, h6⟩ := chk_ok h
  unfold fullR fullP
  by_cases hW : 0 < W
  · rw [if_pos hW, if_pos hW]
    refine sumN_congr fun i h0 hi => ?_
    obtain ⟨y, rfl⟩ : ∃ y : Nat, i = y := ⟨i.toNat, by omega⟩
    have := rowS_iff hW h5 hB h6 (show (y : Int) < H by omega)
    by_cases hr : rowS W n p y = W
    · rw [if_pos hr, if_pos (this.1 hr)]
    · rw [if_neg hr, if_neg (fun e => hr (this.2 e))]
  · rw [if_neg hW, if_neg hW]
theorem fullR_bd (W : Int) (p : Int → Int) (m : Nat) : 0 ≤ fullR W p m ∧ fullR W p m ≤ m := by
  have := sumN_bd (n := m) (f := fun y => if rowB W.toNat p (y * W) = true then 1 else 0) (m := 1) (fun i a b => by
    show 0 ≤ (if rowB W.toNat p (i * W) = true then (1 : Int) else 0) ∧ (if rowB W.toNat p (i * W) = true then (1 : Int) else 0) ≤ 1
    split <;> omega)
  unfold fullR
  split <;> omega

/-- ink of a valid image -/
def inkB (W H : Int) (p : Int → Int) (x y : Int) : Bool := decide (0 ≤ x) && (decide (x < W) && (decide (0 ≤ y) && (decide (y < H) && decide (p (y * W + x) = 1))))
theorem inkB_iff {W H : Int} {p : Int → Int} {x y : Int} : inkB W H p x y = true ↔ 0 ≤ x ∧ x < W ∧ 0 ≤ y ∧ y < H ∧ p (y * W + x) = 1 := by simp [inkB]
/-- the moved image as the document has it -/
def movR (W H : Int) (p : Int → Int) (k way : Int) : Int → Int := fun i => if inkB W H p (i % W) (i / W - way * dropI W k (i % W)) = true then 1 else 0
theorem movR_eq {W H h : Int} {n : Nat} {p : Int → Int} {k way : Int} (hc : chk W H n p = 0) (hB : IsB p) {i : Int} (h0 : 0 ≤ i) (hi : i < W * h) : movR W H p k way i = movQ W H p k way i := by
  obtain ⟨h1, h2, h3, h4, h5, h6⟩ := chk_ok hc
  have hW : 0 < W := by
    rcases Int.lt_or_le 0 W with h | h
    · exact h
    · obtain rfl : W = 0 := by omega
      simp at hi; omega
  have hx0 : 0 ≤ i % W := Int.emod_nonneg _ (by omega)
  have hx1 : i % W < W := Int.emod_lt_of_pos _ hW
  unfold movR movQ
  by_cases hy : 0 ≤ i / W - way * dropI W k (i % W) ∧ i / W - way * dropI W k (i % W) < H
  · rw [if_pos hy]
    obtain ⟨j1, j2, j3⟩ := idx_lt hx0 hx1 hy.1 hy.2
    rw [Int.mul_comm H W] at j2
    have hb := hB ((i / W - way * dropI W k (i % W)) * W + i % W)
    have hp := h6 _ j1 (by omega)
    by_cases e : p ((i / W - way * dropI W k (i % W)) * W + i % W) = 1
    · rw [if_pos (inkB_iff.2 ⟨hx0, hx1, hy.1, hy.2, e⟩), e]
    · rw [if_neg (fun h => e (inkB_iff.1 h).2.2.2.2)]; omega
  · rw [if_neg hy, if_neg (fun h => hy ⟨(inkB_iff.1 h).2.2.1, (inkB_iff.1 h).2.2.2.1⟩)]
end Go.Proofs.YtdimlpcbbkokiaaGreat

/- Walks: the reference's checks, New, Ink and Set. -/
namespace Go.Proofs.YtdimlpcbbkokiaaGreat
open Go.RowKit
set_option linter.unusedVariables false

def fitsB (W H : Int) : Bool := decide (0 ≤ W ∧ W ≤ 640 ∧ 0 ≤ H ∧ H ≤ 640)
theorem fitsB_iff {W H : Int} : fitsB W H = true ↔ 0 ≤ W ∧ W ≤ 640 ∧ 0 ≤ H ∧ H ≤ 640 := by simp [fitsB]
set_option maxHeartbeats 400000 in
theorem fits_any (W H : Int) (w : World) : Calls Tryz.prog 88 #[.int .i64 W, .int .i64 H] w fun e w' => e = .returned (.bool (fitsB W H)) ∧ w = w' := by
  by_cases h : 0 ≤ W ∧ W ≤ 640 ∧ 0 ≤ H ∧ H ≤ 640
  · rw [fitsB_iff.2 h]
    obtain ⟨h1, h2, h3, h4⟩ := h
    go_enter Tryz.func88, Tryz.ntmps88
    go_wp2
    go_ret
    exact ⟨rfl, rfl⟩
  · have h' : fitsB W H = false := Bool.eq_false_iff.2 fun e => h (fitsB_iff.1 e)
    rw [h']
    by_cases a : 0 ≤ W
    · by_cases b : W ≤ 640
      · by_cases c : 0 ≤ H
        · have d : ¬ H ≤ 640 := fun d => h ⟨a, b, c, d⟩
          clear h h'
          go_enter Tryz.func88, Tryz.ntmps88
          go_wp2
          go_ret
          exact ⟨rfl, rfl⟩
        · clear h h'
          go_enter Tryz.func88, Tryz.ntmps88
          go_wp2
          go_ret
          exact ⟨rfl, rfl⟩
      · clear h h'
        go_enter Tryz.func88, Tryz.ntmps88
        go_wp2
        go_ret
        exact ⟨rfl, rfl⟩
    · clear h h'
      go_enter Tryz.func88, Tryz.ntmps88
      go_wp2
      go_ret
      exact ⟨rfl, rfl⟩

theorem chk_nofit {W H : Int} {n : Nat} {p : Int → Int} (h : fitsB W H = false) : chk W H n p = 2 := by
  have : sidesB W H n = false := Bool.eq_false_iff.2 fun e => by
    obtain ⟨a, b, c, d, _⟩ := sidesB_iff.1 e
    rw [fitsB_iff.2 ⟨a, b, c, d⟩] at h; cases h
  unfold chk; rw [this]; rfl
theorem chk_size {W H : Int} {n : Nat} {p : Int → Int} (h : (n : Int) ≠ W * H) : chk W H n p = 2 := by
  have : sidesB W H n = false := Bool.eq_false_iff.2 fun e => h (sidesB_iff.1 e).2.2.2.2
  unfold chk; rw [this]; rfl
theorem sides_mk {W H : Int} {n : Nat} (h : fitsB W H = true) (hn : (n : Int) = W * H) : sidesB W H n = true := by
  obtain ⟨a, b, c, d⟩ := fitsB_iff.1 h; exact sidesB_iff.2 ⟨a, b, c, d, hn⟩
theorem chk_pix {W H : Int} {n : Nat} {p : Int → Int} (h : sidesB W H n = true) {i : Int} (h0 : 0 ≤ i) (hi : i < n) (hp : ¬ p i ≤ 1) : chk W H n p = 3 := by
  have : pixB n p = false := Bool.eq_false_iff.2 fun e => hp (by simpa using allN_iff.1 e i h0 hi)
  unfold chk; rw [h, this]; rfl

set_option maxHeartbeats 1000000 in
theorem rcheck_any (W H : Int) (A : Option Addr) (n c : Nat) (p : Int → Int) (w : World) (hA : ArrB w w.heap.size A n p) (hn : n ≤ maxLen) (hB : IsB p) :
    Calls Tryz.prog 50 #[.agg #[.int .i64 W, .int .i64 H, .slice A n c]] w fun e w' => e = .returned (.int .i64 (chk W H n p)) ∧ Below w.heap.size w w' := by
  unfold maxLen at hn
  have FT := Lib.hid (fits_any W H)
  have K0 := Blk.new w 24 #[.int .i64 W, .int .i64 H, .slice A n c]
  cases hf : fitsB W H
  · rw [chk_nofit hf]
    rw [hf] at FT
    clear hf
    go_enter Tryz.func50, Tryz.ntmps50
    go_wp2_with (go_at_call 88; refine (FT.out _).mono ?_; rintro e w' ⟨rfl, rfl⟩)
    go_ret
    exact ⟨rfl, by (repeat (first | exact Below.refl _ _ | assumption | refine Below.drew ?_ | refine below_drewN ?_ _ | refine Below.alloc ?_ (by first | omega | (simp; done) | (simp; omega)) _ | refine Below.setCell ?_ (by first | omega | (simp; done) | (simp; omega)) _ | refine below_setRow ?_ (by first | omega | (simp; done) | (simp; omega)) _ ))⟩
  · obtain ⟨h1, h2, h3, h4⟩ := fitsB_iff.1 hf
    obtain ⟨m1, m2⟩ := area_bd h1 h2 h3 h4
    rw [hf] at FT
    have m3 : IntKind.i64.wrap (W * H) = W * H := IntWalk.i64_in _ (by omega)
    by_cases hs : (n : Int) = W * H
    · have hS := Lib.hid (sides_mk hf hs)
      have hb : ((n : Int) != W * H) = false := by simp [hs]
      have HS := Lib.hid hs
      clear hf hs
      go_enter Tryz.func50, Tryz.ntmps50
      go_wp2_with (go_at_call 88; refine (FT.out _).mono ?_; rintro e w' ⟨rfl, rfl⟩)
      go_loop [3] (fun s => ∃ i : Int, 0 ≤ i ∧ i ≤ n ∧ s = .int .i64 i ∧ ∀ j : Int, 0 ≤ j → j < i → p j ≤ 1) (fun s => n - (intOf s).toNat)
      case atStart => exact ⟨0, by omega, by omega, rfl, fun j a b => by omega⟩
      case round =>
        obtain ⟨i, h0, hi, rfl, hall⟩ := hrel
        have HALL := Lib.hid hall; clear hall
        by_cases hlt : i < n
        · have hA' := hA.to (w' := w.alloc (.cells #[.int .i64 W, .int .i64 H, .slice A n c] 24)) (by (repeat (first | exact Below.refl _ _ | assumption | refine Below.drew ?_ | refine below_drewN ?_ _ | refine Below.alloc ?_ (by first | omega | (simp; done) | (simp; omega)) _ | refine Below.setCell ?_ (by first | omega | (simp; done) | (simp; omega)) _ | refine below_setRow ?_ (by first | omega | (simp; done) | (simp; omega)) _ )))
          obtain ⟨b, off, rfl, hbB, hcell⟩ := ArrB.at_ hA' h0 hlt
          obtain ⟨pb1, pb2⟩ := hB i
          by_cases e0 : p i = 0
          · have hb0 : (p i != 0) = false := by simp [e0]
            have E0 := Lib.hid e0; clear e0
            go_wp2
            go_round
            case rel => exact ⟨i + 1, by omega, by omega, by go_num, fun j a b => if e : j = i then by rw [e, E0.out]; omega else HALL.out j a (by omega)⟩
            case measure => simp [intOf]; omega
          · have hb0 : (p i != 0) = true := by simp [e0]
            by_cases e1 : p i = 1
            · have hb1 : (p i != 1) = false := by simp [e1]
              have E1 := Lib.hid e1; clear e1
              have E0 := Lib.hid e0; clear e0
              go_wp2
              go_round
              case rel => exact ⟨i + 1, by omega, by omega, by go_num, fun j a b => if e : j = i then by rw [e, E1.out]; omega else HALL.out j a (by omega)⟩
              case measure => simp [intOf]; omega
            · have hb1 : (p i != 1) = true := by simp [e1]
              have hr : Hid (chk W H n p = 3) := by show _ = _; exact chk_pix hS.out h0 hlt (by omega)
              have E1 := Lib.hid e1; clear e1
              have E0 := Lib.hid e0; clear e0
              go_wp2
              go_ret
              exact ⟨ret_int hr.out.symm, by (repeat (first | exact Below.refl _ _ | assumption | refine Below.drew ?_ | refine below_drewN ?_ _ | refine Below.alloc ?_ (by first | omega | (simp; done) | (simp; omega)) _ | refine Below.setCell ?_ (by first | omega | (simp; done) | (simp; omega)) _ | refine below_setRow ?_ (by first | omega | (simp; done) | (simp; omega)) _ ))⟩
        · have hr : Hid (chk W H n p = 0) := by
            show _ = _; unfold chk; rw [hS.out, show pixB n p = true from allN_iff.2 fun j a b => by simpa using HALL.out j a (by omega)]; rfl
          go_wp2
          go_ret
          exact ⟨ret_int hr.out.symm, by (repeat (first | exact Below.refl _ _ | assumption | refine Below.drew ?_ | refine below_drewN ?_ _ | refine Below.alloc ?_ (by first | omega | (simp; done) | (simp; omega)) _ | refine Below.setCell ?_ (by first | omega | (simp; done) | (simp; omega)) _ | refine below_setRow ?_ (by first | omega | (simp; done) | (simp; omega)) _ ))⟩
    · rw [chk_size hs]
      have hb : ((n : Int) != W * H) = true := by simp [hs]
      have HS := Lib.hid hs
      clear hf hs
      go_enter Tryz.func50, Tryz.ntmps50
      go_wp2_with (go_at_call 88; refine (FT.out _).mono ?_; rintro e w' ⟨rfl, rfl⟩)
      go_ret
      exact ⟨rfl, by (repeat (first | exact Below.refl _ _ | assumption | refine Below.drew ?_ | refine below_drewN ?_ _ | refine Below.alloc ?_ (by first | omega | (simp; done) | (simp; omega)) _ | refine Below.setCell ?_ (by first | omega | (simp; done) | (simp; omega)) _ | refine below_setRow ?_ (by first | omega | (simp; done) | (simp; omega)) _ ))⟩

set_option maxHeartbeats 400000 in
theorem rnew_any (W H : Int) (N : Nat) (w : World) (h1 : 0 ≤ W) (h2 : W ≤ 640) (h3 : 0 ≤ H) (h4 : H ≤ 640) (hN : (N : Int) = W * H) :
    Calls Tryz.prog 24 #[.int .i64 W, .int .i64 H] w (New w fun v w' => OutN w w' W H N (fun _ => 0) v) := by
  obtain ⟨m1, m2⟩ := area_bd h1 h2 h3 h4
  have hmk := makeB (W * H) m1 (by omega)
  have e : (W * H).toNat = N := by omega
  rw [e] at hmk
  have HN := Lib.hid hN
  clear hN e
  go_enter Tryz.func24, Tryz.ntmps24
  go_wp2
  refine bodyPost_ret (v := .agg #[.int .i64 W, .int .i64 H, .slice (some ⟨w.heap.size + 1, 0, none⟩) N N]) (by simp [results, Tryz.results24, go_sem]) rfl ?_
  exact ⟨_, rfl, OutN.mk (by omega) (Blk.new' (by simp) _ _), by (repeat (first | exact Below.refl _ _ | assumption | refine Below.drew ?_ | refine below_drewN ?_ _ | refine Below.alloc ?_ (by first | omega | (simp; done) | (simp; omega)) _ | refine Below.setCell ?_ (by first | omega | (simp; done) | (simp; omega)) _ | refine below_setRow ?_ (by first | omega | (simp; done) | (simp; omega)) _ ))⟩

set_option maxHeartbeats 1000000 in
theorem rink_any (W H : Int) (A : Option Addr) (n c : Nat) (p : Int → Int) (x y : Int) (w : World) (hA : ArrB w w.heap.size A n p) (hW : W ≤ 640) (hH : H ≤ 640) (hn : (n : Int) = W * H) :
    Calls Tryz.prog 83 #[.agg #[.int .i64 W, .int .i64 H, .slice A n c], .int .i64 x, .int .i64 y] w fun e w' => e = .returned (.bool (inkB W H p x y)) ∧ Below w.heap.size w w' := by
  by_cases a : 0 ≤ x
  · by_cases b : x < W
    · by_cases c' : 0 ≤ y
      · by_cases d : y < H
        · obtain ⟨i1, i2, i3⟩ := idx_lt a b c' d
          rw [Int.mul_comm H W] at i2
          have i4 : y * W + x < n := by omega
          have j6 := (area_bd (by omega : 0 ≤ W) hW (by omega : 0 ≤ H) hH).2
          have v1 : IntKind.i64.wrap (y * W) = y * W := IntWalk.i64_in _ (by omega)
          have v2 : IntKind.i64.wrap (y * W + x) = y * W + x := IntWalk.i64_in _ (by omega)
          obtain ⟨b', off, rfl, hbB, hcell⟩ := ArrB.at_ (hA.to (w' := w.alloc (.cells #[.int .i64 W, .int .i64 H, .slice A n c] 24)) (by (repeat (first | exact Below.refl _ _ | assumption | refine Below.drew ?_ | refine below_drewN ?_ _ | refine Below.alloc ?_ (by first | omega | (simp; done) | (simp; omega)) _ | refine Below.setCell ?_ (by first | omega | (simp; done) | (simp; omega)) _ | refine below_setRow ?_ (by first | omega | (simp; done) | (simp; omega)) _ )))) i1 i4
          by_cases e : p (y * W + x) = 1
          · have hr : inkB W H p x y = true := inkB_iff.2 ⟨a, b, c', d, e⟩
            rw [hr]
            have hb : (p (y * W + x) == 1) = true := by simp [e]
            have E := Lib.hid e; clear e hr
            go_enter Tryz.func83, Tryz.ntmps83
            go_wp2
            go_ret
            exact ⟨rfl, by (repeat (first | exact Below.refl _ _ | assumption | refine Below.drew ?_ | refine below_drewN ?_ _ | refine Below.alloc ?_ (by first | omega | (simp; done) | (simp; omega)) _ | refine Below.setCell ?_ (by first | omega | (simp; done) | (simp; omega)) _ | refine below_setRow ?_ (by first | omega | (simp; done) | (simp; omega)) _ ))⟩
          · have hr : inkB W H p x y = false := Bool.eq_false_iff.2 fun h => e (inkB_iff.1 h).2.2.2.2
            rw [hr]
            have hb : (p (y * W + x) == 1) = false := by simp [e]
            have E := Lib.hid e; clear e hr
            go_enter Tryz.func83, Tryz.ntmps83
            go_wp2
            go_ret
            exact ⟨rfl, by (repeat (first | exact Below.refl _ _ | assumption | refine Below.drew ?_ | refine below_drewN ?_ _ | refine Below.alloc ?_ (by first | omega | (simp; done) | (simp; omega)) _ | refine Below.setCell ?_ (by first | omega | (simp; done) | (simp; omega)) _ | refine below_setRow ?_ (by first | omega | (simp; done) | (simp; omega)) _ ))⟩
        · have hr : inkB W H p x y = false := Bool.eq_false_iff.2 fun e => d (inkB_iff.1 e).2.2.2.1
          rw [hr]
          go_enter Tryz.func83, Tryz.ntmps83
          go_wp2
          go_ret
          exact ⟨rfl, by (repeat (first | exact Below.refl _ _ | assumption | refine Below.drew ?_ | refine below_drewN ?_ _ | refine Below.alloc ?_ (by first | omega | (simp; done) | (simp; omega)) _ | refine Below.setCell ?_ (by first | omega | (simp; done) | (simp; omega)) _ | refine below_setRow ?_ (by first | omega | (simp; done) | (simp; omega)) _ ))⟩
      · have hr : inkB W H p x y = false := Bool.eq_false_iff.2 fun e => c' (inkB_iff.1 e).2.2.1
        rw [hr]
        go_enter Tryz.func83, Tryz.ntmps83
        go_wp2
        go_ret
        exact ⟨rfl, by (repeat (first | exact Below.refl _ _ | assumption | refine Below.drew ?_ | refine below_drewN ?_ _ | refine Below.alloc ?_ (by first | omega | (simp; done) | (simp; omega)) _ | refine Below.setCell ?_ (by first | omega | (simp; done) | (simp; omega)) _ | refine below_setRow ?_ (by first | omega | (simp; done) | (simp; omega)) _ ))⟩
    · have hr : inkB W H p x y = false := Bool.eq_false_iff.2 fun e => b (inkB_iff.1 e).2.1
      rw [hr]
      go_enter Tryz.func83, Tryz.ntmps83
      go_wp2
      go_ret
      exact ⟨rfl, by (repeat (first | exact Below.refl _ _ | assumption | refine Below.drew ?_ | refine below_drewN ?_ _ | refine Below.alloc ?_ (by first | omega | (simp; done) | (simp; omega)) _ | refine Below.setCell ?_ (by first | omega | (simp; done) | (simp; omega)) _ | refine below_setRow ?_ (by first | omega | (simp; done) | (simp; omega)) _ ))⟩
  · have hr : inkB W H p x y = false := Bool.eq_false_iff.2 fun e => a (inkB_iff.1 e).1
    rw [hr]
    go_enter Tryz.func83, Tryz.ntmps83
    go_wp2
    go_ret
    exact ⟨rfl, by (repeat (first | exact Below.refl _ _ | assumption | refine Below.drew ?_ | refine below_drewN ?_ _ | refine Below.alloc ?_ (by first | omega | (simp; done) | (simp; omega)) _ | refine Below.setCell ?_ (by first | omega | (simp; done) | (simp; omega)) _ | refine below_setRow ?_ (by first | omega | (simp; done) | (simp; omega)) _ ))⟩

set_option maxHeartbeats 400000 in
theorem rset_any (W H : Int) (g n c t : Nat) (q : Int → Int) (x y : Int) (w : World) (hA : Blk w g t (u8s n q)) (h1 : 0 ≤ x) (h2 : x < W) (h3 : 0 ≤ y) (h4 : y < H) (hW : W ≤ 640) (hH : H ≤ 640) (hn : (n : Int) = W * H) :
    Calls Tryz.prog 27 #[.agg #[.int .i64 W, .int .i64 H, .slice (some ⟨g, 0, none⟩) n c], .int .i64 x, .int .i64 y] w fun e w' => e = .returned (.tuple #[]) ∧ Blk w' g t (u8s n (upd q (y * W + x) 1)) ∧ w.grownBy w' (some g) := by
  obtain ⟨i1, i2, i3⟩ := idx_lt h1 h2 h3 h4
  rw [Int.mul_comm H W] at i2
  have i4 : y * W + x < n := by omega
  have j6 := (area_bd (by omega : 0 ≤ W) hW (by omega : 0 ≤ H) hH).2
  have v1 : IntKind.i64.wrap (y * W) = y * W := IntWalk.i64_in _ (by omega)
  have v2 : IntKind.i64.wrap (y * W + x) = y * W + x := IntWalk.i64_in _ (by omega)
  have hr := (hA.alloc (.cells #[.int .i64 W, .int .i64 H, .slice (some ⟨g, 0, none⟩) n c] 24)).u8at i1 i4
  have hf := (hA.alloc (.cells #[.int .i64 W, .int .i64 H, .slice (some ⟨g, 0, none⟩) n c] 24)).frozen (y * W + x).toNat
  have US := Lib.hid ((hA.u8set _ i1 1).alloc (.cells #[.int .i64 W, .int .i64 H, .slice (some ⟨g, 0, none⟩) n c] 24))
  have gl := hA.lt
  go_enter Tryz.func27, Tryz.ntmps27
  go_wp2
  go_end0
  refine ⟨rfl, US.out, rfl, rfl, rfl, by simp, fun k hk hne => ?_⟩
  rw [Below.heap_alloc _ _ k (by simpa using hk), heap_setCell_other _ _ _ _ (by intro e; exact hne (by rw [e]))]
end Go.Proofs.YtdimlpcbbkokiaaGreat

/- Plain lemmas on memory: a list of blocks and of arrays that is kept as one fact. No program in sight. -/
namespace Go.Proofs.YtdimlpcbbkokiaaGreat
open Go.RowKit
set_option linter.unusedVariables false

/-- these blocks are known whole, and these slices of bytes read ar these functions -/
def Kp (w : World) (bs : List (Nat × TypeId × Array Value)) (ar : List (Option Addr × Nat × (Int → Int))) : Prop :=
  (∀ b ∈ bs, Blk w b.1 b.2.1 b.2.2) ∧ ∀ a ∈ ar, ArrB w w.heap.size a.1 a.2.1 a.2.2
section
variable {w w' : World} {bs : List (Nat × TypeId × Array Value)} {ar : List (Option Addr × Nat × (Int → Int))}
theorem Kp.nil (w : World) : Kp w [] [] := ⟨fun _ h => by simp at h, fun _ h => by simp at h⟩
theorem Kp.below (h : Kp w bs ar) (hb : Below w.heap.size w w') : Kp w' bs ar :=
  ⟨fun b hm => (h.1 b hm).below' hb, fun a hm => (h.2 a hm).to hb⟩
theorem Kp.alloc (h : Kp w bs ar) (o : Obj) : Kp (w.alloc o) bs ar := h.below ((Below.refl _ _).alloc (Nat.le_refl _) _)
theorem Kp.drew (h : Kp w bs ar) : Kp w.drew bs ar := h
theorem Kp.addB (h : Kp w bs ar) {g : Nat} {t : TypeId} {cs : Array Value} (hk : Blk w g t cs) : Kp w ((g, t, cs) :: bs) ar :=
  ⟨fun b hm => by rcases List.mem_cons.1 hm with rfl | hm <;> first | exact hk | exact h.1 b hm, h.2⟩
theorem Kp.addA (h : Kp w bs ar) {A : Option Addr} {n : Nat} {q : Int → Int} (hk : ArrB w w.heap.size A n q) : Kp w bs ((A, n, q) :: ar) :=
  ⟨h.1, fun b hm => by rcases List.mem_cons.1 hm with rfl | hm <;> first | exact hk | exact h.2 b hm⟩
/-- one more block, just made -/
theorem Kp.new (h : Kp w bs ar) (t : TypeId) (cs : Array Value) : Kp (w.alloc (.cells cs t)) ((w.heap.size, t, cs) :: bs) ar := (h.alloc _).addB (Blk.new _ _ _)
theorem Kp.b (h : Kp w bs ar) (i : Nat) {g : Nat} {t : TypeId} {cs : Array Value} (hi : bs[i]? = some (g, t, cs)) : Blk w g t cs := h.1 _ (List.mem_of_getElem? hi)
theorem Kp.a (h : Kp w bs ar) (i : Nat) {A : Option Addr} {n : Nat} {q : Int → Int} (hi : ar[i]? = some (A, n, q)) : ArrB w w.heap.size A n q := h.2 _ (List.mem_of_getElem? hi)
end
/-! ### a box of three cells that is filled -/
def fill3 (w : World) (g : Nat) (a b c : Value) : World := ((w.setCell ⟨g, 0, none⟩ a).setCell ⟨g, 1, none⟩ b).setCell ⟨g, 2, none⟩ c
section
variable {w w' : World} {g : Nat} {t : TypeId} {a b c x y z : Value}
theorem Blk.fill3 (h : Blk w g t #[x, y, z]) : Blk (((w.setCell ⟨g, 0, none⟩ a).setCell ⟨g, 1, none⟩ b).setCell ⟨g, 2, none⟩ c) g t #[a, b, c] := ((h.set_ 0 a).set_ 1 b).set_ 2 c
theorem Blk.far3 {k : Nat} {cs : Array Value} (h : Blk w k t cs) (hk : k ≠ g) : Blk (((w.setCell ⟨g, 0, none⟩ a).setCell ⟨g, 1, none⟩ b).setCell ⟨g, 2, none⟩ c) k t cs := ((h.far hk _).far hk _).far hk _
theorem ArrB.far1 {B n : Nat} {A : Option Addr} {q : Int → Int} (h : ArrB w B A n q) {p : Addr} (hp : ∀ a, A = some a → a.block ≠ p.block) (u : Value) : ArrB (w.setCell p u) B A n q := fun hn => by
  obtain ⟨b, off, e, hb, hc⟩ := h hn
  exact ⟨b, off, e, hb, fun i h0 hi => (World.cell?_of_block (heap_setCell_other w p b u (hp _ e))).trans (hc i h0 hi)⟩
theorem ArrB.far3 {B n : Nat} {A : Option Addr} {q : Int → Int} (h : ArrB w B A n q) (hg : ∀ a, A = some a → a.block ≠ g) : ArrB (((w.setCell ⟨g, 0, none⟩ a).setCell ⟨g, 1, none⟩ b).setCell ⟨g, 2, none⟩ c) B A n q := ((h.far1 (p := ⟨g, 0, none⟩) hg a).far1 (p := ⟨g, 1, none⟩) hg b).far1 (p := ⟨g, 2, none⟩) hg c
theorem fill3_size : (((w.setCell ⟨g, 0, none⟩ a).setCell ⟨g, 1, none⟩ b).setCell ⟨g, 2, none⟩ c).heap.size = w.heap.size := by simp
theorem below_fill3 {B : Nat} {v : World} (h : Below B v w) (hg : B ≤ g) : Below B v (((w.setCell ⟨g, 0, none⟩ a).setCell ⟨g, 1, none⟩ b).setCell ⟨g, 2, none⟩ c) := ((h.setCell hg _).setCell hg _).setCell hg _
end
/-! ### chains: facts carried from world to world by the shape of the world -/
theorem bcell {W W1 : World} (hb : Below W.heap.size W W1) : (∀ b o, b < W.heap.size → W1.cell? ⟨b, o, none⟩ = W.cell? ⟨b, o, none⟩) ∧ (∀ b o, b < W.heap.size → W1.frozen? ⟨b, o, none⟩ = W.frozen? ⟨b, o, none⟩) :=
  ⟨fun b o h => hb.cell (p := ⟨b, o, none⟩) h, fun b o h => hb.frozen (p := ⟨b, o, none⟩) h⟩
theorem ArrB.alloc1 {w : World} {n : Nat} {A : Option Addr} {q : Int → Int} (h : ArrB w w.heap.size A n q) (o : Obj) : ArrB (w.alloc o) (w.alloc o).heap.size A n q := h.to ((Below.refl _ _).alloc (Nat.le_refl _) _)
theorem ArrB.drew1 {w : World} {n : Nat} {A : Option Addr} {q : Int → Int} (h : ArrB w w.heap.size A n q) : ArrB w.drew w.drew.heap.size A n q := h
theorem ArrB.fill1 {w : World} {g n : Nat} {A : Option Addr} {q : Int → Int} {a b c : Value} (h : ArrB w w.heap.size A n q) (hg : ∀ x, A = some x → x.block ≠ g) : ArrB (((w.setCell ⟨g, 0, none⟩ a).setCell ⟨g, 1, none⟩ b).setCell ⟨g, 2, none⟩ c) (((w.setCell ⟨g, 0, none⟩ a).setCell ⟨g, 1, none⟩ b).setCell ⟨g, 2, none⟩ c).heap.size A n q := by
  rw [fill3_size]; exact h.far3 hg
/-! the same with their side conditions first, for the chains -/
section
variable {w w' v : World} {n g B : Nat} {A : Option Addr} {q : Int → Int} {t : TypeId} {cs : Array Value} {a b c : Value}
theorem ArrB.to' (hb : Below w.heap.size w w') (h : ArrB w w.heap.size A n q) : ArrB w' w'.heap.size A n q := h.to hb
theorem ArrB.fill1' (hg : ∀ x, A = some x → x.block ≠ g) (h : ArrB w w.heap.size A n q) : ArrB (((w.setCell ⟨g, 0, none⟩ a).setCell ⟨g, 1, none⟩ b).setCell ⟨g, 2, none⟩ c) (((w.setCell ⟨g, 0, none⟩ a).setCell ⟨g, 1, none⟩ b).setCell ⟨g, 2, none⟩ c).heap.size A n q := h.fill1 hg
theorem ArrB.fillN (h0 : ArrB v v.heap.size A n q) (hv : v.heap.size ≤ g) (h : ArrB w w.heap.size A n q) : ArrB (((w.setCell ⟨g, 0, none⟩ a).setCell ⟨g, 1, none⟩ b).setCell ⟨g, 2, none⟩ c) (((w.setCell ⟨g, 0, none⟩ a).setCell ⟨g, 1, none⟩ b).setCell ⟨g, 2, none⟩ c).heap.size A n q := fun hn => by
  obtain ⟨k, off, rfl, hk, _⟩ := h0 hn
  exact (h.fill1 (fun x e => by cases e; show k ≠ g; omega)) hn
theorem ArrB.fillL {m : Nat} (hge : ∀ x, A = some x → m ≤ x.block) (hm : g < m) (h : ArrB w w.heap.size A n q) : ArrB (((w.setCell ⟨g, 0, none⟩ a).setCell ⟨g, 1, none⟩ b).setCell ⟨g, 2, none⟩ c) (((w.setCell ⟨g, 0, none⟩ a).setCell ⟨g, 1, none⟩ b).setCell ⟨g, 2, none⟩ c).heap.size A n q :=
  h.fill1 fun x e => by have := hge x e; omega
theorem Blk.far3' {k : Nat} (hk : k ≠ g) (h : Blk w k t cs) : Blk (((w.setCell ⟨g, 0, none⟩ a).setCell ⟨g, 1, none⟩ b).setCell ⟨g, 2, none⟩ c) k t cs := h.far3 hk
theorem Blk.below2 (hb : Below w.heap.size w w') (h : Blk w g t cs) : Blk w' g t cs := h.below' hb
theorem below_alloc' {o : Obj} (hB : B ≤ w.heap.size) (h : Below B v w) : Below B v (w.alloc o) := h.alloc hB o
theorem below_fill3' (hg : B ≤ g) (h : Below B v w) : Below B v (((w.setCell ⟨g, 0, none⟩ a).setCell ⟨g, 1, none⟩ b).setCell ⟨g, 2, none⟩ c) := below_fill3 h hg
theorem below_setCell' {p : Addr} {u : Value} (hg : B ≤ p.block) (h : Below B v w) : Below B v (w.setCell p u) := h.setCell hg u
theorem below_call' (hc : Below w.heap.size w w') (hB : B ≤ w.heap.size) (h : Below B v w) : Below B v w' := below_call h hB hc
end
theorem ArrI.fn {w : World} {B n : Nat} {A : Option Addr} {q : Int → Int} (h : ArrI w B A n q) (hn : 0 < n) : ∃ b off, A = some ⟨b, off, none⟩ ∧ b < B ∧ ∀ i : Int, 0 ≤ i → i < n → w.cell? ⟨b, off + i.toNat, none⟩ = some (.int .i64 (q i)) := h hn
theorem ArrB.fn {w : World} {B n : Nat} {A : Option Addr} {q : Int → Int} (h : ArrB w B A n q) (hn : 0 < n) : ∃ b off, A = some ⟨b, off, none⟩ ∧ b < B ∧ ∀ i : Int, 0 ≤ i → i < n → w.cell? ⟨b, off + i.toNat, none⟩ = some (.int .u8 (q i)) := h hn
theorem new_size_lt (w : World) (o : Obj) : w.heap.size < (w.alloc o).heap.size := by simp
end Go.Proofs.YtdimlpcbbkokiaaGreat

/- Walks: images made of bits; lists of numbers compared. -/
namespace Go.Proofs.YtdimlpcbbkokiaaGreat
open Go.RowKit
set_option linter.unusedVariables false

theorem and_one_u8 (E : Int) (h0 : 0 ≤ E) (h1 : E ≤ 255) : bits BinOp.and IntKind.u8 E 1 = E % 2 := by
  have h : ∀ k : Fin 256, bits BinOp.and IntKind.u8 (k.val : Int) 1 = (k.val : Int) % 2 := by decide +kernel
  have := h ⟨E.toNat, by omega⟩
  simpa [Int.toNat_of_nonneg h0] using this
/-- the bit i of a list of bytes; 0 behind its end -/
def bitV (r : Int → Int) (i : Int) : Int := r (i / 8) / 2 ^ (i % 8).toNat % 2
def bitQ (n : Nat) (r : Int → Int) : Int → Int := fun i => if i / 8 < n then bitV r i else 0
def bitP (n : Nat) (r : Int → Int) (k : Nat) : Int → Int := fun i => if i < k then bitQ n r i else 0
theorem bitV_01 (r : Int → Int) (i : Int) : 0 ≤ bitV r i ∧ bitV r i ≤ 1 := by unfold bitV; omega
theorem bitQ_01 (n : Nat) (r : Int → Int) (i : Int) : 0 ≤ bitQ n r i ∧ bitQ n r i ≤ 1 := by
  unfold bitQ; split
  · exact bitV_01 r i
  · omega
theorem bitP_yes {n : Nat} {r : Int → Int} {k : Nat} (h : (k : Int) / 8 < n) (i : Int) : upd (bitP n r k) k (bitV r k) i = bitP n r (k + 1) i := by
  unfold upd bitP
  by_cases e : i = k
  · subst e; rw [if_pos rfl, if_pos (by omega)]; unfold bitQ; rw [if_pos h]
  · rw [if_neg e]
    by_cases h2 : i < k
    · rw [if_pos h2, if_pos (by omega)]
    · rw [if_neg h2, if_neg (by omega)]
theorem bitP_no {n : Nat} {r : Int → Int} {k : Nat} (h : ¬ (k : Int) / 8 < n) (i : Int) : bitP n r k i = bitP n r (k + 1) i := by
  unfold bitP
  by_cases e : i = k
  · subst e; rw [if_neg (by omega), if_pos (by omega)]; unfold bitQ; rw [if_neg h]
  · by_cases h2 : i < k
    · rw [if_pos h2, if_pos (by omega)]
    · rw [if_neg h2, if_neg (by omega)]
theorem bitP_end {n : Nat} {r : Int → Int} {k : Nat} {i : Int} (h : i < k) : bitP n r k i = bitQ n r i := by unfold bitP; rw [if_pos h]

def sameI (n m : Nat) (p q : Int → Int) : Bool := decide (n = m) && allN n fun i => decide (p i = q i)
theorem sameI_iff {n m : Nat} {p q : Int → Int} : sameI n m p q = true ↔ n = m ∧ ∀ i : Int, 0 ≤ i → i < n → p i = q i := by
  simp [sameI, allN_iff]
set_option maxHeartbeats 1000000 in
theorem equalI_any (A B : Option Addr) (n m c d : Nat) (p q : Int → Int) (w : World) (hA : ArrI w w.heap.size A n p) (hB : ArrI w w.heap.size B m q) (hn : n ≤ maxLen) (hm : m ≤ maxLen) :
    Calls Tryz.prog 49 #[.slice A n c, .slice B m d] w fun e w' => e = .returned (.bool (sameI n m p q)) ∧ ∃ k, w' = w.drewN k := by
  unfold maxLen at hn hm
  by_cases hnm : n = m
  · subst hnm
    have HD : Hid (sameI n n p q = allN n fun i => decide (p i = q i)) := by show _ = _; simp [sameI]
    go_enter Tryz.func49, Tryz.ntmps49
    go_wp2_with fail
    go_loopw [13] (fun s wr => ∃ i : Nat, i ≤ n ∧ s = .int .i64 i ∧ (∃ k, wr = w.drewN k) ∧ ∀ j : Int, 0 ≤ j → j < i → p j = q j) (fun s _ => n - (intOf s).toNat)
    case atStart => exact ⟨0, by omega, rfl, ⟨0, rfl⟩, fun j a b => by omega⟩
    case round =>
      obtain ⟨i, hi, rfl, ⟨k, rfl⟩, hall⟩ := hrel
      have HALL := Lib.hid hall; clear hall
      by_cases hlt : i < n
      · have hi0 : (0 : Int) ≤ (i : Int) := by omega
        have hin : (i : Int) < (n : Int) := by omega
        obtain ⟨ba, oa, rfl, hba, hca⟩ := ArrI.at_ hA hi0 hin
        obtain ⟨bb, ob, rfl, hbb, hcb⟩ := ArrI.at_ hB hi0 hin
        rw [Int.toNat_natCast] at hca hcb
        by_cases e : p i = q i
        · have hb : (p i != q i) = false := by simp [e]
          have E := Lib.hid e; clear e
          go_wp2_with fail
          go_quiet (fail)
          go_wp2
          go_roundw
          case rel => exact ⟨i + 1, by omega, by go_num, ⟨_, rfl⟩, fun j a b => if e : j = i then by rw [e, E.out] else HALL.out j a (by omega)⟩
          case measure => simp [intOf]; omega
        · have hb : (p i != q i) = true := by simp [e]
          have hr : Hid (sameI n n p q = false) := by
            show _ = _
            exact Bool.eq_false_iff.2 fun h => e ((sameI_iff.1 h).2 i hi0 hin)
          have E := Lib.hid e; clear e
          go_wp2_with fail
          go_quiet (fail)
          go_wp2
          go_ret
          exact ⟨ret_bool hr.out.symm, _, World.drewN_drewN _ _ _⟩
      · obtain rfl : i = n := by omega
        have hr : Hid (sameI i i p q = true) := by show _ = _; exact sameI_iff.2 ⟨rfl, HALL.out⟩
        go_wp2
        go_ret
        exact ⟨ret_bool hr.out.symm, _, rfl⟩
  · have hr : Hid (sameI n m p q = false) := by show _ = _; simp [sameI, hnm]
    have hb : ((n : Int) != (m : Int)) = true := by simp; omega
    have HN := Lib.hid hnm; clear hnm
    go_enter Tryz.func49, Tryz.ntmps49
    go_wp2
    go_ret
    exact ⟨ret_bool hr.out.symm, 0, rfl⟩
end Go.Proofs.YtdimlpcbbkokiaaGreat

/- Walks of package stave and of its reference: paths and their costs. -/
namespace Go.Proofs.YtdimlpcbbkokiaaGreat
open Go.RowKit
set_option linter.unusedVariables false

/-- a place of a path is right -/
def stepB (H : Int) (q : Int → Int) (x : Int) : Bool := decide (0 ≤ q x) && (decide (q x < H) && (decide (x ≤ 0) || (decide (q (x - 1) - 1 ≤ q x) && decide (q x ≤ q (x - 1) + 1))))
theorem stepB_iff {H : Int} {q : Int → Int} {x : Int} : stepB H q x = true ↔ 0 ≤ q x ∧ q x < H ∧ (x ≤ 0 ∨ (q (x - 1) - 1 ≤ q x ∧ q x ≤ q (x - 1) + 1)) := by simp [stepB]
def isPathB (W H : Int) (m : Nat) (q : Int → Int) : Bool := decide (1 ≤ W ∧ 1 ≤ H ∧ (m : Int) = W) && allN m (stepB H q)
theorem isPathB_iff {W H : Int} {m : Nat} {q : Int → Int} : isPathB W H m q = true ↔ (1 ≤ W ∧ 1 ≤ H ∧ (m : Int) = W) ∧ ∀ i : Int, 0 ≤ i → i < m → stepB H q i = true := by
  unfold isPathB; rw [Bool.and_eq_true, allN_iff, decide_eq_true_iff]
/-- the cost of a pixel -/
def cst (p : Int → Int) (W : Int) : Int → Int → Int := fun x y => if p (y * W + x) = 1 then 0 else 2
theorem cst_bd (p : Int → Int) (W : Int) (x y : Int) : 0 ≤ cst p W x y ∧ cst p W x y ≤ 2 := by unfold cst; split <;> omega
theorem costP_bd {c : Int → Int → Int} (hc : ∀ x y, 0 ≤ c x y ∧ c x y ≤ 2) (l : Int → Int) (x : Nat) : 0 ≤ costP c l x ∧ costP c l x ≤ 3 * x := by
  induction x with
  | zero => simp [costP]
  | succ x ih => rw [costP]; have := hc x (l x); split <;> omega

set_option maxHeartbeats 1000000 in
theorem isPath_any (W H : Int) (A P : Option Addr) (n c m d : Nat) (q : Int → Int) (w : World) (hW : W ≤ 640) (hH : H ≤ 640) (hP : ArrI w w.heap.size P m q) (hm : m ≤ maxLen) :
    Calls Tryz.prog 86 #[.agg #[.int .i64 W, .int .i64 H, .slice A n c], .slice P m d] w fun e w' => e = .returned (.bool (isPathB W H m q)) ∧ Below w.heap.size w w' := by
  unfold maxLen at hm
  by_cases h1 : W < 1
  · have hr : isPathB W H m q = false := Bool.eq_false_iff.2 fun h => by have := (isPathB_iff.1 h).1; omega
    rw [hr]
    go_enter Tryz.func86, Tryz.ntmps86
    go_wp2
    go_ret
    exact ⟨rfl, by (repeat (first | exact Below.refl _ _ | assumption | refine Below.drew ?_ | refine below_drewN ?_ _ | refine Below.alloc ?_ (by first | omega | (simp; done) | (simp; omega)) _ | refine Below.setCell ?_ (by first | omega | (simp; done) | (simp; omega)) _ | refine below_setRow ?_ (by first | omega | (simp; done) | (simp; omega)) _ ))⟩
  by_cases h2 : H < 1
  · have hr : isPathB W H m q = false := Bool.eq_false_iff.2 fun h => by have := (isPathB_iff.1 h).1; omega
    rw [hr]
    go_enter Tryz.func86, Tryz.ntmps86
    go_wp2
    go_ret
    exact ⟨rfl, by (repeat (first | exact Below.refl _ _ | assumption | refine Below.drew ?_ | refine below_drewN ?_ _ | refine Below.alloc ?_ (by first | omega | (simp; done) | (simp; omega)) _ | refine Below.setCell ?_ (by first | omega | (simp; done) | (simp; omega)) _ | refine below_setRow ?_ (by first | omega | (simp; done) | (simp; omega)) _ ))⟩
  by_cases h3 : (m : Int) = W
  · have hb : ((m : Int) != W) = false := by simp [h3]
    have H3 := Lib.hid h3; clear h3
    have g1 : 1 ≤ W := by omega
    have g2 : 1 ≤ H := by omega
    clear h1 h2
    go_enter Tryz.func86, Tryz.ntmps86
    go_wp2_with fail
    go_loop [24] (fun s => ∃ i : Nat, i ≤ m ∧ s = .int .i64 i ∧ ∀ j : Int, 0 ≤ j → j < i → stepB H q j = true) (fun s => m - (intOf s).toNat)
    case atStart => exact ⟨0, by omega, rfl, fun j a b => by omega⟩
    case round =>
      obtain ⟨i, hi, rfl, hall⟩ := hrel
      have HALL := Lib.hid hall; clear hall
      by_cases hlt : i < m
      · obtain ⟨bP, off, rfl, hbP, hcell⟩ := hP.fn (by omega)
        have c1 := hcell i (by omega) (by omega)
        rw [Int.toNat_natCast] at c1
        have HC := Lib.hid hcell; clear hcell
        have hin : (i : Int) < (m : Int) := by omega
        have hi0 : (0 : Int) ≤ (i : Int) := by omega
        cases hs : stepB H q i
        · have hr : Hid (isPathB W H m q = false) := by
            show _ = _
            exact Bool.eq_false_iff.2 fun h => by have := (isPathB_iff.1 h).2 i hi0 hin; rw [hs] at this; cases this
          have hs' : ¬ (0 ≤ q i ∧ q i < H ∧ ((i : Int) ≤ 0 ∨ (q (i - 1) - 1 ≤ q i ∧ q i ≤ q (i - 1) + 1))) := fun h => by rw [stepB_iff.2 h] at hs; cases hs
          clear hs
          by_cases a1 : q i < 0
          · clear hs'
            generalize q i = y at *
            go_wp2
            go_ret
            exact ⟨ret_bool hr.out.symm, by (repeat (first | exact Below.refl _ _ | assumption | refine Below.drew ?_ | refine below_drewN ?_ _ | refine Below.alloc ?_ (by first | omega | (simp; done) | (simp; omega)) _ | refine Below.setCell ?_ (by first | omega | (simp; done) | (simp; omega)) _ | refine below_setRow ?_ (by first | omega | (simp; done) | (simp; omega)) _ ))⟩
          by_cases a2 : H ≤ q i
          · clear hs'
            generalize q i = y at *
            go_wp2
            go_ret
            exact ⟨ret_bool hr.out.symm, by (repeat (first | exact Below.refl _ _ | assumption | refine Below.drew ?_ | refine below_drewN ?_ _ | refine Below.alloc ?_ (by first | omega | (simp; done) | (simp; omega)) _ | refine Below.setCell ?_ (by first | omega | (simp; done) | (simp; omega)) _ | refine below_setRow ?_ (by first | omega | (simp; done) | (simp; omega)) _ ))⟩
          have a3 : (0 : Int) < i := by omega
          have c2 := HC.out ((i : Int) - 1) (by omega) (by omega)
          rw [show ((i : Int) - 1).toNat = i - 1 by omega] at c2
          have hq := stepB_iff.1 (HALL.out ((i : Int) - 1) (by omega) (by omega))
          obtain ⟨hq1, hq2, -⟩ := hq
          generalize q i = y at *
          generalize q ((i : Int) - 1) = z at *
          by_cases a4 : y < z - 1
          · clear hs'
            go_wp2
            go_ret
            exact ⟨ret_bool hr.out.symm, by (repeat (first | exact Below.refl _ _ | assumption | refine Below.drew ?_ | refine below_drewN ?_ _ | refine Below.alloc ?_ (by first | omega | (simp; done) | (simp; omega)) _ | refine Below.setCell ?_ (by first | omega | (simp; done) | (simp; omega)) _ | refine below_setRow ?_ (by first | omega | (simp; done) | (simp; omega)) _ ))⟩
          · have a5 : z + 1 < y := by omega
            clear hs'
            go_wp2
            go_ret
            exact ⟨ret_bool hr.out.symm, by (repeat (first | exact Below.refl _ _ | assumption | refine Below.drew ?_ | refine below_drewN ?_ _ | refine Below.alloc ?_ (by first | omega | (simp; done) | (simp; omega)) _ | refine Below.setCell ?_ (by first | omega | (simp; done) | (simp; omega)) _ | refine below_setRow ?_ (by first | omega | (simp; done) | (simp; omega)) _ ))⟩
        · obtain ⟨e1, e2, e3⟩ := stepB_iff.1 hs
          have HS := Lib.hid hs; clear hs
          by_cases hz : (i : Int) ≤ 0
          · clear e3
            generalize hy : q i = y at *
            clear hy
            go_wp2
            go_round
            case rel => exact ⟨i + 1, by omega, by go_num, fun j a b => if e : j = i then e ▸ HS.out else HALL.out j a (by omega)⟩
            case measure => simp [intOf]; omega
          · have e4 := e3.resolve_left hz
            obtain ⟨e5, e6⟩ := e4
            have c2 := HC.out ((i : Int) - 1) (by omega) (by omega)
            rw [show ((i : Int) - 1).toNat = i - 1 by omega] at c2
            have hq := stepB_iff.1 (HALL.out ((i : Int) - 1) (by omega) (by omega))
            obtain ⟨hq1, hq2, -⟩ := hq
            clear e3
            generalize hy : q i = y at *
            generalize hz2 : q ((i : Int) - 1) = z at *
            clear hy hz2
            go_wp2
            go_round
            case rel => exact ⟨i + 1, by omega, by go_num, fun j a b => if e : j = i then e ▸ HS.out else HALL.out j a (by omega)⟩
            case measure => simp [intOf]; omega
      · obtain rfl : i = m := by omega
        have hr : Hid (isPathB W H i q = true) := by show _ = _; exact isPathB_iff.2 ⟨⟨g1, g2, H3.out⟩, HALL.out⟩
        go_wp2
        go_ret
        exact ⟨ret_bool hr.out.symm, by (repeat (first | exact Below.refl _ _ | assumption | refine Below.drew ?_ | refine below_drewN ?_ _ | refine Below.alloc ?_ (by first | omega | (simp; done) | (simp; omega)) _ | refine Below.setCell ?_ (by first | omega | (simp; done) | (simp; omega)) _ | refine below_setRow ?_ (by first | omega | (simp; done) | (simp; omega)) _ ))⟩
  · have hr : isPathB W H m q = false := Bool.eq_false_iff.2 fun h => by have := (isPathB_iff.1 h).1; omega
    have hb : ((m : Int) != W) = true := by simp [h3]
    have H3 := Lib.hid h3; clear h3
    rw [hr]
    go_enter Tryz.func86, Tryz.ntmps86
    go_wp2
    go_ret
    exact ⟨rfl, by (repeat (first | exact Below.refl _ _ | assumption | refine Below.drew ?_ | refine below_drewN ?_ _ | refine Below.alloc ?_ (by first | omega | (simp; done) | (simp; omega)) _ | refine Below.setCell ?_ (by first | omega | (simp; done) | (simp; omega)) _ | refine below_setRow ?_ (by first | omega | (simp; done) | (simp; omega)) _ ))⟩

set_option maxHeartbeats 1000000 in
theorem paper_any (W H : Int) (A : Option Addr) (n c : Nat) (p : Int → Int) (x y : Int) (w : World) (hA : ArrB w w.heap.size A n p) (hB : IsB p) (hE : chk W H n p = 0) (x0 : 0 ≤ x) (x1 : x < W) (y0 : 0 ≤ y) (y1 : y < H) :
    Calls Tryz.prog 62 #[.agg #[.int .i64 W, .int .i64 H, .slice A n c], .int .i64 x, .int .i64 y] w fun e w' => e = .returned (.int .i64 (cst p W x y)) ∧ Below w.heap.size w w' := by
  obtain ⟨hW1, hW2, hH1, hH2, hnn, hpx⟩ := chk_ok hE
  obtain ⟨i1, i2, i3⟩ := idx_lt x0 x1 y0 y1
  rw [Int.mul_comm H W] at i2
  have i4 : y * W + x < n := by omega
  have j6 := (area_bd hW1 hW2 hH1 hH2).2
  have v1 : IntKind.i64.wrap (y * W) = y * W := IntWalk.i64_in _ (by omega)
  have v2 : IntKind.i64.wrap (y * W + x) = y * W + x := IntWalk.i64_in _ (by omega)
  obtain ⟨b', off, rfl, hbB, hcell⟩ := ArrB.at_ (hA.to (w' := w.alloc (.cells #[.int .i64 W, .int .i64 H, .slice A n c] 24)) (by (repeat (first | exact Below.refl _ _ | assumption | refine Below.drew ?_ | refine below_drewN ?_ _ | refine Below.alloc ?_ (by first | omega | (simp; done) | (simp; omega)) _ | refine Below.setCell ?_ (by first | omega | (simp; done) | (simp; omega)) _ | refine below_setRow ?_ (by first | omega | (simp; done) | (simp; omega)) _ )))) i1 i4
  have hq := hB (y * W + x)
  have hq2 := hpx _ i1 i4
  clear hpx hE hnn
  by_cases e : p (y * W + x) = 1
  · have hr : cst p W x y = 0 := by unfold cst; rw [if_pos e]
    rw [e] at hcell
    rw [hr]
    have E := Lib.hid e; clear e hr hq hq2
    go_enter Tryz.func62, Tryz.ntmps62
    go_wp2
    go_ret
    exact ⟨rfl, by (repeat (first | exact Below.refl _ _ | assumption | refine Below.drew ?_ | refine below_drewN ?_ _ | refine Below.alloc ?_ (by first | omega | (simp; done) | (simp; omega)) _ | refine Below.setCell ?_ (by first | omega | (simp; done) | (simp; omega)) _ | refine below_setRow ?_ (by first | omega | (simp; done) | (simp; omega)) _ ))⟩
  · have hr : cst p W x y = 2 := by unfold cst; rw [if_neg e]
    rw [show p (y * W + x) = 0 by omega] at hcell
    rw [hr]
    have E := Lib.hid e; clear e hr hq hq2
    go_enter Tryz.func62, Tryz.ntmps62
    go_wp2
    go_ret
    exact ⟨rfl, by (repeat (first | exact Below.refl _ _ | assumption | refine Below.drew ?_ | refine below_drewN ?_ _ | refine Below.alloc ?_ (by first | omega | (simp; done) | (simp; omega)) _ | refine Below.setCell ?_ (by first | omega | (simp; done) | (simp; omega)) _ | refine below_setRow ?_ (by first | omega | (simp; done) | (simp; omega)) _ ))⟩

/-- the error of a cost, and the cost -/
def costE (W H : Int) (n : Nat) (p : Int → Int) (m : Nat) (q : Int → Int) : Int := if chk W H n p ≠ 0 then chk W H n p else if isPathB W H m q then 0 else 1
def costV (W H : Int) (n : Nat) (p : Int → Int) (m : Nat) (q : Int → Int) : Int := if costE W H n p m q = 0 then costP (cst p W) q m else 0
theorem costE_ok {W H : Int} {n : Nat} {p : Int → Int} {m : Nat} {q : Int → Int} (h : costE W H n p m q = 0) : chk W H n p = 0 ∧ isPathB W H m q = true := by
  unfold costE at h
  by_cases a : chk W H n p = 0
  · rw [if_neg (by simp [a])] at h
    cases b : isPathB W H m q
    · rw [b] at h; simp at h
    · exact ⟨a, rfl⟩
  · rw [if_pos a] at h; exact absurd h a

set_option maxHeartbeats 1000000 in
theorem cost_ok (W H : Int) (A P : Option Addr) (n c m d : Nat) (p q : Int → Int) (w : World) (hA : ArrB w w.heap.size A n p) (hn : n ≤ maxLen) (hB : IsB p) (hP : ArrI w w.heap.size P m q) (hE : chk W H n p = 0) (hI : isPathB W H m q = true) :
    Calls Tryz.prog 47 #[.agg #[.int .i64 W, .int .i64 H, .slice A n c], .slice P m d] w fun e w' => e = .returned (.tuple #[.int .i64 (costP (cst p W) q m), .int .i64 0]) ∧ Below w.heap.size w w' := by
  have CK := Lib.hid fun w' hA' => check_any W H A n c p w' hA' hn
  rw [hE] at CK
  obtain ⟨⟨g1, g2, g3⟩, g4⟩ := isPathB_iff.1 hI
  obtain ⟨hW1, hW2, hH1, hH2, hnn, hpx⟩ := chk_ok hE
  have PA := Lib.hid fun x y w' hA' x0 x1 y0 y1 => paper_any W H A n c p x y w' hA' hB hE x0 x1 y0 y1
  have hm : m ≤ maxLen := by unfold maxLen; omega
  have IP := Lib.hid fun w' hP' => isPath_any W H A P n c m d q w' hW2 hH2 hP' hm
  rw [hI] at IP
  have G4 := Lib.hid g4; clear g4
  have G3 := Lib.hid g3; clear g3
  have CB := Lib.hid fun x => costP_bd (cst_bd p W) q x
  have CS : Hid (∀ x : Nat, costP (cst p W) q (x + 1) = costP (cst p W) q x + cst p W x (q x) + if 0 < x ∧ q x ≠ q ((x : Int) - 1) then 1 else 0) := by
    show ∀ _, _
    intro x; rfl
  have KB := Lib.hid (cst_bd p W)
  clear hE hI hnn hpx hm
  go_enter Tryz.func47, Tryz.ntmps47
  go_wp2_with fail
  refine (CK.out _ (hA.to (by (repeat (first | exact Below.refl _ _ | assumption | refine Below.drew ?_ | refine below_drewN ?_ _ | refine Below.alloc ?_ (by first | omega | (simp; done) | (simp; omega)) _ | refine Below.setCell ?_ (by first | omega | (simp; done) | (simp; omega)) _ | refine below_setRow ?_ (by first | omega | (simp; done) | (simp; omega)) _ ))))).mono ?_
  rintro e w1 ⟨rfl, hb1⟩
  have b1 : Below w.heap.size w w1 := below_call (by (repeat (first | exact Below.refl _ _ | assumption | refine Below.drew ?_ | refine below_drewN ?_ _ | refine Below.alloc ?_ (by first | omega | (simp; done) | (simp; omega)) _ | refine Below.setCell ?_ (by first | omega | (simp; done) | (simp; omega)) _ | refine below_setRow ?_ (by first | omega | (simp; done) | (simp; omega)) _ ))) (by simp; try omega) hb1
  have k1 : Blk w1 w.heap.size 24 #[.int .i64 W, .int .i64 H, .slice A n c] := (Blk.new _ _ _).below' hb1
  clear hb1 CK
  obtain ⟨p1, p2, p3⟩ := k1.cells3
  go_wp2_with fail
  refine (IP.out _ (hP.to b1)).mono ?_
  rintro e w2 ⟨rfl, hb2⟩
  have b2 := below_call b1 b1.size hb2
  have k2 := k1.below' hb2
  clear b1 k1 hb2 p1 p2 p3 IP
  go_wp2_with fail
  go_loopw [7, 21] (fun v s wr => ∃ i : Nat, i ≤ m ∧ s = .int .i64 i ∧ v = .int .i64 (costP (cst p W) q i) ∧ Below w.heap.size w wr ∧ Blk wr w.heap.size 24 #[.int .i64 W, .int .i64 H, .slice A n c]) (fun _ s _ => m - (intOf s).toNat)
  case atStart => exact ⟨0, by omega, rfl, rfl, b2, k2⟩
  case round =>
    obtain ⟨i, hi, rfl, rfl, b3, k3⟩ := hrel
    clear b2 k2
    obtain ⟨p1, p2, p3⟩ := k3.cells3
    obtain ⟨cb1, cb2⟩ := CB.out i
    by_cases hlt : i < m
    · have hmW : (m : Int) ≤ 640 := by have := G3.out; omega
      have hin : (i : Int) < (m : Int) := by omega
      have hi0 : (0 : Int) ≤ (i : Int) := by omega
      obtain ⟨s1, s2, s3⟩ := stepB_iff.1 (G4.out i hi0 hin)
      have hP3 := ArrI.below hP b3
      have PX := Lib.hid fun w' hA' => PA.out i (q i) w' hA' hi0 (by have := G3.out; omega) s1 s2
      obtain ⟨kb1, kb2⟩ := KB.out i (q i)
      have CSi := Lib.hid (CS.out i)
      obtain ⟨bP, off, rfl, hbP, hcell⟩ := hP3.fn (by omega)
      have c1 := hcell i hi0 hin
      rw [Int.toNat_natCast] at c1
      have HC := Lib.hid hcell; clear hcell s3
      have hP4 := Lib.hid hP
      generalize cst p W i (q i) = ci at *
      generalize costP (cst p W) q i = S at *
      go_wp2_with fail
      refine (PX.out _ ((ArrB.below hA b3).more b3.size)).mono ?_
      rintro e w4 ⟨rfl, hb4⟩
      have b4 := below_call b3 b3.size hb4
      have k4 := k3.below' hb4
      have c3 := (hb4.cell (p := ⟨bP, off + i, none⟩) (by show bP < _; have := b3.size; omega)).trans c1
      clear c1
      by_cases hz : (i : Int) ≤ 0
      · have hz' : ¬ (0 < i ∧ q i ≠ q ((i : Int) - 1)) := by omega
        rw [if_neg hz'] at CSi
        clear hz' p1 p2 p3 k3 b3
        go_wp2
        go_roundw
        case rel => exact ⟨i + 1, by omega, by go_num, (by rw [CSi.out] <;> first | done | go_num), b4, k4⟩
        case measure => simp [intOf]; omega
      · have c2 := HC.out ((i : Int) - 1) (by omega) (by omega)
        rw [show ((i : Int) - 1).toNat = i - 1 by omega] at c2
        have c4 := (hb4.cell (p := ⟨bP, off + (i - 1), none⟩) (by show bP < _; have := b3.size; omega)).trans c2
        clear c2 p1 p2 p3 k3 b3
        by_cases he : q i = q ((i : Int) - 1)
        · rw [if_neg (by simp [he])] at CSi
          have hbb : (q i != q ((i : Int) - 1)) = false := by simp [he]
          have HE := Lib.hid he; clear he
          go_wp2
          go_roundw
          case rel => exact ⟨i + 1, by omega, by go_num, (by rw [CSi.out] <;> first | done | go_num), b4, k4⟩
          case measure => simp [intOf]; omega
        · rw [if_pos ⟨by omega, he⟩] at CSi
          have hbb : (q i != q ((i : Int) - 1)) = true := by simp [he]
          have HE := Lib.hid he; clear he
          go_wp2
          go_roundw
          case rel => exact ⟨i + 1, by omega, by go_num, (by rw [CSi.out] <;> first | done | go_num), b4, k4⟩
          case measure => simp [intOf]; omega
    · obtain rfl : i = m := by omega
      go_wp2
      go_ret2
      exact ⟨rfl, b3⟩
end Go.Proofs.YtdimlpcbbkokiaaGreat

/- Walk: the rows next to a row, from above. -/
namespace Go.Proofs.YtdimlpcbbkokiaaGreat
open Go.RowKit Go.Shelf
set_option linter.unusedVariables false
attribute [local go_sem] Oper.semAt_some

/-- a row of an image of height h -/
abbrev RowIn (h : Int) := { t : Int // 0 ≤ t ∧ t < h }
/-- the first i of the rows next to y -/
def nbT (y : Int) (i : Nat) : List Int := (List.range i).map fun j => nxLo y + (j : Nat)
theorem nbT_snoc (y : Int) (i : Nat) : nbT y (i + 1) = nbT y i ++ [nxLo y + i] := by simp [nbT, List.range_succ]
theorem nbT_len (y : Int) (i : Nat) : (nbT y i).length = i := by simp [nbT]
/-- these two blocks are as they were -/
def KpB (a b : Nat) (W W' : World) : Prop := W'.heap[a]? = W.heap[a]? ∧ W'.heap[b]? = W.heap[b]?
theorem KpB.trans {a b : Nat} {A B C : World} (h : KpB a b A B) (k : KpB a b B C) : KpB a b A C := ⟨k.1.trans h.1, k.2.trans h.2⟩
theorem Blk.at0 {w : World} {g t : Nat} {v : Value} (h : Blk w g t #[v]) : w.cell? ⟨g, 0, none⟩ = some v := by rw [h.cell]; rfl

set_option maxHeartbeats 2000000 in
theorem next_stops (F : Fence) (n : Nat) (h6 : F.fn 96) (hro : F.round = none) (hn : 1 ≤ n) (y h : Int) (By Bh : Nat) (w : World) (ky : Blk w By 3 #[.int .i64 y]) (kh : Blk w Bh 3 #[.int .i64 h]) (y0 : 0 ≤ y) (y1 : y < h) (h1 : h ≤ 640) :
    SeqStopsK F n Tryz.prog 96 #[.pointer (some ⟨By, 0, none⟩), .pointer (some ⟨Bh, 0, none⟩)] (fun v : RowIn h => #[Value.int .i64 v.1]) (KpB By Bh) (fun xs => xs.map Subtype.val = nbT y (nxN h y)) (fun xs => ∃ j, j ≤ nxN h y ∧ xs.map Subtype.val = nbT y j) 4 w := fun l J Jx W hW _ _ hY h0 => by
  refine callsIn_of_wp Tryz.func96 rfl h6 ?_ hro
  simp only [Tryz.ntmps96, List.size_toArray, List.length_cons, List.length_nil, Nat.reduceAdd, Nat.reduceSub, Array.replicate_succ, Array.replicate_zero, List.push_toArray, List.append_toArray, List.nil_append, List.cons_append]
  have HY := Lib.hid hY; clear hY
  have ky1 := (ky.below' hW).at0
  have kh1 := (kh.below' hW).at0
  have NI := Lib.hid (fun i => nx_in y0 y1 i)
  have n3 : nxN h y ≤ 3 := by
    have := mt (nx_in y0 y1 3).1 (by unfold nxLo; split <;> omega)
    omega
  have lo1 : 0 ≤ nxLo y ∧ nxLo y ≤ y := by unfold nxLo; split <;> omega
  obtain ⟨lo1, lo2⟩ := lo1
  by_cases hm : 0 ≤ y - 1
  · have LS : Hid (nxLo y = y - 1) := by show _ = _; unfold nxLo; rw [if_neg (by omega)]
    by_cases hp : y + 1 ≤ h - 1
    · gi_wp2_with (refine wpListIn_skip rfl rfl ?_; simp only [Act.put, List.setIfInBounds_toArray, List.set_cons_succ, List.set_cons_zero])
      gi_loopw [4] (fun s wr => ∃ (i : Nat) (pre : List (RowIn h)), i ≤ nxN h y ∧ s = .int .i64 (nxLo y + i) ∧ pre.map Subtype.val = nbT y i ∧ J pre wr ∧ Blk wr By 3 #[.int .i64 y] ∧ Blk wr Bh 3 #[.int .i64 h]) (fun s _ => (nxLo y + nxN h y - intOf s).toNat)
      case atStart => exact ⟨0, [], by omega, (by rw [LS.out]; simp), rfl, h0, ky.below' hW, kh.below' hW⟩
      case round =>
        obtain ⟨i, pre, hi, rfl, hpre, hJ, byr, bhr⟩ := hrel
        have PL : pre.length = i := by have := congrArg List.length hpre; rw [List.length_map, nbT_len] at this; exact this
        have HPL := Lib.hid PL; have HPRE := Lib.hid hpre; clear PL hpre
        clear ky1 kh1
        have ky1 := byr.at0
        have kh1 := bhr.at0
        by_cases hlt : i < nxN h y
        · obtain ⟨t1, t2⟩ := (NI.out i).1 hlt
          have HL := Lib.hid hlt
          obtain ⟨f1, g1, a1, c1, hy1, hR1⟩ := HY.out pre ⟨nxLo y + i, by omega, t1⟩ wr hJ (by have := HPL.out; omega)
          gi_wp2_with (refine wpListIn_skip rfl rfl ?_; simp only [Act.put, List.setIfInBounds_toArray, List.set_cons_succ, List.set_cons_zero])
          refine hR1.mono ?_
          rintro e W1 (⟨rfl, hJ1, hk⟩ | ⟨rfl, hx1⟩)
          · gi_wp2_with (refine wpListIn_skip rfl rfl ?_; simp only [Act.put, List.setIfInBounds_toArray, List.set_cons_succ, List.set_cons_zero])
            go_roundw
            case rel => exact ⟨i + 1, pre ++ [⟨nxLo y + i, by omega, t1⟩], by omega, by go_num, (by rw [List.map_append, HPRE.out, nbT_snoc]; rfl), hJ1, byr.move hk.1, bhr.move hk.2⟩
            case measure => simp [intOf]; omega
          · gi_wp2_with (refine wpListIn_skip rfl rfl ?_; simp only [Act.put, List.setIfInBounds_toArray, List.set_cons_succ, List.set_cons_zero])
            refine bodyPost_ret (results_none rfl _ _ _) rfl ?_
            exact ⟨⟨_, rfl⟩, .inr ⟨_, ⟨i + 1, by have := HL.out; omega, (by rw [List.map_append, HPRE.out, nbT_snoc]; rfl)⟩, hx1⟩⟩
        · have t3 : ¬ (nxLo y + i < h ∧ nxLo y + i ≤ y + 1) := fun hh => hlt ((NI.out i).2 hh)
          have t4 : h ≤ nxLo y + i ∨ y + 1 < nxLo y + i := by omega
          have ei : i = nxN h y := by omega
          have EI := Lib.hid ei; clear ei t3 hlt
          have t5 : y + 1 < nxLo y + i := by omega
          clear t4
          gi_wp2_with (refine wpListIn_skip rfl rfl ?_; simp only [Act.put, List.setIfInBounds_toArray, List.set_cons_succ, List.set_cons_zero])
          go_end0
          exact ⟨⟨_, rfl⟩, .inl ⟨pre, by rw [← EI.out]; exact HPRE.out, hJ⟩⟩
    · have hp' : h - 1 < y + 1 := by omega
      clear hp
      gi_wp2_with (refine wpListIn_skip rfl rfl ?_; simp only [Act.put, List.setIfInBounds_toArray, List.set_cons_succ, List.set_cons_zero])
      gi_loopw [4] (fun s wr => ∃ (i : Nat) (pre : List (RowIn h)), i ≤ nxN h y ∧ s = .int .i64 (nxLo y + i) ∧ pre.map Subtype.val = nbT y i ∧ J pre wr ∧ Blk wr By 3 #[.int .i64 y] ∧ Blk wr Bh 3 #[.int .i64 h]) (fun s _ => (nxLo y + nxN h y - intOf s).toNat)
      case atStart => exact ⟨0, [], by omega, (by rw [LS.out]; simp), rfl, h0, ky.below' hW, kh.below' hW⟩
      case round =>
        obtain ⟨i, pre, hi, rfl, hpre, hJ, byr, bhr⟩ := hrel
        have PL : pre.length = i := by have := congrArg List.length hpre; rw [List.length_map, nbT_len] at this; exact this
        have HPL := Lib.hid PL; have HPRE := Lib.hid hpre; clear PL hpre
        clear ky1 kh1
        have ky1 := byr.at0
        have kh1 := bhr.at0
        by_cases hlt : i < nxN h y
        · obtain ⟨t1, t2⟩ := (NI.out i).1 hlt
          have HL := Lib.hid hlt
          obtain ⟨f1, g1, a1, c1, hy1, hR1⟩ := HY.out pre ⟨nxLo y + i, by omega, t1⟩ wr hJ (by have := HPL.out; omega)
          gi_wp2_with (refine wpListIn_skip rfl rfl ?_; simp only [Act.put, List.setIfInBounds_toArray, List.set_cons_succ, List.set_cons_zero])
          refine hR1.mono ?_
          rintro e W1 (⟨rfl, hJ1, hk⟩ | ⟨rfl, hx1⟩)
          · gi_wp2_with (refine wpListIn_skip rfl rfl ?_; simp only [Act.put, List.setIfInBounds_toArray, List.set_cons_succ, List.set_cons_zero])
            go_roundw
            case rel => exact ⟨i + 1, pre ++ [⟨nxLo y + i, by omega, t1⟩], by omega, by go_num, (by rw [List.map_append, HPRE.out, nbT_snoc]; rfl), hJ1, byr.move hk.1, bhr.move hk.2⟩
            case measure => simp [intOf]; omega
          · gi_wp2_with (refine wpListIn_skip rfl rfl ?_; simp only [Act.put, List.setIfInBounds_toArray, List.set_cons_succ, List.set_cons_zero])
            refine bodyPost_ret (results_none rfl _ _ _) rfl ?_
            exact ⟨⟨_, rfl⟩, .inr ⟨_, ⟨i + 1, by have := HL.out; omega, (by rw [List.map_append, HPRE.out, nbT_snoc]; rfl)⟩, hx1⟩⟩
        · have t3 : ¬ (nxLo y + i < h ∧ nxLo y + i ≤ y + 1) := fun hh => hlt ((NI.out i).2 hh)
          have t4 : h ≤ nxLo y + i ∨ y + 1 < nxLo y + i := by omega
          have ei : i = nxN h y := by omega
          have EI := Lib.hid ei; clear ei t3 hlt
          have t5 : h - 1 < nxLo y + i := by omega
          clear t4
          gi_wp2_with (refine wpListIn_skip rfl rfl ?_; simp only [Act.put, List.setIfInBounds_toArray, List.set_cons_succ, List.set_cons_zero])
          go_end0
          exact ⟨⟨_, rfl⟩, .inl ⟨pre, by rw [← EI.out]; exact HPRE.out, hJ⟩⟩
  · have LS : Hid (nxLo y = 0) := by show _ = _; unfold nxLo; rw [if_pos (by omega)]
    by_cases hp : y + 1 ≤ h - 1
    · gi_wp2_with (refine wpListIn_skip rfl rfl ?_; simp only [Act.put, List.setIfInBounds_toArray, List.set_cons_succ, List.set_cons_zero])
      gi_loopw [4] (fun s wr => ∃ (i : Nat) (pre : List (RowIn h)), i ≤ nxN h y ∧ s = .int .i64 (nxLo y + i) ∧ pre.map Subtype.val = nbT y i ∧ J pre wr ∧ Blk wr By 3 #[.int .i64 y] ∧ Blk wr Bh 3 #[.int .i64 h]) (fun s _ => (nxLo y + nxN h y - intOf s).toNat)
      case atStart => exact ⟨0, [], by omega, (by rw [LS.out]; simp), rfl, h0, ky.below' hW, kh.below' hW⟩
      case round =>
        obtain ⟨i, pre, hi, rfl, hpre, hJ, byr, bhr⟩ := hrel
        have PL : pre.length = i := by have := congrArg List.length hpre; rw [List.length_map, nbT_len] at this; exact this
        have HPL := Lib.hid PL; have HPRE := Lib.hid hpre; clear PL hpre
        clear ky1 kh1
        have ky1 := byr.at0
        have kh1 := bhr.at0
        by_cases hlt : i < nxN h y
        · obtain ⟨t1, t2⟩ := (NI.out i).1 hlt
          have HL := Lib.hid hlt
          obtain ⟨f1, g1, a1, c1, hy1, hR1⟩ := HY.out pre ⟨nxLo y + i, by omega, t1⟩ wr hJ (by have := HPL.out; omega)
          gi_wp2_with (refine wpListIn_skip rfl rfl ?_; simp only [Act.put, List.setIfInBounds_toArray, List.set_cons_succ, List.set_cons_zero])
          refine hR1.mono ?_
          rintro e W1 (⟨rfl, hJ1, hk⟩ | ⟨rfl, hx1⟩)
          · gi_wp2_with (refine wpListIn_skip rfl rfl ?_; simp only [Act.put, List.setIfInBounds_toArray, List.set_cons_succ, List.set_cons_zero])
            go_roundw
            case rel => exact ⟨i + 1, pre ++ [⟨nxLo y + i, by omega, t1⟩], by omega, by go_num, (by rw [List.map_append, HPRE.out, nbT_snoc]; rfl), hJ1, byr.move hk.1, bhr.move hk.2⟩
            case measure => simp [intOf]; omega
          · gi_wp2_with (refine wpListIn_skip rfl rfl ?_; simp only [Act.put, List.setIfInBounds_toArray, List.set_cons_succ, List.set_cons_zero])
            refine bodyPost_ret (results_none rfl _ _ _) rfl ?_
            exact ⟨⟨_, rfl⟩, .inr ⟨_, ⟨i + 1, by have := HL.out; omega, (by rw [List.map_append, HPRE.out, nbT_snoc]; rfl)⟩, hx1⟩⟩
        · have t3 : ¬ (nxLo y + i < h ∧ nxLo y + i ≤ y + 1) := fun hh => hlt ((NI.out i).2 hh)
          have t4 : h ≤ nxLo y + i ∨ y + 1 < nxLo y + i := by omega
          have ei : i = nxN h y := by omega
          have EI := Lib.hid ei; clear ei t3 hlt
          have t5 : y + 1 < nxLo y + i := by omega
          clear t4
          gi_wp2_with (refine wpListIn_skip rfl rfl ?_; simp only [Act.put, List.setIfInBounds_toArray, List.set_cons_succ, List.set_cons_zero])
          go_end0
          exact ⟨⟨_, rfl⟩, .inl ⟨pre, by rw [← EI.out]; exact HPRE.out, hJ⟩⟩
    · have hp' : h - 1 < y + 1 := by omega
      clear hp
      gi_wp2_with (refine wpListIn_skip rfl rfl ?_; simp only [Act.put, List.setIfInBounds_toArray, List.set_cons_succ, List.set_cons_zero])
      gi_loopw [4] (fun s wr => ∃ (i : Nat) (pre : List (RowIn h)), i ≤ nxN h y ∧ s = .int .i64 (nxLo y + i) ∧ pre.map Subtype.val = nbT y i ∧ J pre wr ∧ Blk wr By 3 #[.int .i64 y] ∧ Blk wr Bh 3 #[.int .i64 h]) (fun s _ => (nxLo y + nxN h y - intOf s).toNat)
      case atStart => exact ⟨0, [], by omega, (by rw [LS.out]; simp), rfl, h0, ky.below' hW, kh.below' hW⟩
      case round =>
        obtain ⟨i, pre, hi, rfl, hpre, hJ, byr, bhr⟩ := hrel
        have PL : pre.length = i := by have := congrArg List.length hpre; rw [List.length_map, nbT_len] at this; exact this
        have HPL := Lib.hid PL; have HPRE := Lib.hid hpre; clear PL hpre
        clear ky1 kh1
        have ky1 := byr.at0
        have kh1 := bhr.at0
        by_cases hlt : i < nxN h y
        · obtain ⟨t1, t2⟩ := (NI.out i).1 hlt
          have HL := Lib.hid hlt
          obtain ⟨f1, g1, a1, c1, hy1, hR1⟩ := HY.out pre ⟨nxLo y + i, by omega, t1⟩ wr hJ (by have := HPL.out; omega)
          gi_wp2_with (refine wpListIn_skip rfl rfl ?_; simp only [Act.put, List.setIfInBounds_toArray, List.set_cons_succ, List.set_cons_zero])
          refine hR1.mono ?_
          rintro e W1 (⟨rfl, hJ1, hk⟩ | ⟨rfl, hx1⟩)
          · gi_wp2_with (refine wpListIn_skip rfl rfl ?_; simp only [Act.put, List.setIfInBounds_toArray, List.set_cons_succ, List.set_cons_zero])
            go_roundw
            case rel => exact ⟨i + 1, pre ++ [⟨nxLo y + i, by omega, t1⟩], by omega, by go_num, (by rw [List.map_append, HPRE.out, nbT_snoc]; rfl), hJ1, byr.move hk.1, bhr.move hk.2⟩
            case measure => simp [intOf]; omega
          · gi_wp2_with (refine wpListIn_skip rfl rfl ?_; simp only [Act.put, List.setIfInBounds_toArray, List.set_cons_succ, List.set_cons_zero])
            refine bodyPost_ret (results_none rfl _ _ _) rfl ?_
            exact ⟨⟨_, rfl⟩, .inr ⟨_, ⟨i + 1, by have := HL.out; omega, (by rw [List.map_append, HPRE.out, nbT_snoc]; rfl)⟩, hx1⟩⟩
        · have t3 : ¬ (nxLo y + i < h ∧ nxLo y + i ≤ y + 1) := fun hh => hlt ((NI.out i).2 hh)
          have t4 : h ≤ nxLo y + i ∨ y + 1 < nxLo y + i := by omega
          have ei : i = nxN h y := by omega
          have EI := Lib.hid ei; clear ei t3 hlt
          have t5 : h - 1 < nxLo y + i := by omega
          clear t4
          gi_wp2_with (refine wpListIn_skip rfl rfl ?_; simp only [Act.put, List.setIfInBounds_toArray, List.set_cons_succ, List.set_cons_zero])
          go_end0
          exact ⟨⟨_, rfl⟩, .inl ⟨pre, by rw [← EI.out]; exact HPRE.out, hJ⟩⟩

theorem next_any (y h : Int) (w : World) : Calls Tryz.prog 61 #[.int .i64 y, .int .i64 h] w
    (New w fun v w' => v = .func (.func 96) #[] #[.pointer (some ⟨w.heap.size, 0, none⟩), .pointer (some ⟨w.heap.size + 1, 0, none⟩)] ∧ Blk w' w.heap.size 3 #[.int .i64 y] ∧ Blk w' (w.heap.size + 1) 3 #[.int .i64 h]) := by
  go_enter Tryz.func61, Tryz.ntmps61
  go_wp2
  go_ret
  exact ⟨_, rfl, ⟨rfl, (Blk.new _ _ _).alloc _, Blk.new' (by simp) _ _⟩, by (repeat (first | exact Below.refl _ _ | assumption | refine Below.drew ?_ | refine below_drewN ?_ _ | refine Below.alloc ?_ (by first | omega | (simp; done) | (simp; omega)) _ | refine Below.setCell ?_ (by first | omega | (simp; done) | (simp; omega)) _ | refine below_setRow ?_ (by first | omega | (simp; done) | (simp; omega)) _ ))⟩
end Go.Proofs.YtdimlpcbbkokiaaGreat

/- Walks: the reference's paths and their costs; costs with their errors. -/
namespace Go.Proofs.YtdimlpcbbkokiaaGreat
open Go.RowKit
set_option linter.unusedVariables false

theorem inkB_in {W H : Int} {p : Int → Int} {x y : Int} (h1 : 0 ≤ x) (h2 : x < W) (h3 : 0 ≤ y) (h4 : y < H) : inkB W H p x y = decide (p (y * W + x) = 1) := by
  unfold inkB; simp [h1, h2, h3, h4]
set_option maxHeartbeats 1000000 in
theorem pixel_any (W H : Int) (A : Option Addr) (n c : Nat) (p : Int → Int) (x y : Int) (w : World) (hA : ArrB w w.heap.size A n p) (hE : chk W H n p = 0) (x0 : 0 ≤ x) (x1 : x < W) (y0 : 0 ≤ y) (y1 : y < H) :
    Calls Tryz.prog 71 #[.agg #[.int .i64 W, .int .i64 H, .slice A n c], .int .i64 x, .int .i64 y] w fun e w' => e = .returned (.int .i64 (cst p W x y)) ∧ Below w.heap.size w w' := by
  obtain ⟨hW1, hW2, hH1, hH2, hnn, -⟩ := chk_ok hE
  have IK := Lib.hid fun w' hA' => rink_any W H A n c p x y w' hA' hW2 hH2 hnn
  rw [inkB_in x0 x1 y0 y1] at IK
  clear hE hnn
  by_cases e : p (y * W + x) = 1
  · have hr : cst p W x y = 0 := by unfold cst; rw [if_pos e]
    rw [hr]
    rw [decide_eq_true e] at IK
    clear hr e
    go_enter Tryz.func71, Tryz.ntmps71
    go_wp2_with fail
    refine (IK.out _ (hA.to (by (repeat (first | exact Below.refl _ _ | assumption | refine Below.drew ?_ | refine below_drewN ?_ _ | refine Below.alloc ?_ (by first | omega | (simp; done) | (simp; omega)) _ | refine Below.setCell ?_ (by first | omega | (simp; done) | (simp; omega)) _ | refine below_setRow ?_ (by first | omega | (simp; done) | (simp; omega)) _ ))))).mono ?_
    rintro e w1 ⟨rfl, hb1⟩
    have b1 : Below w.heap.size w w1 := below_call (by (repeat (first | exact Below.refl _ _ | assumption | refine Below.drew ?_ | refine below_drewN ?_ _ | refine Below.alloc ?_ (by first | omega | (simp; done) | (simp; omega)) _ | refine Below.setCell ?_ (by first | omega | (simp; done) | (simp; omega)) _ | refine below_setRow ?_ (by first | omega | (simp; done) | (simp; omega)) _ ))) (by simp; try omega) hb1
    go_wp2
    go_ret
    exact ⟨rfl, b1⟩
  · have hr : cst p W x y = 2 := by unfold cst; rw [if_neg e]
    rw [hr]
    rw [decide_eq_false e] at IK
    clear hr e
    go_enter Tryz.func71, Tryz.ntmps71
    go_wp2_with fail
    refine (IK.out _ (hA.to (by (repeat (first | exact Below.refl _ _ | assumption | refine Below.drew ?_ | refine below_drewN ?_ _ | refine Below.alloc ?_ (by first | omega | (simp; done) | (simp; omega)) _ | refine Below.setCell ?_ (by first | omega | (simp; done) | (simp; omega)) _ | refine below_setRow ?_ (by first | omega | (simp; done) | (simp; omega)) _ ))))).mono ?_
    rintro e w1 ⟨rfl, hb1⟩
    have b1 : Below w.heap.size w w1 := below_call (by (repeat (first | exact Below.refl _ _ | assumption | refine Below.drew ?_ | refine below_drewN ?_ _ | refine Below.alloc ?_ (by first | omega | (simp; done) | (simp; omega)) _ | refine Below.setCell ?_ (by first | omega | (simp; done) | (simp; omega)) _ | refine below_setRow ?_ (by first | omega | (simp; done) | (simp; omega)) _ ))) (by simp; try omega) hb1
    go_wp2
    go_ret
    exact ⟨rfl, b1⟩

set_option maxHeartbeats 2000000 in
theorem rcostOf_any (W H : Int) (A P : Option Addr) (n c m d : Nat) (p q : Int → Int) (w : World) (hA : ArrB w w.heap.size A n p) (hP : ArrI w w.heap.size P m q) (hE : chk W H n p = 0) (hI : isPathB W H m q = true) :
    Calls Tryz.prog 26 #[.agg #[.int .i64 W, .int .i64 H, .slice A n c], .slice P m d] w fun e w' => e = .returned (.int .i64 (costP (cst p W) q m)) ∧ Below w.heap.size w w' := by
  obtain ⟨⟨g1, g2, g3⟩, g4⟩ := isPathB_iff.1 hI
  obtain ⟨hW1, hW2, hH1, hH2, hnn, hpx⟩ := chk_ok hE
  have PA := Lib.hid fun x y w' hA' x0 x1 y0 y1 => pixel_any W H A n c p x y w' hA' hE x0 x1 y0 y1
  have G4 := Lib.hid g4; clear g4
  have G3 := Lib.hid g3; clear g3
  have CB := Lib.hid fun x => costP_bd (cst_bd p W) q x
  have CS : Hid (∀ x : Nat, costP (cst p W) q (x + 1) = costP (cst p W) q x + cst p W x (q x) + if 0 < x ∧ q x ≠ q ((x : Int) - 1) then 1 else 0) := by
    show ∀ _, _
    intro x; rfl
  have KB := Lib.hid (cst_bd p W)
  clear hE hI hnn hpx
  go_enter Tryz.func26, Tryz.ntmps26
  go_wp2_with fail
  go_loopw [5, 6] (fun v s wr => ∃ i : Nat, i ≤ m ∧ s = .int .i64 i ∧ v = .int .i64 (costP (cst p W) q i) ∧ Below w.heap.size w wr ∧ Blk wr w.heap.size 24 #[.int .i64 W, .int .i64 H, .slice A n c]) (fun _ s _ => m - (intOf s).toNat)
  case atStart => exact ⟨0, by omega, rfl, rfl, by (repeat (first | exact Below.refl _ _ | assumption | refine Below.drew ?_ | refine below_drewN ?_ _ | refine Below.alloc ?_ (by first | omega | (simp; done) | (simp; omega)) _ | refine Below.setCell ?_ (by first | omega | (simp; done) | (simp; omega)) _ | refine below_setRow ?_ (by first | omega | (simp; done) | (simp; omega)) _ )), Blk.new _ _ _⟩
  case round =>
    obtain ⟨i, hi, rfl, rfl, b3, k3⟩ := hrel
    obtain ⟨p1, p2, p3⟩ := k3.cells3
    obtain ⟨cb1, cb2⟩ := CB.out i
    by_cases hlt : i < m
    · have hmW : (m : Int) ≤ 640 := by have := G3.out; omega
      have hin : (i : Int) < (m : Int) := by omega
      have hi0 : (0 : Int) ≤ (i : Int) := by omega
      obtain ⟨s1, s2, s3⟩ := stepB_iff.1 (G4.out i hi0 hin)
      have hP3 := ArrI.below hP b3
      have PX := Lib.hid fun w' hA' => PA.out i (q i) w' hA' hi0 (by have := G3.out; omega) s1 s2
      obtain ⟨kb1, kb2⟩ := KB.out i (q i)
      have CSi := Lib.hid (CS.out i)
      obtain ⟨bP, off, rfl, hbP, hcell⟩ := hP3.fn (by omega)
      have c1 := hcell i hi0 hin
      rw [Int.toNat_natCast] at c1
      have HC := Lib.hid hcell; clear hcell s3
      generalize cst p W i (q i) = ci at *
      generalize costP (cst p W) q i = S at *
      have v1 : IntKind.i64.wrap (S + ci) = S + ci := IntWalk.i64_in _ (by omega)
      have B3 := Lib.hid b3; have K3 := Lib.hid k3
      go_wp2_with fail
      go_region_held3 (fun w' => w'.cell? ⟨w.heap.size, 0, none⟩ = some (.int .i64 W) ∧ w'.cell? ⟨w.heap.size, 1, none⟩ = some (.int .i64 H) ∧ w'.cell? ⟨w.heap.size, 2, none⟩ = some (.slice A n c) ∧ w'.cell? ⟨bP, off + i, none⟩ = some (.int .i64 (q i)))
        (simp [go_sem, *])
        ((go_at_call 71
          refine (PX.out _ ((ArrB.below hA B3.out.drew).more B3.out.drew.size)).mono ?_
          rintro e w4 ⟨rfl, hb4⟩
          have b4 := below_call B3.out.drew B3.out.drew.size hb4
          have k4 := K3.out.drew.below' hb4
          obtain ⟨x1, x2, x3⟩ := k4.cells3
          have c3 : w4.cell? ⟨bP, off + i, none⟩ = some (.int .i64 (q i)) := (hb4.cell (p := ⟨bP, off + i, none⟩) (by show bP < _; have := B3.out.drew.size; omega)).trans c1))
      clear v1 c1 p1 p2 p3 b3 k3
      by_cases hz : (i : Int) ≤ 0
      · have hz' : ¬ (0 < i ∧ q i ≠ q ((i : Int) - 1)) := by omega
        rw [if_neg hz'] at CSi
        clear hz'
        have hd : decide (0 < (i : Int)) = false := by simp; omega
        have hdn : decide (0 < i) = false := by simp; omega
        go_wp2_with fail
        go_quiet (fail)
        go_wp2
        go_roundw
        case rel => exact ⟨i + 1, by omega, by go_num, (by rw [CSi.out] <;> first | done | go_num), below_drewN b4 _, k4.drewN _⟩
        case measure => simp [intOf]; omega
      · have c2 := HC.out ((i : Int) - 1) (by omega) (by omega)
        rw [show ((i : Int) - 1).toNat = i - 1 by omega] at c2
        have c4 := (hb4.cell (p := ⟨bP, off + (i - 1), none⟩) (by show bP < _; have := B3.out.drew.size; omega)).trans c2
        have c5 : w4.cell? ⟨bP, off + (i - 1), none⟩ = some (.int .i64 (q ((i : Int) - 1))) := c4
        clear c2 c4
        have hd : decide (0 < (i : Int)) = true := by simp; omega
        have hdn : decide (0 < i) = true := by simp; omega
        have hdp : 0 < i := by omega
        have v2 : IntKind.i64.wrap ((i : Int) - 1) = (i : Int) - 1 := IntWalk.i64_in _ (by omega)
        have d1 : (0 : Int) ≤ (i : Int) - 1 := by omega
        have d2 : (i : Int) - 1 < (m : Int) := by omega
        have d3 : ((i : Int) - 1).toNat = i - 1 := by omega
        by_cases he : q i = q ((i : Int) - 1)
        · rw [if_neg (by simp [he])] at CSi
          have hbb : (q i != q ((i : Int) - 1)) = false := by simp [he]
          have HE := Lib.hid he; clear he
          go_wp2_with fail
          go_quiet (fail)
          clear v2 d3 hd hdn
          go_wp2
          go_roundw
          case rel => exact ⟨i + 1, by omega, by go_num, (by rw [CSi.out] <;> first | done | go_num), below_drewN b4 _, k4.drewN _⟩
          case measure => simp [intOf]; omega
        · rw [if_pos ⟨by omega, he⟩] at CSi
          have hbb : (q i != q ((i : Int) - 1)) = true := by simp [he]
          have HE := Lib.hid he; clear he
          go_wp2_with fail
          go_quiet (fail)
          clear v2 d3 hd hdn
          go_wp2
          go_roundw
          case rel => exact ⟨i + 1, by omega, by go_num, (by rw [CSi.out] <;> first | done | go_num), below_drewN b4 _, k4.drewN _⟩
          case measure => simp [intOf]; omega
    · obtain rfl : i = m := by omega
      go_wp2
      go_ret
      exact ⟨rfl, b3⟩
set_option maxHeartbeats 2000000 in
theorem risPath_any (W H : Int) (A P : Option Addr) (n c m d : Nat) (q : Int → Int) (w : World) (hW0 : 0 ≤ W) (hH0 : 0 ≤ H) (hW : W ≤ 640) (hH : H ≤ 640) (hP : ArrI w w.heap.size P m q) (hm : m ≤ maxLen) :
    Calls Tryz.prog 87 #[.agg #[.int .i64 W, .int .i64 H, .slice A n c], .slice P m d] w fun e w' => e = .returned (.bool (isPathB W H m q)) ∧ Below w.heap.size w w' := by
  unfold maxLen at hm
  by_cases h1 : W = 0
  · have hr : isPathB W H m q = false := Bool.eq_false_iff.2 fun h => by have := (isPathB_iff.1 h).1; omega
    rw [hr]
    have hb : (W == 0) = true := by simp [h1]
    have H1 := Lib.hid h1; clear h1 hr
    go_enter Tryz.func87, Tryz.ntmps87
    go_wp2
    go_ret
    exact ⟨rfl, by (repeat (first | exact Below.refl _ _ | assumption | refine Below.drew ?_ | refine below_drewN ?_ _ | refine Below.alloc ?_ (by first | omega | (simp; done) | (simp; omega)) _ | refine Below.setCell ?_ (by first | omega | (simp; done) | (simp; omega)) _ | refine below_setRow ?_ (by first | omega | (simp; done) | (simp; omega)) _ ))⟩
  have hb1 : (W == 0) = false := by simp [h1]
  by_cases h2 : H = 0
  · have hr : isPathB W H m q = false := Bool.eq_false_iff.2 fun h => by have := (isPathB_iff.1 h).1; omega
    rw [hr]
    have hb : (H == 0) = true := by simp [h2]
    have H2 := Lib.hid h2; clear h2 hr
    go_enter Tryz.func87, Tryz.ntmps87
    go_wp2
    go_ret
    exact ⟨rfl, by (repeat (first | exact Below.refl _ _ | assumption | refine Below.drew ?_ | refine below_drewN ?_ _ | refine Below.alloc ?_ (by first | omega | (simp; done) | (simp; omega)) _ | refine Below.setCell ?_ (by first | omega | (simp; done) | (simp; omega)) _ | refine below_setRow ?_ (by first | omega | (simp; done) | (simp; omega)) _ ))⟩
  have hb2 : (H == 0) = false := by simp [h2]
  by_cases h3 : (m : Int) = W
  · have hb : ((m : Int) != W) = false := by simp [h3]
    have H3 := Lib.hid h3; clear h3
    have g1 : 1 ≤ W := by omega
    have g2 : 1 ≤ H := by omega
    clear h1 h2
    go_enter Tryz.func87, Tryz.ntmps87
    go_wp2_with fail
    clear hb hb1 hb2
    go_loopw [5] (fun s wr => ∃ i : Nat, i ≤ m ∧ s = .int .i64 i ∧ (∀ j : Int, 0 ≤ j → j < i → stepB H q j = true) ∧ Below w.heap.size w wr ∧ Blk wr w.heap.size 24 #[.int .i64 W, .int .i64 H, .slice A n c]) (fun s _ => m - (intOf s).toNat)
    case atStart => exact ⟨0, by omega, rfl, fun j a b => by omega, by (repeat (first | exact Below.refl _ _ | assumption | refine Below.drew ?_ | refine below_drewN ?_ _ | refine Below.alloc ?_ (by first | omega | (simp; done) | (simp; omega)) _ | refine Below.setCell ?_ (by first | omega | (simp; done) | (simp; omega)) _ | refine below_setRow ?_ (by first | omega | (simp; done) | (simp; omega)) _ )), Blk.new _ _ _⟩
    case round =>
      obtain ⟨i, hi, rfl, hall, b3, k3⟩ := hrel
      have HALL := Lib.hid hall; clear hall
      obtain ⟨p1, p2, p3⟩ := k3.cells3
      by_cases hlt : i < m
      · obtain ⟨bP, off, rfl, hbP, hcell⟩ := (ArrI.below hP b3).fn (by omega)
        have c1 := hcell i (by omega) (by omega)
        rw [Int.toNat_natCast] at c1
        have HC := Lib.hid hcell; clear hcell
        have hin : (i : Int) < (m : Int) := by omega
        have hi0 : (0 : Int) ≤ (i : Int) := by omega
        cases hs : stepB H q i
        · have hr : Hid (isPathB W H m q = false) := by
            show _ = _
            exact Bool.eq_false_iff.2 fun h => by have := (isPathB_iff.1 h).2 i hi0 hin; rw [hs] at this; cases this
          have hs' : ¬ (0 ≤ q i ∧ q i < H ∧ ((i : Int) ≤ 0 ∨ (q (i - 1) - 1 ≤ q i ∧ q i ≤ q (i - 1) + 1))) := fun h => by rw [stepB_iff.2 h] at hs; cases hs
          clear hs
          by_cases a1 : q i < 0
          · clear hs'
            generalize q i = y at *
            have e1 : decide (y < 0) = true := by simp; omega
            go_wp2_with fail
            go_quiet (fail)
            go_wp2
            go_ret
            exact ⟨ret_bool hr.out.symm, below_drewN b3 _⟩
          by_cases a2 : H ≤ q i
          · clear hs'
            generalize q i = y at *
            have e1 : decide (y < 0) = false := by simp; omega
            have e2 : decide (H ≤ y) = true := by simp; omega
            go_wp2_with fail
            go_quiet (fail)
            go_wp2
            go_ret
            exact ⟨ret_bool hr.out.symm, below_drewN b3 _⟩
          have a3 : (0 : Int) < i := by omega
          have c2 := HC.out ((i : Int) - 1) (by omega) (by omega)
          rw [show ((i : Int) - 1).toNat = i - 1 by omega] at c2
          have hq := stepB_iff.1 (HALL.out ((i : Int) - 1) (by omega) (by omega))
          obtain ⟨hq1, hq2, -⟩ := hq
          have d1 : (0 : Int) ≤ (i : Int) - 1 := by omega
          have d2 : (i : Int) - 1 < (m : Int) := by omega
          have d3 : ((i : Int) - 1).toNat = i - 1 := by omega
          generalize q i = y at *
          generalize q ((i : Int) - 1) = z at *
          have v2 : IntKind.i64.wrap ((i : Int) - 1) = (i : Int) - 1 := IntWalk.i64_in _ (by omega)
          have v3 : IntKind.i64.wrap (y - z) = y - z := IntWalk.i64_in _ (by omega)
          have v4 : IntKind.i64.wrap (z - y) = z - y := IntWalk.i64_in _ (by omega)
          have e1 : decide (y < 0) = false := by simp; omega
          have e2 : decide (H ≤ y) = false := by simp; omega
          have hdn : decide (0 < i) = true := by simp; omega
          have hdp : 0 < i := by omega
          by_cases a4 : 1 < y - z
          · have e3 : decide (1 < y - z) = true := by simp; omega
            clear hs'
            go_wp2_with fail
            go_quiet (fail)
            go_wp2_with fail
            go_quiet (fail)
            clear v2 v3 v4 d3
            go_wp2
            go_ret
            exact ⟨ret_bool hr.out.symm, by (repeat (first | exact Below.refl _ _ | assumption | refine Below.drew ?_ | refine below_drewN ?_ _ | refine Below.alloc ?_ (by first | omega | (simp; done) | (simp; omega)) _ | refine Below.setCell ?_ (by first | omega | (simp; done) | (simp; omega)) _ | refine below_setRow ?_ (by first | omega | (simp; done) | (simp; omega)) _ ))⟩
          · have a5 : 1 < z - y := by omega
            have e3 : decide (1 < y - z) = false := by simp; omega
            have e4 : decide (1 < z - y) = true := by simp; omega
            clear hs'
            go_wp2_with fail
            go_quiet (fail)
            go_wp2_with fail
            go_quiet (fail)
            clear v2 v3 v4 d3
            go_wp2
            go_ret
            exact ⟨ret_bool hr.out.symm, by (repeat (first | exact Below.refl _ _ | assumption | refine Below.drew ?_ | refine below_drewN ?_ _ | refine Below.alloc ?_ (by first | omega | (simp; done) | (simp; omega)) _ | refine Below.setCell ?_ (by first | omega | (simp; done) | (simp; omega)) _ | refine below_setRow ?_ (by first | omega | (simp; done) | (simp; omega)) _ ))⟩
        · obtain ⟨f1, f2, f3⟩ := stepB_iff.1 hs
          have HS := Lib.hid hs; clear hs
          by_cases hz : (i : Int) ≤ 0
          · clear f3
            generalize hy : q i = y at *
            clear hy
            have e1 : decide (y < 0) = false := by simp; omega
            have e2 : decide (H ≤ y) = false := by simp; omega
            have hdn : decide (0 < i) = false := by simp; omega
            go_wp2_with fail
            go_quiet (fail)
            go_wp2_with fail
            go_quiet (fail)
            clear e1 e2 hdn
            go_wp2
            go_roundw
            case rel => exact ⟨i + 1, by omega, by go_num, fun j a b => if e : j = i then e ▸ HS.out else HALL.out j a (by omega), by (repeat (first | exact Below.refl _ _ | assumption | refine Below.drew ?_ | refine below_drewN ?_ _ | refine Below.alloc ?_ (by first | omega | (simp; done) | (simp; omega)) _ | refine Below.setCell ?_ (by first | omega | (simp; done) | (simp; omega)) _ | refine below_setRow ?_ (by first | omega | (simp; done) | (simp; omega)) _ )), k3⟩
            case measure => simp [intOf]; omega
          · have f4 := f3.resolve_left hz
            obtain ⟨f5, f6⟩ := f4
            have c2 := HC.out ((i : Int) - 1) (by omega) (by omega)
            rw [show ((i : Int) - 1).toNat = i - 1 by omega] at c2
            have hq := stepB_iff.1 (HALL.out ((i : Int) - 1) (by omega) (by omega))
            obtain ⟨hq1, hq2, -⟩ := hq
            have d1 : (0 : Int) ≤ (i : Int) - 1 := by omega
            have d2 : (i : Int) - 1 < (m : Int) := by omega
            have d3 : ((i : Int) - 1).toNat = i - 1 := by omega
            clear f3
            generalize hy : q i = y at *
            generalize hz2 : q ((i : Int) - 1) = z at *
            clear hy hz2
            have v2 : IntKind.i64.wrap ((i : Int) - 1) = (i : Int) - 1 := IntWalk.i64_in _ (by omega)
            have v3 : IntKind.i64.wrap (y - z) = y - z := IntWalk.i64_in _ (by omega)
            have v4 : IntKind.i64.wrap (z - y) = z - y := IntWalk.i64_in _ (by omega)
            have e1 : decide (y < 0) = false := by simp; omega
            have e2 : decide (H ≤ y) = false := by simp; omega
            have e3 : decide (1 < y - z) = false := by simp; omega
            have e4 : decide (1 < z - y) = false := by simp; omega
            have hdn : decide (0 < i) = true := by simp; omega
            have hdp : 0 < i := by omega
            go_wp2_with fail
            go_quiet (fail)
            go_wp2_with fail
            go_quiet (fail)
            clear v2 v3 v4 d3 e1 e2 e3 e4 hdn
            go_wp2
            go_roundw
            case rel => exact ⟨i + 1, by omega, by go_num, fun j a b => if e : j = i then e ▸ HS.out else HALL.out j a (by omega), by (repeat (first | exact Below.refl _ _ | assumption | refine Below.drew ?_ | refine below_drewN ?_ _ | refine Below.alloc ?_ (by first | omega | (simp; done) | (simp; omega)) _ | refine Below.setCell ?_ (by first | omega | (simp; done) | (simp; omega)) _ | refine below_setRow ?_ (by first | omega | (simp; done) | (simp; omega)) _ )), k3⟩
            case measure => simp [intOf]; omega
      · obtain rfl : i = m := by omega
        have hr : Hid (isPathB W H i q = true) := by show _ = _; exact isPathB_iff.2 ⟨⟨g1, g2, H3.out⟩, HALL.out⟩
        go_wp2
        go_ret
        exact ⟨ret_bool hr.out.symm, b3⟩
  · have hr : isPathB W H m q = false := Bool.eq_false_iff.2 fun h => by have := (isPathB_iff.1 h).1; omega
    have hb : ((m : Int) != W) = true := by simp [h3]
    have H3 := Lib.hid h3; clear h3
    have HR := Lib.hid hr
    rw [hr]
    clear hr h1 h2
    go_enter Tryz.func87, Tryz.ntmps87
    go_wp2
    go_ret
    exact ⟨rfl, by (repeat (first | exact Below.refl _ _ | assumption | refine Below.drew ?_ | refine below_drewN ?_ _ | refine Below.alloc ?_ (by first | omega | (simp; done) | (simp; omega)) _ | refine Below.setCell ?_ (by first | omega | (simp; done) | (simp; omega)) _ | refine below_setRow ?_ (by first | omega | (simp; done) | (simp; omega)) _ ))⟩
end Go.Proofs.YtdimlpcbbkokiaaGreat
