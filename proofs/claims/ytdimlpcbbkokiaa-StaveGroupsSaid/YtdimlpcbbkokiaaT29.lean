/- Walks: copies of numbers, of lines and of a stave; staves compared. -/
import Derived.Test.YtdimlpcbbkokiaaT25
import Derived.Test.YtdimlpcbbkokiaaW14
namespace Go.Proofs.Ytdimlpcbbkokiaa
open Go.RowKit Go.Shelf
set_option linter.unusedVariables false
attribute [local go_sem] Oper.semAt_some

/-- k lines of any lengths, a slice each, in memory of the call's own -/
structure FoundM (B : Nat) (w : World) (m : Nat → Nat) (ln : Nat → Nat → Int) (k : Nat) (vo : Value) (v : Nat → Value) : Prop where
  row : w.ownsRow B 25 1 vo k ((List.range k).map v)
  lines : ∀ i, i < k → w.ownsRow B 3 1 (v i) (m i) ((List.range (m i)).map fun j => Value.int .i64 (ln i j))
section
variable {B : Nat} {w w' : World} {m : Nat → Nat} {ln : Nat → Nat → Int} {k : Nat} {vo : Value} {v : Nat → Value}
theorem FoundM.below (h : FoundM B w m ln k vo v) (hb : Below w.heap.size w w') : FoundM B w' m ln k vo v :=
  ⟨own_below h.row hb, fun i hi => own_below (h.lines i hi) hb⟩
theorem FoundM.drew (h : FoundM B w m ln k vo v) : FoundM B w.drew m ln k vo v := ⟨h.row, h.lines⟩
theorem FoundM.base {B' : Nat} (h : FoundM B w m ln k vo v) (hB : B' ≤ B) : FoundM B' w m ln k vo v := ⟨own_base h.row hB, fun i hi => own_base (h.lines i hi) hB⟩
theorem FoundM.nil (w : World) (B : Nat) (m : Nat → Nat) (ln : Nat → Nat → Int) (v : Nat → Value) : FoundM B w m ln 0 (.slice none 0 0) v := ⟨World.ownsRow_nil _ _ _ _, fun i hi => by omega⟩
theorem FoundM.snoc {vo' u : Value} (h : FoundM B w m ln k vo v) (hu : w.ownsRow B 3 1 u (m k) ((List.range (m k)).map fun j => Value.int .i64 (ln k j)))
    (hg : w.grownBy w' vo.ownBlock) (hr : w'.ownsRow B 25 1 vo' (k + 1) ((List.range k).map v ++ [u])) : FoundM B w' m ln (k + 1) vo' (fun i => if i = k then u else v i) := by
  refine ⟨?_, fun i hi => ?_⟩
  · rw [range_snoc]
    simp only [if_true]
    rw [show (List.range k).map (fun i => if i = k then u else v i) = (List.range k).map v from List.map_congr_left fun i hi => by rw [if_neg]; have := List.mem_range.1 hi; omega]
    exact hr
  · show World.ownsRow _ _ _ _ (if i = k then _ else v i) _ _
    by_cases e : i = k
    · subst e
      rw [if_pos rfl]
      exact own_grown hu h.row (by decide) hg
    · rw [if_neg e]
      exact own_grown (h.lines i (by omega)) h.row (by decide) hg
theorem FoundM.toLines (h : FoundM B w m ln k vo v) : ∃ A c, vo = .slice A k c ∧ k ≤ c ∧ (A = none → c = 0) ∧ Lines w w.heap.size A k m ln := by
  have hn : ∀ A c, vo = .slice A k c → A = none → c = 0 := by
    rintro A c e rfl
    rcases h.row.2 with ⟨h2, _⟩ | ⟨g, cap, cur, h2, _⟩
    · rw [e] at h2; simp at h2; exact h2.2
    · rw [e] at h2; simp at h2
  obtain ⟨A, c, e, hc, ha⟩ := own_arr h.row
  refine ⟨A, c, e, hc, hn A c e, v, Arr.congr ha fun i i0 i1 => ?_, fun i hi => ?_⟩
  · rw [List.getD_eq_getElem?_getD, List.getElem?_map, List.getElem?_range (by omega)]; rfl
  · obtain ⟨A', c', e', ha'⟩ := own_arrI (h.lines i hi)
    exact ⟨A', c', e', ha'⟩
end
/-- lines that came in, with what a nil one is -/
def LinesZ (w : World) (B : Nat) (A : Option Addr) (K : Nat) (m : Nat → Nat) (ln : Nat → Nat → Int) : Prop :=
  ∃ vs : Nat → Value, Arr w B A K (fun j => vs j.toNat) ∧ ∀ i, i < K → ∃ A' c', vs i = .slice A' (m i) c' ∧ (A' = none → c' = 0) ∧ ArrI w B A' (m i) (fun j => ln i j.toNat)
section
variable {B : Nat} {w w' : World} {m : Nat → Nat} {ln : Nat → Nat → Int} {K : Nat} {A : Option Addr}
theorem LinesZ.lines (h : LinesZ w B A K m ln) : Lines w B A K m ln := by
  obtain ⟨vs, h1, h2⟩ := h
  exact ⟨vs, h1, fun i hi => by obtain ⟨A', c', e, -, ha⟩ := h2 i hi; exact ⟨A', c', e, ha⟩⟩
theorem LinesZ.below (h : LinesZ w w.heap.size A K m ln) (hb : Below w.heap.size w w') : LinesZ w' w'.heap.size A K m ln := by
  obtain ⟨vs, h1, h2⟩ := h
  exact ⟨vs, (Arr.below h1 hb).more hb.size, fun i hi => by obtain ⟨A', c', e, hz, ha⟩ := h2 i hi; exact ⟨A', c', e, hz, ha.to hb⟩⟩
theorem LinesZ.at_ (h : LinesZ w B A K m ln) {i : Nat} (hi : i < K) :
    ∃ b off A' c', A = some ⟨b, off, none⟩ ∧ b < B ∧ w.cell? ⟨b, off + i, none⟩ = some (.slice A' (m i) c') ∧ (A' = none → c' = 0) ∧ ArrI w B A' (m i) (fun j => ln i j.toNat) := by
  obtain ⟨vs, h1, h2⟩ := h
  obtain ⟨b, off, e, hb, hc⟩ := Arr.at_ h1 (i := (i : Int)) (by omega) (by omega)
  rw [Int.toNat_natCast] at hc
  obtain ⟨A', c', e', hz, ha⟩ := h2 i hi
  exact ⟨b, off, A', c', e, hb, by rw [hc, e'], hz, ha⟩
end

set_option maxRecDepth 100000 in
set_option maxHeartbeats 400000 in
theorem copyInts_any (A : Option Addr) (n c : Nat) (q : Nat → Int) (w : World) (hA : ArrI w w.heap.size A n (fun j => q j.toNat)) (hc : A = none → c = 0) (hn : n ≤ 17592186044416) :
    Calls Try.prog 75 #[.slice A n c] w (New w fun v w' => w'.ownsRow w.heap.size 3 1 v n ((List.range n).map fun j => Value.int .i64 (q j))) := by
  obtain ⟨i0, hi0, hz0, hz1, hz2⟩ := info_parts infoInt
  have hnil := World.ownsRow_nil w w.heap.size 3 1
  cases A with
  | none =>
    have hn0 : n = 0 := by
      rcases Nat.eq_zero_or_pos n with h | h
      · exact h
      · obtain ⟨b, off, e, _⟩ := hA h; cases e
    subst hn0
    obtain rfl := hc rfl
    go_enter Try.func75, Try.ntmps75
    go_wp2_with (at_builtin; refine wpList_append_own_none rfl (.tmp 4) (.tmp 5) 25 rfl w.heap.size 3 i0 1 Try.underlying25 hi0 _ 0 [] rfl hnil rfl ?_)
    go_ret
    exact ⟨_, rfl, hnil, Below.refl _ _⟩
  | some ad =>
    go_enter Try.func75, Try.ntmps75
    go_wp2_with (at_builtin; refine wpList_append_own _ rfl (.tmp 4) (.tmp 5) 25 rfl w.heap.size 3 i0 (.int .i64 0) 1 8 Try.underlying25 hi0 hz0 hz1 hz2 rfl (by decide) _ 0 [] rfl hnil ad n c ((List.range n).map (fun (j : Nat) => Value.int .i64 (q j))) rfl (by simp) ?c1 ?c2 ?c3 ?c4 (Nat.le_refl _) ?_)
    case c1 =>
      intro j u hj
      have hjn : j < n := by
        rcases Nat.lt_or_ge j n with h | h
        · exact h
        · rw [List.getElem?_eq_none (by simpa using h)] at hj; cases hj
      obtain ⟨b, off, e, _, hcell⟩ := hA (by omega)
      injection e with e; subst e
      have := hcell j (by omega) (by omega)
      simp [hjn] at hj
      subst hj
      rw [Int.toNat_natCast] at this
      unfold Addr.add
      split
      · rename_i e; subst e; exact this
      · exact this
    case c2 => intro u hu; simp at hu; obtain ⟨j, _, rfl⟩ := hu; rfl
    case c3 => unfold maxLen; omega
    case c4 => omega
    intro v' w1 hown' hg _
    go_wp2
    go_ret
    refine ⟨_, rfl, ?_, (Below.refl _ _).grown hg (Nat.le_refl _) (fun k hk => by simp [Value.ownBlock] at hk)⟩
    try rw [Nat.zero_add, List.nil_append] at hown'
    exact hown'

set_option maxRecDepth 100000 in
set_option maxHeartbeats 2000000 in
theorem copyLists_any (A : Option Addr) (K c : Nat) (m : Nat → Nat) (ln : Nat → Nat → Int) (w : World) (hL : LinesZ w w.heap.size A K m ln) (hK : K ≤ 100000) (hm : ∀ i, i < K → m i ≤ 17592186044416) :
    Calls Try.prog 33 #[.slice A K c] w (New w fun v w' => ∃ vs, FoundM w.heap.size w' m ln K v vs) := by
  obtain ⟨i0, hi0, hz0, hz1, hz2⟩ := info_parts infoInts
  have CI := Lib.hid fun i (hi : i < K) A' c' w' hA' hc' => copyInts_any A' (m i) c' (ln i) w' hA' hc' (hm i hi)
  go_enter Try.func33, Try.ntmps33
  go_wp2
  go_loopw [3, 4] (fun vo s wr => ∃ (k : Nat) (v : Nat → Value), k ≤ K ∧ s = .int .i64 k ∧ FoundM w.heap.size wr m ln k vo v ∧ Below w.heap.size w wr) (fun _ s _ => K - (intOf s).toNat)
  case atStart => exact ⟨0, fun _ => .slice none 0 0, by omega, rfl, FoundM.nil _ _ _ _ _, Below.refl _ _⟩
  case round =>
    obtain ⟨k, v, hk, rfl, hF, b1⟩ := hrel
    obtain ⟨Ao, co, rfl, -, -⟩ := own_arr hF.row
    by_cases hlt : (k : Int) < K
    · obtain ⟨b, off, A', c', rfl, hb, hc, hz, ha⟩ := hL.at_ (i := k) (by omega)
      have hc1 := (b1.cell (p := ⟨b, off + k, none⟩) hb).trans hc
      have CIk := Lib.hid (CI.out k (by omega) A' c' wr ((ha.below b1).more b1.size) hz)
      have z1 := b1.size
      clear hc ha hz
      go_wp2_with fail
      refine CIk.out.mono ?_
      rintro e w2 ⟨u, rfl, own2, hb2⟩
      obtain ⟨Au, cu, rfl, -, -⟩ := own_arr own2
      have F2 := hF.below hb2
      have b2 := below_call b1 b1.size hb2
      have z2 := b2.size
      clear hF hb2 hc1
      go_wp2_with (at_builtin; refine wpList_append_own _ rfl (.tmp 11) (.tmp 17) 34 rfl w.heap.size 25 i0 (.slice none 0 0) 1 24 Try.underlying34 hi0 hz0 hz1 hz2 rfl (by decide) _ _ _ rfl (F2.row.alloc _) ⟨w2.heap.size, 0, none⟩ 1 1 [.slice Au (m k) cu] rfl rfl ?c1 ?c2 ?c3 ?c4 ?c5 ?_)
      try case c1 => exact cell_one_new _ _ _
      try case c2 => simp [Value.oneCell']
      try case c3 => unfold maxLen; omega
      try case c4 => omega
      try case c5 => first | omega | (simp; done) | (simp; omega)
      intro v' w7 own7 hg7 _
      have F7 := (F2.below ((Below.refl _ _).alloc (Nat.le_refl _) (.cells #[.slice Au (m k) cu] 25))).snoc ((own_base own2 z1).alloc _) hg7 own7
      have b7 : Below w.heap.size w w7 := (b2.alloc z2 (.cells #[.slice Au (m k) cu] 25)).grown hg7 (by simp; omega) (fun j hj => (own_ge F2.row hj).1)
      clear own7 hg7 F2 b2 b1
      go_wp2
      go_roundw
      case rel => exact ⟨k + 1, _, by omega, by go_num, F7, b7⟩
      case measure => simp [intOf]; omega
    · obtain rfl : K = k := by omega
      go_wp2
      go_ret
      exact ⟨_, rfl, ⟨_, hF⟩, b1⟩
/-- a stave over fresh lines -/
theorem copyStave_any (A : Option Addr) (K c : Nat) (m : Nat → Nat) (ln : Nat → Nat → Int) (w : World) (hL : LinesZ w w.heap.size A K m ln) (hK : K ≤ 100000) (hm : ∀ i, i < K → m i ≤ 17592186044416) :
    Calls Try.prog 37 #[.agg #[.slice A K c]] w (New w fun v w' => ∃ vo vs, v = .agg #[vo] ∧ FoundM w.heap.size w' m ln K vo vs) := by
  have CL := Lib.hid fun w' hL' => copyLists_any A K c m ln w' hL' hK hm
  have b1 : Below w.heap.size w ((w.alloc (.cells #[.slice A K c] 54)).alloc (.cells #[.slice none 0 0] 54)) := by (repeat (first | exact Below.refl _ _ | assumption | refine Below.drew ?_ | refine below_drewN ?_ _ | refine Below.alloc ?_ (by first | omega | (simp; done) | (simp; omega)) _ | refine Below.setCell ?_ (by first | omega | (simp; done) | (simp; omega)) _ | refine below_setRow ?_ (by first | omega | (simp; done) | (simp; omega)) _ ))
  have k1 : Blk ((w.alloc (.cells #[.slice A K c] 54)).alloc (.cells #[.slice none 0 0] 54)) w.heap.size 54 #[.slice A K c] := (Blk.new _ _ _).alloc _
  have k2 : Blk ((w.alloc (.cells #[.slice A K c] 54)).alloc (.cells #[.slice none 0 0] 54)) (w.heap.size + 1) 54 #[.slice none 0 0] := Blk.new' (by simp) _ _
  have r1 := k1.at0
  go_enter Try.func37, Try.ntmps37
  go_wp2_with fail
  generalize (w.alloc (.cells #[.slice A K c] 54)).alloc (.cells #[.slice none 0 0] 54) = w1 at *
  refine (CL.out _ (hL.below b1)).mono ?_
  rintro e w2 ⟨v, rfl, ⟨vs, hF⟩, hb2⟩
  have b2 := below_call b1 b1.size hb2
  have k3 := k2.below' hb2
  have q1 := k3.at0
  have q2 := k3.frozen 0
  have zz := b1.size
  obtain ⟨Ao, co, rfl, -, -⟩ := own_arr hF.row
  have F3 : FoundM w.heap.size (w2.setCell ⟨w.heap.size + 1, 0, none⟩ (.slice Ao K co)) m ln K (.slice Ao K co) vs :=
    ⟨own_far (own_base hF.row zz) k3 (by decide) _ _, fun i hi => own_far (own_base (hF.lines i hi) zz) k3 (by decide) _ _⟩
  clear hF
  have k4 := (k3.set_ 0 (.slice Ao K co)).at0
  go_wp2
  refine bodyPost_ret (v := .agg #[.slice Ao K co]) (by simp [results, Try.results37, go_sem, k4]) rfl ?_
  exact ⟨_, rfl, ⟨_, vs, rfl, F3⟩, b2.setCell (by show w.heap.size ≤ w.heap.size + 1; omega) _⟩
set_option maxHeartbeats 1000000 in
theorem sameStave_any (A B : Option Addr) (n m c d : Nat) (mA mB : Nat → Nat) (a b : Nat → Nat → Int) (w : World) (hA : Lines w w.heap.size A n mA a) (hB : Lines w w.heap.size B m mB b) (hn : n ≤ maxLen) (hm : m ≤ maxLen) (hmA : ∀ i, i < n → mA i ≤ maxLen) (hmB : ∀ i, i < m → mB i ≤ maxLen) :
    Calls Try.prog 40 #[.agg #[.slice A n c], .agg #[.slice B m d]] w fun e w' => e = .returned (.bool (sameL n m mA mB a b)) ∧ Below w.heap.size w w' := by
  have b1 : Below w.heap.size w ((w.alloc (.cells #[.slice A n c] 54)).alloc (.cells #[.slice B m d] 54)) := by (repeat (first | exact Below.refl _ _ | assumption | refine Below.drew ?_ | refine below_drewN ?_ _ | refine Below.alloc ?_ (by first | omega | (simp; done) | (simp; omega)) _ | refine Below.setCell ?_ (by first | omega | (simp; done) | (simp; omega)) _ | refine below_setRow ?_ (by first | omega | (simp; done) | (simp; omega)) _ ))
  have SL := Lib.hid (sameLists_any A B n m c d mA mB a b _ (hA.below b1) (hB.below b1) hn hm hmA hmB)
  have r1 : ((w.alloc (.cells #[.slice A n c] 54)).alloc (.cells #[.slice B m d] 54)).cell? ⟨w.heap.size, 0, none⟩ = some (.slice A n c) := ((Blk.new w 54 #[.slice A n c]).alloc _).at0
  have r2 : ((w.alloc (.cells #[.slice A n c] 54)).alloc (.cells #[.slice B m d] 54)).cell? ⟨w.heap.size + 1, 0, none⟩ = some (.slice B m d) := (Blk.new' (by simp) _ _).at0
  go_enter Try.func40, Try.ntmps40
  go_wp2_with fail
  refine SL.out.mono ?_
  rintro e w2 ⟨rfl, nq, rfl⟩
  go_wp2
  go_ret
  exact ⟨rfl, below_drewN b1 _⟩
end Go.Proofs.Ytdimlpcbbkokiaa
