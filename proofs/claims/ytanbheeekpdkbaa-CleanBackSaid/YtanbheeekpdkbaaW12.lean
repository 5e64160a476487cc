/- Walk: Ruled: images of full rows. -/
import Derived.Test.YtanbheeekpdkbaaW3
import Derived.Test.YtanbheeekpdkbaaLib2
import Derived.Deep.DeepCutAuto
import Derived.Deep.Cut
namespace Go.Proofs.Ytanbheeekpdkbaa
open Go.RowKit
set_option linter.unusedVariables false

/-- the place of row number i -/
def ruY (r : Int → Int) : Nat → Int
  | 0 => r 0 % 6
  | i + 1 => ruY r i + (3 + r (i + 1) % 4)
/-- the places of the first m rows -/
def ruL (r : Int → Int) (m : Nat) : List Int := (List.range m).map (ruY r)
theorem ruL_snoc (r : Int → Int) (m : Nat) : ruL r (m + 1) = ruL r m ++ [ruY r m] := by simp [ruL, List.range_succ]
theorem ruY_bd {r : Int → Int} (hr : IsB r) (i : Nat) : 0 ≤ ruY r i ∧ ruY r i ≤ 5 + 6 * i := by
  induction i with
  | zero => have := hr 0; simp only [ruY]; omega
  | succ i ih => have := hr (i + 1); simp only [ruY]; omega
/-- y behind m rows -/
def ruE (r : Int → Int) : Nat → Int
  | 0 => 0
  | m + 1 => ruY r m

def ruM (r : Int → Int) (m : Nat) : List Int := if m = 0 then [2] else ruL r m
def ruYe (r : Int → Int) (m : Nat) : Int := if m = 0 then 2 else ruE r m
theorem ruL_len (r : Int → Int) (m : Nat) : (ruL r m).length = m := by simp [ruL]
theorem ruYe_bd {r : Int → Int} (hr : IsB r) {m : Nat} (hm : m ≤ 12) : 0 ≤ ruYe r m ∧ ruYe r m ≤ 77 := by
  unfold ruYe
  split
  · omega
  · obtain ⟨j, rfl⟩ : ∃ j, m = j + 1 := ⟨m - 1, by omega⟩
    have := ruY_bd hr j
    simp only [ruE]; omega
theorem ruY_mono {r : Int → Int} (hr : IsB r) {i j : Nat} (h : i ≤ j) : ruY r i ≤ ruY r j := by
  induction j with
  | zero => have : i = 0 := by omega
            subst this; exact Int.le_refl _
  | succ j ih =>
    by_cases e : i = j + 1
    · subst e; exact Int.le_refl _
    · have := ih (by omega)
      have := hr ((j + 1 : Nat) : Int)
      simp only [ruY]
      simp only [Int.natCast_add, Int.natCast_one] at this
      omega
theorem ruM_bd {r : Int → Int} (hr : IsB r) {m : Nat} (y : Int) (h : y ∈ ruM r m) : 0 ≤ y ∧ y ≤ ruYe r m := by
  unfold ruM ruYe at *
  split at h
  · rename_i e; rw [if_pos e]; simp at h; omega
  · rename_i e
    rw [if_neg e]
    obtain ⟨i, hi, rfl⟩ := List.mem_map.1 h
    have hi := List.mem_range.1 hi
    obtain ⟨j, rfl⟩ : ∃ j, m = j + 1 := ⟨m - 1, by omega⟩
    exact ⟨(ruY_bd hr i).1, ruY_mono hr (by omega)⟩
theorem getD_lit {l : List Int} {i : Int} (h0 : 0 ≤ i) (hi : i < l.length) : (l.map (Value.int .i64)).getD i.toNat default = .int .i64 (lit l i) := by
  unfold lit
  simp only [List.getD_eq_getElem?_getD, List.getElem?_map]
  rw [List.getElem?_eq_getElem (by omega)]
  simp

/-- the pixels of an image whose full rows are L -/
def ruQ (W : Int) (L : List Int) : Int → Int := fun k => if k / W ∈ L then 1 else 0
def ruP (W : Int) (L : List Int) (t : Nat) (x : Int) : Int → Int := fun k => if k / W ∈ L.take t ∨ (L[t]? = some (k / W) ∧ k % W < x) then 1 else 0
theorem ruP_start {W : Int} (L : List Int) {k : Int} (h0 : 0 ≤ k) (hW : 0 < W) : ruP W L 0 0 k = 0 := by
  have := Int.emod_nonneg k (show W ≠ 0 by omega)
  unfold ruP; rw [if_neg]; simp; intro _; omega
theorem ruP_end (W : Int) (L : List Int) (k : Int) : ruP W L L.length 0 k = ruQ W L k := by
  unfold ruP ruQ; simp
theorem ruP_row {W : Int} {L : List Int} {t : Nat} (ht : t < L.length) {k : Int} (hW : 0 < W) : ruP W L t W k = ruP W L (t + 1) 0 k := by
  unfold ruP
  have h1 := Int.emod_lt_of_pos k hW
  have h2 := Int.emod_nonneg k (show W ≠ 0 by omega)
  rw [List.take_add_one]
  by_cases h : L[t]? = some (k / W)
  · rw [if_pos (.inr ⟨h, h1⟩), if_pos (.inl (by rw [h]; simp))]
  · have e1 : (k / W ∈ L.take t ∨ L[t]? = some (k / W) ∧ k % W < W) ↔ k / W ∈ L.take t := ⟨fun x => x.elim id fun y => absurd y.1 h, .inl⟩
    have e2 : (k / W ∈ L.take t ++ L[t]?.toList ∨ L[t + 1]? = some (k / W) ∧ k % W < 0) ↔ k / W ∈ L.take t := by
      constructor
      · rintro (x | x)
        · rcases List.mem_append.1 x with x | x
          · exact x
          · exfalso; apply h
            cases hh : L[t]? with
            | none => rw [hh] at x; simp at x
            | some v => rw [hh] at x; simp at x; rw [x]
        · omega
      · exact fun x => .inl (List.mem_append.2 (.inl x))
    simp only [e1, e2]
theorem ruP_set {W : Int} {L : List Int} {t : Nat} (ht : t < L.length) {x k : Int} (hx0 : 0 ≤ x) (hx : x < W) :
    upd (ruP W L t x) (lit L t * W + x) 1 k = ruP W L t (x + 1) k := by
  have hL : L[t]? = some (lit L t) := by unfold lit; simp [List.getElem?_eq_getElem ht]
  unfold upd
  by_cases e : k = lit L t * W + x
  · rw [if_pos e]
    unfold ruP
    rw [e, idx_div hx0 hx, idx_mod hx0 hx, if_pos (.inr ⟨hL, by omega⟩)]
  · rw [if_neg e]
    unfold ruP
    have hne : ¬ (lit L t = k / W ∧ k % W = x) := by
      rintro ⟨h1, h2⟩
      have := Int.emod_add_mul_ediv k W
      rw [h2, ← h1, Int.mul_comm] at this
      omega
    rw [hL]
    by_cases c1 : k / W ∈ L.take t
    · rw [if_pos (.inl c1), if_pos (.inl c1)]
    · by_cases c2 : some (lit L t) = some (k / W) ∧ k % W < x
      · rw [if_pos (.inr c2), if_pos (.inr ⟨c2.1, by omega⟩)]
      · rw [if_neg (fun h => h.elim c1 c2), if_neg]
        rintro (h | ⟨h1, h2⟩)
        · exact c1 h
        · have h1' : lit L t = k / W := by simpa using h1
          by_cases h3 : k % W = x
          · exact hne ⟨h1', h3⟩
          · exact c2 ⟨h1, by omega⟩

set_option maxRecDepth 100000 in
set_option maxHeartbeats 2000000 in
theorem ruled_any (wide : Int) (A : Option Addr) (n c : Nat) (r : Int → Int) (w : World) (hA : ArrB w w.heap.size A n r) (hn : n ≤ maxLen) (hnc : n ≤ c) (hr : IsB r) (hw : 0 ≤ wide ∧ wide ≤ 255) :
    Calls Try.prog 11 #[.int .u8 wide, .slice A n c] w (New w fun v w' => OutImg w w' (65 + wide % 96) (ruYe r (min n 12) + 2 + wide % 6) (ruQ (65 + wide % 96) (ruM r (min n 12))) v) := by
  unfold maxLen at hn
  obtain ⟨hw1, hw2⟩ := hw
  obtain ⟨m, hm, hm12, hmn, hme⟩ : ∃ m : Nat, (m : Int) = min (n : Int) 12 ∧ m ≤ 12 ∧ m ≤ n ∧ min n 12 = m := ⟨min n 12, by omega, by omega, by omega, rfl⟩
  rw [hme]; clear hme
  have HM := Lib.hid hm; clear hm
  go_enter Try.func11, Try.ntmps11
  go_upto_region 4 with fail
  go_cut [22, 23, 24] (fun a b s wx => a = .slice A m c ∧ b = .int .i64 m ∧ s = .int .i64 0 ∧ wx = w.alloc (.cells #[.int .i64 0, .int .i64 0, .slice none 0 0] 25))
  case first =>
    by_cases h12 : (n : Int) < 12
    · obtain rfl : m = n := by have := HM.out; omega
      go_wp2_with fail
      go_meet
      exact ⟨rfl, rfl, rfl, rfl⟩
    · obtain rfl : m = 12 := by have := HM.out; omega
      go_wp2_with fail
      · go_meet
        exact ⟨rfl, rfl, rfl, rfl⟩
      · obtain rfl : n = 12 := by omega
        go_meet
        exact ⟨rfl, rfl, rfl, rfl⟩
  case rest =>
    obtain ⟨rfl, rfl, rfl, rfl⟩ := hcut
    have hA' : ArrB w w.heap.size A m r := fun h => by
      obtain ⟨b, off, e, hb, hc⟩ := hA (by omega)
      exact ⟨b, off, e, hb, fun i a b => hc i a (by omega)⟩
    clear hA
    obtain ⟨i0, hi0, hz0, hz1, hz2⟩ := info_parts infoInt
    go_wp2
    go_loopw [6, 7, 24] (fun v y s wr => ∃ i : Nat, i ≤ m ∧ s = .int .i64 i ∧ y = .int .i64 (ruE r i) ∧ wr.ownsRow (w.heap.size + 1) 3 1 v i ((ruL r i).map (Value.int .i64)) ∧
      Below w.heap.size w wr ∧ Blk wr w.heap.size 25 #[.int .i64 0, .int .i64 0, .slice none 0 0] ∧ w.heap.size + 1 ≤ wr.heap.size) (fun _ _ s _ => m - (intOf s).toNat)
    case atStart => exact ⟨0, by omega, rfl, rfl, World.ownsRow_nil _ _ _ _, by (repeat (first | exact Below.refl _ _ | assumption | refine Below.drew ?_ | refine below_drewN ?_ _ | refine Below.alloc ?_ (by first | omega | (simp; done) | (simp; omega)) _ | refine Below.setCell ?_ (by first | omega | (simp; done) | (simp; omega)) _ | refine below_setRow ?_ (by first | omega | (simp; done) | (simp; omega)) _ )), Blk.new _ _ _, by simp⟩
    case round =>
      obtain ⟨i, hi, rfl, rfl, hown, b1, k0, z1⟩ := hrel
      by_cases hlt : i < m
      · have hi0' : (0 : Int) ≤ i := by omega
        obtain ⟨b, off, rfl, hbB, hcell⟩ := ArrB.at_ (ArrB.below hA' b1) hi0' (by omega)
        rw [Int.toNat_natCast] at hcell
        obtain ⟨rb1, rb2⟩ := hr i
        have hlt' : (i : Int) < m := by omega
        have LS := Lib.hid (ruL_snoc r i)
        have EB : 0 ≤ ruE r i ∧ ruE r i ≤ 77 := by
          cases i with
          | zero => simp [ruE]
          | succ j => have := ruY_bd hr j; simp only [ruE]; omega
        obtain ⟨EB1, EB2⟩ := EB
        by_cases h0 : i = 0
        · have hb0 : ((i : Int) == 0) = true := by simp [h0]
          have RT : Hid (ruY r i = r i % 6) := by show _ = _; subst h0; rfl
          clear h0
          go_wp2_with (at_builtin; refine wpList_append_own _ rfl (.tmp 40) (.tmp 42) 52 rfl (w.heap.size + 1) 3 i0 (.int .i64 0) 1 8 Try.underlying52 hi0 hz0 hz1 hz2 rfl (by decide) _ _ _ rfl (hown.alloc _) ⟨wr.heap.size, 0, none⟩ 1 1 [.int .i64 (r i % 6)] rfl rfl ?c1 ?c2 ?c3 ?c4 ?c5 ?_)
          case c1 => exact cell_one_new _ _ _
          case c2 => simp [Value.oneCell']
          case c3 => unfold maxLen; omega
          case c4 => omega
          case c5 => simp; omega
          intro v' w1 hown' hg _
          have b2 : Below w.heap.size w w1 := (show Below w.heap.size w (wr.alloc (.cells #[.int .i64 (r i % 6)] 3)) by (repeat (first | exact Below.refl _ _ | assumption | refine Below.drew ?_ | refine below_drewN ?_ _ | refine Below.alloc ?_ (by first | omega | (simp; done) | (simp; omega)) _ | refine Below.setCell ?_ (by first | omega | (simp; done) | (simp; omega)) _ | refine below_setRow ?_ (by first | omega | (simp; done) | (simp; omega)) _ ))).grown hg (by simp; omega) (fun k hk => by have := (own_ge hown hk).1; omega)
          have k2 := (k0.alloc (.cells #[.int .i64 (r i % 6)] 3)).grown hg (own_ne hown (by omega))
          have z2 := Nat.le_trans (show w.heap.size + 1 ≤ (wr.alloc (.cells #[.int .i64 (r i % 6)] 3)).heap.size by simp; omega) hg.size
          clear b1 k0 hown hg z1
          go_wp2
          go_roundw
          case rel =>
            refine ⟨i + 1, by omega, by go_num, ?_, ?_, b2, k2, z2⟩
            · rw [ruE, RT.out]
            · rw [LS.out, RT.out, List.map_append]; exact hown'
          case measure => simp [intOf]; omega
        · have hb0 : ((i : Int) == 0) = false := by simp; exact h0
          have RT : Hid (ruY r i = ruE r i + (3 + r i % 4)) := by
            show _ = _
            obtain ⟨j, rfl⟩ : ∃ j, i = j + 1 := ⟨i - 1, by omega⟩
            rfl
          clear h0
          go_wp2_with (at_builtin; refine wpList_append_own _ rfl (.tmp 40) (.tmp 42) 52 rfl (w.heap.size + 1) 3 i0 (.int .i64 0) 1 8 Try.underlying52 hi0 hz0 hz1 hz2 rfl (by decide) _ _ _ rfl (hown.alloc _) ⟨wr.heap.size, 0, none⟩ 1 1 [.int .i64 (ruE r i + (3 + r i % 4))] rfl rfl ?c1 ?c2 ?c3 ?c4 ?c5 ?_)
          case c1 => exact cell_one_new _ _ _
          case c2 => simp [Value.oneCell']
          case c3 => unfold maxLen; omega
          case c4 => omega
          case c5 => simp; omega
          intro v' w1 hown' hg _
          have b2 : Below w.heap.size w w1 := (show Below w.heap.size w (wr.alloc (.cells #[.int .i64 (ruE r i + (3 + r i % 4))] 3)) by (repeat (first | exact Below.refl _ _ | assumption | refine Below.drew ?_ | refine below_drewN ?_ _ | refine Below.alloc ?_ (by first | omega | (simp; done) | (simp; omega)) _ | refine Below.setCell ?_ (by first | omega | (simp; done) | (simp; omega)) _ | refine below_setRow ?_ (by first | omega | (simp; done) | (simp; omega)) _ ))).grown hg (by simp; omega) (fun k hk => by have := (own_ge hown hk).1; omega)
          have k2 := (k0.alloc (.cells #[.int .i64 (ruE r i + (3 + r i % 4))] 3)).grown hg (own_ne hown (by omega))
          have z2 := Nat.le_trans (show w.heap.size + 1 ≤ (wr.alloc (.cells #[.int .i64 (ruE r i + (3 + r i % 4))] 3)).heap.size by simp; omega) hg.size
          clear b1 k0 hown hg z1
          go_wp2
          go_roundw
          case rel =>
            refine ⟨i + 1, by omega, by go_num, ?_, ?_, b2, k2, z2⟩
            · rw [ruE, RT.out]
            · rw [LS.out, RT.out, List.map_append]; exact hown'
          case measure => simp [intOf]; omega
      · obtain rfl : i = m := by omega
        obtain ⟨A', c', rfl, hc', harr⟩ := own_arr hown
        have hI : ArrI wr wr.heap.size A' i (lit (ruL r i)) := harr.congr fun j h0 hj => getD_lit h0 (by rw [ruL_len]; exact hj)
        clear hown harr
        go_upto_if 47 with fail
        go_cut [6, 7] (fun v y wx => ∃ A' c', v = .slice A' (ruM r i).length c' ∧ ArrI wx wx.heap.size A' (ruM r i).length (lit (ruM r i)) ∧ y = .int .i64 (ruYe r i) ∧ Below w.heap.size w wx ∧
          Blk wx w.heap.size 25 #[.int .i64 0, .int .i64 0, .slice none 0 0] ∧ w.heap.size + 1 ≤ wx.heap.size)
        case first =>
          by_cases h0 : i = 0
          · have hb0 : ((i : Int) == 0) = true := by simp [h0]
            have R1 : Hid (ruM r i = [2]) := by show _ = _; unfold ruM; rw [if_pos h0]
            have R2 : Hid (ruYe r i = 2) := by show _ = _; unfold ruYe; rw [if_pos h0]
            clear h0
            go_wp2_with fail
            go_meet
            refine ⟨some ⟨wr.heap.size, 0, none⟩, 1, by rw [R1.out]; rfl, ?_, by rw [R2.out], by (repeat (first | exact Below.refl _ _ | assumption | refine Below.drew ?_ | refine below_drewN ?_ _ | refine Below.alloc ?_ (by first | omega | (simp; done) | (simp; omega)) _ | refine Below.setCell ?_ (by first | omega | (simp; done) | (simp; omega)) _ | refine below_setRow ?_ (by first | omega | (simp; done) | (simp; omega)) _ )), k0.alloc _, by simp; omega⟩
            rw [R1.out]
            have : Blk (wr.alloc (.cells #[.int .i64 2] 3)) wr.heap.size 3 (i64s 1 (lit [2])) := by
              have h := Blk.new wr 3 #[.int .i64 2]
              rwa [show #[Value.int .i64 2] = i64s 1 (lit [2]) from i64s_lit (l := [2])] at h
            exact this.arrI (by simp)
          · have hb0 : ((i : Int) == 0) = false := by simp; exact h0
            have R1 : Hid (ruM r i = ruL r i) := by show _ = _; unfold ruM; rw [if_neg h0]
            have R2 : Hid (ruYe r i = ruE r i) := by show _ = _; unfold ruYe; rw [if_neg h0]
            clear h0
            go_wp2_with fail
            go_meet
            exact ⟨A', c', by rw [R1.out, ruL_len], by rw [R1.out, ruL_len]; exact hI, by rw [R2.out], b1, k0, z1⟩
        case rest =>
          obtain ⟨A'', c'', rfl, hI', rfl, b2, k2, z2⟩ := hcut
          clear hI k0 b1 z1 hA' hi0 hz0 hz1 hz2 hmn hi hlt hnc hn
          obtain ⟨yb1, yb2⟩ := ruYe_bd hr hm12
          have AB := area_bd (W := 65 + wide % 96) (H := ruYe r i + 2 + wide % 6) (by omega) (by omega) (by omega) (by omega)
          obtain ⟨ab1, ab2⟩ := AB
          have hmk := makeB ((65 + wide % 96) * (ruYe r i + 2 + wide % 6)) ab1 (by omega)
          have YB := Lib.hid (fun y h => ruM_bd hr (m := i) y h)
          have hLmax : (ruM r i).length ≤ 12 := by unfold ruM; split <;> simp [ruL]; omega
          generalize hYe : ruYe r i = ye at *
          generalize hLe : ruM r i = L at *
          have HYE := Lib.hid hYe; have HLE := Lib.hid hLe; clear hYe hLe
          go_wp2
          generalize hWg : 65 + wide % 96 = W at *
          generalize hHg : ye + 2 + wide % 6 = H at *
          have hW0 : 0 < W := by omega
          have hW1 : W ≤ 160 := by omega
          have hH0 : 0 ≤ H := by omega
          have hH1 : H ≤ 84 := by omega
          have hYH : ye < H := by omega
          have hN : ((W * H).toNat : Int) = W * H := Int.toNat_of_nonneg ab1
          generalize hNe : (W * H).toNat = N at *
          have HN := Lib.hid hN; have HNE := Lib.hid hNe; have HWG := Lib.hid hWg; have HHG := Lib.hid hHg
          clear hN hNe hWg hHg hmk
          have m0 : Below w.heap.size w ((wc.alloc (.cells (u8s N (fun _ => 0)) 5)).alloc (.cells #[.int .i64 W, .int .i64 H, .slice (some ⟨wc.heap.size, 0, none⟩) N N] 25)) := by (repeat (first | exact Below.refl _ _ | assumption | refine Below.drew ?_ | refine below_drewN ?_ _ | refine Below.alloc ?_ (by first | omega | (simp; done) | (simp; omega)) _ | refine Below.setCell ?_ (by first | omega | (simp; done) | (simp; omega)) _ | refine below_setRow ?_ (by first | omega | (simp; done) | (simp; omega)) _ ))
          have m1 := (k2.alloc (.cells (u8s N (fun _ => 0)) 5)).alloc (.cells #[.int .i64 W, .int .i64 H, .slice (some ⟨wc.heap.size, 0, none⟩) N N] 25)
          have m2 := (Blk.new wc 5 (u8s N (fun _ => 0))).alloc (.cells #[.int .i64 W, .int .i64 H, .slice (some ⟨wc.heap.size, 0, none⟩) N N] 25)
          have m3 := Blk.new' (w := wc.alloc (.cells (u8s N (fun _ => 0)) 5)) (World.size_alloc _ _) 25 #[.int .i64 W, .int .i64 H, .slice (some ⟨wc.heap.size, 0, none⟩) N N]
          have hI2 : ArrI ((wc.alloc (.cells (u8s N (fun _ => 0)) 5)).alloc (.cells #[.int .i64 W, .int .i64 H, .slice (some ⟨wc.heap.size, 0, none⟩) N N] 25)) wc.heap.size A'' L.length (lit L) :=
            ArrI.below hI' (by (repeat (first | exact Below.refl _ _ | assumption | refine Below.drew ?_ | refine below_drewN ?_ _ | refine Below.alloc ?_ (by first | omega | (simp; done) | (simp; omega)) _ | refine Below.setCell ?_ (by first | omega | (simp; done) | (simp; omega)) _ | refine below_setRow ?_ (by first | omega | (simp; done) | (simp; omega)) _ )))
          generalize (wc.alloc (.cells (u8s N (fun _ => 0)) 5)).alloc (.cells #[.int .i64 W, .int .i64 H, .slice (some ⟨wc.heap.size, 0, none⟩) N N] 25) = w0 at *
          have m2 := m2.u8conv (r := ruP W L 0 0) fun j h0 _ => (ruP_start L h0 hW0).symm
          clear hI' b2 k2
          go_loopw [68] (fun s wr => ∃ t : Nat, t ≤ L.length ∧ s = .int .i64 t ∧ Below w.heap.size w wr ∧ Blk wr w.heap.size 25 #[.int .i64 0, .int .i64 0, .slice none 0 0] ∧ Blk wr wc.heap.size 5 (u8s N (ruP W L t 0)) ∧
             Blk wr (wc.heap.size + 1) 25 #[.int .i64 W, .int .i64 H, .slice (some ⟨wc.heap.size, 0, none⟩) N N] ∧ Below wc.heap.size w0 wr) (fun s _ => L.length - (intOf s).toNat)
          case atStart => exact ⟨0, by omega, rfl, m0, m1, m2, m3, Below.refl _ _⟩
          case round =>
            obtain ⟨t, ht, rfl, b1, k0, kg, k3, b3⟩ := hrel
            clear m0 m1 m2 m3
            obtain ⟨wo, rfl⟩ : ∃ wo : World, wo = wr := ⟨_, rfl⟩
            by_cases hlt : t < L.length
            · have hlt' : (t : Int) < L.length := by omega
              obtain ⟨b, off, rfl, hbB, hcell⟩ := ArrI.at_ (ArrI.below hI2 b3) (i := (t : Int)) (by omega) hlt'
              rw [Int.toNat_natCast] at hcell
              obtain ⟨y1, y2⟩ := YB.out (lit L t) (by unfold lit; simp [List.getElem?_eq_getElem hlt])
              have SET := Lib.hid (fun x k h0 h1 => ruP_set (W := W) (L := L) (t := t) hlt (x := x) (k := k) h0 h1)
              have ROW := Lib.hid (fun k => ruP_row (W := W) (L := L) (t := t) hlt (k := k) hW0)
              generalize lit L t = at_ at *
              go_wp2
              go_loopw [73] (fun s wr => ∃ x : Int, 0 ≤ x ∧ x ≤ W ∧ s = .int .i64 x ∧ Below w.heap.size w wr ∧ Blk wr w.heap.size 25 #[.int .i64 0, .int .i64 0, .slice none 0 0] ∧ Blk wr wc.heap.size 5 (u8s N (ruP W L t x)) ∧
                 Blk wr (wc.heap.size + 1) 25 #[.int .i64 W, .int .i64 H, .slice (some ⟨wc.heap.size, 0, none⟩) N N] ∧ Below wc.heap.size w0 wr) (fun s _ => (W - intOf s).toNat)
              case atStart => exact ⟨0, by omega, by omega, rfl, b1, k0, kg, k3, b3⟩
              case round =>
                obtain ⟨x, hx0, hx, rfl, c1, l0, lg, l3, c3⟩ := hrel
                clear b1 k0 kg k3 b3 hcell
                by_cases hxW : x < W
                · obtain ⟨i1, i2, i3⟩ := idx_lt (y := at_) (H := H) hx0 hxW y1 (by omega)
                  rw [Int.mul_comm H W] at i2
                  have i4 : at_ * W + x < (N : Int) := by have := HN.out; omega
                  obtain ⟨p1, p2, p3⟩ := l3.cells3
                  have ho := lg.u8at i1 i4
                  have hf := lg.frozen (at_ * W + x).toNat
                  have US := Lib.hid (lg.u8set _ i1 1)
                  go_wp2
                  go_roundw
                  case rel => exact ⟨x + 1, by omega, by omega, by go_num, by (repeat (first | exact Below.refl _ _ | assumption | refine Below.drew ?_ | refine below_drewN ?_ _ | refine Below.alloc ?_ (by first | omega | (simp; done) | (simp; omega)) _ | refine Below.setCell ?_ (by first | omega | (simp; done) | (simp; omega)) _ | refine below_setRow ?_ (by first | omega | (simp; done) | (simp; omega)) _ )), l0.far (by simp; omega) _, US.out.u8conv fun k _ _ => SET.out x k hx0 hxW, l3.far (by simp) _, by (repeat (first | exact Below.refl _ _ | assumption | refine Below.drew ?_ | refine below_drewN ?_ _ | refine Below.alloc ?_ (by first | omega | (simp; done) | (simp; omega)) _ | refine Below.setCell ?_ (by first | omega | (simp; done) | (simp; omega)) _ | refine below_setRow ?_ (by first | omega | (simp; done) | (simp; omega)) _ ))⟩
                  case measure => simp [intOf]; omega
                · obtain rfl : x = W := by omega
                  go_wp2
                  go_roundw
                  case rel => exact ⟨t + 1, by omega, by go_num, c1, l0, lg.u8conv fun k _ _ => ROW.out k, l3, c3⟩
                  case measure => simp [intOf]; omega
            · obtain rfl : t = L.length := by omega
              obtain ⟨p1, p2, p3⟩ := k3.cells3
              obtain ⟨r1, r2, r3⟩ := k0.cells3
              obtain ⟨f1, f2, f3⟩ := k0.frozen3
              go_wp2
              refine bodyPost_ret (v := .agg #[.int .i64 W, .int .i64 H, .slice (some ⟨wc.heap.size, 0, none⟩) N N]) (by simp [results, Try.results11, go_sem, r1, r2, r3]) rfl ?_
              refine ⟨_, rfl, ?_, by (repeat (first | exact Below.refl _ _ | assumption | refine Below.drew ?_ | refine below_drewN ?_ _ | refine Below.alloc ?_ (by first | omega | (simp; done) | (simp; omega)) _ | refine Below.setCell ?_ (by first | omega | (simp; done) | (simp; omega)) _ | refine below_setRow ?_ (by first | omega | (simp; done) | (simp; omega)) _ ))⟩
              rw [HYE.out, HLE.out, HWG.out, HHG.out, ← HNE.out]
              refine OutImg.mk (by omega) ?_
              rw [HNE.out]
              exact (((kg.u8conv fun k _ _ => ruP_end W L k).far (by simp; omega) _).far (by simp; omega) _).far (by simp; omega) _
end Go.Proofs.Ytanbheeekpdkbaa
