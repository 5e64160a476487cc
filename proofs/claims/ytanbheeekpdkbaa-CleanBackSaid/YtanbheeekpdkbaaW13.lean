/- Walk: CleanStraight. -/
import Derived.Test.YtanbheeekpdkbaaW11
import Derived.Test.YtanbheeekpdkbaaW12
namespace Go.Proofs.Ytanbheeekpdkbaa
open Go.RowKit
set_option linter.unusedVariables false

/-! ### the best skew, in plain numbers -/
def absI (x : Int) : Int := if x < 0 then -x else x
def L7 : List Int := [0, 1, -1, 2, -2, 3, -3]
theorem fsL_spec (f : Int → Int) (l : List Int) : (∀ k ∈ l, f k ≤ (fsL f l).2) ∧ -1 ≤ (fsL f l).2 ∧
    ((fsL f l).2 = -1 ∨ ∃ pre post, l = pre ++ (fsL f l).1 :: post ∧ f (fsL f l).1 = (fsL f l).2 ∧ ∀ k ∈ pre, f k < (fsL f l).2) := by
  suffices H : ∀ r : List Int, (∀ k ∈ r.reverse, f k ≤ (fsL f r.reverse).2) ∧ -1 ≤ (fsL f r.reverse).2 ∧
      ((fsL f r.reverse).2 = -1 ∨ ∃ pre post, r.reverse = pre ++ (fsL f r.reverse).1 :: post ∧ f (fsL f r.reverse).1 = (fsL f r.reverse).2 ∧ ∀ k ∈ pre, f k < (fsL f r.reverse).2) by
    have := H l.reverse
    rwa [List.reverse_reverse] at this
  intro r
  induction r with
  | nil => simp [fsL]
  | cons x r ih =>
    rw [List.reverse_cons, fsL_snoc]
    generalize r.reverse = s at *
    obtain ⟨h1, h2, h3⟩ := ih
    generalize fsL f s = q at *
    unfold fsStep
    by_cases hx : q.2 < f x
    · rw [if_pos hx]
      refine ⟨fun k hk => ?_, by simp only; omega, .inr ⟨s, [], rfl, rfl, fun k hk => by have := h1 k hk; simp only; omega⟩⟩
      simp only
      rcases List.mem_append.1 hk with hk | hk
      · have := h1 k hk; omega
      · have : k = x := by simpa using hk
        subst this; exact Int.le_refl _
    · rw [if_neg hx]
      refine ⟨fun k hk => ?_, h2, ?_⟩
      · rcases List.mem_append.1 hk with hk | hk
        · exact h1 k hk
        · have : k = x := by simpa using hk
          subst this; omega
      · rcases h3 with h3 | ⟨pre, post, e, e2, e3⟩
        · exact .inl h3
        · exact .inr ⟨pre, post ++ [x], by rw [e]; simp, e2, e3⟩
theorem L7_order {pre post : List Int} {b k : Int} (h : L7 = pre ++ b :: post) (hk : k ∈ L7) (hp : k ∉ pre) : absI b < absI k ∨ absI b = absI k ∧ k ≤ b := by
  have hlen : pre.length + (post.length + 1) = 7 := by
    have := congrArg List.length h
    simpa [L7] using this.symm
  have hb : L7[pre.length]? = some b := by rw [h]; simp
  have hpre : pre = L7.take pre.length := by rw [h]; simp
  rw [hpre] at hp
  generalize pre.length = j at *
  have hj : j < 7 := by omega
  clear h hpre hlen
  unfold L7 at *
  match j, hj with
  | 0, _ | 1, _ | 2, _ | 3, _ | 4, _ | 5, _ | 6, _ => simp at hb hk hp; subst hb; unfold absI; rcases hk with rfl | rfl | rfl | rfl | rfl | rfl | rfl <;> simp_all
theorem best_ok {f : Int → Int} (h0 : -1 < f 0) (hf : ∀ k, -1 ≤ f k) : f (fsL f L7).1 = (fsL f L7).2 ∧ (fsL f L7).1 ∈ L7 ∧ -1 < (fsL f L7).2 ∧
    ∀ k ∈ L7, f k ≤ (fsL f L7).2 ∧ (f k = (fsL f L7).2 → absI (fsL f L7).1 < absI k ∨ absI (fsL f L7).1 = absI k ∧ k ≤ (fsL f L7).1) := by
  obtain ⟨h1, h2, h3⟩ := fsL_spec f L7
  have h4 : f 0 ≤ (fsL f L7).2 := h1 0 (by simp [L7])
  rcases h3 with h3 | ⟨pre, post, e, e2, e3⟩
  · omega
  · have hmem : ∀ b, L7 = pre ++ b :: post → b ∈ L7 := fun b h => by rw [h]; simp
    refine ⟨e2, hmem _ e, by omega, fun k hk => ⟨h1 k hk, fun he => L7_order e hk fun hp => ?_⟩⟩
    have := e3 k hp
    omega
theorem mem_L7 {k : Int} : k ∈ L7 ↔ -3 ≤ k ∧ k ≤ 3 := by
  unfold L7; simp; omega

theorem xor1_0 : bits .xor .u8 0 1 = 1 := by decide
theorem xor1_1 : bits .xor .u8 1 1 = 0 := by decide
def ArrU (w : World) (B : Nat) (A : Option Addr) (n : Nat) (q : Int → Int) : Prop := Arr w B A n fun j => .int .u16 (q j)
theorem ruQ_01 (W : Int) (L : List Int) (i : Int) : ruQ W L i = 0 ∨ ruQ W L i = 1 := by unfold ruQ; split <;> simp

theorem movE_mk {W H : Int} {n : Nat} {p : Int → Int} {k way : Int} (hc : chk W H n p = 0) (h1 : -3 ≤ k) (h2 : k ≤ 3) (h3 : 0 ≤ H + way * grt W k) (h4 : H + way * grt W k ≤ 640) : movE W H n p k way = 0 := by
  unfold movE
  rw [if_neg (by omega), if_neg (by omega), if_neg (by omega)]
theorem isB_01 {q : Int → Int} (h : ∀ i, q i = 0 ∨ q i = 1) : IsB q := fun i => by rcases h i with e | e <;> rw [e] <;> omega
theorem grt_0 (W : Int) : grt W 0 = 0 := by unfold grt; simp
theorem fsN_ok {W H : Int} {n : Nat} {p : Int → Int} {k : Int} : -1 < fsN W H n p k ↔ movE W H n p k (-1) = 0 := by
  unfold fsN
  by_cases h : movE W H n p k (-1) = 0
  · rw [if_pos h]
    have := fullP_bd W (W * (H - grt W k)).toNat (H - grt W k).toNat (movQ W H p k (-1))
    unfold fullS
    simp only [h, iff_true]; omega
  · rw [if_neg h]; simp [h]
structure CsR (w : World) (W H : Int) (N g B9 : Nat) (q : Int → Int) (wr : World) : Prop where
  bl : Below w.heap.size w wr
  k9 : Blk wr B9 25 #[.int .i64 W, .int .i64 H, .slice (some ⟨g, 0, none⟩) N N]
  kg : Blk wr g 5 (u8s N q)
  hq : ∀ i, q i = 0 ∨ q i = 1

set_option maxRecDepth 100000 in
set_option maxHeartbeats 4000000 in
theorem cleanStraight_any (wide skew : Int) (A C : Option Addr) (n c m d : Nat) (r ch : Int → Int) (w : World) (hA : ArrB w w.heap.size A n r) (hn : n ≤ maxLen) (hnc : n ≤ c) (hr : IsB r) (hw : 0 ≤ wide ∧ wide ≤ 255) (hs : 0 ≤ skew ∧ skew ≤ 255)
    (hC : ArrU w w.heap.size C m ch) (hm : m ≤ maxLen) (hmd : m ≤ d) (hch : ∀ i, 0 ≤ ch i ∧ ch i ≤ 65535) :
    Calls Try.prog 3 #[.int .u8 wide, .slice A n c, .slice C m d, .int .u8 skew] w fun e w' => e = .returned (.bool true) ∧ Below w.heap.size w w' := by
  unfold maxLen at hm
  obtain ⟨hs1, hs2⟩ := hs
  obtain ⟨l, hl, hl60, hlm⟩ : ∃ l : Nat, (l : Int) = min (m : Int) 60 ∧ l ≤ 60 ∧ l ≤ m := ⟨min m 60, by omega, by omega, by omega⟩
  have HL := Lib.hid hl; clear hl
  have RA := Lib.hid fun w' hA' => ruled_any wide A n c r w' hA' hn hnc hr hw
  have yb := ruYe_bd hr (m := min n 12) (by omega)
  obtain ⟨W, hW⟩ : ∃ W, W = 65 + wide % 96 := ⟨_, rfl⟩
  obtain ⟨H, hH⟩ : ∃ H, H = ruYe r (min n 12) + 2 + wide % 6 := ⟨_, rfl⟩
  obtain ⟨q0, hq0⟩ : ∃ q, q = ruQ (65 + wide % 96) (ruM r (min n 12)) := ⟨_, rfl⟩
  have Q0 : ∀ i, q0 i = 0 ∨ q0 i = 1 := fun i => by rw [hq0]; exact ruQ_01 _ _ i
  rw [← hW, ← hH, hW, ← hq0, ← hW] at RA
  obtain ⟨hw1, hw2⟩ := hw
  have hW1 : 65 ≤ W ∧ W ≤ 160 := by omega
  have hH1 : 2 ≤ H ∧ H ≤ 84 := by omega
  obtain ⟨hW1, hW2⟩ := hW1
  obtain ⟨hH1, hH2⟩ := hH1
  have hAr := area_bd (W := W) (H := H) (by omega) (by omega) (by omega) (by omega)
  have hAr0 : 130 ≤ W * H := Int.le_trans (by decide) (Int.mul_le_mul hW1 hH1 (by decide) (by omega) : (65 : Int) * 2 ≤ W * H)
  have hN : ((W * H).toNat : Int) = W * H := Int.toNat_of_nonneg hAr.1
  generalize hNe : (W * H).toNat = N at *
  clear hW hH hq0 yb
  have HN := Lib.hid hN; have HNE := Lib.hid hNe
  have hN1 : 130 ≤ N ∧ N ≤ 409600 := by omega
  obtain ⟨hN1, hN2⟩ := hN1
  clear hN hNe hAr0 hAr
  go_enter Try.func3, Try.ntmps3
  go_wp2_with fail
  refine (RA.out _ hA).mono ?_
  rintro e w1 ⟨_, rfl, ⟨g, rfl, hg, kg⟩, hb1⟩
  rw [HNE.out] at kg
  simp only [HNE.out]
  have zg := kg.lt
  have m0 : CsR w W H N g w1.heap.size q0 (w1.alloc (.cells #[.int .i64 W, .int .i64 H, .slice (some ⟨g, 0, none⟩) N N] 25)) := ⟨by (repeat (first | exact Below.refl _ _ | assumption | refine Below.drew ?_ | refine below_drewN ?_ _ | refine Below.alloc ?_ (by first | omega | (simp; done) | (simp; omega)) _ | refine Below.setCell ?_ (by first | omega | (simp; done) | (simp; omega)) _ | refine below_setRow ?_ (by first | omega | (simp; done) | (simp; omega)) _ )), Blk.new _ _ _, kg.alloc _, Q0⟩
  have z1 : w.heap.size ≤ w1.heap.size := hb1.size
  clear hb1 kg
  go_upto_region 2 with fail
  generalize w1.alloc (.cells #[.int .i64 W, .int .i64 H, .slice (some ⟨g, 0, none⟩) N N] 25) = w2 at *
  go_cut [33, 34, 35] (fun a b s wx => a = .slice C l d ∧ b = .int .i64 l ∧ s = .int .i64 0 ∧ wx = w2)
  case first =>
    by_cases h60 : (m : Int) < 60
    · obtain rfl : l = m := by have := HL.out; omega
      go_wp2_with fail
      go_meet
      exact ⟨rfl, rfl, rfl, rfl⟩
    · obtain rfl : l = 60 := by have := HL.out; omega
      go_wp2_with fail
      · go_meet
        exact ⟨rfl, rfl, rfl, rfl⟩
      · obtain rfl : m = 60 := by omega
        go_meet
        exact ⟨rfl, rfl, rfl, rfl⟩
  case rest =>
    obtain ⟨rfl, rfl, rfl, rfl⟩ := hcut
    go_wp2
    generalize w1.heap.size = B9 at *
    go_loopw [35] (fun s wr => ∃ (i : Nat) (q : Int → Int), i ≤ l ∧ s = .int .i64 i ∧ CsR w W H N g B9 q wr) (fun s _ => l - (intOf s).toNat)
    case atStart => exact ⟨0, q0, by omega, rfl, m0⟩
    case round =>
      obtain ⟨i, q, hi, rfl, m1⟩ := hrel
      clear m0
      obtain ⟨p1, p2, p3⟩ := m1.k9.cells3
      by_cases hlt : i < l
      · have hlt' : (i : Int) < l := by omega
        obtain ⟨b, off, rfl, hbB, hcell⟩ := Arr.at_ (Arr.below hC m1.bl) (i := (i : Int)) (by omega) (by omega)
        rw [Int.toNat_natCast] at hcell
        obtain ⟨c1, c2⟩ := hch i
        have j1 : 0 ≤ ch i % N := Int.emod_nonneg _ (by omega)
        have j2 : ch i % N < N := Int.emod_lt_of_pos _ (by omega)
        have ho := m1.kg.u8at j1 j2
        have hf := m1.kg.frozen (ch i % N).toNat
        have hN0 : ¬ N = 0 := by omega
        have hN0' : ¬ (N : Int) = 0 := by omega
        have tm : (ch i).tmod N = ch i % N := Int.tmod_eq_emod_of_nonneg c1
        have v1 : IntKind.i64.wrap (ch i) = ch i := IntWalk.i64_in _ (by omega)
        have U0 := Lib.hid (m1.kg.u8set _ j1 0)
        have U1 := Lib.hid (m1.kg.u8set _ j1 1)
        rcases m1.hq (ch i % N) with e | e
        · rw [e] at ho
          have E := Lib.hid e; clear e
          go_wp2
          go_still_tail 12, (by kernel_rfl)
          change wpList _ _ _ _ _ wr.drew
          clear v1 tm
          go_wp2
          go_roundw
          case rel => exact ⟨i + 1, _, by omega, by go_num, by have := m1.bl; (repeat (first | exact Below.refl _ _ | assumption | refine Below.drew ?_ | refine below_drewN ?_ _ | refine Below.alloc ?_ (by first | omega | (simp; done) | (simp; omega)) _ | refine Below.setCell ?_ (by first | omega | (simp; done) | (simp; omega)) _ | refine below_setRow ?_ (by first | omega | (simp; done) | (simp; omega)) _ )), m1.k9.far (by simp; omega) _, U1.out, fun j => by unfold upd; split; exact .inr rfl; exact m1.hq j⟩
          case measure => simp [intOf]; omega
        · rw [e] at ho
          have E := Lib.hid e; clear e
          go_wp2
          go_still_tail 12, (by kernel_rfl)
          change wpList _ _ _ _ _ wr.drew
          clear v1 tm
          go_wp2
          go_roundw
          case rel => exact ⟨i + 1, _, by omega, by go_num, by have := m1.bl; (repeat (first | exact Below.refl _ _ | assumption | refine Below.drew ?_ | refine below_drewN ?_ _ | refine Below.alloc ?_ (by first | omega | (simp; done) | (simp; omega)) _ | refine Below.setCell ?_ (by first | omega | (simp; done) | (simp; omega)) _ | refine below_setRow ?_ (by first | omega | (simp; done) | (simp; omega)) _ )), m1.k9.far (by simp; omega) _, U0.out, fun j => by unfold upd; split; exact .inl rfl; exact m1.hq j⟩
          case measure => simp [intOf]; omega
      · obtain rfl : i = l := by omega
        clear hC HL hlt hi hlm hl60
        obtain ⟨k, hk⟩ : ∃ k, skew % 7 - 3 = k := ⟨_, rfl⟩
        have hk1 : -3 ≤ k ∧ k ≤ 3 := by omega
        obtain ⟨hk1, hk2⟩ := hk1
        have hgk := grt_bd (W := W) (k := k) (by omega) (by omega) hk1 hk2
        obtain ⟨h, hh⟩ : ∃ h, h = H + grt W k := ⟨_, rfl⟩
        have hh1 : 2 ≤ h ∧ h ≤ 113 := by omega
        obtain ⟨hh1, hh2⟩ := hh1
        have hq2 := isB_01 m1.hq
        have hC1 : chk W H N q = 0 := chk_mk (by omega) (by omega) (by omega) (by omega) HN.out fun i _ _ => by rcases m1.hq i with e | e <;> rw [e] <;> omega
        have hE : movE W H N q k 1 = 0 := movE_mk hC1 hk1 hk2 (by omega) (by omega)
        have hC2 := chk_mov hE (by omega : h = H + 1 * grt W k)
        have SK := Lib.hid fun w' hA' => skew_ok W H h (some ⟨g, 0, none⟩) N N q k w' hA' (by unfold maxLen; omega) hq2 hE hh
        have hq3 : IsB (movQ W H q k 1) := isB_mov hq2
        generalize movQ W H q k 1 = t at *
        have hAr := area_bd (W := W) (H := h) (by omega) (by omega) (by omega) (by omega)
        generalize hMe : (W * h).toNat = M at *
        have EM := Lib.hid hMe; clear hMe
        have hM : (M : Int) = W * h := (chk_ok hC2).2.2.2.2.1
        have hM2 : M ≤ 409600 := by omega
        clear hM hAr hE hC1 hq2 hgk hh
        have HK := Lib.hid hk; clear hk
        have HC2 := Lib.hid hC2
        have FS := Lib.hid fun w' hA' => findSkew_ok W h (some ⟨g, 0, none⟩) M M t w' hA' (by unfold maxLen; omega) hq3 hC2
        clear FS
        go_wp2_with fail
        rw [HK.out]
        refine (SK.out _ (m1.kg.arrB m1.kg.lt)).mono ?_
        rintro e w3 ⟨_, rfl, ⟨_, rfl, ⟨g3, rfl, hg3, kg3⟩⟩, hb3⟩
        rw [EM.out] at kg3
        simp only [EM.out]
        have b3 : Below w.heap.size w w3 := below_call m1.bl m1.bl.size hb3
        have z3 := kg3.lt
        clear m1 hb3 SK HK p1 p2 p3
        go_wp2_with fail
        have b4 : Below w.heap.size w (w3.alloc (.cells #[.int .i64 W, .int .i64 h, .slice (some ⟨g3, 0, none⟩) M M] 25)) := by have := b3.size; (repeat (first | exact Below.refl _ _ | assumption | refine Below.drew ?_ | refine below_drewN ?_ _ | refine Below.alloc ?_ (by first | omega | (simp; done) | (simp; omega)) _ | refine Below.setCell ?_ (by first | omega | (simp; done) | (simp; omega)) _ | refine below_setRow ?_ (by first | omega | (simp; done) | (simp; omega)) _ ))
        have k4 := Blk.new w3 25 #[.int .i64 W, .int .i64 h, .slice (some ⟨g3, 0, none⟩) M M]
        have kg4 := kg3.alloc (.cells #[.int .i64 W, .int .i64 h, .slice (some ⟨g3, 0, none⟩) M M] 25)
        clear b3 kg3 hg3
        generalize w3.alloc (.cells #[.int .i64 W, .int .i64 h, .slice (some ⟨g3, 0, none⟩) M M] 25) = w4 at *
        generalize w3.heap.size = B12 at *
        refine (findSkew_ok W h (some ⟨g3, 0, none⟩) M M t _ (kg4.arrB kg4.lt) (by unfold maxLen; omega) hq3 HC2.out).mono ?_
        rintro e w5 ⟨rfl, hb5⟩
        have k5 := k4.below' hb5
        have kg5 := kg4.below' hb5
        have b5 := below_call b4 b4.size hb5
        clear k4 kg4 b4 hb5
        have hF0 : -1 < fsN W h M t 0 := fsN_ok.2 (movE_mk HC2.out (by omega) (by omega) (by rw [grt_0]; omega) (by rw [grt_0]; omega))
        obtain ⟨BE1, BE2, BE3, BE4⟩ := best_ok hF0 fun k => (fsN_bd W h M t k).1
        have eF : findS W h M t = (fsL (fsN W h M t) L7).1 := rfl
        rw [eF]
        generalize hbest : (fsL (fsN W h M t) L7).1 = b at *
        generalize (fsL (fsN W h M t) L7).2 = mo at *
        obtain ⟨hb1, hb2⟩ := mem_L7.1 BE2
        clear eF hbest hF0 BE2
        have hEb : movE W h M t b (-1) = 0 := fsN_ok.1 (by rw [BE1]; exact BE3)
        have hmo : mo = fullS W (h - grt W b) (W * (h - grt W b)).toNat (movQ W h t b (-1)) := by rw [← BE1]; unfold fsN; rw [if_pos hEb]
        have BE4 := Lib.hid BE4
        have hCb := chk_mov hEb rfl
        rw [show h + -1 * grt W b = h - grt W b by omega] at hCb
        have hqb : IsB (movQ W h t b (-1)) := isB_mov hq3
        have UB := Lib.hid fun w' hA' => unskew_ok W h (h - grt W b) (some ⟨g3, 0, none⟩) M M t b w' hA' (by unfold maxLen; omega) hq3 hEb rfl
        generalize h - grt W b = hb' at *
        have hMb : (W * hb').toNat ≤ 409600 := by have := area_bd (chk_ok hCb).1 (chk_ok hCb).2.1 (chk_ok hCb).2.2.1 (chk_ok hCb).2.2.2.1; omega
        generalize hMe : (W * hb').toNat = Mb at *
        have EMb := Lib.hid hMe; clear hMe
        generalize movQ W h t b (-1) = tb at *
        have HCb := Lib.hid hCb
        have BE1 := Lib.hid BE1; have BE3 := Lib.hid BE3
        clear hEb hCb
        obtain ⟨p1, p2, p3⟩ := k5.cells3
        go_wp2_with fail
        refine (UB.out _ (kg5.arrB kg5.lt)).mono ?_
        rintro e w6 ⟨_, rfl, ⟨_, rfl, ⟨g6, rfl, hg6, kg6⟩⟩, hb6⟩
        rw [EMb.out] at kg6
        simp only [EMb.out]
        have k6 := k5.below' hb6
        have kt6 := kg5.below' hb6
        have b6 := below_call b5 b5.size hb6
        clear k5 kg5 b5 hb6 UB p1 p2 p3 hg6
        go_wp2_with fail
        have b7 : Below w.heap.size w (w6.alloc (.cells #[.int .i64 W, .int .i64 hb', .slice (some ⟨g6, 0, none⟩) Mb Mb] 25)) := by have := b6.size; (repeat (first | exact Below.refl _ _ | assumption | refine Below.drew ?_ | refine below_drewN ?_ _ | refine Below.alloc ?_ (by first | omega | (simp; done) | (simp; omega)) _ | refine Below.setCell ?_ (by first | omega | (simp; done) | (simp; omega)) _ | refine below_setRow ?_ (by first | omega | (simp; done) | (simp; omega)) _ ))
        have k7 := k6.alloc (.cells #[.int .i64 W, .int .i64 hb', .slice (some ⟨g6, 0, none⟩) Mb Mb] 25)
        have kt7 := kt6.alloc (.cells #[.int .i64 W, .int .i64 hb', .slice (some ⟨g6, 0, none⟩) Mb Mb] 25)
        have kg7 := kg6.alloc (.cells #[.int .i64 W, .int .i64 hb', .slice (some ⟨g6, 0, none⟩) Mb Mb] 25)
        clear b6 k6 kt6 kg6
        generalize w6.alloc (.cells #[.int .i64 W, .int .i64 hb', .slice (some ⟨g6, 0, none⟩) Mb Mb] 25) = w7 at *
        refine (full_ok W hb' (some ⟨g6, 0, none⟩) Mb Mb tb _ (kg7.arrB kg7.lt) (by unfold maxLen; omega) hqb HCb.out).mono ?_
        rintro e w8 ⟨rfl, hb8⟩
        rw [← hmo]
        have b8 := below_call b7 b7.size hb8
        have k8 := k7.below' hb8
        have kt8 := kt7.below' hb8
        clear b7 k7 kt7 kg7 hb8 hmo HCb hqb
        go_wp2_with fail
        go_loopw [19] (fun s wr => ∃ x : Int, -3 ≤ x ∧ x ≤ 4 ∧ s = .int .i64 x ∧ Below w.heap.size w wr ∧ Blk wr B12 25 #[.int .i64 W, .int .i64 h, .slice (some ⟨g3, 0, none⟩) M M] ∧ Blk wr g3 5 (u8s M t)) (fun s _ => (4 - intOf s).toNat)
        case atStart => exact ⟨-3, by omega, by omega, rfl, b8, k8, kt8⟩
        case round =>
          obtain ⟨x, hx0, hx1, rfl, b9, k9, kt9⟩ := hrel
          clear b8 k8 kt8
          by_cases hx : x ≤ 3
          · obtain ⟨p1, p2, p3⟩ := k9.cells3
            obtain ⟨O1, O2⟩ := BE4.out x (mem_L7.2 ⟨hx0, hx⟩)
            by_cases hEx : movE W h M t x (-1) = 0
            · have hfx : fsN W h M t x = fullS W (h - grt W x) (W * (h - grt W x)).toNat (movQ W h t x (-1)) := by unfold fsN; rw [if_pos hEx]
              rw [hfx] at O1 O2
              have hCx := chk_mov hEx rfl
              rw [show h + -1 * grt W x = h - grt W x by omega] at hCx
              have hqx : IsB (movQ W h t x (-1)) := isB_mov hq3
              have UX := Lib.hid fun w' hA' => unskew_ok W h (h - grt W x) (some ⟨g3, 0, none⟩) M M t x w' hA' (by unfold maxLen; omega) hq3 hEx rfl
              clear hfx
              generalize h - grt W x = hx' at *
              have hMx : (W * hx').toNat ≤ 409600 := by have := area_bd (chk_ok hCx).1 (chk_ok hCx).2.1 (chk_ok hCx).2.2.1 (chk_ok hCx).2.2.2.1; omega
              generalize hMe : (W * hx').toNat = Mx at *
              have EMx := Lib.hid hMe; clear hMe
              generalize movQ W h t x (-1) = tx at *
              have FX := Lib.hid fun w' g' hA' => full_ok W hx' (some ⟨g', 0, none⟩) Mx Mx tx w' hA' (by unfold maxLen; omega) hqx hCx
              clear hEx hCx hqx
              generalize fullS W hx' Mx tx = nx at *
              have O2' := Lib.hid O2; clear O2
              go_wp2_with fail
              refine (UX.out _ (kt9.arrB kt9.lt)).mono ?_
              rintro e w10 ⟨_, rfl, ⟨_, rfl, ⟨g10, rfl, hg10, kg10⟩⟩, hb10⟩
              rw [EMx.out] at kg10
              simp only [EMx.out]
              have k10 := k9.below' hb10
              have kt10 := kt9.below' hb10
              have b10 := below_call b9 b9.size hb10
              clear k9 kt9 b9 hb10 UX p1 p2 p3 hg10
              go_wp2_with fail
              refine (FX.out _ g10 ((kg10.alloc _).arrB (by have := kg10.lt; simp; omega))).mono ?_
              rintro e w11 ⟨rfl, hb11⟩
              have k11 := (k10.alloc _).below' hb11
              have kt11 := (kt10.alloc _).below' hb11
              have b11 : Below w.heap.size w w11 := below_call (by have := b10.size; (repeat (first | exact Below.refl _ _ | assumption | refine Below.drew ?_ | refine below_drewN ?_ _ | refine Below.alloc ?_ (by first | omega | (simp; done) | (simp; omega)) _ | refine Below.setCell ?_ (by first | omega | (simp; done) | (simp; omega)) _ | refine below_setRow ?_ (by first | omega | (simp; done) | (simp; omega)) _ ))) (by have := b10.size; simp; omega) hb11
              clear k10 kt10 b10 kg10 hb11 FX
              by_cases hlt : nx < mo
              · have hne : (nx == mo) = false := by simp; omega
                go_wp2
                go_roundw
                case rel => exact ⟨x + 1, by omega, by omega, by go_num, b11, k11, kt11⟩
                case measure => simp [intOf]; omega
              · obtain rfl : nx = mo := by omega
                have HO := O2'.out rfl
                clear O2' O1
                unfold absI at HO
                by_cases sx : x < 0
                · rw [if_pos sx] at HO
                  by_cases sb : b < 0
                  · rw [if_pos sb] at HO
                    go_wp2
                    all_goals
                      go_roundw
                      case rel => exact ⟨x + 1, by omega, by omega, by go_num, b11, k11, kt11⟩
                      case measure => simp [intOf]; omega
                  · rw [if_neg sb] at HO
                    go_wp2
                    all_goals
                      go_roundw
                      case rel => exact ⟨x + 1, by omega, by omega, by go_num, b11, k11, kt11⟩
                      case measure => simp [intOf]; omega
                · rw [if_neg sx] at HO
                  by_cases sb : b < 0
                  · rw [if_pos sb] at HO
                    go_wp2
                    all_goals
                      go_roundw
                      case rel => exact ⟨x + 1, by omega, by omega, by go_num, b11, k11, kt11⟩
                      case measure => simp [intOf]; omega
                  · rw [if_neg sb] at HO
                    go_wp2
                    all_goals
                      go_roundw
                      case rel => exact ⟨x + 1, by omega, by omega, by go_num, b11, k11, kt11⟩
                      case measure => simp [intOf]; omega
            · have UX := fun z hz w' hA' => unskew_bad W h (some ⟨g3, 0, none⟩) M M t x z w' hA' (by unfold maxLen; omega) hz
              have UX := Lib.hid (UX _ rfl)
              generalize movE W h M t x (-1) = z at *
              go_wp2_with fail
              refine (UX.out _ (kt9.arrB kt9.lt) hEx).mono ?_
              rintro e w10 ⟨rfl, hb10⟩
              have k10 := (k9.below' hb10).alloc (.cells #[.int .i64 0, .int .i64 0, .slice none 0 0] 25)
              have kt10 := (kt9.below' hb10).alloc (.cells #[.int .i64 0, .int .i64 0, .slice none 0 0] 25)
              have b10 := below_call b9 b9.size hb10
              have z10 := b10.size
              have b10 : Below w.heap.size w (w10.alloc (.cells #[.int .i64 0, .int .i64 0, .slice none 0 0] 25)) := by (repeat (first | exact Below.refl _ _ | assumption | refine Below.drew ?_ | refine below_drewN ?_ _ | refine Below.alloc ?_ (by first | omega | (simp; done) | (simp; omega)) _ | refine Below.setCell ?_ (by first | omega | (simp; done) | (simp; omega)) _ | refine below_setRow ?_ (by first | omega | (simp; done) | (simp; omega)) _ ))
              unfold noImg
              clear k9 kt9 b9 hb10 UX p1 p2 p3
              go_wp2
              go_roundw
              case rel => exact ⟨x + 1, by omega, by omega, by go_num, b10, k10, kt10⟩
              case measure => simp [intOf]; omega
          · go_wp2_with fail
            refine (awake_any _).mono ?_
            rintro e w12 ⟨rfl, hb12⟩
            go_wp2_with fail
            go_ret
            exact ⟨rfl, below_call b9 b9.size hb12⟩
end Go.Proofs.Ytanbheeekpdkbaa
