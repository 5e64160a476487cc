/- Walk: the reference's costs of one column (custosref03.rest). -/
import Derived.Test.YtdimlpcbbkokiaaT3
import Derived.Test.YtdimlpcbbkokiaaLib3
namespace Go.Proofs.Ytdimlpcbbkokiaa
open Go.RowKit
set_option linter.unusedVariables false
attribute [local go_sem] Oper.semAt_some

/-- a column that is filled from above -/
def upto (f : Int → Int) (y : Int) : Int → Int := fun i => if i < y then f i else 0
theorem upto_step (f : Int → Int) (y a i : Int) : upd (upd (upto f y) y a) y (f y) i = upto f (y + 1) i := by
  unfold upd upto
  by_cases e : i = y
  · subst e; rw [if_pos rfl, if_pos (by omega)]
  · rw [if_neg e, if_neg e]
    by_cases h : i < y
    · rw [if_pos h, if_pos (by omega)]
    · rw [if_neg h, if_neg (by omega)]
theorem upto_same (f : Int → Int) (y i : Int) : upd (upto f y) y (f y) i = upto f (y + 1) i := by
  unfold upd upto
  by_cases e : i = y
  · subst e; rw [if_pos rfl, if_pos (by omega)]
  · rw [if_neg e]
    by_cases h : i < y
    · rw [if_pos h, if_pos (by omega)]
    · rw [if_neg h, if_neg (by omega)]
theorem upd_twice (q : Int → Int) (y a b i : Int) : upd (upd q y a) y b i = upd q y b i := by
  unfold upd; split <;> rfl
theorem upd_self (q : Int → Int) (y a : Int) : upd q y a y = a := by unfold upd; rw [if_pos rfl]
theorem upto_same' {f : Int → Int} {y : Nat} {a : Int} (h : f y = a) (i : Int) : upd (upto f y) y a i = upto f ((y + 1 : Nat) : Int) i := by
  subst h; rw [upto_same]; rfl
theorem upto_step' {f : Int → Int} {y : Nat} {b : Int} (a : Int) (h : f y = b) (i : Int) : upd (upd (upto f y) y a) y b i = upto f ((y + 1 : Nat) : Int) i := by
  subst h; rw [upto_step]; rfl
theorem rcol_bd {M W H : Int} {c : Int → Int → Int} {F : Int → Int → Bool} (hc : ∀ x y, 0 ≤ c x y ∧ c x y ≤ 2) (hM : 3 * W < M) (k : Nat) (hk : (k : Int) < W) (y : Int) (h0 : 0 ≤ y) (h : y < H) : 0 ≤ rcol M W H c F k y ∧ rcol M W H c F k y ≤ M := by
  have := cols_alike (F := F) hc hM hM k hk y h0 h
  unfold Alike at this
  omega
theorem rgo_in {N H cc : Int} {d : Int → Int} {y t : Int} (h0 : 0 ≤ t) (h : t < H) (hd : d t ≠ N) : rgo N H cc d y t = cc + d t + if t = y then 0 else 1 := by
  unfold rgo; rw [if_neg (by omega)]
theorem rgo_out {N H cc : Int} {d : Int → Int} {y t : Int} (h : t < 0 ∨ H ≤ t ∨ d t = N) : rgo N H cc d y t = N := by
  unfold rgo; rw [if_pos h]
theorem mfold_out {N : Int} {f : Int → Int} {lo : Int} {j : Nat} (h : f (lo + j) = N) : mfold N f lo (j + 1) = mfold N f lo j := by
  rw [mfold, h]; have := mfold_le N f lo j; omega

set_option maxRecDepth 100000 in
set_option maxHeartbeats 4000000 in
theorem rest_last (W H : Int) (Hn : Nat) (A A' AA : Option Addr) (n c n' c' m d : Nat) (p fb : Int → Int) (F : Int → Int → Bool) (x : Int) (w : World) (hA : ArrB w w.heap.size A n p) (hE : chk W H n p = 0) (hF : ArrB w w.heap.size A' n' fb) (hn' : (n' : Int) = W * H) (hFF : ∀ x y, 0 ≤ x → x < W → 0 ≤ y → y < H → inkB W H fb x y = F x y)
    (hW : 1 ≤ W) (hHn : (Hn : Int) = H) (hx : x = W - 1) :
    Calls Try.prog 107 #[.agg #[.int .i64 W, .int .i64 H, .slice A n c], .int .i64 x, .slice AA m d, .agg #[.int .i64 W, .int .i64 H, .slice A' n' c']] w
      (New w fun v w' => ∃ g, v = .slice (some ⟨g, 0, none⟩) Hn Hn ∧ w.heap.size ≤ g ∧ Blk w' g 3 (i64s Hn (rcol 1000000000 W H (cst p W) F 0))) := by
  obtain ⟨hW1, hW2, hH1, hH2, hnn, -⟩ := chk_ok hE
  have PX := Lib.hid fun (y : Int) w' hA' (y0 : 0 ≤ y) (y1 : y < H) => pixel_any W H A n c p x y w' hA' hE (by omega) (by omega) y0 y1
  have IK := Lib.hid fun (y : Int) w' hA' => rink_any W H A' n' c' fb x y w' hA' hW2 hH2 hn'
  have FF := Lib.hid fun (y : Int) (y0 : 0 ≤ y) (y1 : y < H) => hFF x y (by omega) (by omega) y0 y1
  have RC := Lib.hid fun (y : Int) => (show rcol 1000000000 W H (cst p W) F 0 y = if F (W - 1) y then 1000000000 else cst p W (W - 1) y from by rw [rcol])
  have hmk := makeI (Hn : Int) (by omega) (by omega)
  rw [Int.toNat_natCast] at hmk
  have exx : (x == W - 1) = true := by simp [hx]
  have vW : IntKind.i64.wrap (W - 1) = W - 1 := IntWalk.i64_in _ (by omega)
  have HX := Lib.hid hx
  have HHn := Lib.hid hHn
  rw [← HHn.out]
  rw [← HHn.out] at hH1 hH2 PX FF IK RC
  clear hx hnn hFF hE hn' hHn
  go_enter Try.func107, Try.ntmps107
  go_wp2_with fail
  have k4 : Blk (((w.alloc (.cells #[.int .i64 W, .int .i64 Hn, .slice A n c] 24)).alloc (.cells #[.int .i64 W, .int .i64 Hn, .slice A' n' c'] 24)).alloc (.cells (i64s Hn fun _ => 0) 3)) w.heap.size 24 #[.int .i64 W, .int .i64 Hn, .slice A n c] := ((Blk.new _ _ _).alloc _).alloc _
  have k7 : Blk (((w.alloc (.cells #[.int .i64 W, .int .i64 Hn, .slice A n c] 24)).alloc (.cells #[.int .i64 W, .int .i64 Hn, .slice A' n' c'] 24)).alloc (.cells (i64s Hn fun _ => 0) 3)) (w.heap.size + 1) 24 #[.int .i64 W, .int .i64 Hn, .slice A' n' c'] := (Blk.new' (by simp) _ _).alloc _
  have k9 : Blk (((w.alloc (.cells #[.int .i64 W, .int .i64 Hn, .slice A n c] 24)).alloc (.cells #[.int .i64 W, .int .i64 Hn, .slice A' n' c'] 24)).alloc (.cells (i64s Hn fun _ => 0) 3)) (w.heap.size + 1 + 1) 3 (i64s Hn (upto (rcol 1000000000 W Hn (cst p W) F 0) 0)) := (Blk.new' (by simp) _ _).i64conv fun j j0 _ => by unfold upto; rw [if_neg (by omega)]
  have b1 : Below w.heap.size w (((w.alloc (.cells #[.int .i64 W, .int .i64 Hn, .slice A n c] 24)).alloc (.cells #[.int .i64 W, .int .i64 Hn, .slice A' n' c'] 24)).alloc (.cells (i64s Hn fun _ => 0) 3)) := by (repeat (first | exact Below.refl _ _ | assumption | refine Below.drew ?_ | refine below_drewN ?_ _ | refine Below.alloc ?_ (by first | omega | (simp; done) | (simp; omega)) _ | refine Below.setCell ?_ (by first | omega | (simp; done) | (simp; omega)) _ | refine below_setRow ?_ (by first | omega | (simp; done) | (simp; omega)) _ ))
  generalize ((w.alloc (.cells #[.int .i64 W, .int .i64 Hn, .slice A n c] 24)).alloc (.cells #[.int .i64 W, .int .i64 Hn, .slice A' n' c'] 24)).alloc (.cells (i64s Hn fun _ => 0) 3) = w1 at *
  go_loopw [10] (fun s wr => ∃ y : Nat, y ≤ Hn ∧ s = .int .i64 y ∧ Below w.heap.size w wr ∧ Blk wr w.heap.size 24 #[.int .i64 W, .int .i64 Hn, .slice A n c] ∧ Blk wr (w.heap.size + 1) 24 #[.int .i64 W, .int .i64 Hn, .slice A' n' c'] ∧ Blk wr (w.heap.size + 1 + 1) 3 (i64s Hn (upto (rcol 1000000000 W Hn (cst p W) F 0) y))) (fun s _ => Hn - (intOf s).toNat)
  case atStart => exact ⟨0, by omega, rfl, b1, k4, k7, k9⟩
  case round =>
    obtain ⟨y, hy, rfl, b2, q4, q7, q9⟩ := hrel
    clear b1 k4 k7 k9
    obtain ⟨p1, p2, p3⟩ := q4.cells3
    obtain ⟨r1, r2, r3⟩ := q7.cells3
    by_cases hlt : (y : Int) < (Hn : Int)
    · have y0 : (0 : Int) ≤ (y : Int) := by omega
      have f9 := q9.frozen y
      have c9 := q9.i64at y0 hlt
      rw [Int.toNat_natCast] at c9
      have q9' := q9.i64set y y0 1000000000
      rw [Int.toNat_natCast] at q9'
      have q4' := q4.far (p := ⟨w.heap.size + 1 + 1, y, none⟩) (by show w.heap.size ≠ w.heap.size + 1 + 1; omega) (.int .i64 1000000000)
      have q7' := q7.far (p := ⟨w.heap.size + 1 + 1, y, none⟩) (by show w.heap.size + 1 ≠ w.heap.size + 1 + 1; omega) (.int .i64 1000000000)
      have b2' : Below w.heap.size w (wr.setCell ⟨w.heap.size + 1 + 1, y, none⟩ (.int .i64 1000000000)) := b2.setCell (by show w.heap.size ≤ w.heap.size + 1 + 1; omega) _
      obtain ⟨s1, s2, s3⟩ := q4'.cells3
      obtain ⟨t1, t2, t3⟩ := q7'.cells3
      have IKy := Lib.hid fun w' hA' => IK.out y w' hA'
      rw [FF.out y y0 hlt] at IKy
      have PXy := Lib.hid fun w' hA' => PX.out y w' hA' y0 hlt
      have RCy := Lib.hid (RC.out y)
      cases hFy : F x y with
      | true =>
        rw [← HX.out, if_pos hFy] at RCy
        rw [hFy] at IKy
        clear hFy
        go_wp2_with fail
        refine (IKy.out _ (hF.to b2')).mono ?_
        rintro e w2 ⟨rfl, hb2⟩
        have b3 := below_call b2' b2'.size hb2
        have q4 := q4'.below' hb2
        have q7 := q7'.below' hb2
        have q9 := q9'.below' hb2
        clear b2 b2' hb2 q4' q7' q9' p1 p2 p3 r1 r2 r3 s1 s2 s3 t1 t2 t3 c9 f9
        obtain ⟨p1, p2, p3⟩ := q4.cells3
        go_wp2_with fail
        go_roundw
        case rel => exact ⟨y + 1, by omega, by go_num, b3, q4, q7, q9.i64conv fun j _ _ => upto_same' RCy.out j⟩
        case measure => simp [intOf]; omega
      | false =>
        rw [← HX.out, if_neg (by rw [hFy]; simp)] at RCy
        rw [hFy] at IKy
        clear hFy
        go_wp2_with fail
        refine (IKy.out _ (hF.to b2')).mono ?_
        rintro e w2 ⟨rfl, hb2⟩
        have b3 := below_call b2' b2'.size hb2
        have q4 := q4'.below' hb2
        have q7 := q7'.below' hb2
        have q9 := q9'.below' hb2
        clear b2 b2' hb2 q4' q7' q9' p1 p2 p3 r1 r2 r3 s1 s2 s3 t1 t2 t3 c9 f9
        obtain ⟨p1, p2, p3⟩ := q4.cells3
        go_wp2_with fail
        refine (PXy.out _ (hA.to b3)).mono ?_
        rintro e w3 ⟨rfl, hb3⟩
        have b4 := below_call b3 b3.size hb3
        have m4 := q4.below' hb3
        have m7 := q7.below' hb3
        have m9 := q9.below' hb3
        clear b3 hb3 q4 q7 q9 p1 p2 p3
        have f9 := m9.frozen y
        have c9 := m9.i64at y0 hlt
        rw [Int.toNat_natCast] at c9
        have m9' := m9.i64set y y0 (cst p W x y)
        rw [Int.toNat_natCast] at m9'
        generalize hcy : cst p W x y = cy at *
        have HC := Lib.hid hcy
        clear hcy
        go_wp2_with fail
        go_roundw
        case rel => exact ⟨y + 1, by omega, by go_num, b4.setCell (by show w.heap.size ≤ w.heap.size + 1 + 1; omega) _, m4.far (p := ⟨w.heap.size + 1 + 1, y, none⟩) (by show w.heap.size ≠ w.heap.size + 1 + 1; omega) _, m7.far (p := ⟨w.heap.size + 1 + 1, y, none⟩) (by show w.heap.size + 1 ≠ w.heap.size + 1 + 1; omega) _, m9'.i64conv fun j _ _ => upto_step' _ RCy.out j⟩
        case measure => simp [intOf]; omega
    · obtain rfl : y = Hn := by omega
      go_wp2
      go_ret
      exact ⟨_, rfl, ⟨_, rfl, by omega, q9.i64conv fun j j0 j1 => by unfold upto; rw [if_pos j1]⟩, b2⟩
end Go.Proofs.Ytdimlpcbbkokiaa
