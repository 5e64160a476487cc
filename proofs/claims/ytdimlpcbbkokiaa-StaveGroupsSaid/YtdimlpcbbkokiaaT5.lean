/- Walk: the least cost from a pixel to the last column (the closure of best). -/
import Derived.Test.YtdimlpcbbkokiaaT4
import Derived.Test.YtdimlpcbbkokiaaT3
namespace Go.Proofs.Ytdimlpcbbkokiaa
open Go.RowKit Go.Shelf
set_option linter.unusedVariables false
attribute [local go_sem] Oper.semAt_some

/-- what the closure best$1 has captured, and reads -/
structure BestK (w : World) (W H : Int) (Bf Bw Bh Br Bi gr N : Nat) (Fa A : Option Addr) (fc n c : Nat) (fb : Int → Bool) (R p : Int → Int) : Prop where
  kf : Blk w Bf 67 #[.slice Fa N fc]
  kw : Blk w Bw 3 #[.int .i64 W]
  kh : Blk w Bh 3 #[.int .i64 H]
  kr : Blk w Br 25 #[.slice (some ⟨gr, 0, none⟩) N N]
  kR : Blk w gr 3 (i64s N R)
  ki : Blk w Bi 24 #[.int .i64 W, .int .i64 H, .slice A n c]
  aF : Arr w w.heap.size Fa N (fun i => .bool (fb i))
  aA : ArrB w w.heap.size A n p
theorem BestK.below {w w' : World} {W H : Int} {Bf Bw Bh Br Bi gr N : Nat} {Fa A : Option Addr} {fc n c : Nat} {fb : Int → Bool} {R p : Int → Int} (k : BestK w W H Bf Bw Bh Br Bi gr N Fa A fc n c fb R p) (hb : Below w.heap.size w w') : BestK w' W H Bf Bw Bh Br Bi gr N Fa A fc n c fb R p :=
  ⟨k.kf.below' hb, k.kw.below' hb, k.kh.below' hb, k.kr.below' hb, k.kR.below' hb, k.ki.below' hb, (k.aF.below hb).more hb.size, k.aA.to hb⟩

/-- the same below a fixed number of blocks -/
structure BestB (B : Nat) (w : World) (W H : Int) (Bf Bw Bh Br Bi gr N : Nat) (Fa A : Option Addr) (fc n c : Nat) (fb : Int → Bool) (R p : Int → Int) : Prop where
  kf : Blk w Bf 67 #[.slice Fa N fc] ∧ Bf < B
  kw : Blk w Bw 3 #[.int .i64 W] ∧ Bw < B
  kh : Blk w Bh 3 #[.int .i64 H] ∧ Bh < B
  kr : Blk w Br 25 #[.slice (some ⟨gr, 0, none⟩) N N] ∧ Br < B
  kR : Blk w gr 3 (i64s N R) ∧ gr < B
  ki : Blk w Bi 24 #[.int .i64 W, .int .i64 H, .slice A n c] ∧ Bi < B
  aF : Arr w B Fa N (fun i => .bool (fb i))
  aA : ArrB w B A n p
section
variable {B : Nat} {w w' : World} {W H : Int} {Bf Bw Bh Br Bi gr N : Nat} {Fa A : Option Addr} {fc n c : Nat} {fb : Int → Bool} {R p : Int → Int}
theorem BestK.toB (k : BestK w W H Bf Bw Bh Br Bi gr N Fa A fc n c fb R p) : BestB w.heap.size w W H Bf Bw Bh Br Bi gr N Fa A fc n c fb R p :=
  ⟨⟨k.kf, k.kf.lt⟩, ⟨k.kw, k.kw.lt⟩, ⟨k.kh, k.kh.lt⟩, ⟨k.kr, k.kr.lt⟩, ⟨k.kR, k.kR.lt⟩, ⟨k.ki, k.ki.lt⟩, k.aF, k.aA⟩
theorem BestB.below (k : BestB B w W H Bf Bw Bh Br Bi gr N Fa A fc n c fb R p) (hb : Below B w w') : BestB B w' W H Bf Bw Bh Br Bi gr N Fa A fc n c fb R p :=
  ⟨⟨k.kf.1.below hb k.kf.2, k.kf.2⟩, ⟨k.kw.1.below hb k.kw.2, k.kw.2⟩, ⟨k.kh.1.below hb k.kh.2, k.kh.2⟩, ⟨k.kr.1.below hb k.kr.2, k.kr.2⟩, ⟨k.kR.1.below hb k.kR.2, k.kR.2⟩, ⟨k.ki.1.below hb k.ki.2, k.ki.2⟩, k.aF.below hb, k.aA.below hb⟩
end
/-- the state of the loop over the next rows -/
structure StepI (w : World) (W H x y : Int) (Bf Bw Bh Br Bi gr N : Nat) (Fa A : Option Addr) (fc n c : Nat) (fb : Int → Bool) (R p : Int → Int) (m : Int) (S : Nat) (w' : World) : Prop where
  bl : Below w.heap.size w w'
  k : BestB w.heap.size w' W H Bf Bw Bh Br Bi gr N Fa A fc n c fb R p
  bx : Blk w' w.heap.size 3 #[.int .i64 x]
  by' : Blk w' (w.heap.size + 1) 3 #[.int .i64 y]
  bn : Blk w' (w.heap.size + 1 + 1) 3 #[.int .i64 m]
  sz : S ≤ w'.heap.size

set_option maxRecDepth 100000 in
set_option maxHeartbeats 2000000 in
theorem from_never (W H x y : Int) (Bf Bw Bh Br Bi gr N : Nat) (Fa A : Option Addr) (fc n c : Nat) (fb : Int → Bool) (R p : Int → Int) (w : World) (k : BestK w W H Bf Bw Bh Br Bi gr N Fa A fc n c fb R p)
    (hE : chk W H n p = 0) (hN : (N : Int) = W * H) (x0 : 0 ≤ x) (x1 : x < W) (y0 : 0 ≤ y) (y1 : y < H) (hf : fb (y * W + x) = true) :
    Calls Try.prog 103 #[.int .i64 x, .int .i64 y, .pointer (some ⟨Bf, 0, none⟩), .pointer (some ⟨Bw, 0, none⟩), .pointer (some ⟨Bh, 0, none⟩), .pointer (some ⟨Br, 0, none⟩), .pointer (some ⟨Bi, 0, none⟩)] w
      fun e w' => e = .returned (.int .i64 1073741824) ∧ Below w.heap.size w w' := by
  obtain ⟨hW1, hW2, hH1, hH2, hnn, -⟩ := chk_ok hE
  obtain ⟨i1, i2, i3⟩ := idx_lt x0 x1 y0 y1
  rw [Int.mul_comm H W] at i2
  have i4 : y * W + x < N := by omega
  have j6 := (area_bd hW1 hW2 hH1 hH2).2
  have v1 : IntKind.i64.wrap (y * W) = y * W := IntWalk.i64_in _ (by omega)
  have v2 : IntKind.i64.wrap (y * W + x) = y * W + x := IntWalk.i64_in _ (by omega)
  have k2 := k.below (w' := (w.alloc (.cells #[.int .i64 x] 3)).alloc (.cells #[.int .i64 y] 3)) (by (repeat (first | exact Below.refl _ _ | assumption | refine Below.drew ?_ | refine below_drewN ?_ _ | refine Below.alloc ?_ (by first | omega | (simp; done) | (simp; omega)) _ | refine Below.setCell ?_ (by first | omega | (simp; done) | (simp; omega)) _ | refine below_setRow ?_ (by first | omega | (simp; done) | (simp; omega)) _ )))
  obtain ⟨b', off, rfl, hbB, hcell⟩ := k2.aF.at_ i1 i4
  rw [hf] at hcell
  have q1 := k2.kf.at0; have q2 := k2.kw.at0
  have z1 := k.kf.lt; have z2 := k.kw.lt
  clear k2 hE hN hnn hf
  go_enter Try.func103, Try.ntmps103
  go_wp2
  go_ret
  exact ⟨rfl, by (repeat (first | exact Below.refl _ _ | assumption | refine Below.drew ?_ | refine below_drewN ?_ _ | refine Below.alloc ?_ (by first | omega | (simp; done) | (simp; omega)) _ | refine Below.setCell ?_ (by first | omega | (simp; done) | (simp; omega)) _ | refine below_setRow ?_ (by first | omega | (simp; done) | (simp; omega)) _ ))⟩

set_option maxRecDepth 100000 in
set_option maxHeartbeats 2000000 in
theorem from_last (W H x y : Int) (Bf Bw Bh Br Bi gr N : Nat) (Fa A : Option Addr) (fc n c : Nat) (fb : Int → Bool) (R p : Int → Int) (w : World) (k : BestK w W H Bf Bw Bh Br Bi gr N Fa A fc n c fb R p)
    (hE : chk W H n p = 0) (hB : IsB p) (hN : (N : Int) = W * H) (x0 : 0 ≤ x) (x1 : x < W) (xl : ¬ x < W - 1) (y0 : 0 ≤ y) (y1 : y < H) (hf : fb (y * W + x) = false) :
    Calls Try.prog 103 #[.int .i64 x, .int .i64 y, .pointer (some ⟨Bf, 0, none⟩), .pointer (some ⟨Bw, 0, none⟩), .pointer (some ⟨Bh, 0, none⟩), .pointer (some ⟨Br, 0, none⟩), .pointer (some ⟨Bi, 0, none⟩)] w
      fun e w' => e = .returned (.int .i64 (min (cst p W x y) 1073741824)) ∧ Below w.heap.size w w' := by
  obtain ⟨hW1, hW2, hH1, hH2, hnn, -⟩ := chk_ok hE
  obtain ⟨i1, i2, i3⟩ := idx_lt x0 x1 y0 y1
  rw [Int.mul_comm H W] at i2
  have i4 : y * W + x < N := by omega
  have j6 := (area_bd hW1 hW2 hH1 hH2).2
  have v1 : IntKind.i64.wrap (y * W) = y * W := IntWalk.i64_in _ (by omega)
  have v2 : IntKind.i64.wrap (y * W + x) = y * W + x := IntWalk.i64_in _ (by omega)
  have k2 := k.below (w' := (w.alloc (.cells #[.int .i64 x] 3)).alloc (.cells #[.int .i64 y] 3)) (by (repeat (first | exact Below.refl _ _ | assumption | refine Below.drew ?_ | refine below_drewN ?_ _ | refine Below.alloc ?_ (by first | omega | (simp; done) | (simp; omega)) _ | refine Below.setCell ?_ (by first | omega | (simp; done) | (simp; omega)) _ | refine below_setRow ?_ (by first | omega | (simp; done) | (simp; omega)) _ )))
  have PX := Lib.hid fun w' hA' => paper_any W H A n c p x y w' hA' hB hE x0 x1 y0 y1
  obtain ⟨b', off, rfl, hbB, hcell⟩ := k2.aF.at_ i1 i4
  rw [hf] at hcell
  have q1 := k2.kf.at0; have q2 := k2.kw.at0
  have z1 := k.kf.lt; have z2 := k.kw.lt
  have cb := cst_bd p W x y
  obtain ⟨cb1, cb2⟩ := cb
  have k3 := k.below (w' := ((w.alloc (.cells #[.int .i64 x] 3)).alloc (.cells #[.int .i64 y] 3)).alloc (.cells #[.int .i64 0] 3)) (by (repeat (first | exact Below.refl _ _ | assumption | refine Below.drew ?_ | refine below_drewN ?_ _ | refine Below.alloc ?_ (by first | omega | (simp; done) | (simp; omega)) _ | refine Below.setCell ?_ (by first | omega | (simp; done) | (simp; omega)) _ | refine below_setRow ?_ (by first | omega | (simp; done) | (simp; omega)) _ )))
  have q3 := k3.kw.at0
  have BX : Blk (((w.alloc (.cells #[.int .i64 x] 3)).alloc (.cells #[.int .i64 y] 3)).alloc (.cells #[.int .i64 0] 3)) w.heap.size 3 #[.int .i64 x] := ((Blk.new _ _ _).alloc _).alloc _
  have BY : Blk (((w.alloc (.cells #[.int .i64 x] 3)).alloc (.cells #[.int .i64 y] 3)).alloc (.cells #[.int .i64 0] 3)) (w.heap.size + 1) 3 #[.int .i64 y] := (Blk.new' (by simp) _ _).alloc _
  have BN : Blk (((w.alloc (.cells #[.int .i64 x] 3)).alloc (.cells #[.int .i64 y] 3)).alloc (.cells #[.int .i64 0] 3)) (w.heap.size + 1 + 1) 3 #[.int .i64 0] := Blk.new' (by simp) _ _
  have b3 : Below w.heap.size w (((w.alloc (.cells #[.int .i64 x] 3)).alloc (.cells #[.int .i64 y] 3)).alloc (.cells #[.int .i64 0] 3)) := by (repeat (first | exact Below.refl _ _ | assumption | refine Below.drew ?_ | refine below_drewN ?_ _ | refine Below.alloc ?_ (by first | omega | (simp; done) | (simp; omega)) _ | refine Below.setCell ?_ (by first | omega | (simp; done) | (simp; omega)) _ | refine below_setRow ?_ (by first | omega | (simp; done) | (simp; omega)) _ ))
  have BX := Lib.hid BX; have BY := Lib.hid BY; have BN := Lib.hid BN; have B3 := Lib.hid b3; have K3 := Lib.hid k3
  generalize cst p W x y = ci at *
  have v3 : IntKind.i64.wrap ci = ci := IntWalk.i64_in _ (by omega)
  clear k2 hE hN hnn hf k k3 b3
  go_enter Try.func103, Try.ntmps103
  go_wp2_with fail
  generalize ((w.alloc (.cells #[.int .i64 x] 3)).alloc (.cells #[.int .i64 y] 3)).alloc (.cells #[.int .i64 0] 3) = w3 at *
  clear q1 q2 q3 hcell
  have q4 := BX.out.at0; have q5 := BY.out.at0; have q6 := BN.out.at0
  obtain ⟨q7, q8, q9⟩ := K3.out.ki.cells3
  go_region_held3 (fun w' => w'.cell? ⟨w.heap.size, 0, none⟩ = some (.int .i64 x) ∧ w'.cell? ⟨w.heap.size + 1, 0, none⟩ = some (.int .i64 y) ∧ w'.cell? ⟨w.heap.size + 1 + 1, 0, none⟩ = some (.int .i64 0) ∧ w'.cell? ⟨Bi, 0, none⟩ = some (.int .i64 W) ∧ w'.cell? ⟨Bi, 1, none⟩ = some (.int .i64 H) ∧ w'.cell? ⟨Bi, 2, none⟩ = some (.slice A n c))
    (simp [go_sem, *])
    ((go_at_call 60
      refine (PX.out _ K3.out.aA.drew1).mono ?_
      rintro e w4 ⟨rfl, hb4⟩
      have x1 := (BX.out.drew.below' hb4).at0
      have x2 := (BY.out.drew.below' hb4).at0
      have x3 := (BN.out.drew.below' hb4).at0
      obtain ⟨x4, x5, x6⟩ := (K3.out.ki.drew.below' hb4).cells3
      have b4 := below_call B3.out.drew B3.out.drew.size hb4))
  all_goals
    go_wp2
    go_ret
    exact ⟨ret_int (by first | rfl | (simp; done) | omega), b4⟩

/-- the least of N and of what going on to the rows of a list costs -/
def minL (N : Int) (D : Int → Int) (y : Int) (l : List Int) : Int := l.foldl (fun n t => min n (goTo D y t)) N
theorem minL_snoc (N : Int) (D : Int → Int) (y t : Int) (l : List Int) : minL N D y (l ++ [t]) = min (minL N D y l) (goTo D y t) := by simp [minL]
theorem minL_nb (N : Int) (D : Int → Int) (y : Int) (j : Nat) : minL N D y (nbT y j) = mfold N (goTo D y) (nxLo y) j := by
  induction j with
  | zero => rfl
  | succ j ih => rw [nbT_snoc, minL_snoc, ih, mfold]
theorem minL_bd {N H : Int} {D : Int → Int} {y : Int} (hN : 0 ≤ N) (hD : ∀ t, 0 ≤ t → t < H → 0 ≤ D t) (l : List (RowIn H)) : 0 ≤ minL N D y (l.map Subtype.val) ∧ minL N D y (l.map Subtype.val) ≤ N := by
  have : ∀ (l : List (RowIn H)) (m : Int), 0 ≤ m → m ≤ N → 0 ≤ minL m D y (l.map Subtype.val) ∧ minL m D y (l.map Subtype.val) ≤ N := by
    intro l
    induction l with
    | nil => intro m h0 h1; exact ⟨h0, h1⟩
    | cons t l ih =>
      intro m h0 h1
      have := hD t.1 t.2.1 t.2.2
      exact ih (min m (goTo D y t.1)) (by unfold goTo; split <;> omega) (by omega)
  exact this l N hN (Int.le_refl _)

set_option maxRecDepth 100000 in
set_option maxHeartbeats 4000000 in
theorem from_step (W H x y : Int) (Bf Bw Bh Br Bi gr N : Nat) (Fa A : Option Addr) (fc n c : Nat) (fb : Int → Bool) (R p D : Int → Int) (w : World) (k : BestK w W H Bf Bw Bh Br Bi gr N Fa A fc n c fb R p)
    (hE : chk W H n p = 0) (hB : IsB p) (hN : (N : Int) = W * H) (x0 : 0 ≤ x) (x1 : x < W - 1) (y0 : 0 ≤ y) (y1 : y < H) (hf : fb (y * W + x) = false)
    (hD : ∀ t, 0 ≤ t → t < H → R (t * W + (x + 1)) = D t) (hD0 : ∀ t, 0 ≤ t → t < H → 0 ≤ D t ∧ D t ≤ 1073741824) :
    Calls Try.prog 103 #[.int .i64 x, .int .i64 y, .pointer (some ⟨Bf, 0, none⟩), .pointer (some ⟨Bw, 0, none⟩), .pointer (some ⟨Bh, 0, none⟩), .pointer (some ⟨Br, 0, none⟩), .pointer (some ⟨Bi, 0, none⟩)] w
      fun e w' => e = .returned (.int .i64 (min (mfold 1073741824 (goTo D y) (nxLo y) (nxN H y) + cst p W x y) 1073741824)) ∧ Below w.heap.size w w' := by
  obtain ⟨hW1, hW2, hH1, hH2, hnn, -⟩ := chk_ok hE
  obtain ⟨i1, i2, i3⟩ := idx_lt x0 (by omega : x < W) y0 y1
  rw [Int.mul_comm H W] at i2
  have i4 : y * W + x < N := by omega
  have j6 := (area_bd hW1 hW2 hH1 hH2).2
  have v1 : IntKind.i64.wrap (y * W) = y * W := IntWalk.i64_in _ (by omega)
  have v2 : IntKind.i64.wrap (y * W + x) = y * W + x := IntWalk.i64_in _ (by omega)
  have k2 := k.below (w' := (w.alloc (.cells #[.int .i64 x] 3)).alloc (.cells #[.int .i64 y] 3)) (by (repeat (first | exact Below.refl _ _ | assumption | refine Below.drew ?_ | refine below_drewN ?_ _ | refine Below.alloc ?_ (by first | omega | (simp; done) | (simp; omega)) _ | refine Below.setCell ?_ (by first | omega | (simp; done) | (simp; omega)) _ | refine below_setRow ?_ (by first | omega | (simp; done) | (simp; omega)) _ )))
  have PX := Lib.hid fun w' hA' => paper_any W H A n c p x y w' hA' hB hE x0 (by omega) y0 y1
  have ML := Lib.hid (minL_nb 1073741824 D y (nxN H y))
  obtain ⟨b', off, rfl, hbB, hcell⟩ := k2.aF.at_ i1 i4
  rw [hf] at hcell
  have q1 := k2.kf.at0; have q2 := k2.kw.at0
  have z1 := k.kf.lt; have z2 := k.kw.lt
  have k3 := k.below (w' := ((w.alloc (.cells #[.int .i64 x] 3)).alloc (.cells #[.int .i64 y] 3)).alloc (.cells #[.int .i64 0] 3)) (by (repeat (first | exact Below.refl _ _ | assumption | refine Below.drew ?_ | refine below_drewN ?_ _ | refine Below.alloc ?_ (by first | omega | (simp; done) | (simp; omega)) _ | refine Below.setCell ?_ (by first | omega | (simp; done) | (simp; omega)) _ | refine below_setRow ?_ (by first | omega | (simp; done) | (simp; omega)) _ )))
  have q3 := k3.kw.at0
  have k4 := k.below (w' := ((w.alloc (.cells #[.int .i64 x] 3)).alloc (.cells #[.int .i64 y] 3)).alloc (.cells #[.int .i64 1073741824] 3)) (by (repeat (first | exact Below.refl _ _ | assumption | refine Below.drew ?_ | refine below_drewN ?_ _ | refine Below.alloc ?_ (by first | omega | (simp; done) | (simp; omega)) _ | refine Below.setCell ?_ (by first | omega | (simp; done) | (simp; omega)) _ | refine below_setRow ?_ (by first | omega | (simp; done) | (simp; omega)) _ )))
  have q4 := k4.kh.at0
  have BX : Blk (((w.alloc (.cells #[.int .i64 x] 3)).alloc (.cells #[.int .i64 y] 3)).alloc (.cells #[.int .i64 1073741824] 3)) w.heap.size 3 #[.int .i64 x] := ((Blk.new _ _ _).alloc _).alloc _
  have BY : Blk (((w.alloc (.cells #[.int .i64 x] 3)).alloc (.cells #[.int .i64 y] 3)).alloc (.cells #[.int .i64 1073741824] 3)) (w.heap.size + 1) 3 #[.int .i64 y] := (Blk.new' (by simp) _ _).alloc _
  have BN : Blk (((w.alloc (.cells #[.int .i64 x] 3)).alloc (.cells #[.int .i64 y] 3)).alloc (.cells #[.int .i64 1073741824] 3)) (w.heap.size + 1 + 1) 3 #[.int .i64 1073741824] := Blk.new' (by simp) _ _
  have b4 : Below w.heap.size w (((w.alloc (.cells #[.int .i64 x] 3)).alloc (.cells #[.int .i64 y] 3)).alloc (.cells #[.int .i64 1073741824] 3)) := by (repeat (first | exact Below.refl _ _ | assumption | refine Below.drew ?_ | refine below_drewN ?_ _ | refine Below.alloc ?_ (by first | omega | (simp; done) | (simp; omega)) _ | refine Below.setCell ?_ (by first | omega | (simp; done) | (simp; omega)) _ | refine below_setRow ?_ (by first | omega | (simp; done) | (simp; omega)) _ ))
  have KB : BestB w.heap.size (((w.alloc (.cells #[.int .i64 x] 3)).alloc (.cells #[.int .i64 y] 3)).alloc (.cells #[.int .i64 1073741824] 3)) W H Bf Bw Bh Br Bi gr N (some ⟨b', off, none⟩) A fc n c fb R p := k.toB.below (by (repeat (first | exact Below.refl _ _ | assumption | refine Below.drew ?_ | refine below_drewN ?_ _ | refine Below.alloc ?_ (by first | omega | (simp; done) | (simp; omega)) _ | refine Below.setCell ?_ (by first | omega | (simp; done) | (simp; omega)) _ | refine below_setRow ?_ (by first | omega | (simp; done) | (simp; omega)) _ )))
  have M4 : StepI w W H x y Bf Bw Bh Br Bi gr N (some ⟨b', off, none⟩) A fc n c fb R p 1073741824 w.heap.size (((w.alloc (.cells #[.int .i64 x] 3)).alloc (.cells #[.int .i64 y] 3)).alloc (.cells #[.int .i64 1073741824] 3)) := ⟨b4, KB, BX, BY, BN, b4.size⟩
  clear BX BY BN KB
  have HD := Lib.hid hD; have HD0 := Lib.hid hD0; have HNN := Lib.hid hN
  clear k2 hE hN hnn hf k k3 b4 k4 hD hD0
  refine (callsIn_wide (n := 5)).1 ?_
  refine callsIn_of_wp_marks Try.func103 rfl trivial ?_ rfl
  simp only [Try.ntmps103, List.size_toArray, List.length_cons, List.length_nil, Nat.reduceAdd, Nat.reduceSub, Array.replicate_succ, Array.replicate_zero, List.push_toArray, List.append_toArray, List.nil_append, List.cons_append]
  gi_wp2_with fail
  generalize ((w.alloc (.cells #[.int .i64 x] 3)).alloc (.cells #[.int .i64 y] 3)).alloc (.cells #[.int .i64 1073741824] 3) = w4 at *
  refine ⟨trivial, ?_⟩
  refine (callsIn_wide.2 (next_any y H _)).mono ?_
  rintro e w5 ⟨_, rfl, ⟨rfl, ky, kh⟩, hb5⟩
  have z4 : w.heap.size + 1 + 1 < w4.heap.size := M4.bn.lt
  have M5 : StepI w W H x y Bf Bw Bh Br Bi gr N (some ⟨b', off, none⟩) A fc n c fb R p 1073741824 w5.heap.size w5 :=
    ⟨below_call M4.bl M4.bl.size hb5, M4.k.below (hb5.mono M4.bl.size), M4.bx.below' hb5, M4.by'.below' hb5, M4.bn.below' hb5, Nat.le_refl _⟩
  have z5 : w4.heap.size + 1 < w5.heap.size := kh.lt
  clear hb5 M4 q1 q2 q3 q4 hcell
  generalize hb4 : w4.heap.size = b4 at *
  clear hb4
  gi_wp2_with fail
  refine wpIn_rangeFunc_ownF (F := Fence.wide) (n := 5) rfl (by omega) (gf := 121) (lb := #[.pointer (some ⟨b4, 0, none⟩), .pointer (some ⟨b4 + 1, 0, none⟩)]) rfl trivial (enters_of Try.func121 (by kernel_rfl) rfl) (next_stops Fence.wide 4 trivial rfl (by omega) y H b4 (b4 + 1) w5 ky kh y0 y1 hH2)
    (fun h k => KpB.trans h k) (fun W' l o o' hl ho _ _ => by
      have hlt := (Array.getElem?_eq_some_iff.1 ho).1
      exact ⟨(grownBy_putObj' W' l o').block b4 (by omega) (by intro e; cases e; omega), (grownBy_putObj' W' l o').block (b4 + 1) (by omega) (by intro e; cases e; omega)⟩) (Below.refl _ _) (fun _ => rfl)
    (fun pre W' => StepI w W H x y Bf Bw Bh Br Bi gr N (some ⟨b', off, none⟩) A fc n c fb R p (minL 1073741824 D y (pre.map Subtype.val)) w5.heap.size W') (fun _ _ _ => False)
    (ownFrom_of_below (fun s X Y hs hXY => ⟨hs.bl.trans (hXY.mono (by omega)), hs.k.below (hXY.mono (by omega)), hs.bx.below hXY (by omega), hs.by'.below hXY (by omega), hs.bn.below hXY (by omega), Nat.le_trans hs.sz hXY.size⟩) (fun s X hs => hs.sz))
    (fun _ _ _ _ _ hs _ _ => hs) M5
    (fun t => { tmps := #[.int .i64 x, .int .i64 y, .pointer (some ⟨Bf, 0, none⟩), .pointer (some ⟨Bw, 0, none⟩), .pointer (some ⟨Bh, 0, none⟩), .pointer (some ⟨Br, 0, none⟩), .pointer (some ⟨Bi, 0, none⟩), .pointer (some ⟨w.heap.size, 0, none⟩), .pointer (some ⟨w.heap.size + 1, 0, none⟩), .int .i64 0, .pointer (some ⟨w.heap.size + 1 + 1, 0, none⟩),
      .int .i64 t.1, undef, .slice (some ⟨b', off, none⟩) N fc, .int .i64 y, .int .i64 W, .int .i64 (y * W), .int .i64 x, .int .i64 (y * W + x), .pointer (some ⟨b', off + (y * W + x).toNat, none⟩), .bool false, .int .i64 x, .int .i64 W, .int .i64 (W - 1), .bool true, .int .i64 y, .int .i64 H,
      .func (.func 121) #[] #[.pointer (some ⟨b4, 0, none⟩), .pointer (some ⟨b4 + 1, 0, none⟩)], .int .i64 t.1, undef, undef, undef, undef, undef, undef, undef, undef, undef, undef, undef, undef, undef, undef, undef, undef, undef, undef, undef, undef, undef, undef, undef, undef], defers := [] }) ?assign ?body ?done ?stop
  case assign =>
    intro l t W' K hK
    gi_wp2
    exact hK
  case body =>
    rintro l pre ⟨t, t0, t1⟩ W' m _
    have r1 := m.k.kr.1.at0; have r2 := m.k.kw.1.at0; have r3 := m.bx.at0; have r4 := m.by'.at0; have r5 := m.bn.at0; have r6 := m.bn.frozen 0
    obtain ⟨l1, l2, l3⟩ := idx_lt (x := x + 1) (y := t) (W := W) (H := H) (by omega) (by omega) t0 t1
    rw [Int.mul_comm H W] at l2
    have hr := m.k.kR.1.i64at (i := t * W + x + 1) (by omega) (by have := HNN.out; omega)
    rw [show R (t * W + x + 1) = D t by rw [show t * W + x + 1 = t * W + (x + 1) by omega]; exact HD.out t t0 t1] at hr
    have l4 : t * W + x + 1 < (N : Int) := by have := HNN.out; omega
    have l5 : 0 ≤ t * W + x + 1 := by omega
    obtain ⟨d1, d2⟩ := HD0.out t t0 t1
    obtain ⟨m1, m2⟩ := minL_bd (N := 1073741824) (H := H) (D := D) (y := y) (by omega) (fun t a b => (HD0.out t a b).1) pre
    have SN : Hid (minL 1073741824 D y ((pre ++ [(⟨t, t0, t1⟩ : RowIn H)]).map Subtype.val) = min (minL 1073741824 D y (pre.map Subtype.val)) (D t + if t = y then 0 else 1)) := by
      show _ = _; rw [List.map_append]; exact minL_snoc _ _ _ _ _
    have MM := Lib.hid m
    clear m
    generalize minL 1073741824 D y (pre.map Subtype.val) = M at *
    generalize D t = Dt at *
    have FIN : ∀ v, v = minL 1073741824 D y ((pre ++ [(⟨t, t0, t1⟩ : RowIn H)]).map Subtype.val) → KeepsOthers W' (W'.setCell ⟨w.heap.size + 1 + 1, 0, none⟩ (.int .i64 v)) ∧ KpB b4 (b4 + 1) W' (W'.setCell ⟨w.heap.size + 1 + 1, 0, none⟩ (.int .i64 v)) ∧
        StepI w W H x y Bf Bw Bh Br Bi gr N (some ⟨b', off, none⟩) A fc n c fb R p (minL 1073741824 D y ((pre ++ [(⟨t, t0, t1⟩ : RowIn H)]).map Subtype.val)) w5.heap.size (W'.setCell ⟨w.heap.size + 1 + 1, 0, none⟩ (.int .i64 v)) := by
      rintro v rfl
      have m := MM.out
      exact ⟨KeepsOthers.setCell _ _ _, ⟨heap_setCell_other _ _ _ _ (by simp; omega), heap_setCell_other _ _ _ _ (by simp; omega)⟩,
        ⟨m.bl.setCell (by simp; omega) _, m.k.below ((Below.refl _ _).setCell (by simp; omega) _), m.bx.far (by simp; omega) _, m.by'.far (by simp) _, m.bn.set_ 0 _, by simpa using m.sz⟩⟩
    have FIN := Lib.hid FIN
    by_cases e : t = y
    · rw [if_pos e] at SN
      have hb : (t != y) = false := by simp [e]
      have E := Lib.hid e; clear e
      by_cases hm : Dt < M
      · gi_wp2
        exact FIN.out _ (by rw [SN.out]; omega)
      · gi_wp2
        exact FIN.out _ (by rw [SN.out]; omega)
    · rw [if_neg e] at SN
      have hb : (t != y) = true := by simp [e]
      have E := Lib.hid e; clear e
      by_cases hm : Dt + 1 < M
      · gi_wp2
        exact FIN.out _ (by rw [SN.out]; omega)
      · gi_wp2
        exact FIN.out _ (by rw [SN.out]; omega)
  case done =>
    rintro D' xs W' hD hS m hK
    rw [hS, ML.out] at m
    generalize hMM : mfold 1073741824 (goTo D y) (nxLo y) (nxN H y) = M at *
    have HMM := Lib.hid hMM; clear hMM
    have r3 := m.bx.at0; have r4 := m.by'.at0; have r5 := m.bn.at0
    obtain ⟨r7, r8, r9⟩ := m.k.ki.1.cells3
    have cb := cst_bd p W x y
    obtain ⟨cb1, cb2⟩ := cb
    have mb : 0 ≤ M ∧ M ≤ 1073741824 := by rw [← ML.out, ← hS]; exact minL_bd (by omega) (fun t a b => (HD0.out t a b).1) xs
    obtain ⟨mb1, mb2⟩ := mb
    generalize hci : cst p W x y = ci at *
    have HCI := Lib.hid hci; clear hci
    have v3 : IntKind.i64.wrap (M + ci) = M + ci := IntWalk.i64_in _ (by omega)
    have hK0 := (Array.getElem?_eq_some_iff.1 hK).1
    have M6 := Lib.hid m
    have HS := Lib.hid hS
    have HK := Lib.hid hK
    clear hS m hK
    gi_wp2_with fail
    refine wpIn_wide.2 ?_
    go_region_held3 (fun w' => w'.cell? ⟨w.heap.size, 0, none⟩ = some (.int .i64 x) ∧ w'.cell? ⟨w.heap.size + 1, 0, none⟩ = some (.int .i64 y) ∧ w'.cell? ⟨w.heap.size + 1 + 1, 0, none⟩ = some (.int .i64 M) ∧ w'.cell? ⟨Bi, 0, none⟩ = some (.int .i64 W) ∧ w'.cell? ⟨Bi, 1, none⟩ = some (.int .i64 H) ∧ w'.cell? ⟨Bi, 2, none⟩ = some (.slice A n c))
      (simp [go_sem, *])
      ((go_at_call 60
        refine (PX.out _ ((M6.out.k.aA.more M6.out.bl.size).drew1)).mono ?_
        rintro e w6 ⟨rfl, hb6⟩
        have x1 := (M6.out.bx.drew.below' hb6).at0
        have x2 := (M6.out.by'.drew.below' hb6).at0
        have x3 := (M6.out.bn.drew.below' hb6).at0
        obtain ⟨x4, x5, x6⟩ := (M6.out.k.ki.1.drew.below' hb6).cells3
        have hK6 : w6.heap[D']? = some (.deferred (some [])) := (hb6.block D' hK0).trans HK.out
        have b6 := below_call M6.out.bl.drew M6.out.bl.drew.size hb6))
    go_wp2
    all_goals
      gi_wp2
      refine ⟨by simp, .inl ⟨_, _, rfl, run_takeDeferred hK6, ?_⟩⟩
      refine ⟨_, results_tmp rfl _ _ _, ?_, b6.trans (belowK_b (w := w) (Nat.le_refl _) w6 D' _ _ (by have := M6.out.bl.size; omega) hK6 rfl rfl)⟩
      rw [HMM.out, HCI.out]
      first
        | (show Ending.returned (.int .i64 1073741824) = _; exact ret_int (by omega))
        | (show Ending.returned (.int .i64 (M + ci)) = _; exact ret_int (by omega))
  case stop =>
    rintro D c pre W' _ _ h _
    exact h.elim
end Go.Proofs.Ytdimlpcbbkokiaa
