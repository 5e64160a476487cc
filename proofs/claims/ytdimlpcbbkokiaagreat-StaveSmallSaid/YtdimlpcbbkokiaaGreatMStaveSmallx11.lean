/- Texts of mine in build order: T64, T67, T45, T42, B2, B3, T46, T54, T62, T68. Conditions: each theorem's own. -/
import Derived.Test.YtdimlpcbbkokiaaGreatMStaveSmallx10
import Derived.RangeFuncNested
import Derived.OwnWalkIn
import Derived.Deep.AppendLies
import Derived.StillTailTactics
import Derived.Deep.DeepCutAuto
import Derived.Deep.Cut
import Derived.Deep.CutBlock
import Derived.Deep.RegionHeld3
/- Walk: the runs of the columns of an image: image.Columns whole. -/
namespace Go.Proofs.YtdimlpcbbkokiaaGreat
open Go.RowKit Go.Shelf
set_option linter.unusedVariables false
attribute [local go_sem] Oper.semAt_some

set_option maxRecDepth 100000 in
set_option maxHeartbeats 4000000 in
theorem columns_any (W H : Nat) (A : Option Addr) (n c : Nat) (p : Int → Int) (w : World) (hA : ArrB w w.heap.size A n p) (hW : W ≤ 640) (hH : H ≤ 640) (hn : (n : Int) = (W : Int) * H) (hp : ∀ i : Int, 0 ≤ i → i < n → p i = 0 ∨ p i = 1) :
    Calls Tryz.prog 20 #[.agg #[.int .i64 W, .int .i64 H, .slice A n c]] w fun e w' => ∃ v, e = .returned (.tuple #[v, .int .i64 0]) ∧ RunRow w' w.heap.size v (rLs (fun x y => inkB W H p x y) H W) ∧ Below w.heap.size w w' := by
  have m2 := (area_bd (W := W) (H := H) (by omega) (by omega) (by omega) (by omega)).2
  have hchk : chk W H n p = 0 := chk_mk (by omega) (by omega) (by omega) (by omega) hn fun i a b => by have := hp i a b; omega
  have CK := Lib.hid fun w' hA' => check_any W H A n c p w' hA' (by unfold maxLen; omega)
  rw [hchk] at CK
  obtain ⟨r0, hr0, hrz0, hrz1, hrz2⟩ := info_parts infoRun
  have HA := Lib.hid hA; have HNN := Lib.hid hn; have HPP := Lib.hid hp
  clear hA hn hp hchk
  have hmf : ∀ (fn : Fn) (first cap : Array Value) (w : World), (Instr.makeFunc fn first cap).run Tryz.prog w = .ok (.func fn first cap) w := fun _ _ _ _ => rfl
  refine (callsIn_wide (n := 5)).1 ?_
  refine callsIn_of_wp_marks Tryz.func20 rfl trivial ?_ rfl
  simp only [Tryz.ntmps20, List.size_toArray, List.length_cons, List.length_nil, Nat.reduceAdd, Nat.reduceSub, Array.replicate_succ, Array.replicate_zero, List.push_toArray, List.append_toArray, List.nil_append, List.cons_append]
  gi_wp2_with fail
  have k1 := Blk.new w 24 #[.int .i64 W, .int .i64 H, .slice A n c]
  have b1 : Below w.heap.size w (w.alloc (.cells #[.int .i64 W, .int .i64 H, .slice A n c] 24)) := (Below.refl _ _).alloc (Nat.le_refl _) _
  generalize w.alloc (.cells #[.int .i64 W, .int .i64 H, .slice A n c] 24) = w1 at *
  refine ⟨trivial, ?_⟩
  refine (callsIn_wide.2 (CK.out w1 (HA.out.to b1))).mono ?_
  rintro e w2 ⟨rfl, d2⟩
  have k2 := k1.below' d2
  have b2 := below_call b1 b1.size d2
  obtain ⟨p1, p2, p3⟩ := k2.cells3
  have k3 := k2.alloc (.cells #[.slice none 0 0] 53)
  have k5 := Blk.new w2 53 #[.slice none 0 0]
  have b3 := b2.alloc b2.size (.cells #[.slice none 0 0] 53)
  have zk := k2.lt
  obtain ⟨b5, hb5⟩ : ∃ b5, w2.heap.size = b5 := ⟨_, rfl⟩
  rw [hb5] at k5 zk
  have zs3 : (w2.alloc (.cells #[.slice none 0 0] 53)).heap.size = b5 + 1 := by simp [hb5]
  have p1' := k3.cells3
  obtain ⟨x1, x2, x3⟩ := p1'
  clear k1 b1 d2 CK p1 p2 p3 k2 b2
  gi_wp2_with fail
  generalize w2.alloc (.cells #[.slice none 0 0] 53) = w3 at *
  refine ⟨trivial, ?_⟩
  have RF := runs_fn W H (.func 66) #[.pointer (some ⟨w.heap.size, 0, none⟩)] w3
  rw [zs3] at RF
  refine (callsIn_wide.2 RF).mono ?_
  rintro e w4 ⟨rfl, d4', kl, kn, ⟨TF, kf⟩, zs4⟩
  have d4 : Below w3.heap.size w3 w4 := by rw [zs3]; exact d4'
  clear d4' RF
  have k4 := k3.below' d4
  have k54 := k5.below' d4
  have b4 := below_call b3 b3.size d4
  have hA4 : ArrB w4 w.heap.size A n p := ArrB.below HA.out b4
  clear k3 k5 b3 d4 x1 x2 x3 hb5 zs3
  have CST := Lib.hid (cols_stops 4 W H n c (b5 + 1) (b5 + 1 + 1) (b5 + 1 + 1 + 1) w.heap.size b5 w.heap.size TF A p w4 (by omega) hW hH HNN.out HPP.out kl kn kf k4 hA4 (by omega) (by omega) (by omega) (by omega) (by omega) (Nat.le_refl _))
  have hBz : w4.heap.size = b5 + 4 := by rw [zs4]
  have m0 : (∃ v, Boxed w4 b5 53 v ∧ w4.ownsRow w4.heap.size 57 3 v (List.length ([] : List Rn)) (flatR []) ∧ True) := ⟨_, k54, World.ownsRow_nil _ _ _ _, trivial⟩
  gi_wp2_with fail
  refine wpIn_rangeFunc_ownH (F := Fence.wide) (n := 5) rfl (by omega) (gf := 107) (lb := #[.pointer (some ⟨b5 + 1, 0, none⟩), .pointer (some ⟨b5 + 1 + 1, 0, none⟩), .pointer (some ⟨b5 + 1 + 1 + 1, 0, none⟩)]) rfl trivial (enters_of Tryz.func107 (by kernel_rfl) rfl) CST.out
    (fun h h' => h.trans h') (fun X l o o' hl ho hc hw => ⟨(grownBy_putObj' X l o').size, fun j hj _ => World.putObj_heap_other (by omega)⟩) (Below.refl _ _) (fun _ => rfl)
    (fun pre X => (∃ v, Boxed X b5 53 v ∧ X.ownsRow w4.heap.size 57 3 v pre.length (flatR pre) ∧ True) ∧ (Below w.heap.size w X ∧ w4.heap.size ≤ X.heap.size)) (fun _ _ _ => False)
    (((holdsRow_own w4.heap.size b5 53 57 3 List.length flatR (fun _ _ => True)).from _).and (ownFrom_of_below (fun s X Y hs hXY => ⟨hs.1.trans (hXY.mono (by have := b4.size; omega)), Nat.le_trans hs.2 hXY.size⟩) (fun s X hs => hs.2)))
    (fun _ _ _ _ _ hs _ _ => hs) ⟨m0, b4, Nat.le_refl _⟩ (fun x a' X => ∃ b6 : Nat, a' = { tmps := #[.agg #[.int .i64 W, .int .i64 H, .slice A n c], .pointer (some ⟨w.heap.size, 0, none⟩), .slice none 0 0, .int .i64 0, .int .i64 0, .pointer (some ⟨b5, 0, none⟩), .pointer (some ⟨b6, 0, none⟩), .agg #[.int .i64 W, .int .i64 H, .slice A n c], .int .i64 0, .int .i64 0, .bool false, undef, .pointer (some ⟨w.heap.size, 0, none⟩), .int .i64 W, .pointer (some ⟨w.heap.size, 1, none⟩), .int .i64 H, .func (.func 66) #[] #[.pointer (some ⟨w.heap.size, 0, none⟩)], .func (.func 107) #[] #[.pointer (some ⟨b5 + 1, 0, none⟩), .pointer (some ⟨b5 + 1 + 1, 0, none⟩), .pointer (some ⟨b5 + 1 + 1 + 1, 0, none⟩)], .agg #[.int .i64 x.1, .int .i64 x.2.1, .int .i64 x.2.2], undef, undef, undef, undef, undef], defers := [] } ∧ Blk X b6 57 #[.int .i64 x.1, .int .i64 x.2.1, .int .i64 x.2.2])
    (fun x a' _ X Y row hs hg hr => by
      obtain ⟨b6, e, hk⟩ := hs
      exact ⟨b6, e, hk.move (hg.block b6 hk.lt (fun e' => by obtain ⟨-, o, ho, hc⟩ := hr b6 e'.symm; rw [show X.heap[b6]? = _ from hk] at ho; cases ho; cases hc))⟩) ?assign ?body ?done ?stop
  case assign =>
    intro l pre t X K hI hK
    obtain ⟨b6, hb6⟩ : ∃ b6, X.heap.size = b6 := ⟨_, rfl⟩
    have kz := Blk.new X 57 #[.int .i64 t.1, .int .i64 t.2.1, .int .i64 t.2.2]
    rw [hb6] at kz
    have hI2 := hI
    obtain ⟨⟨v, hv, hr, -⟩, hb, hz⟩ := hI2
    have kk : KpJ w4.heap.size b5 X (X.alloc (.cells #[.int .i64 t.1, .int .i64 t.2.1, .int .i64 t.2.2] 57)) := ⟨by simp, fun j hj _ => Below.heap_alloc _ _ _ (by omega)⟩
    have HI2 := Lib.hid (show (∃ v, Boxed (X.alloc (.cells #[.int .i64 t.1, .int .i64 t.2.1, .int .i64 t.2.2] 57)) b5 53 v ∧ (X.alloc (.cells #[.int .i64 t.1, .int .i64 t.2.1, .int .i64 t.2.2] 57)).ownsRow w4.heap.size 57 3 v pre.length (flatR pre) ∧ True) ∧ (Below w.heap.size w (X.alloc (.cells #[.int .i64 t.1, .int .i64 t.2.1, .int .i64 t.2.2] 57)) ∧ w4.heap.size ≤ (X.alloc (.cells #[.int .i64 t.1, .int .i64 t.2.1, .int .i64 t.2.2] 57)).heap.size) from
      ⟨⟨v, hv.alloc _, RunRow.alloc (show RunRow X w4.heap.size v pre from hr) _, trivial⟩, hb.alloc hb.size _, by simp; omega⟩)
    have KK := Lib.hid kk; have KZ := Lib.hid kz
    clear hv hr hb hz hI kk kz
    gi_wp2
    exact hK _ _ ((KeepsOthers.alloc _ _).from _) KK.out HI2.out ⟨b6, rfl, KZ.out⟩
  case body =>
    rintro l pre x a' X hl hrec ⟨⟨v, hv, hr, -⟩, hb, hz⟩ ⟨b6, rfl, kx⟩ hlt
    obtain ⟨x1, x2, x3⟩ := kx.cells3
    have hcv := hv.cell
    have hrow : RunRow X w4.heap.size v pre := hr
    have m3 : W * 640 ≤ 640 * 640 := Nat.mul_le_mul_right 640 hW
    have HV := Lib.hid hv; have HR := Lib.hid hrow; have HB := Lib.hid hb
    clear hr hrec kx
    gi_wp2_with (gi_at_builtin; refine wpListIn_append_own _ rfl (.tmp 19) (.tmp 21) 53 rfl w4.heap.size 57 r0 (.agg #[.int .i64 0, .int .i64 0, .int .i64 0]) 3 24 Tryz.underlying53 hr0 hrz0 hrz1 hrz2 rfl (by decide) _ _ _ rfl (HR.out.alloc _) ⟨X.heap.size, 0, none⟩ 1 1 [.int .i64 x.1, .int .i64 x.2.1, .int .i64 x.2.2] rfl rfl ?d1 ?d2 ?d3 ?d4 ?d5 ?_)
    case d1 =>
      intro j u hj
      match j, hj with
      | 0, hj => cases hj; exact (Blk.new X 57 #[.int .i64 x.1, .int .i64 x.2.1, .int .i64 x.2.2]).cell 0
      | 1, hj => cases hj; exact (Blk.new X 57 #[.int .i64 x.1, .int .i64 x.2.1, .int .i64 x.2.2]).cell 1
      | 2, hj => cases hj; exact (Blk.new X 57 #[.int .i64 x.1, .int .i64 x.2.1, .int .i64 x.2.2]).cell 2
      | j + 3, hj => simp at hj
    case d2 => simp [Value.oneCell']
    case d3 => unfold maxLen; omega
    case d4 => omega
    case d5 => simp; omega
    intro v' w1' hown' hgrow _
    obtain ⟨g', cap', rfl⟩ := ownsRow_succ hown'
    have hv1 : Boxed w1' b5 53 v := (HV.out.alloc _).kept hgrow (HV.out.not_row (by decide) HR.out)
    have hc1 := hv1.cell
    have hf1 := hv1.frozen
    have HV1 := Lib.hid hv1; have HO := Lib.hid hown'; have HG := Lib.hid hgrow
    clear hv hrow hb hv1 hown' hgrow hcv x1 x2 x3
    gi_wp2
    have hO := HO.out
    try rw [← zs4] at hO
    have zX : w4.heap.size ≤ X.heap.size := hz
    have hg := HG.out
    refine ⟨?_, ?_, ⟨_, HV1.out.set _, ?_, trivial⟩, ?_, ?_⟩
    · refine (((KeepsOthers.alloc X _).trans (KeepsOthers.of_grownBy hg fun j o ej hj => ?_)).trans (KeepsOthers.setCell _ _ _)).from _
      rcases (HR.out.alloc (.cells #[.int .i64 x.1, .int .i64 x.2.1, .int .i64 x.2.2] 57)).2 with ⟨rfl, _⟩ | ⟨g, cap, cur, rfl, _, hgb, _⟩
      · simp [Value.ownBlock] at ej
      · obtain rfl : g = j := by simpa [Value.ownBlock] using ej
        rw [hgb] at hj; cases hj; rfl
    · refine ⟨?_, fun j hj hne => ?_⟩
      · have := hg.size
        simp at this ⊢
        omega
      · rw [heap_setCell_other _ ⟨b5, 0, none⟩ j _ hne, hg.block j (by simp; omega) (fun e => by have := (own_ge HR.out (k := j) e.symm).1; omega)]
        exact Below.heap_alloc _ _ _ (by omega)
    · have e1 : (pre ++ [x]).length = pre.length + 1 := by simp
      rw [e1, flatR_snoc]
      exact hO.kept (grownBy_setCell' _ b5 _) (.inr (HV1.out.not_row (by decide) hO).symm)
    · exact ((HB.out.alloc HB.out.size _).grown hg (by have := HB.out.size; simp; omega) (fun j hj => by have := (own_ge HR.out hj).1; have := b4.size; omega)).setCell (by show w.heap.size ≤ b5; omega) _
    · have := hg.size
      simp at this ⊢
      omega
  case done =>
    rintro D xs X hD rfl ⟨⟨v, hv, hr, -⟩, hb, hz⟩ hK
    have hcv := hv.cell
    gi_wp2
    refine ⟨by simp, .inl ⟨_, _, rfl, run_takeDeferred hK, ?_⟩⟩
    exact ⟨_, results_tmp2 rfl _ _ _, _, rfl, RunRow.base (ownsRow_putObj hr _ hK rfl) b4.size, hb.trans (belowK_b (w := w4) b4.size X D _ _ hD hK rfl rfl)⟩
  case stop =>
    rintro D c pre X _ _ h _
    exact h.elim
end Go.Proofs.YtdimlpcbbkokiaaGreat

/- Walk: the program's Gauge (two lists of lengths, each one's most common). -/
namespace Go.Proofs.YtdimlpcbbkokiaaGreat
open Go.RowKit Go.Shelf
set_option linter.unusedVariables false
attribute [local go_sem] Oper.semAt_some

/-- a row of numbers that the call owns -/
def IRow (w : World) (B : Nat) (v : Value) (l : List Int) : Prop := w.ownsRow B 3 1 v l.length (l.map fun y => Value.int .i64 y)
def ApartV (u v : Value) : Prop := ∀ k, u.ownBlock = some k → v.ownBlock ≠ some k
theorem ApartV.symm {u v : Value} (h : ApartV u v) : ApartV v u := fun k a b => h k b a
section
variable {w w' : World} {B : Nat} {v u : Value} {l : List Int}
theorem IRow.nil (w : World) (B : Nat) : IRow w B (.slice none 0 0) [] := World.ownsRow_nil _ _ _ _
theorem IRow.below (h : IRow w B v l) (hb : Below w.heap.size w w') : IRow w' B v l := own_below h hb
theorem IRow.alloc (h : IRow w B v l) (o : Obj) : IRow (w.alloc o) B v l := h.below ((Below.refl _ _).alloc (Nat.le_refl _) _)
theorem IRow.drewN (h : IRow w B v l) (n : Nat) : IRow (w.drewN n) B v l := own_move h fun _ _ => rfl
theorem IRow.drew (h : IRow w B v l) : IRow w.drew B v l := own_move h fun _ _ => rfl
theorem IRow.far (h : IRow w B v l) (hg : w.grownBy w' u.ownBlock) (ha : ApartV u v) : IRow w' B v l := own_move h fun k hk => hg.block k (own_ge h hk).2 fun e => ha k e.symm hk
theorem IRow.snoc {y : Int} {n : Nat} (hn : l.length = n) (h : w.ownsRow B 3 1 v (n + 1) (l.map (fun y => Value.int .i64 y) ++ [.int .i64 y])) : IRow w B v (l ++ [y]) := by
  subst hn
  unfold IRow
  rw [List.length_append, List.map_append]
  exact h
theorem IRow.arr (h : IRow w B v l) : ∃ A c, v = .slice A l.length c ∧ ArrI w w.heap.size A l.length (fun i => l.getD i.toNat 0) := by
  obtain ⟨A, c, e, -, ha⟩ := own_arr h
  refine ⟨A, c, e, Arr.congr ha fun i i0 i1 => ?_⟩
  have hi : i.toNat < l.length := by omega
  simp only [List.getD_eq_getElem?_getD, List.getElem?_map, List.getElem?_eq_getElem hi]
  rfl
theorem ApartV.new {u v : Value} {g m c H : Nat} (ha : ApartV u v) (hat : u.ownBlock = some g ∨ g = H) (hv : ∀ k, v.ownBlock = some k → k < H) : ApartV (.slice (some ⟨g, 0, none⟩) m c) v := fun k hk hk' => by
  have e : g = k := by simpa [Value.ownBlock] using hk
  rcases hat with h | h
  · exact ha g h (e ▸ hk')
  · have := hv k hk'; omega
theorem IRow.news (w : World) (t : TypeId) (y : Value) : ∀ j u, ([y] : List Value)[j]? = some u → (w.alloc (.cells #[y] t)).cell? ((⟨w.heap.size, 0, none⟩ : Addr).add j) = some u := cell_one_new _ _ _
end

set_option maxRecDepth 100000 in
set_option maxHeartbeats 4000000 in
theorem columns_bad (W H : Int) (A : Option Addr) (n c : Nat) (p : Int → Int) (z : Int) (w : World) (hA : ArrB w w.heap.size A n p) (hn : n ≤ maxLen) (hz : chk W H n p = z) (hz0 : z ≠ 0) :
    Calls Tryz.prog 20 #[.agg #[.int .i64 W, .int .i64 H, .slice A n c]] w fun e w' => e = .returned (.tuple #[.slice none 0 0, .int .i64 z]) ∧ Below w.heap.size w w' := by
  have CK := Lib.hid fun w' hA' => check_any W H A n c p w' hA' hn
  rw [hz] at CK
  have HA := Lib.hid hA
  have hz1 : (z == 0) = false := by simp [hz0]
  clear hA hz
  go_enter Tryz.func20, Tryz.ntmps20
  go_wp2_with fail
  refine (CK.out _ (HA.out.to (by (repeat (first | exact Below.refl _ _ | assumption | refine Below.drew ?_ | refine below_drewN ?_ _ | refine Below.alloc ?_ (by first | omega | (simp; done) | (simp; omega)) _ | refine Below.setCell ?_ (by first | omega | (simp; done) | (simp; omega)) _ | refine below_setRow ?_ (by first | omega | (simp; done) | (simp; omega)) _ ))))).mono ?_
  rintro e w2 ⟨rfl, d2⟩
  have b2 : Below w.heap.size w w2 := below_call (by (repeat (first | exact Below.refl _ _ | assumption | refine Below.drew ?_ | refine below_drewN ?_ _ | refine Below.alloc ?_ (by first | omega | (simp; done) | (simp; omega)) _ | refine Below.setCell ?_ (by first | omega | (simp; done) | (simp; omega)) _ | refine below_setRow ?_ (by first | omega | (simp; done) | (simp; omega)) _ ))) (by simp; try omega) d2
  go_wp2_with fail
  refine bodyPost_ret (v := .tuple #[.slice none 0 0, .int .i64 z]) (by simp [results, Tryz.results20, go_sem]) rfl ?_
  exact ⟨rfl, b2⟩

set_option maxRecDepth 100000 in
set_option maxHeartbeats 4000000 in
theorem gauge_bad (W H : Int) (A : Option Addr) (n c : Nat) (p : Int → Int) (z : Int) (w : World) (hA : ArrB w w.heap.size A n p) (hn : n ≤ maxLen) (hz : chk W H n p = z) (hz0 : z ≠ 0) :
    Calls Tryz.prog 5 #[.agg #[.int .i64 W, .int .i64 H, .slice A n c]] w fun e w' => e = .returned (.tuple #[.int .i64 0, .int .i64 0, .int .i64 z]) ∧ Below w.heap.size w w' := by
  have CK := Lib.hid fun w' hA' => columns_bad W H A n c p z w' hA' hn hz hz0
  have HA := Lib.hid hA
  have hz1 : (z == 0) = false := by simp [hz0]
  clear hA hz
  go_enter Tryz.func5, Tryz.ntmps5
  go_wp2_with fail
  refine (CK.out _ (HA.out.to (by (repeat (first | exact Below.refl _ _ | assumption | refine Below.drew ?_ | refine below_drewN ?_ _ | refine Below.alloc ?_ (by first | omega | (simp; done) | (simp; omega)) _ | refine Below.setCell ?_ (by first | omega | (simp; done) | (simp; omega)) _ | refine below_setRow ?_ (by first | omega | (simp; done) | (simp; omega)) _ ))))).mono ?_
  rintro e w2 ⟨rfl, d2⟩
  have b2 : Below w.heap.size w w2 := below_call (by (repeat (first | exact Below.refl _ _ | assumption | refine Below.drew ?_ | refine below_drewN ?_ _ | refine Below.alloc ?_ (by first | omega | (simp; done) | (simp; omega)) _ | refine Below.setCell ?_ (by first | omega | (simp; done) | (simp; omega)) _ | refine below_setRow ?_ (by first | omega | (simp; done) | (simp; omega)) _ ))) (by simp; try omega) d2
  go_wp2_with fail
  refine bodyPost_ret (v := .tuple #[.int .i64 0, .int .i64 0, .int .i64 z]) (by simp [results, Tryz.results5, go_sem]) rfl ?_
  exact ⟨rfl, b2⟩

set_option maxRecDepth 100000 in
set_option maxHeartbeats 4000000 in
theorem gauge_ok (W H : Nat) (A : Option Addr) (n c : Nat) (p : Int → Int) (w : World) (hA : ArrB w w.heap.size A n p) (hW : W ≤ 640) (hH : H ≤ 640) (hn : (n : Int) = (W : Int) * H) (hp : ∀ i : Int, 0 ≤ i → i < n → p i = 0 ∨ p i = 1) :
    Calls Tryz.prog 5 #[.agg #[.int .i64 W, .int .i64 H, .slice A n c]] w fun e w' => ∃ b q, e = .returned (.tuple #[.int .i64 b, .int .i64 q, .int .i64 0]) ∧ Mode (cntA ((rLs (fun x y => inkB W H p x y) H W).map dkA)) b ∧ Mode (cntA (ltL (rLs (fun x y => inkB W H p x y) H W) (rLs (fun x y => inkB W H p x y) H W).length)) q ∧ Below w.heap.size w w' := by
  have CO := Lib.hid fun w' hA' => columns_any W H A n c p w' hA' hW hH hn hp
  have RO := runsOk_all (p := p) (N := W) (H := H)
  have hLL : (rLs (fun x y => inkB W H p x y) H W).length ≤ 409600 := Nat.le_trans (rLs_len _ _ _) (by rw [Nat.mul_comm]; exact Nat.mul_le_mul hH hW)
  obtain ⟨r0, hr0, hrz0, hrz1, hrz2⟩ := info_parts infoRun
  obtain ⟨i0, hi0, hz0, hz1, hz2⟩ := info_parts infoInt
  have HA := Lib.hid hA
  generalize rLs (fun x y => inkB W H p x y) H W = L at *
  have HRO := Lib.hid RO
  have DB := Lib.hid fun r hr => dk_bd RO hH (r := r) hr
  have LB := Lib.hid fun i hi y hy => lt_bd RO hH (i := i) hi (y := y) hy
  have LLB := Lib.hid fun y hy => ltL_bd RO hH (Nat.le_refl _) y hy
  have LLN := Lib.hid fun i => ltL_len L i
  clear hA RO hn hp
  go_enter Tryz.func5, Tryz.ntmps5
  go_wp2_with fail
  refine (CO.out _ (HA.out.to (by (repeat (first | exact Below.refl _ _ | assumption | refine Below.drew ?_ | refine below_drewN ?_ _ | refine Below.alloc ?_ (by first | omega | (simp; done) | (simp; omega)) _ | refine Below.setCell ?_ (by first | omega | (simp; done) | (simp; omega)) _ | refine below_setRow ?_ (by first | omega | (simp; done) | (simp; omega)) _ ))))).mono ?_
  rintro e w5 ⟨v5, rfl, hR5, d5⟩
  have b5 : Below w.heap.size w w5 := below_call (by (repeat (first | exact Below.refl _ _ | assumption | refine Below.drew ?_ | refine below_drewN ?_ _ | refine Below.alloc ?_ (by first | omega | (simp; done) | (simp; omega)) _ | refine Below.setCell ?_ (by first | omega | (simp; done) | (simp; omega)) _ | refine below_setRow ?_ (by first | omega | (simp; done) | (simp; omega)) _ ))) (by simp; try omega) d5
  obtain ⟨Ac, cc, rfl, hRA⟩ := hR5.arr
  have HRA := Lib.hid hRA
  clear d5 hRA hR5 CO HA
  go_wp2_with fail
  go_loopw [20, 6, 7] (fun s va vb wr => ∃ i : Nat, i ≤ L.length ∧ s = .int .i64 i ∧ Below w5.heap.size w5 wr ∧ IRow wr w5.heap.size va ((L.take i).map dkA) ∧ IRow wr w5.heap.size vb (ltL L i) ∧ Hid (ApartV va vb)) (fun s _ _ _ => L.length - (intOf s).toNat)
  case atStart => exact ⟨0, by omega, rfl, Below.refl _ _, by simpa using IRow.nil _ _, IRow.nil _ _, Lib.hid fun k hk => by simp [Value.ownBlock] at hk⟩
  case round =>
    obtain ⟨i, hi, rfl, b2, k1, k2, AP⟩ := hrel
    by_cases il : (i : Int) < L.length
    · have ilN : i < L.length := by omega
      obtain ⟨r, hr⟩ : ∃ r, L[i]? = some r := ⟨L[i], List.getElem?_eq_getElem ilN⟩
      have hgd : L.getD i (0, 0, 0) = r := by rw [List.getD_eq_getElem?_getD, hr]; rfl
      have htk : (L.take (i + 1)).map dkA = (L.take i).map dkA ++ [dkA r] := by rw [List.take_add_one, hr]; simp
      obtain ⟨gR, rfl, hgR, rc⟩ := HRA.out (by intro h; rw [h] at ilN; simp at ilN)
      obtain ⟨b1', b2', b3', b4', b5'⟩ := HRO.out.in_ i r hr
      obtain ⟨d1, d2, d3⟩ := rc i r hr
      obtain ⟨D1, D2⟩ := DB.out r (List.mem_of_getElem? hr)
      obtain ⟨D, hD⟩ : ∃ D, dkA r = D := ⟨_, rfl⟩
      have hD' : r.2.2 - r.2.1 + 1 = D := hD
      rw [hD] at htk D1 D2
      have e1 := (b2.cell (p := ⟨gR, i * 3, none⟩) hgR).trans d1
      have e2 := (b2.cell (p := ⟨gR, i * 3 + 1, none⟩) hgR).trans d2
      have e3 := (b2.cell (p := ⟨gR, i * 3 + 2, none⟩) hgR).trans d3
      have hln : ((L.take i).map dkA).length = i := by rw [List.length_map, List.length_take]; omega
      obtain ⟨lA, hlA⟩ : ∃ lA, (L.take i).map dkA = lA := ⟨_, rfl⟩
      rw [hlA] at hln htk k1
      have HTK := Lib.hid htk
      have HGD := Lib.hid hgd
      have HRC := Lib.hid rc
      obtain ⟨rx, rf, rt⟩ := r
      simp only at d1 d2 d3 e1 e2 e3 b1' b2' b3' b4' b5' hD'
      have v1 : IntKind.i64.wrap (rt - rf) = rt - rf := IntWalk.i64_in _ (by omega)
      have v2 : IntKind.i64.wrap (rt - rf + 1) = D := (IntWalk.i64_in _ (by omega)).trans hD'
      clear htk hgd rc hD hD' d1 d2 d3 hlA
      obtain ⟨gb, hgb⟩ : ∃ g, wr.heap.size = g := ⟨_, rfl⟩
      go_upto_region 8 with fail
      have BX := Blk.new wr 57 #[.int .i64 rx, .int .i64 rf, .int .i64 rt]
      have b3 := b2.alloc b2.size (.cells #[.int .i64 rx, .int .i64 rf, .int .i64 rt] 57)
      replace k1 := k1.alloc (.cells #[.int .i64 rx, .int .i64 rf, .int .i64 rt] 57)
      replace k2 := k2.alloc (.cells #[.int .i64 rx, .int .i64 rf, .int .i64 rt] 57)
      have zb := b2.size
      clear b2 e1 e2 e3
      generalize wr.alloc (.cells #[.int .i64 rx, .int .i64 rf, .int .i64 rt] 57) = w6 at *
      rw [hgb] at BX zb
      clear hgb
      obtain ⟨c1, c2, c3⟩ := BX.cells3
      have k1' := k1
      unfold IRow at k1'
      rw [hln] at k1'
      have z6 := b3.size
      go_wp2_with (at_builtin; go_loud (refine wpList_append_lies _ rfl (.tmp 25) (.tmp 32) 37 rfl w5.heap.size 3 i0 (.int .i64 0) 1 8 Tryz.underlying37 hi0 hz0 hz1 hz2 rfl (by decide) _ i _ rfl (own_move k1' fun k hk => Below.heap_alloc _ _ _ (own_ge k1' hk).2) ⟨w6.heap.size, 0, none⟩ 1 1 [.int .i64 D] rfl rfl ?c1 ?c2 ?c3 ?c4 ?c5 ?c6 _ rfl ?_))
      case c1 => exact cell_one_new _ _ _
      case c2 => simp [Value.oneCell']
      case c3 => omega
      case c4 => unfold maxLen; omega
      case c5 => omega
      case c6 => simp; omega
      intro g cap w7 own7 hg7 hat7 hlt7
      have b7 : Below w5.heap.size w5 w7 := (b3.alloc b3.size (.cells #[.int .i64 D] 3)).grown hg7 (by simp; omega) (fun k hk => (own_ge k1 hk).1)
      have BX7 : Blk w7 gb 57 #[.int .i64 rx, .int .i64 rf, .int .i64 rt] := (BX.alloc (.cells #[.int .i64 D] 3)).grown hg7 (own_neB k1 BX (by decide))
      have j1 : IRow w7 w5.heap.size (.slice (some ⟨g, 0, none⟩) (i + 1) cap) ((L.take (i + 1)).map dkA) := by rw [HTK.out]; exact IRow.snoc hln own7
      have j2 : IRow w7 w5.heap.size _ (ltL L i) := (k2.alloc (.cells #[.int .i64 D] 3)).far hg7 AP.out
      have AP7 := Lib.hid (AP.out.new (m := i + 1) (c := cap) hat7 fun k hk => by have := (own_ge k2 hk).2; omega)
      clear own7 hg7 hat7 k1 k1' k2 b3 BX AP c1 c2 c3 v1 v2 D1 D2 HTK hlt7 z6
      obtain ⟨c1, c2, c3⟩ := BX7.cells3
      by_cases i0' : 0 < i
      · obtain ⟨j, hj⟩ : ∃ j, i = j + 1 := ⟨i - 1, by omega⟩
        have hj2 : j < L.length := by omega
        have hgj : L.getD (i - 1) (0, 0, 0) = L[j] := by rw [show i - 1 = j by omega, List.getD_eq_getElem?_getD, List.getElem?_eq_getElem hj2]; rfl
        obtain ⟨q, hq⟩ : ∃ q, L[j] = q := ⟨_, rfl⟩
        have hqj : L[j]? = some q := by rw [List.getElem?_eq_getElem hj2, hq]
        rw [hq] at hgj
        have hlt := show ltA L i = if 0 < i ∧ (L.getD (i - 1) (0, 0, 0)).1 = (L.getD i (0, 0, 0)).1 then [(L.getD i (0, 0, 0)).2.1 - (L.getD (i - 1) (0, 0, 0)).2.2 - 1] else [] from rfl
        rw [hgj, HGD.out] at hlt
        obtain ⟨q1', q2', q3', q4', q5'⟩ := HRO.out.in_ j q hqj
        obtain ⟨d1, d2, d3⟩ := HRC.out j q hqj
        obtain ⟨qx, qf, qt⟩ := q
        have x1 := (b7.cell (p := ⟨gR, j * 3, none⟩) hgR).trans d1
        have x3 := (b7.cell (p := ⟨gR, j * 3 + 2, none⟩) hgR).trans d3
        simp only at hlt q1' q2' q3' q4' q5' x1 x3
        have v0 : IntKind.i64.wrap ((i : Int) - 1) = (j : Int) := (IntWalk.i64_in _ (by omega)).trans (by omega)
        have hlj : (j : Int) < L.length := by omega
        have g0 : (0 : Int) < i := by omega
        have hd0 : decide ((0 : Int) < i) = true := decide_eq_true g0
        by_cases ex : qx = rx
        · have ht1 : ltL L (i + 1) = ltL L i ++ [rf - qt - 1] := by rw [ltL, hlt, if_pos ⟨i0', ex⟩]
          obtain ⟨E1, E2⟩ := LB.out i ilN (rf - qt - 1) (by rw [hlt, if_pos ⟨i0', ex⟩]; simp)
          have h4 : (qx == rx) = true := by simp [ex]
          have HT1 := Lib.hid ht1
          clear hlt hq hj d1 d2 d3 hgj ex ht1
          go_upto_region 9 with fail
          go_cut [46] (fun v wx => v = .bool true ∧ ∃ nq, wx = w7.drewN nq)
          case first =>
            go_quiet (fail)
            go_wp2_with fail
            go_meet
            exact ⟨rfl, nq, rfl⟩
          case rest =>
          obtain ⟨rfl, nq, rfl⟩ := hcut
          have b8 := below_drewN b7 nq
          replace j1 := j1.drewN nq
          replace j2 := j2.drewN nq
          have BX8 := BX7.drewN nq
          have x3' : (w7.drewN nq).cell? ⟨gR, j * 3 + 2, none⟩ = some (.int .i64 qt) := x3
          clear x1 x3 c1 c2 c3 h4 hd0 b7 BX7
          generalize w7.drewN nq = w8 at *
          obtain ⟨c1, c2, c3⟩ := BX8.cells3
          have w5' : IntKind.i64.wrap (rf - qt) = rf - qt := IntWalk.i64_in _ (by omega)
          obtain ⟨E, hE⟩ : ∃ E, rf - qt - 1 = E := ⟨_, rfl⟩
          have w6' : IntKind.i64.wrap (rf - qt - 1) = E := (IntWalk.i64_in _ (by omega)).trans hE
          have HT2 := HT1.out
          rw [hE] at HT2 E1 E2
          have HT3 := Lib.hid HT2
          have lln := LLN.out i
          have j2' := j2
          unfold IRow at j2'
          obtain ⟨m, hm⟩ : ∃ m, (ltL L i).length = m := ⟨_, rfl⟩
          rw [hm] at j2' lln
          have HM := Lib.hid hm
          have z8 := b8.size
          clear HT2 HT1 hE hm hr hqj
          go_upto_region 10 with fail
          go_region_law
            (refine step_append_lies _ (by rfl) _ _ _ (by rfl) w5.heap.size 3 i0 (.int .i64 0) 1 8 Tryz.underlying37 hi0 hz0 hz1 hz2 rfl (by omega) _ _ _ (by rfl) (own_move j2' fun k hk => (Below.heap_alloc _ (.cells #[.int .i64 E] 3) _ (own_ge j2' hk).2 : (w8.alloc (.cells #[.int .i64 E] 3)).drew.heap[k]? = _)) ⟨w8.heap.size, 0, none⟩ 1 1 [.int .i64 E] (by rfl) (by rfl) (World.news_of_block (cs := #[.int .i64 E]) (t := 3) (fr := (0, 0)) (heap_alloc_new w8 _)) (by simp [Value.oneCell']) (by omega) (by unfold maxLen; omega) (by omega) (by first | omega | (simp; omega)) (w8.heap.size + 1) (by simp) ?_
             intro gg cap2 w9 hown1 hgrow hat hlt1)
          all_goals
            have b9 : Below w5.heap.size w5 w9 := ((b8.alloc b8.size (.cells #[.int .i64 E] 3)).drew).grown hgrow (by simp; omega) (fun k hk => (own_ge j2 hk).1)
            have a1 : IRow ((w8.alloc (.cells #[.int .i64 E] 3)).drew) w5.heap.size _ ((L.take (i + 1)).map dkA) := (j1.alloc _).drew
            have i1 : IRow w9 w5.heap.size _ ((L.take (i + 1)).map dkA) := a1.far hgrow AP7.out.symm
            have i2 : IRow w9 w5.heap.size (.slice (some ⟨gg, 0, none⟩) (m + 1) cap2) (ltL L (i + 1)) := by rw [HT3.out]; exact IRow.snoc HM.out hown1
            have AP9 := Lib.hid (ApartV.new (m := m + 1) (c := cap2) (H := w8.heap.size + 1) AP7.out.symm hat fun k hk => by have := (own_ge j1 hk).2; omega).symm
            clear hown1 hgrow hat a1 hlt1 w5' w6' x3' v0 E1 E2 c1 c2 c3
            go_wp2
            go_roundw
            case rel => exact ⟨i + 1, by omega, by go_num, b9, i1, i2, AP9⟩
            case measure => simp [intOf]; omega
        · have ht1 : ltL L (i + 1) = ltL L i := by rw [ltL, hlt, if_neg (fun h => ex h.2), List.append_nil]
          have h4 : (qx == rx) = false := by simp [ex]
          have HT1 := Lib.hid ht1
          clear hlt hq hj d1 d2 d3 hgj ex ht1
          go_upto_region 9 with fail
          go_cut [46] (fun v wx => v = .bool false ∧ ∃ nq, wx = w7.drewN nq)
          case first =>
            go_quiet (fail)
            go_wp2_with fail
            go_meet
            exact ⟨rfl, nq, rfl⟩
          case rest =>
          obtain ⟨rfl, nq, rfl⟩ := hcut
          have b8 := below_drewN b7 nq
          replace j1 := j1.drewN nq
          replace j2 := j2.drewN nq
          clear x1 x3 c1 c2 c3 h4 hd0 b7 BX7
          generalize w7.drewN nq = w8 at *
          go_wp2_with fail
          go_roundw
          case rel => exact ⟨i + 1, by omega, by go_num, b8, j1, HT1.out ▸ j2, AP7⟩
          case measure => simp [intOf]; omega
      · have hd0 : decide ((0 : Int) < i) = false := decide_eq_false (by omega)
        have hd1 : decide (0 < i) = false := decide_eq_false i0'
        have ht1 : ltL L (i + 1) = ltL L i := by
          rw [ltL]
          show ltL L i ++ (if 0 < i ∧ _ then _ else []) = _
          rw [if_neg (fun h => i0' h.1), List.append_nil]
        have HT1 := Lib.hid ht1
        have hig : ¬ (0 : Int) < i := by omega
        clear ht1 i0'
        go_upto_region 9 with fail
        go_cut [46] (fun v wx => v = .bool false ∧ ∃ nq, wx = w7.drewN nq)
        case first =>
          go_quiet (fail)
          go_wp2_with fail
          go_meet
          exact ⟨rfl, nq, rfl⟩
        case rest =>
        obtain ⟨rfl, nq, rfl⟩ := hcut
        have b8 := below_drewN b7 nq
        replace j1 := j1.drewN nq
        replace j2 := j2.drewN nq
        clear c1 c2 c3 hd0 b7 BX7
        generalize w7.drewN nq = w8 at *
        go_wp2_with fail
        go_roundw
        case rel => exact ⟨i + 1, by omega, by go_num, b8, j1, HT1.out ▸ j2, AP7⟩
        case measure => simp [intOf]; omega
    · have hil : i = L.length := by omega
      rw [hil, List.take_length] at k1
      rw [hil] at k2
      obtain ⟨A1, c1, rfl, h1⟩ := k1.arr
      obtain ⟨A2, c2, rfl, h2⟩ := k2.arr
      have ln1 : (L.map dkA).length ≤ 1000000 := by rw [List.length_map]; omega
      have ln2 : (ltL L L.length).length ≤ 1000000 := by have := LLN.out L.length; omega
      have M1 := Lib.hid (common_any A1 (L.map dkA).length c1 _ wr h1 ln1 fun i i0 i1 => by
        have hi : i.toNat < (L.map dkA).length := by omega
        rw [List.getD_eq_getElem?_getD, List.getElem?_eq_getElem hi]
        have hm := List.getElem_mem hi
        obtain ⟨r, hr, e⟩ := List.mem_map.1 hm
        have := DB.out r hr
        show 1 ≤ (L.map dkA)[i.toNat] ∧ (L.map dkA)[i.toNat] ≤ 1000000
        omega)
      have M2 := Lib.hid fun w' h' => common_any A2 (ltL L L.length).length c2 (fun i => (ltL L L.length).getD i.toNat 0) w' h' ln2 fun i i0 i1 => by
        have hi : i.toNat < (ltL L L.length).length := by omega
        simp only [List.getD_eq_getElem?_getD, List.getElem?_eq_getElem hi]
        have := LLB.out _ (List.getElem_mem hi)
        show 1 ≤ (ltL L L.length)[i.toNat] ∧ (ltL L L.length)[i.toNat] ≤ 1000000
        omega
      rw [show cntN (fun i => (L.map dkA).getD i.toNat 0) (L.map dkA).length = cntA (L.map dkA) from funext fun x => cntN_list _ x] at M1
      rw [show cntN (fun i => (ltL L L.length).getD i.toNat 0) (ltL L L.length).length = cntA (ltL L L.length) from funext fun x => cntN_list _ x] at M2
      generalize (fun i : Int => (ltL L L.length).getD i.toNat 0) = Q2 at *
      generalize (ltL L L.length).length = n2 at *
      generalize (L.map dkA).length = n1 at *
      have H2 := Lib.hid h2
      clear hil k1 k2 h1 h2 DB LB LLB HRO ln1 ln2
      go_wp2_with fail
      refine M1.out.mono ?_
      rintro e w6 ⟨m1, rfl, mo1, d6⟩
      have b6 := below_call b2 b2.size d6
      have MO1 := Lib.hid mo1
      have h26 := ArrI.to H2.out d6
      clear mo1
      go_wp2_with fail
      refine (M2.out w6 h26).mono ?_
      rintro e w7 ⟨m2, rfl, mo2, d7⟩
      have b7 := below_call b6 b6.size d7
      have MO2 := Lib.hid mo2
      clear mo2
      go_wp2_with fail
      refine bodyPost_ret (v := .tuple #[.int .i64 m1, .int .i64 m2, .int .i64 0]) (by simp [results, Tryz.results5, go_sem]) rfl ?_
      exact ⟨m1, m2, rfl, MO1.out, MO2.out, b5.trans (b7.mono b5.size)⟩
end Go.Proofs.YtdimlpcbbkokiaaGreat

/- Walk: images with staves whose lines bend (custoslaw03.Wavy). -/
namespace Go.Proofs.YtdimlpcbbkokiaaGreat
open Go.RowKit Go.Shelf
set_option linter.unusedVariables false
attribute [local go_sem] Oper.semAt_some

/-- what Wavy returns -/
def WavyOut (w w' : World) (W H : Int) (N n : Nat) (L : Nat → Nat → Int) (v : Value) : Prop :=
  ∃ g Bs vo vs, v = .tuple #[.agg #[.int .i64 W, .int .i64 H, .slice (some ⟨g, 0, none⟩) N N], vo] ∧ w.heap.size ≤ g ∧ g < Bs ∧ Blk w' g 5 (u8s N (wvQ W L (5 * n) 0)) ∧ StOut Bs w' (fun _ => W.toNat) L ((List.range n).map (5 * ·)) vo vs
theorem min14 (n M : Nat) (h : (M : Int) = min (n : Int) 14) : M ≤ 14 ∧ M ≤ n ∧ min n 14 = M := by omega

end Go.Proofs.YtdimlpcbbkokiaaGreat

/- Walk: the reference's Restore. Written by gen/t42.py. -/
namespace Go.Proofs.YtdimlpcbbkokiaaGreat
open Go.RowKit Go.Shelf
set_option linter.unusedVariables false
attribute [local go_sem] Oper.semAt_some
set_option maxRecDepth 100000 in
set_option maxHeartbeats 4000000 in
theorem rrestore_bad (W H SW SH : Int) (A SA AL : Option Addr) (n c sn sc K cL : Nat) (p sp : Int → Int) (m : Nat → Nat) (ln : Nat → Nat → Int) (up : Int) (E : Int) (w : World) (hA : ArrB w w.heap.size A n p) (hn : n ≤ maxLen) (hB : IsB p) (hS : ArrB w w.heap.size SA sn sp) (hsn : sn ≤ maxLen) (hBS : IsB sp) (hL : Lines w w.heap.size AL K m ln) (hm : ∀ i, i < K → m i ≤ maxLen) (hE : resE W H n p SW SH sn sp K m ln up = E) (hE0 : E ≠ 0) :
    Calls Tryz.prog 45 #[.agg #[.int .i64 W, .int .i64 H, .slice A n c], .agg #[.int .i64 SW, .int .i64 SH, .slice SA sn sc], .agg #[.slice AL K cL], .int .i64 up] w fun e w' => e = .returned (.tuple #[noImg, .int .i64 E]) ∧ Below w.heap.size w w' := by
  have C1 := Lib.hid fun w' hA' => rcheck_any W H A n c p w' hA' hn hB
  have C2 := Lib.hid fun w' hA' => rcheck_any SW SH SA sn sc sp w' hA' hsn hBS
  have b1 : Below w.heap.size w ((((w.alloc (.cells #[.int .i64 W, .int .i64 H, .slice A n c] 24)).alloc (.cells #[.int .i64 SW, .int .i64 SH, .slice SA sn sc] 24)).alloc (.cells #[.slice AL K cL] 40)).alloc (.cells #[.int .i64 0, .int .i64 0, .slice none 0 0] 24)) := by (repeat (first | exact Below.refl _ _ | assumption | refine Below.drew ?_ | refine below_drewN ?_ _ | refine Below.alloc ?_ (by first | omega | (simp; done) | (simp; omega)) _ | refine Below.setCell ?_ (by first | omega | (simp; done) | (simp; omega)) _ | refine below_setRow ?_ (by first | omega | (simp; done) | (simp; omega)) _ ))
  have k4 : Blk ((((w.alloc (.cells #[.int .i64 W, .int .i64 H, .slice A n c] 24)).alloc (.cells #[.int .i64 SW, .int .i64 SH, .slice SA sn sc] 24)).alloc (.cells #[.slice AL K cL] 40)).alloc (.cells #[.int .i64 0, .int .i64 0, .slice none 0 0] 24)) (w.heap.size + 1 + 1 + 1) 24 #[.int .i64 0, .int .i64 0, .slice none 0 0] := Blk.new' (by simp) _ _
  have k1 : Blk ((((w.alloc (.cells #[.int .i64 W, .int .i64 H, .slice A n c] 24)).alloc (.cells #[.int .i64 SW, .int .i64 SH, .slice SA sn sc] 24)).alloc (.cells #[.slice AL K cL] 40)).alloc (.cells #[.int .i64 0, .int .i64 0, .slice none 0 0] 24)) w.heap.size 24 #[.int .i64 W, .int .i64 H, .slice A n c] := (((Blk.new _ _ _).alloc _).alloc _).alloc _
  have k2 : Blk ((((w.alloc (.cells #[.int .i64 W, .int .i64 H, .slice A n c] 24)).alloc (.cells #[.int .i64 SW, .int .i64 SH, .slice SA sn sc] 24)).alloc (.cells #[.slice AL K cL] 40)).alloc (.cells #[.int .i64 0, .int .i64 0, .slice none 0 0] 24)) (w.heap.size + 1) 24 #[.int .i64 SW, .int .i64 SH, .slice SA sn sc] := ((Blk.new' (by simp) _ _).alloc _).alloc _
  have k3 : Blk ((((w.alloc (.cells #[.int .i64 W, .int .i64 H, .slice A n c] 24)).alloc (.cells #[.int .i64 SW, .int .i64 SH, .slice SA sn sc] 24)).alloc (.cells #[.slice AL K cL] 40)).alloc (.cells #[.int .i64 0, .int .i64 0, .slice none 0 0] 24)) (w.heap.size + 1 + 1) 40 #[.slice AL K cL] := (Blk.new' (by simp) _ _).alloc _
  have HE := Lib.hid hE; have HE0 := Lib.hid hE0
  clear hE hE0
  generalize hz1 : chk W H n p = z1 at *
  generalize hz2 : chk SW SH sn sp = z2 at *
  have HZ1 := Lib.hid hz1; have HZ2 := Lib.hid hz2
  clear hz1 hz2
  have RE : Hid (E = if orE z1 z2 ≠ 0 then orE z1 z2 else if stFits W H K m ln = false then 10 else if up < 0 ∨ SH ≤ up then 1 else if SW ≠ W then 2 else 0) := by
    show _ = _
    rw [← HE.out]; unfold resE; rw [HZ1.out, HZ2.out]
  clear HE
  go_enter Tryz.func45, Tryz.ntmps45
  go_wp2_with fail
  generalize ((((w.alloc (.cells #[.int .i64 W, .int .i64 H, .slice A n c] 24)).alloc (.cells #[.int .i64 SW, .int .i64 SH, .slice SA sn sc] 24)).alloc (.cells #[.slice AL K cL] 40)).alloc (.cells #[.int .i64 0, .int .i64 0, .slice none 0 0] 24)) = w1 at *
  refine (C1.out _ (hA.to b1)).mono ?_
  rintro e w2 ⟨rfl, hb2⟩
  have b2 := below_call b1 b1.size hb2
  replace k1 := k1.below' hb2
  replace k2 := k2.below' hb2
  replace k3 := k3.below' hb2
  replace k4 := k4.below' hb2
  clear hb2 b1 C1
  by_cases h1 : z1 = 0
  · subst h1
    obtain ⟨q1, q2, q3⟩ := k2.cells3
    go_wp2_with fail
    refine (C2.out _ (hS.to b2)).mono ?_
    rintro e w3 ⟨rfl, hb3⟩
    have b3 := below_call b2 b2.size hb3
    replace k1 := k1.below' hb3
    replace k2 := k2.below' hb3
    replace k3 := k3.below' hb3
    replace k4 := k4.below' hb3
    clear hb3 b2 C2 q1 q2 q3
    by_cases h2 : z2 = 0
    · subst h2
      have RE2 : Hid (E = if stFits W H K m ln = false then 10 else if up < 0 ∨ SH ≤ up then 1 else if SW ≠ W then 2 else 0) := by
        show _ = _
        have := RE.out
        rwa [if_neg (by simp [orE])] at this
      clear RE
      obtain ⟨hW1, hW2, hH1, hH2, -, -⟩ := chk_ok HZ1.out
      have FT := Lib.hid fun w' hL' => rfits_st W H A AL n c K cL m ln w' hW1 hH1 hW2 hH2 hL' hm
      generalize hs : stFits W H K m ln = s at *
      have HS := Lib.hid hs
      clear hs
      obtain ⟨p1, p2, p3⟩ := k1.cells3
      have p4 := k3.cells0
      go_wp2_with fail
      refine (FT.out _ (hL.below b3)).mono ?_
      rintro e w4 ⟨rfl, hb4⟩
      have b4 := below_call b3 b3.size hb4
      replace k1 := k1.below' hb4
      replace k2 := k2.below' hb4
      replace k3 := k3.below' hb4
      replace k4 := k4.below' hb4
      clear hb4 b3 FT p1 p2 p3 p4
      cases s with
      | false =>
        have hE : E = 10 := by rw [RE2.out, if_pos rfl]
        subst hE
        clear RE2
        obtain ⟨r1, r2, r3⟩ := k4.cells3
        obtain ⟨f1, f2, f3⟩ := k4.frozen3
        have k9 := ((k4.set_ 0 (.int .i64 0)).set_ 1 (.int .i64 0)).set_ 2 (.slice none 0 0)
        obtain ⟨s1, s2, s3⟩ := Blk.cells3 (a := .int .i64 0) (b := .int .i64 0) (c := .slice none 0 0) k9
        go_wp2_with fail
        refine bodyPost_ret (v := .tuple #[noImg, .int .i64 10]) (by simp [results, Tryz.results45, go_sem, noImg, s1, s2, s3]) rfl ?_
        exact ⟨rfl, by (repeat (first | with_reducible exact Below.refl _ _ | with_reducible assumption | with_reducible refine Below.drew ?_ | (with_reducible refine below_alloc' ?_ ?_; focus (first | omega | (simp; done) | (simp; omega))) | (with_reducible refine below_fill3' ?_ ?_; focus omega) | (with_reducible refine below_setCell' ?_ ?_; focus (first | omega | (simp; done) | (simp; omega))) | (with_reducible apply below_call'; (focus (with_reducible assumption)); (focus (first | omega | (simp; done) | (simp; omega))))))⟩
      | true =>
        by_cases hup : up < 0 ∨ SH ≤ up
        · have hE : E = 1 := by rw [RE2.out, if_neg (by simp), if_pos hup]
          subst hE
          clear RE2
          obtain ⟨q1, q2, q3⟩ := k2.cells3
          by_cases hu : up < 0
          · have d1 : decide (up < 0) = true := decide_eq_true hu
            clear hup
            obtain ⟨r1, r2, r3⟩ := k4.cells3
            obtain ⟨f1, f2, f3⟩ := k4.frozen3
            have k9 := ((k4.set_ 0 (.int .i64 0)).set_ 1 (.int .i64 0)).set_ 2 (.slice none 0 0)
            obtain ⟨s1, s2, s3⟩ := Blk.cells3 (a := .int .i64 0) (b := .int .i64 0) (c := .slice none 0 0) k9
            go_wp2_with fail
            refine bodyPost_ret (v := .tuple #[noImg, .int .i64 1]) (by simp [results, Tryz.results45, go_sem, noImg, s1, s2, s3]) rfl ?_
            exact ⟨rfl, by (repeat (first | with_reducible exact Below.refl _ _ | with_reducible assumption | with_reducible refine Below.drew ?_ | (with_reducible refine below_alloc' ?_ ?_; focus (first | omega | (simp; done) | (simp; omega))) | (with_reducible refine below_fill3' ?_ ?_; focus omega) | (with_reducible refine below_setCell' ?_ ?_; focus (first | omega | (simp; done) | (simp; omega))) | (with_reducible apply below_call'; (focus (with_reducible assumption)); (focus (first | omega | (simp; done) | (simp; omega))))))⟩
          · have d1 : decide (up < 0) = false := decide_eq_false hu
            have hu2 : SH ≤ up := by omega
            have d2 : decide (SH ≤ up) = true := decide_eq_true hu2
            have hu3 : 0 ≤ up := by omega
            clear hup hu
            obtain ⟨r1, r2, r3⟩ := k4.cells3
            obtain ⟨f1, f2, f3⟩ := k4.frozen3
            have k9 := ((k4.set_ 0 (.int .i64 0)).set_ 1 (.int .i64 0)).set_ 2 (.slice none 0 0)
            obtain ⟨s1, s2, s3⟩ := Blk.cells3 (a := .int .i64 0) (b := .int .i64 0) (c := .slice none 0 0) k9
            go_wp2_with fail
            refine bodyPost_ret (v := .tuple #[noImg, .int .i64 1]) (by simp [results, Tryz.results45, go_sem, noImg, s1, s2, s3]) rfl ?_
            exact ⟨rfl, by (repeat (first | with_reducible exact Below.refl _ _ | with_reducible assumption | with_reducible refine Below.drew ?_ | (with_reducible refine below_alloc' ?_ ?_; focus (first | omega | (simp; done) | (simp; omega))) | (with_reducible refine below_fill3' ?_ ?_; focus omega) | (with_reducible refine below_setCell' ?_ ?_; focus (first | omega | (simp; done) | (simp; omega))) | (with_reducible apply below_call'; (focus (with_reducible assumption)); (focus (first | omega | (simp; done) | (simp; omega))))))⟩
        · have hw : SW ≠ W := fun h => HE0.out (by rw [RE2.out, if_neg (by simp), if_neg hup, if_neg (by simp [h])])
          have hE : E = 2 := by rw [RE2.out, if_neg (by simp), if_neg hup, if_pos hw]
          subst hE
          have hw2 : (SW != W) = true := by simp [hw]
          have HW := Lib.hid hw
          have d1 : decide (up < 0) = false := decide_eq_false (by omega)
          have d2 : decide (SH ≤ up) = false := decide_eq_false (by omega)
          have hu1 : 0 ≤ up := by omega
          have hu2 : up < SH := by omega
          clear RE2 hup hw
          obtain ⟨q1, q2, q3⟩ := k2.cells3
          obtain ⟨p1, p2, p3⟩ := k1.cells3
          obtain ⟨r1, r2, r3⟩ := k4.cells3
          obtain ⟨f1, f2, f3⟩ := k4.frozen3
          have k9 := ((k4.set_ 0 (.int .i64 0)).set_ 1 (.int .i64 0)).set_ 2 (.slice none 0 0)
          obtain ⟨s1, s2, s3⟩ := Blk.cells3 (a := .int .i64 0) (b := .int .i64 0) (c := .slice none 0 0) k9
          go_wp2_with fail
          refine bodyPost_ret (v := .tuple #[noImg, .int .i64 2]) (by simp [results, Tryz.results45, go_sem, noImg, s1, s2, s3]) rfl ?_
          exact ⟨rfl, by (repeat (first | with_reducible exact Below.refl _ _ | with_reducible assumption | with_reducible refine Below.drew ?_ | (with_reducible refine below_alloc' ?_ ?_; focus (first | omega | (simp; done) | (simp; omega))) | (with_reducible refine below_fill3' ?_ ?_; focus omega) | (with_reducible refine below_setCell' ?_ ?_; focus (first | omega | (simp; done) | (simp; omega))) | (with_reducible apply below_call'; (focus (with_reducible assumption)); (focus (first | omega | (simp; done) | (simp; omega))))))⟩
    · have hE : E = z2 := by
        rw [RE.out, show orE 0 z2 = z2 by simp [orE], if_pos h2]
      subst hE
      have hz2 : (E != 0) = true := by simp [h2]
      have HH := Lib.hid h2
      clear h2 RE
      obtain ⟨r1, r2, r3⟩ := k4.cells3
      obtain ⟨f1, f2, f3⟩ := k4.frozen3
      have k9 := ((k4.set_ 0 (.int .i64 0)).set_ 1 (.int .i64 0)).set_ 2 (.slice none 0 0)
      obtain ⟨s1, s2, s3⟩ := Blk.cells3 (a := .int .i64 0) (b := .int .i64 0) (c := .slice none 0 0) k9
      go_wp2_with fail
      refine bodyPost_ret (v := .tuple #[noImg, .int .i64 E]) (by simp [results, Tryz.results45, go_sem, noImg, s1, s2, s3]) rfl ?_
      exact ⟨rfl, by (repeat (first | with_reducible exact Below.refl _ _ | with_reducible assumption | with_reducible refine Below.drew ?_ | (with_reducible refine below_alloc' ?_ ?_; focus (first | omega | (simp; done) | (simp; omega))) | (with_reducible refine below_fill3' ?_ ?_; focus omega) | (with_reducible refine below_setCell' ?_ ?_; focus (first | omega | (simp; done) | (simp; omega))) | (with_reducible apply below_call'; (focus (with_reducible assumption)); (focus (first | omega | (simp; done) | (simp; omega))))))⟩
  · have e1 : orE z1 z2 = z1 := by unfold orE; rw [if_neg h1]
    have hE : E = z1 := by rw [RE.out, e1, if_pos h1]
    subst hE
    have hz2 : (E != 0) = true := by simp [h1]
    have HH := Lib.hid h1
    clear h1 RE e1
    obtain ⟨r1, r2, r3⟩ := k4.cells3
    obtain ⟨f1, f2, f3⟩ := k4.frozen3
    have k9 := ((k4.set_ 0 (.int .i64 0)).set_ 1 (.int .i64 0)).set_ 2 (.slice none 0 0)
    obtain ⟨s1, s2, s3⟩ := Blk.cells3 (a := .int .i64 0) (b := .int .i64 0) (c := .slice none 0 0) k9
    go_wp2_with fail
    refine bodyPost_ret (v := .tuple #[noImg, .int .i64 E]) (by simp [results, Tryz.results45, go_sem, noImg, s1, s2, s3]) rfl ?_
    exact ⟨rfl, by (repeat (first | with_reducible exact Below.refl _ _ | with_reducible assumption | with_reducible refine Below.drew ?_ | (with_reducible refine below_alloc' ?_ ?_; focus (first | omega | (simp; done) | (simp; omega))) | (with_reducible refine below_fill3' ?_ ?_; focus omega) | (with_reducible refine below_setCell' ?_ ?_; focus (first | omega | (simp; done) | (simp; omega))) | (with_reducible apply below_call'; (focus (with_reducible assumption)); (focus (first | omega | (simp; done) | (simp; omega))))))⟩

set_option maxRecDepth 100000 in
set_option maxHeartbeats 8000000 in
theorem rrestore_ok (W H SW SH : Int) (A SA AL : Option Addr) (n c sn sc K cL : Nat) (p sp : Int → Int) (m : Nat → Nat) (ln : Nat → Nat → Int) (up : Int) (w : World) (hA : ArrB w w.heap.size A n p) (hn : n ≤ maxLen) (hB : IsB p) (hS : ArrB w w.heap.size SA sn sp) (hsn : sn ≤ maxLen) (hBS : IsB sp) (hL : Lines w w.heap.size AL K m ln) (hm : ∀ i, i < K → m i ≤ maxLen) (hE : resE W H n p SW SH sn sp K m ln up = 0) :
    Calls Tryz.prog 45 #[.agg #[.int .i64 W, .int .i64 H, .slice A n c], .agg #[.int .i64 SW, .int .i64 SH, .slice SA sn sc], .agg #[.slice AL K cL], .int .i64 up] w (New w fun v w' => OutT w w' 0 W H n (fillB (resC W H SH p sp (ln 4) up) W) v) := by
  obtain ⟨e1, e2, hP, e3, e4, hw⟩ := resE_ok hE
  obtain rfl : W = SW := hw.symm
  clear hw
  obtain ⟨hW1, hW2, hH1, hH2, hnn, -⟩ := chk_ok e1
  obtain ⟨-, -, hSH1, hSH2, hsnn, -⟩ := chk_ok e2
  obtain ⟨W1, H1⟩ := hP.pos
  have hst := stFits_iff.2 hP
  obtain ⟨rfl, hpath, -⟩ := hP
  obtain ⟨⟨-, -, m4⟩, hst2⟩ := isPathB_iff.1 (hpath 4 (by omega))
  have PB := Lib.hid fun (x : Nat) (hx : (x : Int) < m 4) => stepB_iff.1 (hst2 x (by omega) hx)
  have C1 := Lib.hid fun w' hA' => rcheck_any W H A n c p w' hA' hn hB
  have C2 := Lib.hid fun w' hA' => rcheck_any W SH SA sn sc sp w' hA' hsn hBS
  have b1 : Below w.heap.size w ((((w.alloc (.cells #[.int .i64 W, .int .i64 H, .slice A n c] 24)).alloc (.cells #[.int .i64 W, .int .i64 SH, .slice SA sn sc] 24)).alloc (.cells #[.slice AL 5 cL] 40)).alloc (.cells #[.int .i64 0, .int .i64 0, .slice none 0 0] 24)) := by (repeat (first | exact Below.refl _ _ | assumption | refine Below.drew ?_ | refine below_drewN ?_ _ | refine Below.alloc ?_ (by first | omega | (simp; done) | (simp; omega)) _ | refine Below.setCell ?_ (by first | omega | (simp; done) | (simp; omega)) _ | refine below_setRow ?_ (by first | omega | (simp; done) | (simp; omega)) _ ))
  have k4 : Blk ((((w.alloc (.cells #[.int .i64 W, .int .i64 H, .slice A n c] 24)).alloc (.cells #[.int .i64 W, .int .i64 SH, .slice SA sn sc] 24)).alloc (.cells #[.slice AL 5 cL] 40)).alloc (.cells #[.int .i64 0, .int .i64 0, .slice none 0 0] 24)) (w.heap.size + 1 + 1 + 1) 24 #[.int .i64 0, .int .i64 0, .slice none 0 0] := Blk.new' (by simp) _ _
  have k1 : Blk ((((w.alloc (.cells #[.int .i64 W, .int .i64 H, .slice A n c] 24)).alloc (.cells #[.int .i64 W, .int .i64 SH, .slice SA sn sc] 24)).alloc (.cells #[.slice AL 5 cL] 40)).alloc (.cells #[.int .i64 0, .int .i64 0, .slice none 0 0] 24)) w.heap.size 24 #[.int .i64 W, .int .i64 H, .slice A n c] := (((Blk.new _ _ _).alloc _).alloc _).alloc _
  have k2 : Blk ((((w.alloc (.cells #[.int .i64 W, .int .i64 H, .slice A n c] 24)).alloc (.cells #[.int .i64 W, .int .i64 SH, .slice SA sn sc] 24)).alloc (.cells #[.slice AL 5 cL] 40)).alloc (.cells #[.int .i64 0, .int .i64 0, .slice none 0 0] 24)) (w.heap.size + 1) 24 #[.int .i64 W, .int .i64 SH, .slice SA sn sc] := ((Blk.new' (by simp) _ _).alloc _).alloc _
  have k3 : Blk ((((w.alloc (.cells #[.int .i64 W, .int .i64 H, .slice A n c] 24)).alloc (.cells #[.int .i64 W, .int .i64 SH, .slice SA sn sc] 24)).alloc (.cells #[.slice AL 5 cL] 40)).alloc (.cells #[.int .i64 0, .int .i64 0, .slice none 0 0] 24)) (w.heap.size + 1 + 1) 40 #[.slice AL 5 cL] := (Blk.new' (by simp) _ _).alloc _
  have FT := Lib.hid fun w' hL' => rfits_st W H A AL n c 5 cL m ln w' hW1 hH1 hW2 hH2 hL' hm
  rw [hst] at FT
  have NO := Lib.hid fun w' => rnew_any W H n w' hW1 hW2 hH1 hH2 hnn
  rw [e1] at C1
  rw [e2] at C2
  have HM4 := Lib.hid m4; have HNN := Lib.hid hnn; have HSN := Lib.hid hsnn
  have nb := (area_bd hW1 hW2 hH1 hH2).2
  have d1 : decide (up < 0) = false := decide_eq_false (by omega)
  have d2 : decide (SH ≤ up) = false := decide_eq_false (by omega)
  clear hE e1 e2 hst hpath hst2 m4 hnn hsnn
  go_enter Tryz.func45, Tryz.ntmps45
  go_wp2_with fail
  generalize ((((w.alloc (.cells #[.int .i64 W, .int .i64 H, .slice A n c] 24)).alloc (.cells #[.int .i64 W, .int .i64 SH, .slice SA sn sc] 24)).alloc (.cells #[.slice AL 5 cL] 40)).alloc (.cells #[.int .i64 0, .int .i64 0, .slice none 0 0] 24)) = w1 at *
  refine (C1.out _ (hA.to b1)).mono ?_
  rintro e w2 ⟨rfl, hb2⟩
  have b2 := below_call b1 b1.size hb2
  replace k1 := k1.below' hb2
  replace k2 := k2.below' hb2
  replace k3 := k3.below' hb2
  replace k4 := k4.below' hb2
  clear hb2 b1 C1
  obtain ⟨q1, q2, q3⟩ := k2.cells3
  go_wp2_with fail
  refine (C2.out _ (hS.to b2)).mono ?_
  rintro e w3 ⟨rfl, hb3⟩
  have b3 := below_call b2 b2.size hb3
  replace k1 := k1.below' hb3
  replace k2 := k2.below' hb3
  replace k3 := k3.below' hb3
  replace k4 := k4.below' hb3
  clear hb3 b2 C2 q1 q2 q3
  obtain ⟨p1, p2, p3⟩ := k1.cells3
  have p4 := k3.cells0
  go_wp2_with fail
  refine (FT.out _ (hL.below b3)).mono ?_
  rintro e w4 ⟨rfl, hb4⟩
  have b4 := below_call b3 b3.size hb4
  replace k1 := k1.below' hb4
  replace k2 := k2.below' hb4
  replace k3 := k3.below' hb4
  replace k4 := k4.below' hb4
  clear hb4 b3 FT p1 p2 p3 p4
  obtain ⟨p1, p2, p3⟩ := k1.cells3
  obtain ⟨q1, q2, q3⟩ := k2.cells3
  go_wp2_with fail
  refine (NO.out _).mono ?_
  rintro e w5 ⟨_, rfl, ⟨gp, rfl, hgp, kp⟩, hb5⟩
  clear d1 d2 p1 p2 p3 q1 q2 q3 NO
  have z2 := k4.lt
  have z3 := hb5.size
  have z4 := kp.lt
  have b5 := below_call b4 b4.size hb5
  have b6 : Below w.heap.size w (w5.alloc (.cells #[.int .i64 W, .int .i64 H, .slice (some ⟨gp, 0, none⟩) n n] 24)) := b5.alloc b5.size _
  replace k1 := (k1.below' hb5).alloc (.cells #[.int .i64 W, .int .i64 H, .slice (some ⟨gp, 0, none⟩) n n] 24)
  replace k2 := (k2.below' hb5).alloc (.cells #[.int .i64 W, .int .i64 H, .slice (some ⟨gp, 0, none⟩) n n] 24)
  replace k3 := (k3.below' hb5).alloc (.cells #[.int .i64 W, .int .i64 H, .slice (some ⟨gp, 0, none⟩) n n] 24)
  replace k4 := (k4.below' hb5).alloc (.cells #[.int .i64 W, .int .i64 H, .slice (some ⟨gp, 0, none⟩) n n] 24)
  have kx := Blk.new w5 24 #[.int .i64 W, .int .i64 H, .slice (some ⟨gp, 0, none⟩) n n]
  obtain ⟨C, hC⟩ : ∃ C, C = resC W H SH p sp (ln 4) up := ⟨_, rfl⟩
  have HC := Lib.hid hC
  have kp2 : Blk (w5.alloc (.cells #[.int .i64 W, .int .i64 H, .slice (some ⟨gp, 0, none⟩) n n] 24)) gp 5 (u8s n (byRow W (fillB C W) (fun _ => 0) (0 : Nat) (0 : Nat))) := (kp.alloc _).u8conv fun i i0 _ => (byRow_zero (W := W) (q := fillB C W) (z := fun _ => 0) (by omega) i0).symm
  have hgx : gp ≠ w5.heap.size := by omega
  obtain ⟨bA, oA, A4, c4, rfl, hbA, hcA, haA⟩ := hL.at_ (i := 4) (by omega)
  obtain ⟨b5', o5, rfl, hb5', hc5⟩ := ArrI.fn haA (by have := HM4.out; omega)
  have HC5 := Lib.hid hc5
  have HCA := Lib.hid hcA
  clear hC hc5 hcA kp b4 b5 hb5
  go_wp2_with fail
  generalize w5.alloc (.cells #[.int .i64 W, .int .i64 H, .slice (some ⟨gp, 0, none⟩) n n] 24) = w6 at *
  generalize w5.heap.size = gx at *
  go_loopw [13] (fun s wr => ∃ y : Nat, (y : Int) ≤ H ∧ s = .int .i64 y ∧ Below w.heap.size w wr ∧ Blk wr w.heap.size 24 #[.int .i64 W, .int .i64 H, .slice A n c] ∧ Blk wr (w.heap.size + 1) 24 #[.int .i64 W, .int .i64 SH, .slice SA sn sc] ∧ Blk wr (w.heap.size + 1 + 1) 40 #[.slice (some ⟨bA, oA, none⟩) 5 cL] ∧ Blk wr (w.heap.size + 1 + 1 + 1) 24 #[.int .i64 0, .int .i64 0, .slice none 0 0] ∧ Blk wr gx 24 #[.int .i64 W, .int .i64 H, .slice (some ⟨gp, 0, none⟩) n n] ∧ Blk wr gp 5 (u8s n (byRow W (fillB C W) (fun _ => 0) y (0 : Nat)))) (fun s _ => (H - intOf s).toNat)
  case atStart => exact ⟨0, by omega, rfl, b6, k1, k2, k3, k4, kx, kp2⟩
  case round =>
    obtain ⟨y, hy, rfl, b6', t1, t2, t3, t4, tx, tp⟩ := hrel
    clear b6 k1 k2 k3 k4 kx kp2
    obtain ⟨x1, x2, x3⟩ := t1.cells3
    by_cases yl : (y : Int) < H
    · go_wp2_with fail
      go_loopw [14] (fun s wr => ∃ x : Nat, (x : Int) ≤ W ∧ s = .int .i64 x ∧ Below w.heap.size w wr ∧ Blk wr w.heap.size 24 #[.int .i64 W, .int .i64 H, .slice A n c] ∧ Blk wr (w.heap.size + 1) 24 #[.int .i64 W, .int .i64 SH, .slice SA sn sc] ∧ Blk wr (w.heap.size + 1 + 1) 40 #[.slice (some ⟨bA, oA, none⟩) 5 cL] ∧ Blk wr (w.heap.size + 1 + 1 + 1) 24 #[.int .i64 0, .int .i64 0, .slice none 0 0] ∧ Blk wr gx 24 #[.int .i64 W, .int .i64 H, .slice (some ⟨gp, 0, none⟩) n n] ∧ Blk wr gp 5 (u8s n (byRow W (fillB C W) (fun _ => 0) y x))) (fun s _ => (W - intOf s).toNat)
      case atStart => exact ⟨0, by omega, rfl, b6', t1, t2, t3, t4, tx, tp⟩
      case round =>
        obtain ⟨x, hx, rfl, b7, a1, a2, a3, a4, ax, ap⟩ := hrel
        clear x1 x2 x3 b6' t1 t2 t3 t4 tx tp
        obtain ⟨p1, p2, p3⟩ := a1.cells3
        obtain ⟨q1, q2, q3⟩ := a2.cells3
        have p4 := a3.cells0
        by_cases xl : (x : Int) < W
        · have p5 := (b7.cell (p := ⟨bA, oA + 4, none⟩) hbA).trans HCA.out
          have xm : (x : Int) < m 4 := by have := HM4.out; omega
          have lx := HC5.out x (by omega) xm
          rw [Int.toNat_natCast] at lx
          have p6 := (b7.cell (p := ⟨b5', o5 + x, none⟩) hb5').trans lx
          obtain ⟨pb1, pb2, -⟩ := PB.out x xm
          rw [Int.toNat_natCast] at pb1 pb2
          have CE0 : Hid (C x y = if 0 ≤ (y : Int) - ln 4 x + up ∧ (y : Int) - ln 4 x + up < SH then inkB W SH sp x (y - ln 4 x + up) else inkB W H p x y) := by
            show _ = _
            rw [HC.out]; unfold resC; rw [Int.toNat_natCast]
          generalize ln 4 x = l at *
          have v4 : IntKind.i64.wrap (y - l) = y - l := IntWalk.i64_in _ (by omega)
          have v5 : IntKind.i64.wrap (y - l + up) = y - l + up := IntWalk.i64_in _ (by omega)
          have g3 : (5 : Nat) ≤ 5 := Nat.le_refl _
          clear lx
          by_cases hin : 0 ≤ (y : Int) - l + up ∧ (y : Int) - l + up < SH
          · have CE : Hid (C x y = inkB W SH sp x (y - l + up)) := by show _ = _; rw [CE0.out, if_pos hin]
            obtain ⟨h1, h2⟩ := hin
            have d1 : decide (0 ≤ (y : Int) - l + up) = true := decide_eq_true h1
            have d2 : decide ((y : Int) - l + up < SH) = true := decide_eq_true h2
            have IK := Lib.hid fun w' hA' => rink_any W SH SA sn sc sp x (y - l + up) w' hA' hW2 hSH2 HSN.out
            clear CE0
            generalize hi : inkB W SH sp x (y - l + up) = i0 at *
            have HI := Lib.hid hi
            clear hi
            go_wp2_with fail
            refine (IK.out _ ((ArrB.below hS b7).more b7.size)).mono ?_
            rintro e w7 ⟨rfl, hb7⟩
            replace b7 := below_call b7 b7.size hb7
            replace a1 := a1.below' hb7
            replace a2 := a2.below' hb7
            replace a3 := a3.below' hb7
            replace a4 := a4.below' hb7
            replace ax := ax.below' hb7
            replace ap := ap.below' hb7
            clear hb7 p1 p2 p3 q1 q2 q3 p4 p5 p6
            cases i0 with
            | true =>
              obtain ⟨x1, x2, x3⟩ := ax.cells3
              go_wp2_with fail
              refine (rset_any W H gp n n 5 _ x y _ ap (by omega) xl (by omega) yl hW2 hH2 HNN.out).mono ?_
              rintro e w8 ⟨rfl, hk8, hg8⟩
              have zz := b7.size
              replace a1 := a1.grown hg8 (by simp; omega); replace a2 := a2.grown hg8 (by simp; omega); replace a3 := a3.grown hg8 (by simp; omega); replace a4 := a4.grown hg8 (by simp; omega); replace ax := ax.grown hg8 (by simp; omega)
              have cb2 : Below w.heap.size w w8 := b7.grown hg8 b7.size (fun k hk => by cases hk; omega)
              clear x1 x2 x3 ap b7 hg8
              go_wp2_with fail
              go_roundw
              case rel => exact ⟨x + 1, by omega, by go_num, cb2, a1, a2, a3, a4, ax, hk8.u8conv fun i _ _ => by rw [Int.natCast_add]; exact fill_yes (by omega) xl CE.out⟩
              case measure => simp [intOf]; omega
            | false =>
              go_wp2_with fail
              go_roundw
              case rel => exact ⟨x + 1, by omega, by go_num, b7, a1, a2, a3, a4, ax, ap.u8conv fun i _ _ => by rw [Int.natCast_add]; exact fill_no (by omega) xl CE.out⟩
              case measure => simp [intOf]; omega
          · have CE : Hid (C x y = inkB W H p x y) := by show _ = _; rw [CE0.out, if_neg hin]
            have IK := Lib.hid fun w' hA' => rink_any W H A n c p x y w' hA' hW2 hH2 HNN.out
            clear CE0
            by_cases h1 : 0 ≤ (y : Int) - l + up
            · have h2 : ¬ (y : Int) - l + up < SH := fun h => hin ⟨h1, h⟩
              have d1 : decide (0 ≤ (y : Int) - l + up) = true := decide_eq_true h1
              have d2 : decide ((y : Int) - l + up < SH) = false := decide_eq_false h2
              clear hin
              generalize hi : inkB W H p x y = i0 at *
              have HI := Lib.hid hi
              clear hi
              go_wp2_with fail
              refine (IK.out _ ((ArrB.below hA b7).more b7.size)).mono ?_
              rintro e w7 ⟨rfl, hb7⟩
              replace b7 := below_call b7 b7.size hb7
              replace a1 := a1.below' hb7
              replace a2 := a2.below' hb7
              replace a3 := a3.below' hb7
              replace a4 := a4.below' hb7
              replace ax := ax.below' hb7
              replace ap := ap.below' hb7
              clear hb7 p1 p2 p3 q1 q2 q3 p4 p5 p6
              cases i0 with
              | true =>
                obtain ⟨x1, x2, x3⟩ := ax.cells3
                go_wp2_with fail
                refine (rset_any W H gp n n 5 _ x y _ ap (by omega) xl (by omega) yl hW2 hH2 HNN.out).mono ?_
                rintro e w8 ⟨rfl, hk8, hg8⟩
                have zz := b7.size
                replace a1 := a1.grown hg8 (by simp; omega); replace a2 := a2.grown hg8 (by simp; omega); replace a3 := a3.grown hg8 (by simp; omega); replace a4 := a4.grown hg8 (by simp; omega); replace ax := ax.grown hg8 (by simp; omega)
                have cb2 : Below w.heap.size w w8 := b7.grown hg8 b7.size (fun k hk => by cases hk; omega)
                clear x1 x2 x3 ap b7 hg8
                go_wp2_with fail
                go_roundw
                case rel => exact ⟨x + 1, by omega, by go_num, cb2, a1, a2, a3, a4, ax, hk8.u8conv fun i _ _ => by rw [Int.natCast_add]; exact fill_yes (by omega) xl CE.out⟩
                case measure => simp [intOf]; omega
              | false =>
                go_wp2_with fail
                go_roundw
                case rel => exact ⟨x + 1, by omega, by go_num, b7, a1, a2, a3, a4, ax, ap.u8conv fun i _ _ => by rw [Int.natCast_add]; exact fill_no (by omega) xl CE.out⟩
                case measure => simp [intOf]; omega
            · have d1 : decide (0 ≤ (y : Int) - l + up) = false := decide_eq_false h1
              clear hin
              generalize hi : inkB W H p x y = i0 at *
              have HI := Lib.hid hi
              clear hi
              go_wp2_with fail
              refine (IK.out _ ((ArrB.below hA b7).more b7.size)).mono ?_
              rintro e w7 ⟨rfl, hb7⟩
              replace b7 := below_call b7 b7.size hb7
              replace a1 := a1.below' hb7
              replace a2 := a2.below' hb7
              replace a3 := a3.below' hb7
              replace a4 := a4.below' hb7
              replace ax := ax.below' hb7
              replace ap := ap.below' hb7
              clear hb7 p1 p2 p3 q1 q2 q3 p4 p5 p6
              cases i0 with
              | true =>
                obtain ⟨x1, x2, x3⟩ := ax.cells3
                go_wp2_with fail
                refine (rset_any W H gp n n 5 _ x y _ ap (by omega) xl (by omega) yl hW2 hH2 HNN.out).mono ?_
                rintro e w8 ⟨rfl, hk8, hg8⟩
                have zz := b7.size
                replace a1 := a1.grown hg8 (by simp; omega); replace a2 := a2.grown hg8 (by simp; omega); replace a3 := a3.grown hg8 (by simp; omega); replace a4 := a4.grown hg8 (by simp; omega); replace ax := ax.grown hg8 (by simp; omega)
                have cb2 : Below w.heap.size w w8 := b7.grown hg8 b7.size (fun k hk => by cases hk; omega)
                clear x1 x2 x3 ap b7 hg8
                go_wp2_with fail
                go_roundw
                case rel => exact ⟨x + 1, by omega, by go_num, cb2, a1, a2, a3, a4, ax, hk8.u8conv fun i _ _ => by rw [Int.natCast_add]; exact fill_yes (by omega) xl CE.out⟩
                case measure => simp [intOf]; omega
              | false =>
                go_wp2_with fail
                go_roundw
                case rel => exact ⟨x + 1, by omega, by go_num, b7, a1, a2, a3, a4, ax, ap.u8conv fun i _ _ => by rw [Int.natCast_add]; exact fill_no (by omega) xl CE.out⟩
                case measure => simp [intOf]; omega
        · have ex : (x : Int) = W := by omega
          have ap2 := ap.u8conv (r := byRow W (fillB C W) (fun _ => 0) ((y : Int) + 1) (0 : Nat)) fun i _ _ => by rw [ex]; exact byRow_row (by omega)
          clear ap ex
          go_wp2_with fail
          go_roundw
          case rel => exact ⟨y + 1, by omega, by go_num, b7, a1, a2, a3, a4, ax, ap2⟩
          case measure => simp [intOf]; omega
    · have ey : (y : Int) = H := by omega
      obtain ⟨y1, y2, y3⟩ := tx.cells3
      obtain ⟨u1, u2, u3⟩ := t4.cells3
      obtain ⟨f1, f2, f3⟩ := t4.frozen3
      have k5 := ((t4.set_ 0 (.int .i64 W)).set_ 1 (.int .i64 H)).set_ 2 (.slice (some ⟨gp, 0, none⟩) n n)
      obtain ⟨s4, s5, s6⟩ := Blk.cells3 (a := .int .i64 W) (b := .int .i64 H) (c := .slice (some ⟨gp, 0, none⟩) n n) k5
      have zz := b6'.size
      have g1 : gp ≠ w.heap.size + 1 + 1 + 1 := by omega
      have TP := Lib.hid (tp.u8conv (r := fillB C W) fun i _ i1 => by rw [ey]; exact byRow_end (h := H) (by omega) (by have := HNN.out; omega))
      clear tp ey
      go_wp2_with fail
      refine bodyPost_ret (v := .tuple #[.agg #[.int .i64 W, .int .i64 H, .slice (some ⟨gp, 0, none⟩) n n], .int .i64 0]) (by simp [results, Tryz.results45, go_sem, s4, s5, s6]) rfl ?_
      refine ⟨_, rfl, ⟨_, _, rfl, (fun a e => by cases e; show w.heap.size ≤ gp; omega), ?_⟩, by (repeat (first | exact Below.refl _ _ | assumption | refine Below.drew ?_ | refine below_drewN ?_ _ | refine Below.alloc ?_ (by first | omega | (simp; done) | (simp; omega)) _ | refine Below.setCell ?_ (by first | omega | (simp; done) | (simp; omega)) _ | refine below_setRow ?_ (by first | omega | (simp; done) | (simp; omega)) _ ))⟩
      have KE := Blk.far (Blk.far (Blk.far TP.out (p := ⟨w.heap.size + 1 + 1 + 1, 0, none⟩) g1 (.int .i64 W)) (p := ⟨w.heap.size + 1 + 1 + 1, 1, none⟩) g1 (.int .i64 H)) (p := ⟨w.heap.size + 1 + 1 + 1, 2, none⟩) g1 (.slice (some ⟨gp, 0, none⟩) n n)
      rw [HC.out] at KE
      exact KE.arrB KE.lt
theorem rrectify_all (W H : Int) (A AL : Option Addr) (n c K cL : Nat) (p : Int → Int) (m : Nat → Nat) (ln : Nat → Nat → Int) (up down : Int) (E W2 H2 : Int) (N : Nat) (w : World) (hA : ArrB w w.heap.size A n p) (hn : n ≤ maxLen) (hB : IsB p) (hL : Lines w w.heap.size AL K m ln) (hm : ∀ i, i < K → m i ≤ maxLen) (hE : recE W H n p K m ln up down = E) (hs : RSize E W (up + down + 1) W2 H2 N) :
    Calls Tryz.prog 43 #[.agg #[.int .i64 W, .int .i64 H, .slice A n c], .agg #[.slice AL K cL], .int .i64 up, .int .i64 down] w (New w fun v w' => OutT w w' E W2 H2 N (recQ W H p (ln 4) up) v) := by
  by_cases h0 : E = 0
  · subst h0
    obtain ⟨h1, h2, h3, h4⟩ := recE_ok hE
    obtain ⟨hc, hP⟩ := stChk_ok h1
    obtain ⟨rfl, rfl, hN⟩ := hs.1 rfl
    exact (rrectify_ok W2 H A AL n c K cL p m ln up down _ N w hA hn hB hL hm hE rfl hN).mono fun e w' ⟨v, he, ho, hb⟩ => ⟨v, he, ho.conv (fun i i0 _ => (recC_eq hc hB hP.pos.1 i0).symm), hb⟩
  · exact (rrectify_bad W H A AL n c K cL p m ln up down E w hA hn hB hL hm hE h0).mono fun e w' ⟨he, hb⟩ => ⟨_, he, outT_bad hs h0, hb⟩
theorem rrestore_all (W H SW SH : Int) (A SA AL : Option Addr) (n c sn sc K cL : Nat) (p sp : Int → Int) (m : Nat → Nat) (ln : Nat → Nat → Int) (up : Int) (E W2 H2 : Int) (N : Nat) (w : World) (hA : ArrB w w.heap.size A n p) (hn : n ≤ maxLen) (hB : IsB p) (hS : ArrB w w.heap.size SA sn sp) (hsn : sn ≤ maxLen) (hBS : IsB sp) (hL : Lines w w.heap.size AL K m ln) (hm : ∀ i, i < K → m i ≤ maxLen) (hE : resE W H n p SW SH sn sp K m ln up = E) (hs : RSize E W H W2 H2 N) :
    Calls Tryz.prog 45 #[.agg #[.int .i64 W, .int .i64 H, .slice A n c], .agg #[.int .i64 SW, .int .i64 SH, .slice SA sn sc], .agg #[.slice AL K cL], .int .i64 up] w (New w fun v w' => OutT w w' E W2 H2 N (resQ W H SH p sp (ln 4) up) v) := by
  by_cases h0 : E = 0
  · subst h0
    obtain ⟨hc, hc2, hP, -, -, hw⟩ := resE_ok hE
    obtain ⟨rfl, rfl, hN⟩ := hs.1 rfl
    have hnn := (chk_ok hc).2.2.2.2.1
    obtain rfl : N = n := by omega
    rw [hw] at hc2
    exact (rrestore_ok W2 H2 SW SH A SA AL N c sn sc K cL p sp m ln up w hA hn hB hS hsn hBS hL hm hE).mono fun e w' ⟨v, he, ho, hb⟩ => ⟨v, he, ho.conv (fun i i0 i1 => (resC_eq hc hc2 hB hBS hP.pos.1 i0 (by omega)).symm), hb⟩
  · exact (rrestore_bad W H SW SH A SA AL n c sn sc K cL p sp m ln up E w hA hn hB hS hsn hBS hL hm hE h0).mono fun e w' ⟨he, hb⟩ => ⟨_, he, outT_bad hs h0, hb⟩
end Go.Proofs.YtdimlpcbbkokiaaGreat

/- Walk: an image made pixel by pixel by a function value (image.made). -/
namespace Go.Proofs.YtdimlpcbbkokiaaGreat
open Go.RowKit
set_option linter.unusedVariables false
attribute [local go_sem] Oper.semAt_some

/-- pixel by pixel -/
def byPix (W : Int) (f : Int → Int → Int) : Int → Int := fun i => f (i % W) (i / W)
theorem byPix_at {W x y : Int} {f : Int → Int → Int} (x0 : 0 ≤ x) (x1 : x < W) : byPix W f (y * W + x) = f x y := by
  unfold byPix; rw [idx_mod x0 x1, idx_div x0 x1]
theorem OutImg.outN {w w' : World} {W H : Int} {N : Nat} {q : Int → Int} {v : Value} (h : OutImg w w' W H q v) (hN : (N : Int) = W * H) : OutN w w' W H N q v := by
  obtain ⟨g, rfl, hg, hk⟩ := h
  obtain rfl : (W * H).toNat = N := by omega
  exact ⟨g, rfl, hg, hk⟩
end Go.Proofs.YtdimlpcbbkokiaaGreat

/- Walk: image.Not. -/
namespace Go.Proofs.YtdimlpcbbkokiaaGreat
open Go.RowKit
set_option linter.unusedVariables false
attribute [local go_sem] Oper.semAt_some
end Go.Proofs.YtdimlpcbbkokiaaGreat

/- Walk: StaveBack. Written by gen/t46.py. -/
namespace Go.Proofs.YtdimlpcbbkokiaaGreat
open Go.RowKit Go.Shelf
set_option linter.unusedVariables false
attribute [local go_sem] Oper.semAt_some
theorem xor01 {a b : Int} (ha : a = 0 ∨ a = 1) (hb : b = 0 ∨ b = 1) : ∃ v, bits BinOp.xor IntKind.u8 a b = v ∧ (v = 0 ∨ v = 1) := by
  rcases ha with rfl | rfl <;> rcases hb with rfl | rfl
  · exact ⟨0, rfl, .inl rfl⟩
  · exact ⟨1, rfl, .inr rfl⟩
  · exact ⟨1, rfl, .inr rfl⟩
  · exact ⟨0, rfl, .inl rfl⟩
theorem upd01 {q : Int → Int} (h : Is01 q) {i v : Int} (hv : v = 0 ∨ v = 1) : Is01 (upd q i v) := fun j => by
  unfold upd; split
  · exact hv
  · exact h j
theorem stChk_mk {W H : Int} {n : Nat} {p : Int → Int} {K : Nat} {m : Nat → Nat} {ln : Nat → Nat → Int} (h1 : chk W H n p = 0) (h2 : StP W H K m ln) : stChk W H n p K m ln = 0 := by
  unfold stChk
  rw [if_neg (show ¬ chk W H n p ≠ 0 from fun h => h h1), if_pos (stFits_iff.2 h2)]
theorem recE_mk {W H : Int} {n : Nat} {p : Int → Int} {K : Nat} {m : Nat → Nat} {ln : Nat → Nat → Int} {up down : Int} (h1 : stChk W H n p K m ln = 0) (h2 : 0 ≤ up) (h3 : 0 ≤ down) (h4 : up + down + 1 ≤ 640) : recE W H n p K m ln up down = 0 := by
  unfold recE
  rw [if_neg (show ¬ stChk W H n p K m ln ≠ 0 from fun h => h h1), if_neg (by omega), if_neg (by omega)]
theorem resE_mk {W H h : Int} {n sn : Nat} {p sp : Int → Int} {K : Nat} {m : Nat → Nat} {ln : Nat → Nat → Int} {up : Int} (h1 : chk W H n p = 0) (h2 : chk W h sn sp = 0) (h3 : StP W H K m ln) (h4 : 0 ≤ up) (h5 : up < h) : resE W H n p W h sn sp K m ln up = 0 := by
  unfold resE
  rw [if_neg (show ¬ orE _ _ ≠ 0 from fun h => h (orE_zero.2 ⟨h1, h2⟩)), if_neg (by rw [stFits_iff.2 h3]; simp), if_neg (by omega), if_neg (by simp)]
theorem bit01 {r : Int} (h0 : 0 ≤ r) : (r % 2 = 0 ∨ r % 2 = 1) := by omega
theorem wavy_fits {W H low high : Int} {k nn t : Nat} {R : Int → Int} (hk : W = (k : Int) + 1) (hH : H = 5 + (high - low) + (nn : Int) * 24 + ((nn : Int) - 1) * 12 + 6) (ht : t < nn) (hW : 40 ≤ W)
    (hR : ∀ x : Int, 0 ≤ x → x < W → low ≤ R x ∧ R x ≤ high) (hN : ∀ i : Int, -1 ≤ R (i + 1) - R i ∧ R (i + 1) - R i ≤ 1) : StP W H 5 (fun _ => k + 1) (fun j => wvL low R (5 * t + j)) := by
  refine ⟨rfl, fun i hi => ?_, fun i hi x hx => ?_⟩
  · have h0 := hR 0 (by omega) (by omega)
    show isPathB W H (k + 1) (fun j => wvL low R (5 * t + i) j.toNat) = true
    rw [isPathB_iff]
    refine ⟨⟨by omega, by omega, by omega⟩, fun x x0 x1 => ?_⟩
    rw [stepB_iff]
    have hx := hR x x0 (by omega)
    rw [wvL_at low R t i _ hi, Int.toNat_of_nonneg x0]
    refine ⟨by omega, by omega, ?_⟩
    by_cases c : x ≤ 0
    · exact .inl c
    · right
      rw [wvL_at low R t i _ hi, Int.toNat_of_nonneg (by omega : 0 ≤ x - 1)]
      have := hN (x - 1)
      rw [show x - 1 + 1 = x by omega] at this
      omega
  · show wvL low R (5 * t + i) x < wvL low R (5 * t + (i + 1)) x
    rw [wvL_at low R t i _ (by omega), wvL_at low R t (i + 1) _ hi]
    omega

end Go.Proofs.YtdimlpcbbkokiaaGreat

/- Walk: StaveHarm. The start is turned from T46. -/
namespace Go.Proofs.YtdimlpcbbkokiaaGreat
open Go.RowKit Go.Shelf
set_option linter.unusedVariables false
attribute [local go_sem] Oper.semAt_some
theorem StavesIn.belowB {w w' : World} {B : Nat} {A : Option Addr} {k : Nat} {K : Nat → Nat} {m : Nat → Nat → Nat} {ln : Nat → Nat → Nat → Int} (h : StavesIn w B A k K m ln) (hb : Below B w w') : StavesIn w' B A k K m ln := fun i hi => by
  obtain ⟨b, off, AL, cL, rfl, h1, h2, h3⟩ := h i hi
  exact ⟨b, off, AL, cL, rfl, h1, (hb.cell (p := ⟨b, off + i, none⟩) h1).trans h2, h3.belowB hb⟩
/-- the pixels that lines go through, marked -/
def lnB (W : Int) (L : Nat → Nat → Int) (t : Nat) (x : Int) : Int → Bool := fun j => decide (wvQ W L t x j = 1)
section
variable {W : Int} {L : Nat → Nat → Int} {t : Nat} {x i : Int}
theorem lnB_start (hW : 0 < W) : lnB W L (5 * 0) 0 i = false := by unfold lnB; rw [show 5 * 0 = 0 from rfl, wvQ_start hW]; rfl
theorem lnB_line (hW : 0 < W) : lnB W L t W i = lnB W L (t + 1) 0 i := by unfold lnB; rw [wvQ_line hW]
theorem lnB_set (x0 : 0 ≤ x) (x1 : x < W) : (if i = L t x.toNat * W + x then true else lnB W L t x i) = lnB W L t (x + 1) i := by
  have h := wvQ_set (L := L) (t := t) (i := i) x0 x1
  unfold upd at h
  unfold lnB
  rw [← h]
  split
  · rfl
  · rfl
end
theorem lnB_on {W : Int} {L : Nat → Nat → Int} {ns K1 : Nat} {e : Int} (hK : W = K1) (hW : 0 < W) (he : 0 ≤ e) : lnB W L (5 * ns) 0 e = true ↔ OnLine (fun i j => L (5 * i + j)) ns K1 W e := by
  have m0 := Int.emod_nonneg e (show W ≠ 0 by omega)
  have m1 := Int.emod_lt_of_pos e hW
  have hd := Int.emod_add_mul_ediv e W
  have key : lnB W L (5 * ns) 0 e = true ↔ ∃ s, s < 5 * ns ∧ L s (e % W).toNat = e / W := by
    unfold lnB
    rw [decide_eq_true_iff]
    unfold wvQ
    constructor
    · intro h
      split at h
      · rename_i c
        rcases c with c | c
        · obtain ⟨s, h1, h2⟩ := List.any_eq_true.1 c
          exact ⟨s, List.mem_range.1 h1, of_decide_eq_true h2⟩
        · omega
      · omega
    · rintro ⟨s, h1, h2⟩
      rw [if_pos (.inl (List.any_eq_true.2 ⟨s, List.mem_range.2 h1, decide_eq_true h2⟩))]
  rw [key]
  constructor
  · rintro ⟨s, h1, h2⟩
    refine ⟨s / 5, s % 5, (e % W).toNat, by omega, by omega, by omega, ?_⟩
    show L (5 * (s / 5) + s % 5) (e % W).toNat * W + ((e % W).toNat : Int) = e
    rw [show 5 * (s / 5) + s % 5 = s by omega, h2, Int.toNat_of_nonneg m0, Int.mul_comm]
    omega
  · rintro ⟨i, j, x, h1, h2, h3, h4⟩
    have h4' : L (5 * i + j) x * W + (x : Int) = e := h4
    have q1 := idx_mod (y := L (5 * i + j) x) (x := x) (W := W) (by omega) (by omega)
    have q2 := idx_div (y := L (5 * i + j) x) (x := x) (W := W) (by omega) (by omega)
    rw [h4'] at q1 q2
    refine ⟨5 * i + j, by omega, ?_⟩
    rw [q1, q2, Int.toNat_natCast]
/-- one of the first d places from y on is marked -/
def metB (f : Nat → Bool) (y : Nat) : Nat → Bool
  | 0 => false
  | d + 1 => metB f y d || f (y + d)
theorem metB_iff {f : Nat → Bool} {y : Nat} : ∀ {d : Nat}, metB f y d = true ↔ ∃ j, y ≤ j ∧ j < y + d ∧ f j = true
  | 0 => by simp [metB]; intro j h1 h2; omega
  | d + 1 => by
    rw [metB, Bool.or_eq_true, metB_iff]
    constructor
    · rintro (⟨j, h1, h2, h3⟩ | h)
      · exact ⟨j, h1, by omega, h3⟩
      · exact ⟨y + d, by omega, by omega, h⟩
    · rintro ⟨j, h1, h2, h3⟩
      by_cases c : j = y + d
      · subst c; exact .inr h3
      · exact .inl ⟨j, h1, by omega, h3⟩
theorem StavesIn.moreB {w : World} {B B' : Nat} {A : Option Addr} {k : Nat} {K : Nat → Nat} {m : Nat → Nat → Nat} {ln : Nat → Nat → Nat → Int} (h : StavesIn w B A k K m ln) (hB : B ≤ B') : StavesIn w B' A k K m ln := fun i hi => by
  obtain ⟨b, off, AL, cL, rfl, h1, h2, h3⟩ := h i hi
  exact ⟨b, off, AL, cL, rfl, Nat.lt_of_lt_of_le h1 hB, h2, h3.more hB⟩
theorem or01 {a b : Int} (ha : a = 0 ∨ a = 1) (hb : b = 0 ∨ b = 1) : ∃ v, bits BinOp.or IntKind.u8 a b = v ∧ (v = 0 ∨ v = 1) := by
  rcases ha with rfl | rfl <;> rcases hb with rfl | rfl
  · exact ⟨0, rfl, .inl rfl⟩
  · exact ⟨1, rfl, .inr rfl⟩
  · exact ⟨1, rfl, .inr rfl⟩
  · exact ⟨1, rfl, .inr rfl⟩
theorem StOut.stavesIn {Bs M n : Nat} {w : World} {L : Nat → Nat → Int} {v : Value} {vs : Nat → Value} (h : StOut Bs w (fun _ => M) L ((List.range n).map (5 * ·)) v vs) : ∃ A c, v = .slice A n c ∧ StavesIn w w.heap.size A n (fun _ => 5) (fun _ _ => M) (fun i j => L (5 * i + j)) := by
  have hrow := h.row
  rw [List.length_map, List.length_range] at hrow
  by_cases hn : 0 < n
  · obtain ⟨gv, cv, csv, ev, -, hbv, hcv⟩ := own_blk hrow hn
    refine ⟨_, _, ev, fun i hi => ?_⟩
    obtain ⟨lv, hFv⟩ := h.each i (by simpa using hi)
    obtain ⟨A5, c5, e5, -, -, LC⟩ := hFv.toLines
    have hst : (((List.range n).map (5 * ·)).getD i 0) = 5 * i := by simp [List.getD_eq_getElem?_getD, hi]
    rw [hst] at LC
    have hc5 := hcv i hi
    rw [List.getElem?_map, List.getElem?_range hi, Option.map_some, e5] at hc5
    exact ⟨gv, 0, A5, c5, rfl, hbv.lt, by rw [Nat.zero_add, hbv.cell]; exact hc5, LC⟩
  · obtain ⟨A, c, e, -, -⟩ := own_arr hrow
    exact ⟨A, c, e, fun i hi => by omega⟩

end Go.Proofs.YtdimlpcbbkokiaaGreat

/- Walks: lists of runs compared; staves copied and compared. -/
namespace Go.Proofs.YtdimlpcbbkokiaaGreat
open Go.RowKit Go.Shelf
set_option linter.unusedVariables false
attribute [local go_sem] Oper.semAt_some

set_option maxRecDepth 100000 in
set_option maxHeartbeats 2000000 in
theorem equalRuns_true (l : List Rn) (A1 A2 : Option Addr) (c1 c2 : Nat) (w : World) (h1 : RunArr w A1 l) (h2 : RunArr w A2 l) (hl : l.length ≤ 1000000000) :
    Calls Tryz.prog 56 #[.slice A1 l.length c1, .slice A2 l.length c2] w fun e w' => e = .returned (.bool true) ∧ Below w.heap.size w w' := by
  have H1 := Lib.hid h1; have H2 := Lib.hid h2
  obtain ⟨n, hn⟩ : ∃ n, l.length = n := ⟨_, rfl⟩
  have HN := Lib.hid hn
  rw [hn] at hl ⊢
  clear h1 h2 hn
  go_enter Tryz.func56, Tryz.ntmps56
  go_wp2
  go_loopw [13] (fun s wr => ∃ i : Nat, i ≤ n ∧ s = .int .i64 i ∧ Below w.heap.size w wr) (fun s _ => n - (intOf s).toNat)
  case atStart => exact ⟨0, by omega, rfl, Below.refl _ _⟩
  case round =>
    obtain ⟨i, hi, rfl, b1⟩ := hrel
    by_cases il : (i : Int) < n
    · obtain ⟨r, hr⟩ : ∃ r, l[i]? = some r := ⟨l[i]'(by rw [HN.out]; omega), List.getElem?_eq_getElem _⟩
      have hne : l ≠ [] := by intro h; rw [h] at hr; simp at hr
      obtain ⟨g1, rfl, -, q1⟩ := (H1.out.to b1) hne
      obtain ⟨g2, rfl, -, q2⟩ := (H2.out.to b1) hne
      obtain ⟨x1, x2, x3⟩ := q1 i r hr
      obtain ⟨y1, y2, y3⟩ := q2 i r hr
      have NE : ∀ W, (binOp .neq 57 (.agg #[.int .i64 r.1, .int .i64 r.2.1, .int .i64 r.2.2]) (.agg #[.int .i64 r.1, .int .i64 r.2.1, .int .i64 r.2.2])).run Tryz.prog W = .ok (.bool false) W := fun W => by rw [neRun]; simp
      clear q1 q2 hr hne
      generalize r.1 = a at *
      generalize r.2.1 = b at *
      generalize r.2.2 = d at *
      go_wp2_with fail
      go_quiet (fail)
      have b2 := below_drewN b1 nq
      clear x1 x2 x3 y1 y2 y3
      generalize wr.drewN nq = w2 at *
      go_wp2_with fail
      go_round
      case rel => exact ⟨i + 1, by omega, by go_num, b2⟩
      case measure => simp [intOf]; omega
    · go_wp2
      go_ret
      exact ⟨rfl, b1⟩

/-- staves that came in, with what is known of empty ones -/
def StavesZ (w : World) (B : Nat) (A : Option Addr) (k : Nat) (K : Nat → Nat) (m : Nat → Nat → Nat) (ln : Nat → Nat → Nat → Int) : Prop :=
  ∀ i, i < k → ∃ b off AL cL, A = some ⟨b, off, none⟩ ∧ b < B ∧ w.cell? ⟨b, off + i, none⟩ = some (.slice AL (K i) cL) ∧ LinesZ w B AL (K i) (m i) (ln i)
section
variable {w w' : World} {A : Option Addr} {k : Nat} {K : Nat → Nat} {m : Nat → Nat → Nat} {ln : Nat → Nat → Nat → Int}
theorem LinesZ.lines' {B Kc : Nat} {mc : Nat → Nat} {lc : Nat → Nat → Int} (h : LinesZ w B A Kc mc lc) : Lines w B A Kc mc lc := by
  obtain ⟨vs, h1, h2⟩ := h
  exact ⟨vs, h1, fun i hi => by obtain ⟨A', c', e, -, ha⟩ := h2 i hi; exact ⟨A', c', e, ha⟩⟩
theorem StavesZ.staves {B : Nat} (h : StavesZ w B A k K m ln) : StavesIn w B A k K m ln := fun i hi => by
  obtain ⟨b, off, AL, cL, e, h1, h2, h3⟩ := h i hi
  exact ⟨b, off, AL, cL, e, h1, h2, h3.lines'⟩
theorem StavesZ.to (h : StavesZ w w.heap.size A k K m ln) (hb : Below w.heap.size w w') : StavesZ w' w'.heap.size A k K m ln := fun i hi => by
  obtain ⟨b, off, AL, cL, rfl, h1, h2, h3⟩ := h i hi
  exact ⟨b, off, AL, cL, rfl, Nat.lt_of_lt_of_le h1 hb.size, (hb.cell (p := ⟨b, off + i, none⟩) h1).trans h2, h3.below hb⟩
end
/-- staves over fresh memory, each with lines of its own -/
structure StF (B : Nat) (w : World) (k : Nat) (K : Nat → Nat) (m : Nat → Nat → Nat) (ln : Nat → Nat → Nat → Int) (vo : Value) (vs : Nat → Value) : Prop where
  row : w.ownsRow B 40 1 vo k ((List.range k).map vs)
  each : ∀ i, i < k → ∃ v, FoundM B w (m i) (ln i) (K i) (vs i) v
theorem StF.stavesIn {B k : Nat} {w : World} {K : Nat → Nat} {m : Nat → Nat → Nat} {ln : Nat → Nat → Nat → Int} {v : Value} {vs : Nat → Value} (h : StF B w k K m ln v vs) : ∃ A c, v = .slice A k c ∧ StavesIn w w.heap.size A k K m ln := by
  by_cases hn : 0 < k
  · obtain ⟨gv, cv, csv, ev, -, hbv, hcv⟩ := own_blk h.row hn
    refine ⟨_, _, ev, fun i hi => ?_⟩
    obtain ⟨lv, hFv⟩ := h.each i hi
    obtain ⟨A5, c5, e5, -, -, LC⟩ := hFv.toLines
    have hc5 := hcv i hi
    rw [List.getElem?_map, List.getElem?_range hi, Option.map_some, e5] at hc5
    exact ⟨gv, 0, A5, c5, rfl, hbv.lt, by rw [Nat.zero_add, hbv.cell]; exact hc5, LC⟩
  · obtain ⟨A, c, e, -, -⟩ := own_arr h.row
    exact ⟨A, c, e, fun i hi => by omega⟩

set_option maxRecDepth 100000 in
set_option maxHeartbeats 4000000 in
theorem copyStaves_any (A : Option Addr) (k c : Nat) (K : Nat → Nat) (m : Nat → Nat → Nat) (ln : Nat → Nat → Nat → Int) (w : World) (hS : StavesZ w w.heap.size A k K m ln) (hk : k ≤ 1000) (hK : ∀ i, i < k → K i ≤ 5864062014634) (hm : ∀ i j, i < k → j < K i → m i j ≤ 17592186044416) :
    Calls Tryz.prog 51 #[.slice A k c] w (New w fun v w' => ∃ vs, StF w.heap.size w' k K m ln v vs) := by
  have CS := Lib.hid fun i (hi : i < k) A' c' w' hL' => copyStave_any A' (K i) c' (m i) (ln i) w' hL' (hK i hi) (fun j hj => hm i j hi hj)
  obtain ⟨s0, hs0, hsz0, hsz1, hsz2⟩ := info_parts infoLines
  have HS := Lib.hid hS
  clear hS hK hm
  go_enter Tryz.func51, Tryz.ntmps51
  go_wp2
  go_loopw [4, 3] (fun s vo wr => ∃ (i : Nat) (vs : Nat → Value), i ≤ k ∧ s = .int .i64 i ∧ StF w.heap.size wr i K m ln vo vs ∧ Below w.heap.size w wr) (fun s _ _ => k - (intOf s).toNat)
  case atStart => exact ⟨0, fun _ => .slice none 0 0, by omega, rfl, ⟨World.ownsRow_nil _ _ _ _, fun i hi => by omega⟩, Below.refl _ _⟩
  case round =>
    obtain ⟨i, vs, hi, rfl, hF, b1⟩ := hrel
    obtain ⟨Ao, co, rfl, -, -⟩ := own_arr hF.row
    by_cases il : (i : Int) < k
    · obtain ⟨b, off, AL, cL, eA, hb, hc, hL⟩ := HS.out.to b1 i (by omega)
      cases eA
      have CSi := Lib.hid (CS.out i (by omega) AL cL wr hL)
      clear hL
      go_wp2_with fail
      refine CSi.out.mono ?_
      rintro e w2 ⟨_, rfl, ⟨v2, vs2, rfl, hF2⟩, hb2⟩
      have b2 := below_call b1 b1.size hb2
      have z1 := b1.size
      have z2 := b2.size
      have F1 : StF w.heap.size w2 i K m ln (.slice Ao i co) vs := ⟨own_below hF.row hb2, fun j hj => by obtain ⟨v, hv⟩ := hF.each j hj; exact ⟨v, hv.below hb2⟩⟩
      have F2 := hF2.base z1
      obtain ⟨A2, c2, rfl, -, -⟩ := own_arr hF2.row
      clear hF hF2 hb2 hc CSi
      go_wp2_with (at_builtin; refine wpList_append_own _ rfl (.tmp 11) (.tmp 17) 45 rfl w.heap.size 40 s0 (.agg #[.slice none 0 0]) 1 24 Tryz.underlying45 hs0 hsz0 hsz1 hsz2 rfl (by decide) _ _ _ rfl (F1.row.alloc _) ⟨w2.heap.size, 0, none⟩ 1 1 [.slice A2 (K i) c2] rfl rfl ?c1 ?c2 ?c3 ?c4 ?c5 ?_)
      case c1 => exact cell_one_new _ _ _
      case c2 => simp [Value.oneCell']
      case c3 => unfold maxLen; omega
      case c4 => omega
      case c5 => simp; omega
      intro v' w7 own7 hg7 _
      have b7 : Below w.heap.size w w7 := (b2.alloc z2 (.cells #[.slice A2 (K i) c2] 40)).grown hg7 (by simp; omega) (fun j hj => (own_ge F1.row hj).1)
      have F7 : StF w.heap.size w7 (i + 1) K m ln v' (fun j => if j = i then .slice A2 (K i) c2 else vs j) := by
        refine ⟨?_, fun j hj => ?_⟩
        · rw [range_snoc]
          simp only [if_true]
          rw [show (List.range i).map (fun j => if j = i then Value.slice A2 (K i) c2 else vs j) = (List.range i).map vs from List.map_congr_left fun j hj => by rw [if_neg]; have := List.mem_range.1 hj; omega]
          exact own7
        · show ∃ v, FoundM _ _ _ _ _ (if j = i then _ else vs j) v
          by_cases e : j = i
          · subst e
            rw [if_pos rfl]
            exact ⟨vs2, (F2.alloc _).grownBlk (F1.row.alloc _) hg7⟩
          · rw [if_neg e]
            obtain ⟨v, hv⟩ := F1.each j (by omega)
            exact ⟨v, (hv.alloc _).grownBlk (F1.row.alloc _) hg7⟩
      clear own7 hg7 F1 F2
      go_wp2
      go_round
      case rel => exact ⟨i + 1, _, by omega, by go_num, F7, b7⟩
      case measure => simp [intOf]; omega
    · obtain rfl : i = k := by omega
      go_wp2
      go_ret
      exact ⟨_, rfl, ⟨_, hF⟩, b1⟩

set_option maxRecDepth 100000 in
set_option maxHeartbeats 2000000 in
theorem sameStavesI_true (A1 A2 : Option Addr) (n c1 c2 : Nat) (K : Nat → Nat) (m : Nat → Nat → Nat) (ln : Nat → Nat → Nat → Int) (w : World) (h1 : StavesIn w w.heap.size A1 n K m ln) (h2 : StavesIn w w.heap.size A2 n K m ln) (hn : n ≤ 1000) (hK : ∀ i, i < n → K i ≤ maxLen) (hm : ∀ i j, i < n → j < K i → m i j ≤ maxLen) :
    Calls Tryz.prog 34 #[.slice A1 n c1, .slice A2 n c2] w fun e w' => e = .returned (.bool true) ∧ Below w.heap.size w w' := by
  have SS := Lib.hid fun i (hi : i < n) A B c d w' hA hB => sameStave_any A B (K i) (K i) c d (m i) (m i) (ln i) (ln i) w' hA hB (hK i hi) (hK i hi) (fun j hj => hm i j hi hj) (fun j hj => hm i j hi hj)
  have S1 := Lib.hid h1; have S2 := Lib.hid h2
  clear h1 h2 hm hK
  go_enter Tryz.func34, Tryz.ntmps34
  go_wp2
  go_loopw [5] (fun s wr => ∃ i : Nat, i ≤ n ∧ s = .int .i64 i ∧ Below w.heap.size w wr) (fun s _ => n - (intOf s).toNat)
  case atStart => exact ⟨0, by omega, rfl, Below.refl _ _⟩
  case round =>
    obtain ⟨i, hi, rfl, b1⟩ := hrel
    by_cases hlt : (i : Int) < n
    · obtain ⟨g1, o1, A5, c5, e1, hb1, hc1, L1⟩ := S1.out i (by omega)
      obtain ⟨g2, o2, A6, c6, e2, hb2, hc2, L2⟩ := S2.out i (by omega)
      cases e1
      cases e2
      have SSi := Lib.hid fun c d w' hA hB => SS.out i (by omega) A5 A6 c d w' hA hB
      rw [sameL_self] at SSi
      have q1 := (b1.cell (p := ⟨g1, o1 + i, none⟩) hb1).trans hc1
      have q2 := (b1.cell (p := ⟨g2, o2 + i, none⟩) hb2).trans hc2
      have M1 := Lib.hid (L1.below b1); have M2 := Lib.hid (L2.below b1)
      have B1 := Lib.hid b1
      have z1 := b1.size
      clear L1 L2 hc1 hc2 b1
      go_wp2_with fail
      go_region_held3 (fun w' => w'.cell? ⟨g1, o1 + i, none⟩ = some (.slice A5 (K i) c5) ∧ w'.cell? ⟨g2, o2 + i, none⟩ = some (.slice A6 (K i) c6))
        (simp [go_sem, *])
        ((go_at_call 41
          refine (SSi.out _ _ _ (show Lines wr.drew wr.drew.heap.size _ _ _ _ from M1.out) (show Lines wr.drew wr.drew.heap.size _ _ _ _ from M2.out)).mono ?_
          rintro e w2 ⟨rfl, hb2'⟩
          have b2 := below_call B1.out.drew B1.out.drew.size hb2'
          have x1 : w2.cell? ⟨g1, o1 + i, none⟩ = some (.slice A5 (K i) c5) := (hb2'.cell (p := ⟨g1, o1 + i, none⟩) (by show g1 < _; have := B1.out.drew.size; omega)).trans q1
          have x2 : w2.cell? ⟨g2, o2 + i, none⟩ = some (.slice A6 (K i) c6) := (hb2'.cell (p := ⟨g2, o2 + i, none⟩) (by show g2 < _; have := B1.out.drew.size; omega)).trans q2))
      go_wp2_with fail
      go_roundw
      case rel => exact ⟨i + 1, by omega, by go_num, b2⟩
      case measure => simp [intOf]; omega
    · obtain rfl : n = i := by omega
      go_wp2
      go_ret
      exact ⟨rfl, b1⟩
end Go.Proofs.YtdimlpcbbkokiaaGreat

/- Walk: StaveRuns, by the contracts of what it calls. -/
namespace Go.Proofs.YtdimlpcbbkokiaaGreat
open Go.RowKit Go.Shelf
set_option linter.unusedVariables false
attribute [local go_sem] Oper.semAt_some

/-- what the caller keeps: two images in boxes, their pixels, two lists of staves -/
structure PackR (w : World) (gi g7 : Nat) (x y : Array Value) (A A' : Option Addr) (n : Nat) (p : Int → Int) (AS As : Option Addr) (kS : Nat) (K : Nat → Nat) (m : Nat → Nat → Nat) (ln : Nat → Nat → Nat → Int) : Prop where
  gi : Blk w gi 24 x
  g7 : Blk w g7 24 y
  a : ArrB w w.heap.size A n p
  c : ArrB w w.heap.size A' n p
  s : StavesIn w w.heap.size AS kS K m ln
  t : StavesIn w w.heap.size As kS K m ln
theorem PackR.to {w w' : World} {gi g7 : Nat} {x y : Array Value} {A A' : Option Addr} {n : Nat} {p : Int → Int} {AS As : Option Addr} {kS : Nat} {K : Nat → Nat} {m : Nat → Nat → Nat} {ln : Nat → Nat → Nat → Int}
    (h : PackR w gi g7 x y A A' n p AS As kS K m ln) (hb : Below w.heap.size w w') : PackR w' gi g7 x y A A' n p AS As kS K m ln :=
  ⟨h.gi.below' hb, h.g7.below' hb, h.a.to hb, h.c.to hb, h.s.to hb, h.t.to hb⟩

set_option maxRecDepth 100000 in
set_option maxHeartbeats 4000000 in
theorem staveRuns_gen (W H most z E W2 H2 : Int) (A AS : Option Addr) (n c kS cS N2 : Nat) (p q : Int → Int) (K : Nat → Nat) (m : Nat → Nat → Nat) (ln : Nat → Nat → Nat → Int) (L : List Rn) (GP : Int → Int → Prop) (w : World)
    (hA : ArrB w w.heap.size A n p) (hB : IsB p) (hcA : A = none → c = 0) (hn : n ≤ 6000) (hS : StavesZ w w.heap.size AS kS K m ln) (hk : kS ≤ 5) (hK : ∀ i, i < kS → K i ≤ 5864062014634) (hm : ∀ i j, i < kS → j < K i → m i j ≤ 17592186044416)
    (hz : chk W H n p = z) (hLl : L.length ≤ 1000000000) (hN2 : N2 ≤ maxLen)
    (RU : ∀ w' A' c' AS' cS', ArrB w' w'.heap.size A' n p → StavesIn w' w'.heap.size AS' kS K m ln → Calls Tryz.prog 52 #[.agg #[.int .i64 W, .int .i64 H, .slice A' n c'], .slice AS' kS cS', .int .i64 most] w' fun e w'' => ∃ v, e = .returned (.tuple #[v, .int .i64 E]) ∧ RunRow w'' w'.heap.size v L ∧ Below w'.heap.size w' w'')
    (RR : ∀ w' A' c' AS' cS', ArrB w' w'.heap.size A' n p → StavesIn w' w'.heap.size AS' kS K m ln → Calls Tryz.prog 53 #[.agg #[.int .i64 W, .int .i64 H, .slice A' n c'], .slice AS' kS cS', .int .i64 most] w' fun e w'' => ∃ v, e = .returned (.tuple #[v, .int .i64 E]) ∧ RunRow w'' w'.heap.size v L ∧ Below w'.heap.size w' w'')
    (RM : ∀ w' A' c' AS' cS', ArrB w' w'.heap.size A' n p → StavesIn w' w'.heap.size AS' kS K m ln → Calls Tryz.prog 54 #[.agg #[.int .i64 W, .int .i64 H, .slice A' n c'], .slice AS' kS cS', .int .i64 most] w' (New w' fun v w'' => OutT w' w'' E W2 H2 N2 q v))
    (RN : ∀ w' A' c' AS' cS', ArrB w' w'.heap.size A' n p → StavesIn w' w'.heap.size AS' kS K m ln → Calls Tryz.prog 55 #[.agg #[.int .i64 W, .int .i64 H, .slice A' n c'], .slice AS' kS cS', .int .i64 most] w' (New w' fun v w'' => OutT w' w'' E W2 H2 N2 q v))
    (GA : ∀ w' A' c', ArrB w' w'.heap.size A' n p → Calls Tryz.prog 5 #[.agg #[.int .i64 W, .int .i64 H, .slice A' n c']] w' fun e w'' => ∃ b g, e = .returned (.tuple #[.int .i64 b, .int .i64 g, .int .i64 z]) ∧ GP b g ∧ Below w'.heap.size w' w'')
    (GU : ∀ b g b' g', GP b g → GP b' g' → b = b' ∧ g = g') (GZ : z ≠ 0 → ∀ b g, GP b g → b = 0 ∧ g = 0)
    (GB : z = 0 → ∀ w' A' c', ArrB w' w'.heap.size A' n p → Calls Tryz.prog 6 #[.agg #[.int .i64 W, .int .i64 H, .slice A' n c']] w' fun e w'' => ∃ b g, e = .returned (.tuple #[.int .i64 b, .int .i64 g]) ∧ GP b g ∧ Below w'.heap.size w' w'') :
    Calls Tryz.prog 14 #[.agg #[.int .i64 W, .int .i64 H, .slice A n c], .slice AS kS cS, .int .i64 most] w fun e w' => e = .returned (.bool true) ∧ Below w.heap.size w w' := by
  have AW := Lib.hid fun w' => awake3_any w'
  have FW := Lib.hid fun w' => few_any W H A n c w'
  rw [decide_eq_true (by omega : (n : Int) ≤ 6000)] at FW
  have CI := Lib.hid fun w' h' => copyInk_any W H A n c p w' h' hcA (by omega)
  have CS := Lib.hid fun w' h' => copyStaves_any AS kS cS K m ln w' h' (by omega) hK hm
  have CK := Lib.hid fun w' h' => rcheck_any W H A n c p w' h' (by unfold maxLen; omega) hB
  rw [hz] at CK
  have EQ := Lib.hid fun A1 A2 c1 c2 w' h1 h2 => equalRuns_true L A1 A2 c1 c2 w' h1 h2 hLl
  have SI := Lib.hid fun A1 B1 c1 d1 w' h1 h2 => sameInk_true W2 H2 A1 B1 N2 c1 d1 q q w' h1 h2 hN2 (fun _ _ _ => rfl)
  have SG := Lib.hid fun A1 B1 c1 d1 w' h1 h2 => sameInk_true W H A1 B1 n c1 d1 p p w' h1 h2 (by unfold maxLen; omega) (fun _ _ _ => rfl)
  have SS := Lib.hid fun A1 A2 c1 c2 w' h1 h2 => sameStavesI_true A1 A2 kS c1 c2 K m ln w' h1 h2 (by omega) (fun i hi => by have := hK i hi; unfold maxLen; omega) (fun i j hi hj => by have := hm i j hi hj; unfold maxLen; omega)
  have RUh := Lib.hid RU; have RRh := Lib.hid RR; have RMh := Lib.hid RM; have RNh := Lib.hid RN; have GAh := Lib.hid GA; have GUh := Lib.hid GU; have GZh := Lib.hid GZ; have GBh := Lib.hid GB
  have HA := Lib.hid hA; have HS := Lib.hid hS
  have k5 : decide ((5 : Int) < (kS : Int)) = false := decide_eq_false (by omega)
  have k5' : ¬ (5 : Int) < (kS : Int) := by omega
  have k5n : ¬ 5 < kS := by omega
  clear RU RR RM RN GA GU GZ GB hA hS hB hcA hK hm hz hLl hn
  go_enter Tryz.func14, Tryz.ntmps14
  go_wp2_with fail
  have b1 : Below w.heap.size w (w.alloc (.cells #[.int .i64 W, .int .i64 H, .slice A n c] 24)) := by (repeat (first | exact Below.refl _ _ | assumption | refine Below.drew ?_ | refine below_drewN ?_ _ | refine Below.alloc ?_ (by first | omega | (simp; done) | (simp; omega)) _ | refine Below.setCell ?_ (by first | omega | (simp; done) | (simp; omega)) _ | refine below_setRow ?_ (by first | omega | (simp; done) | (simp; omega)) _ ))
  have k1 := Blk.new w 24 #[.int .i64 W, .int .i64 H, .slice A n c]
  generalize w.alloc (.cells #[.int .i64 W, .int .i64 H, .slice A n c] 24) = w1 at *
  refine (FW.out _).mono ?_
  rintro e w2 ⟨rfl, d2⟩
  have b2 := below_call b1 b1.size d2
  replace k1 := k1.below' d2
  clear d2 b1 FW
  obtain ⟨p1, p2, p3⟩ := k1.cells3
  go_wp2_with fail
  refine (CI.out w2 (HA.out.to b2)).mono ?_
  rintro e w3 ⟨_, rfl, ⟨_, rfl, A', c', rfl, -, -, hgA, hA'⟩, d3⟩
  have b3 := below_call b2 b2.size d3
  replace k1 := k1.below' d3
  have HA' := Lib.hid hA'
  clear d3 b2 p1 p2 p3 hgA hA' CI
  go_wp2_with fail
  refine (CS.out w3 (HS.out.to b3)).mono ?_
  rintro e w4 ⟨vS, rfl, ⟨vs, hF⟩, d4⟩
  have b4 := below_call b3 b3.size d4
  replace k1 := k1.below' d4
  obtain ⟨As, cs, rfl, hSI⟩ := hF.stavesIn
  have a4 := HA'.out.to d4
  have b5 : Below w.heap.size w (w4.alloc (.cells #[.int .i64 W, .int .i64 H, .slice A' n c'] 24)) := b4.alloc b4.size _
  have d5 : Below w4.heap.size w4 (w4.alloc (.cells #[.int .i64 W, .int .i64 H, .slice A' n c'] 24)) := (Below.refl _ _).alloc (Nat.le_refl _) _
  obtain ⟨g7, hg7⟩ : ∃ g, w4.heap.size = g := ⟨_, rfl⟩
  have k7 := Blk.new w4 24 #[.int .i64 W, .int .i64 H, .slice A' n c']
  rw [hg7] at k7
  have PK : PackR (w4.alloc (.cells #[.int .i64 W, .int .i64 H, .slice A' n c'] 24)) w.heap.size g7 #[.int .i64 W, .int .i64 H, .slice A n c] #[.int .i64 W, .int .i64 H, .slice A' n c'] A A' n p AS As kS K m ln :=
    ⟨k1.below' d5, k7, HA.out.to b5, a4.to d5, HS.out.staves.to b5, hSI.to d5⟩
  have HP := Lib.hid PK
  obtain ⟨p1, p2, p3⟩ := PK.gi.cells3
  obtain ⟨q1, q2, q3⟩ := PK.g7.cells3
  clear d4 d5 b3 b4 a4 HA HA' HS hF hSI k1 k7 PK CS
  go_wp2_with fail
  generalize w4.alloc (.cells #[.int .i64 W, .int .i64 H, .slice A' n c'] 24) = w5 at *
  clear hg7
  -- stave.Runs
  refine (RUh.out w5 A' c' As cs HP.out.c HP.out.t).mono ?_
  rintro e w6 ⟨vL, rfl, hL6, d6⟩
  obtain ⟨Al, cl, rfl, rl⟩ := hL6.arr
  have b6 := below_call b5 b5.size d6
  replace HP := Lib.hid (HP.out.to d6)
  have RL := Lib.hid rl
  clear d6 b5 p1 p2 p3 q1 q2 q3 hL6 rl RUh
  obtain ⟨p1, p2, p3⟩ := HP.out.gi.cells3
  obtain ⟨q1, q2, q3⟩ := HP.out.g7.cells3
  go_wp2_with fail
  -- the reference's Runs
  refine (RRh.out w6 A c AS cS HP.out.a HP.out.s).mono ?_
  rintro e w7 ⟨vW, rfl, hL7, d7⟩
  obtain ⟨Aw, cw, rfl, rw_⟩ := hL7.arr
  have b7 := below_call b6 b6.size d7
  replace HP := Lib.hid (HP.out.to d7)
  replace RL := Lib.hid (RunArr.to RL.out d7)
  have RW := Lib.hid rw_
  clear d7 b6 p1 p2 p3 q1 q2 q3 hL7 rw_ RRh
  obtain ⟨p1, p2, p3⟩ := HP.out.gi.cells3
  obtain ⟨q1, q2, q3⟩ := HP.out.g7.cells3
  go_wp2_with fail
  -- stave.Remove
  refine (RMh.out w7 A' c' As cs HP.out.c HP.out.t).mono ?_
  rintro e w8 ⟨_, rfl, ⟨Ax, cx, rfl, hgx, ax⟩, d8⟩
  have b8 := below_call b7 b7.size d8
  have a8 : Below w8.heap.size w8 (w8.alloc (.cells #[.int .i64 W2, .int .i64 H2, .slice Ax N2 cx] 24)) := (Below.refl _ _).alloc (Nat.le_refl _) _
  have b9 : Below w.heap.size w (w8.alloc (.cells #[.int .i64 W2, .int .i64 H2, .slice Ax N2 cx] 24)) := b8.alloc b8.size _
  obtain ⟨gx, hgX⟩ : ∃ g, w8.heap.size = g := ⟨_, rfl⟩
  have kx := Blk.new w8 24 #[.int .i64 W2, .int .i64 H2, .slice Ax N2 cx]
  rw [hgX] at kx
  replace HP := Lib.hid ((HP.out.to d8).to a8)
  replace RL := Lib.hid (RunArr.to (RunArr.to RL.out d8) a8)
  replace RW := Lib.hid (RunArr.to (RunArr.to RW.out d8) a8)
  have KX := Lib.hid kx
  have AX := Lib.hid (ax.to a8)
  clear d8 b7 a8 b8 p1 p2 p3 q1 q2 q3 hgx ax kx RMh
  obtain ⟨p1, p2, p3⟩ := HP.out.gi.cells3
  obtain ⟨q1, q2, q3⟩ := HP.out.g7.cells3
  go_wp2_with fail
  generalize w8.alloc (.cells #[.int .i64 W2, .int .i64 H2, .slice Ax N2 cx] 24) = w9 at *
  clear hgX
  -- the reference's Remove
  refine (RNh.out w9 A c AS cS HP.out.a HP.out.s).mono ?_
  rintro e w10 ⟨_, rfl, ⟨Ay, cy, rfl, hgy, ay⟩, d10⟩
  have b10 := below_call b9 b9.size d10
  have a10 : Below w10.heap.size w10 (w10.alloc (.cells #[.int .i64 W2, .int .i64 H2, .slice Ay N2 cy] 24)) := (Below.refl _ _).alloc (Nat.le_refl _) _
  have b11 : Below w.heap.size w (w10.alloc (.cells #[.int .i64 W2, .int .i64 H2, .slice Ay N2 cy] 24)) := b10.alloc b10.size _
  obtain ⟨gy, hgY⟩ : ∃ g, w10.heap.size = g := ⟨_, rfl⟩
  have ky := Blk.new w10 24 #[.int .i64 W2, .int .i64 H2, .slice Ay N2 cy]
  rw [hgY] at ky
  replace HP := Lib.hid ((HP.out.to d10).to a10)
  replace RL := Lib.hid (RunArr.to (RunArr.to RL.out d10) a10)
  replace RW := Lib.hid (RunArr.to (RunArr.to RW.out d10) a10)
  replace KX := Lib.hid ((KX.out.below' d10).below' a10)
  replace AX := Lib.hid ((AX.out.to d10).to a10)
  have KY := Lib.hid ky
  have AY := Lib.hid (ay.to a10)
  clear d10 b9 a10 b10 p1 p2 p3 q1 q2 q3 hgy ay ky RNh
  obtain ⟨p1, p2, p3⟩ := HP.out.gi.cells3
  obtain ⟨q1, q2, q3⟩ := HP.out.g7.cells3
  go_wp2_with fail
  generalize w10.alloc (.cells #[.int .i64 W2, .int .i64 H2, .slice Ay N2 cy] 24) = w11 at *
  clear hgY
  -- stave.Gauge
  refine (GAh.out w11 A' c' HP.out.c).mono ?_
  rintro e w12 ⟨gb, gg, rfl, gp1, d12⟩
  have b12 := below_call b11 b11.size d12
  replace HP := Lib.hid (HP.out.to d12)
  replace RL := Lib.hid (RunArr.to RL.out d12)
  replace RW := Lib.hid (RunArr.to RW.out d12)
  replace KX := Lib.hid (KX.out.below' d12)
  replace AX := Lib.hid (AX.out.to d12)
  replace KY := Lib.hid (KY.out.below' d12)
  replace AY := Lib.hid (AY.out.to d12)
  have GP1 := Lib.hid gp1
  clear d12 b11 p1 p2 p3 q1 q2 q3 gp1 GAh
  obtain ⟨p1, p2, p3⟩ := HP.out.gi.cells3
  obtain ⟨q1, q2, q3⟩ := HP.out.g7.cells3
  go_wp2_with fail
  -- the reference's Check
  refine (CK.out w12 HP.out.a).mono ?_
  rintro e w13 ⟨rfl, d13⟩
  have b13 := below_call b12 b12.size d13
  replace HP := Lib.hid (HP.out.to d13)
  replace RL := Lib.hid (RunArr.to RL.out d13)
  replace RW := Lib.hid (RunArr.to RW.out d13)
  replace KX := Lib.hid (KX.out.below' d13)
  replace AX := Lib.hid (AX.out.to d13)
  replace KY := Lib.hid (KY.out.below' d13)
  replace AY := Lib.hid (AY.out.to d13)
  clear d13 b12 p1 p2 p3 q1 q2 q3 CK
  obtain ⟨p1, p2, p3⟩ := HP.out.gi.cells3
  obtain ⟨q1, q2, q3⟩ := HP.out.g7.cells3
  by_cases hz0 : z = 0
  · subst hz0
    have GBz := Lib.hid (GBh.out rfl)
    clear GBh GZh
    go_wp2_with fail
    refine (GBz.out w13 A c HP.out.a).mono ?_
    rintro e w14 ⟨gb2, gg2, rfl, gp2, d14⟩
    obtain ⟨rfl, rfl⟩ := GUh.out _ _ _ _ GP1.out gp2
    have b14 := below_call b13 b13.size d14
    replace HP := Lib.hid (HP.out.to d14)
    replace RL := Lib.hid (RunArr.to RL.out d14)
    replace RW := Lib.hid (RunArr.to RW.out d14)
    replace KX := Lib.hid (KX.out.below' d14)
    replace AX := Lib.hid (AX.out.to d14)
    replace KY := Lib.hid (KY.out.below' d14)
    replace AY := Lib.hid (AY.out.to d14)
    clear d14 b13 p1 p2 p3 q1 q2 q3 gp2 GBz GP1 GUh
    go_wp2_with fail
    -- the rest
    refine (EQ.out Al Aw cl cw w14 RL.out RW.out).mono ?_
    rintro e v1 ⟨rfl, d1⟩
    have t1 := below_call b14 b14.size d1
    replace HP := Lib.hid (HP.out.to d1)
    replace KX := Lib.hid (KX.out.below' d1)
    replace AX := Lib.hid (AX.out.to d1)
    replace KY := Lib.hid (KY.out.below' d1)
    replace AY := Lib.hid (AY.out.to d1)
    obtain ⟨p1, p2, p3⟩ := KX.out.cells3
    obtain ⟨q1, q2, q3⟩ := KY.out.cells3
    clear d1 b14
    go_wp2_with fail
    refine (SI.out Ax Ay cx cy v1 AX.out AY.out).mono ?_
    rintro e v2 ⟨rfl, d2⟩
    have t2 := below_call t1 t1.size d2
    replace HP := Lib.hid (HP.out.to d2)
    clear d2 t1 p1 p2 p3 q1 q2 q3 KX KY AX AY
    obtain ⟨p1, p2, p3⟩ := HP.out.gi.cells3
    obtain ⟨q1, q2, q3⟩ := HP.out.g7.cells3
    go_wp2_with fail
    refine (SG.out A' A c' c v2 HP.out.c HP.out.a).mono ?_
    rintro e v3 ⟨rfl, d3⟩
    have t3 := below_call t2 t2.size d3
    replace HP := Lib.hid (HP.out.to d3)
    clear d3 t2 p1 p2 p3 q1 q2 q3
    go_wp2_with fail
    refine (SS.out As AS cs cS v3 HP.out.t HP.out.s).mono ?_
    rintro e v4 ⟨rfl, d4⟩
    have t4 := below_call t3 t3.size d4
    clear d4 t3
    go_wp2_with fail
    refine (AW.out v4).mono ?_
    rintro e v5 ⟨rfl, d5⟩
    have t5 := below_call t4 t4.size d5
    go_wp2
    go_ret
    exact ⟨rfl, t5⟩
  · obtain ⟨rfl, rfl⟩ := GZh.out hz0 _ _ GP1.out
    have hz1 : (z == 0) = false := by simp [hz0]
    have HZ := Lib.hid hz0
    clear GBh GZh GUh GP1 p1 p2 p3 q1 q2 q3
    go_wp2_with fail
    -- the rest
    refine (EQ.out Al Aw cl cw w13 RL.out RW.out).mono ?_
    rintro e v1 ⟨rfl, d1⟩
    have t1 := below_call b13 b13.size d1
    replace HP := Lib.hid (HP.out.to d1)
    replace KX := Lib.hid (KX.out.below' d1)
    replace AX := Lib.hid (AX.out.to d1)
    replace KY := Lib.hid (KY.out.below' d1)
    replace AY := Lib.hid (AY.out.to d1)
    obtain ⟨p1, p2, p3⟩ := KX.out.cells3
    obtain ⟨q1, q2, q3⟩ := KY.out.cells3
    clear d1 b13
    go_wp2_with fail
    refine (SI.out Ax Ay cx cy v1 AX.out AY.out).mono ?_
    rintro e v2 ⟨rfl, d2⟩
    have t2 := below_call t1 t1.size d2
    replace HP := Lib.hid (HP.out.to d2)
    clear d2 t1 p1 p2 p3 q1 q2 q3 KX KY AX AY
    obtain ⟨p1, p2, p3⟩ := HP.out.gi.cells3
    obtain ⟨q1, q2, q3⟩ := HP.out.g7.cells3
    go_wp2_with fail
    refine (SG.out A' A c' c v2 HP.out.c HP.out.a).mono ?_
    rintro e v3 ⟨rfl, d3⟩
    have t3 := below_call t2 t2.size d3
    replace HP := Lib.hid (HP.out.to d3)
    clear d3 t2 p1 p2 p3 q1 q2 q3
    go_wp2_with fail
    refine (SS.out As AS cs cS v3 HP.out.t HP.out.s).mono ?_
    rintro e v4 ⟨rfl, d4⟩
    have t4 := below_call t3 t3.size d4
    clear d4 t3
    go_wp2_with fail
    refine (AW.out v4).mono ?_
    rintro e v5 ⟨rfl, d5⟩
    have t5 := below_call t4 t4.size d5
    go_wp2
    go_ret
    exact ⟨rfl, t5⟩
end Go.Proofs.YtdimlpcbbkokiaaGreat
