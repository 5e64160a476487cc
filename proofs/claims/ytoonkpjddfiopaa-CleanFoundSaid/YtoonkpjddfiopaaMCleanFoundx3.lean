/- Texts of mine in build order: B1, F4, F5, Q3, Lib3, S10, B2, B0, B3, G4, F2, S1, S2, S3. Conditions: each theorem's own. -/
import Derived.Test.YtoonkpjddfiopaaMCleanFoundx2
import Derived.Lib.LazyBuf
import Derived.BigQuiet
import Derived.Deep.CutBlock
import Derived.Outline
import Derived.Deep.RegionHeld3
import Derived.Deep.QuietTactic
/- Memory: a block of bytes of which the first cells are known; bytes.Clone. -/
namespace Go.Proofs.Ytoonkpjddfiopaa
open Go.RowKit
set_option linter.unusedVariables false

/-- block g holds bytes, the first n of which are q -/
def ArrO (w : World) (g n : Nat) (q : Int → Int) : Prop := ∃ cs, Blk w g 5 cs ∧ ∀ i : Int, 0 ≤ i → i < n → cs[i.toNat]? = some (.int .u8 (q i))
section
variable {w w' : World} {g n : Nat} {q r : Int → Int}
theorem ArrO.lt (h : ArrO w g n q) : g < w.heap.size := by obtain ⟨cs, hb, -⟩ := h; exact hb.lt
theorem ArrO.cell (h : ArrO w g n q) {i : Int} (h0 : 0 ≤ i) (hi : i < n) : w.cell? ⟨g, i.toNat, none⟩ = some (.int .u8 (q i)) := by obtain ⟨cs, hb, hc⟩ := h; rw [hb.cell, hc i h0 hi]
theorem ArrO.frozen (h : ArrO w g n q) (i : Nat) : w.frozen? ⟨g, i, none⟩ = false := by obtain ⟨cs, hb, -⟩ := h; exact hb.frozen i
theorem ArrO.move (h : ArrO w g n q) (e : w'.heap[g]? = w.heap[g]?) : ArrO w' g n q := by obtain ⟨cs, hb, hc⟩ := h; exact ⟨cs, hb.move e, hc⟩
theorem ArrO.drew (h : ArrO w g n q) : ArrO w.drew g n q := h.move rfl
theorem ArrO.alloc (h : ArrO w g n q) (o : Obj) : ArrO (w.alloc o) g n q := h.move (Below.heap_alloc w o g h.lt)
theorem ArrO.far (h : ArrO w g n q) {p : Addr} (hp : g ≠ p.block) (u : Value) : ArrO (w.setCell p u) g n q := h.move (heap_setCell_other w p g u hp)
theorem ArrO.below (h : ArrO w g n q) (hb : Below w.heap.size w w') : ArrO w' g n q := h.move (hb.block g h.lt)
theorem ArrO.conv (h : ArrO w g n q) (he : ∀ i : Int, 0 ≤ i → i < n → q i = r i) : ArrO w g n r := by
  obtain ⟨cs, hb, hc⟩ := h; exact ⟨cs, hb, fun i a b => by rw [hc i a b, he i a b]⟩
theorem ArrO.set (h : ArrO w g n q) (i : Int) (h0 : 0 ≤ i) (hi : i < n) (v : Int) : ArrO (w.setCell ⟨g, i.toNat, none⟩ (.int .u8 v)) g n (upd q i v) := by
  obtain ⟨cs, hb, hc⟩ := h
  refine ⟨cs.setIfInBounds i.toNat (.int .u8 v), hb.set_ _ _, fun j j0 j1 => ?_⟩
  rw [Array.getElem?_setIfInBounds]
  have hs : i.toNat < cs.size := (Array.getElem?_eq_some_iff.1 (hc i h0 hi)).1
  by_cases e : i.toNat = j.toNat
  · have e' : j = i := by omega
    subst e'
    rw [if_pos rfl, if_pos hs, upd_at]
  · rw [if_neg e, hc j j0 j1, upd_ne (by omega)]
theorem ArrO.arr (h : ArrO w g n q) : ArrB w w.heap.size (some ⟨g, 0, none⟩) n q := fun _ => ⟨g, 0, rfl, h.lt, fun i a b => by rw [Nat.zero_add]; exact h.cell a b⟩
theorem Blk.arrO {N : Nat} (h : Blk w g 5 (u8s N q)) : ArrO w g N q := ⟨_, h, fun i a b => u8s_at a b⟩
end
theorem own_arrO {w : World} {B n : Nat} {v : Value} {q : Int → Int} (h : w.ownsRow B 5 1 v n ((List.range n).map fun (j : Nat) => Value.int .u8 (q j))) (hn : 0 < n) : ∃ g c, v = .slice (some ⟨g, 0, none⟩) n c ∧ n ≤ c ∧ B ≤ g ∧ ArrO w g n q := by
  rcases h.2 with ⟨-, h2⟩ | ⟨g, cap, cur, hv, hb, hh, hc, _, hs, ht⟩
  · omega
  · refine ⟨g, cap, hv, hc, hb, cur, hh, fun i a b => ?_⟩
    have e : cur[i.toNat]? = (cur.toList.take ((List.range n).map fun (j : Nat) => Value.int .u8 (q j)).length)[i.toNat]? := by
      rw [List.getElem?_take, if_pos (by simp; omega)]; simp
    rw [e]
    have : (cur.toList.take ((List.range n).map fun (j : Nat) => Value.int .u8 (q j)).length) = (List.range n).map fun (j : Nat) => Value.int .u8 (q j) := by
      simpa using ht
    rw [this, List.getElem?_map, List.getElem?_range (by omega)]
    simp [Int.toNat_of_nonneg a]

def ClOut (A : Option Addr) (n : Nat) (p : Int → Int) (w : World) (v : Value) (w' : World) : Prop := (A = none ∧ n = 0 ∧ v = .slice none 0 0 ∧ w = w') ∨ w'.ownsRow w.heap.size 5 1 v n ((List.range n).map fun (j : Nat) => Value.int .u8 (p j))
theorem outSl_nil (w w' : World) (q : Int → Int) : OutSl w w' 0 q (.slice none 0 0) := ⟨none, 0, rfl, Nat.le_refl _, fun _ => rfl, (fun _ h => by cases h), ArrB.nil⟩
end Go.Proofs.Ytoonkpjddfiopaa

/- Walks: copies of bytes and of an image that can be written; specks (custoslaw02.specked). -/
namespace Go.Proofs.Ytoonkpjddfiopaa
open Go.RowKit
set_option linter.unusedVariables false

set_option maxRecDepth 100000 in
set_option maxHeartbeats 400000 in
theorem copyBytesO_any (ad : Addr) (n c : Nat) (p : Int → Int) (w : World) (hA : ArrB w w.heap.size (some ad) n p) (hn0 : 0 < n) (hn : n ≤ 140737488355328) :
    Calls Try.prog 21 #[.slice (some ad) n c] w (New w fun v w' => ∃ g c', v = .slice (some ⟨g, 0, none⟩) n c' ∧ n ≤ c' ∧ w.heap.size ≤ g ∧ ArrO w' g n p) := by
  obtain ⟨i0, hi0, hz0, hz1, hz2⟩ := info_parts infoU8
  have hnil := World.ownsRow_nil w w.heap.size 5 1
  go_enter Try.func21, Try.ntmps21
  go_wp2_with (at_builtin; refine wpList_append_own _ rfl (.tmp 4) (.tmp 5) 22 rfl w.heap.size 5 i0 (.int .u8 0) 1 1 Try.underlying22 hi0 hz0 hz1 hz2 rfl (by decide) _ 0 [] rfl hnil ad n c ((List.range n).map (fun (j : Nat) => Value.int .u8 (p j))) rfl (by simp) ?c1 ?c2 ?c3 ?c4 (Nat.le_refl _) ?_)
  case c1 =>
    intro j u hj
    have hjn : j < n := by
      rcases Nat.lt_or_ge j n with h | h
      · exact h
      · rw [List.getElem?_eq_none (by simpa using h)] at hj; cases hj
    obtain ⟨b, off, e, _, hcell⟩ := hA (by omega)
    injection e with e; subst e
    have := hcell j (by omega) (by omega)
    simp [hjn] at hj
    subst hj
    rw [Int.toNat_natCast] at this
    unfold Addr.add
    split
    · rename_i e; subst e; exact this
    · exact this
  case c2 => intro u hu; simp at hu; obtain ⟨j, _, rfl⟩ := hu; rfl
  case c3 => unfold maxLen; omega
  case c4 => omega
  intro v' w1 hown' hg _
  go_wp2
  go_ret
  try rw [Nat.zero_add, List.nil_append] at hown'
  obtain ⟨g, c', rfl, h1, h2, h3⟩ := own_arrO hown' hn0
  exact ⟨_, rfl, ⟨g, c', rfl, h1, h2, h3⟩, (Below.refl _ _).grown hg (Nat.le_refl _) (fun k hk => by simp [Value.ownBlock] at hk)⟩

set_option maxHeartbeats 1000000 in
theorem copyInkO_any (W H : Int) (ad : Addr) (n c : Nat) (p : Int → Int) (w : World) (hA : ArrB w w.heap.size (some ad) n p) (hn0 : 0 < n) (hn : n ≤ 140737488355328) :
    Calls Try.prog 35 #[.agg #[.int .i64 W, .int .i64 H, .slice (some ad) n c]] w (New w fun v w' => ∃ g c', v = .agg #[.int .i64 W, .int .i64 H, .slice (some ⟨g, 0, none⟩) n c'] ∧ n ≤ c' ∧ w.heap.size ≤ g ∧ ArrO w' g n p) := by
  have CB := Lib.hid fun w' hA' => copyBytesO_any ad n c p w' hA' hn0 hn
  go_enter Try.func35, Try.ntmps35
  go_wp2_with fail
  have k1 := (Blk.new w 29 #[.int .i64 W, .int .i64 H, .slice (some ad) n c]).alloc (.cells #[.int .i64 0, .int .i64 0, .slice none 0 0] 29)
  have k2 := Blk.new' (w := w.alloc (.cells #[.int .i64 W, .int .i64 H, .slice (some ad) n c] 29)) (World.size_alloc _ _) 29 #[.int .i64 0, .int .i64 0, .slice none 0 0]
  have b1 : Below w.heap.size w ((w.alloc (.cells #[.int .i64 W, .int .i64 H, .slice (some ad) n c] 29)).alloc (.cells #[.int .i64 0, .int .i64 0, .slice none 0 0] 29)) := by (repeat (first | exact Below.refl _ _ | assumption | refine Below.drew ?_ | refine below_drewN ?_ _ | refine Below.alloc ?_ (by first | omega | (simp; done) | (simp; omega)) _ | refine Below.setCell ?_ (by first | omega | (simp; done) | (simp; omega)) _ | refine below_setRow ?_ (by first | omega | (simp; done) | (simp; omega)) _ ))
  have hA1 := hA.to b1
  generalize (w.alloc (.cells #[.int .i64 W, .int .i64 H, .slice (some ad) n c] 29)).alloc (.cells #[.int .i64 0, .int .i64 0, .slice none 0 0] 29) = w1 at *
  clear hA
  have K1 := Lib.hid k1; have K2 := Lib.hid k2; have B1 := Lib.hid b1; have A1 := Lib.hid hA1
  obtain ⟨p1, p2, p3⟩ := k1.cells3
  obtain ⟨r1, r2, r3⟩ := k2.cells3
  obtain ⟨f1, f2, f3⟩ := k2.frozen3
  clear k1 k2 b1 hA1
  go_region_held3 (fun w' => w'.cell? ⟨w.heap.size, 0, none⟩ = some (.int .i64 W) ∧ w'.cell? ⟨w.heap.size, 1, none⟩ = some (.int .i64 H) ∧ w'.cell? ⟨w.heap.size, 2, none⟩ = some (.slice (some ad) n c))
    (simp [go_sem, *])
    (first
      | (go_at_call 21; refine (CB.out _ A1.out.drew).mono ?_; rintro e w2 ⟨_, rfl, ⟨g, c', rfl, hc', hge', ha'⟩, hb2⟩
         have k3 := K1.out.drew.below' hb2; have k4 := K2.out.drew.below' hb2
         obtain ⟨x1, x2, x3⟩ := k3.cells3; obtain ⟨y1, y2, y3⟩ := k4.cells3; obtain ⟨z1, z2, z3⟩ := k4.frozen3
         have b2 : Below w.heap.size w w2 := B1.out.drew.trans (hb2.mono B1.out.size)
         have z2 := K2.out.lt))
  go_wp2
  refine bodyPost_ret (v := .agg #[.int .i64 W, .int .i64 H, .slice (some ⟨g, 0, none⟩) n c']) (by simp [results, Try.results35, go_sem, y1, y2, y3]) rfl ?_
  have hge : w1.heap.size ≤ g := hge'
  have hne : g ≠ w.heap.size + 1 := by omega
  have hbs := B1.out.size
  refine ⟨_, rfl, ⟨g, c', rfl, hc', by omega, ?_⟩, by (repeat (first | exact Below.refl _ _ | assumption | refine Below.drew ?_ | refine below_drewN ?_ _ | refine Below.alloc ?_ (by first | omega | (simp; done) | (simp; omega)) _ | refine Below.setCell ?_ (by first | omega | (simp; done) | (simp; omega)) _ | refine below_setRow ?_ (by first | omega | (simp; done) | (simp; omega)) _ ))⟩
  exact (((ha'.drew.far (p := ⟨w.heap.size + 1, 0, none⟩) hne _).far (p := ⟨w.heap.size + 1, 1, none⟩) hne _).far (p := ⟨w.heap.size + 1, 2, none⟩) hne _)
end Go.Proofs.Ytoonkpjddfiopaa

/- Walk: custoslaw02.specked. -/
namespace Go.Proofs.Ytoonkpjddfiopaa
open Go.RowKit
set_option linter.unusedVariables false

theorem free_iff {W H X Y xa xb ya yb : Int} {q : Int → Int} (X0 : 0 ≤ X) (X1 : X < W) (Y0 : 0 ≤ Y) (Y1 : Y < H) (YA : ya = 0 ∧ Y = 0 ∨ ya = Y - 1 ∧ 0 < Y) (YB : yb = H - 1 ∧ Y = H - 1 ∨ yb = Y + 1 ∧ Y < H - 1) (XA : xa = 0 ∧ X = 0 ∨ xa = X - 1 ∧ 0 < X) (XB : xb = W - 1 ∧ X = W - 1 ∨ xb = X + 1 ∧ X < W - 1) :
    FreeQ W H q X Y ↔ ∀ u v : Int, xa ≤ u → u ≤ xb → ya ≤ v → v < yb + 1 → q (v * W + u) = 0 :=
  ⟨fun h u v a b c d => h u v (by omega) (by omega) (by omega) (by omega) (by omega) (by omega) (by omega) (by omega), fun h u v a b c d e f g i => h u v (by omega) (by omega) (by omega) (by omega)⟩

set_option maxRecDepth 100000 in
set_option maxHeartbeats 4000000 in
theorem specked_any (W H : Int) (ad : Addr) (N c : Nat) (p : Int → Int) (C : Option Addr) (m d : Nat) (a : Int → Int) (w : World) (hA : ArrB w w.heap.size (some ad) N p) (hW0 : 0 < W) (hW1 : W ≤ 640) (hH0 : 0 < H) (hH1 : H ≤ 640) (hN : (N : Int) = W * H) (hp : ∀ i, p i = 0 ∨ p i = 1)
    (hC : ArrU w w.heap.size C m a) (hm : m ≤ maxLen) (hmd : m ≤ d) (ha : ∀ i, 0 ≤ a i ∧ a i ≤ 65535) :
    Calls Try.prog 16 #[.agg #[.int .i64 W, .int .i64 H, .slice (some ad) N c], .slice C m d] w (New w fun v w' => ∃ g c', v = .agg #[.int .i64 W, .int .i64 H, .slice (some ⟨g, 0, none⟩) N c'] ∧ w.heap.size ≤ g ∧ ArrO w' g N (spkL W H a p (min m 40))) := by
  unfold maxLen at hm
  obtain ⟨l, hl, hl40, hlm, hle⟩ : ∃ l : Nat, (l : Int) = min (m : Int) 40 ∧ l ≤ 40 ∧ l ≤ m ∧ min m 40 = l := ⟨min m 40, by omega, by omega, by omega, rfl⟩
  rw [hle]; clear hle
  have HL := Lib.hid hl; clear hl
  obtain ⟨nb1, nb2⟩ := (area_bd (W := W) (H := H) (by omega) hW1 (by omega) hH1)
  have hNp : 0 < N := by have := Int.mul_pos hW0 hH0; omega
  have CI := Lib.hid fun w' hA' => copyInkO_any W H ad N c p w' hA' hNp (by omega)
  have HN := Lib.hid hN
  have HP := Lib.hid hp
  have HAA := Lib.hid ha
  have hN4 : N ≤ 409600 := by omega
  clear hN nb1 nb2 hp ha
  go_enter Try.func16, Try.ntmps16
  go_wp2_with fail
  refine (CI.out _ (hA.to (by (repeat (first | exact Below.refl _ _ | assumption | refine Below.drew ?_ | refine below_drewN ?_ _ | refine Below.alloc ?_ (by first | omega | (simp; done) | (simp; omega)) _ | refine Below.setCell ?_ (by first | omega | (simp; done) | (simp; omega)) _ | refine below_setRow ?_ (by first | omega | (simp; done) | (simp; omega)) _ ))))).mono ?_
  rintro e w1 ⟨_, rfl, ⟨gq, c', rfl, hcc, hgq, ho⟩, hb1⟩
  have k1 : Blk w1 w.heap.size 29 #[.int .i64 W, .int .i64 H, .slice (some ad) N c] := ((Blk.new _ _ _).alloc _).below' hb1
  have k2 : Blk w1 (w.heap.size + 1) 29 #[.int .i64 0, .int .i64 0, .slice none 0 0] := (Blk.new' (by simp) _ _).below' hb1
  have b1 : Below w.heap.size w w1 := below_call (by (repeat (first | exact Below.refl _ _ | assumption | refine Below.drew ?_ | refine below_drewN ?_ _ | refine Below.alloc ?_ (by first | omega | (simp; done) | (simp; omega)) _ | refine Below.setCell ?_ (by first | omega | (simp; done) | (simp; omega)) _ | refine below_setRow ?_ (by first | omega | (simp; done) | (simp; omega)) _ ))) (by simp; try omega) hb1
  have hgq2 : w.heap.size + 2 ≤ gq := by simp at hgq; omega
  have hlt0 := ho.lt
  obtain ⟨g5, hg5⟩ : ∃ g, w1.heap.size = g := ⟨_, rfl⟩
  clear hb1 hgq hA CI
  go_upto_region 2 with fail
  have x1 := k1.alloc (.cells #[.int .i64 W, .int .i64 H, .slice (some ⟨gq, 0, none⟩) N c'] 29)
  have x2 := k2.alloc (.cells #[.int .i64 W, .int .i64 H, .slice (some ⟨gq, 0, none⟩) N c'] 29)
  have x5 : Blk (w1.alloc (.cells #[.int .i64 W, .int .i64 H, .slice (some ⟨gq, 0, none⟩) N c'] 29)) g5 29 #[.int .i64 W, .int .i64 H, .slice (some ⟨gq, 0, none⟩) N c'] := Blk.new' hg5 _ _
  have xo := ho.alloc (.cells #[.int .i64 W, .int .i64 H, .slice (some ⟨gq, 0, none⟩) N c'] 29)
  have b2 : Below w.heap.size w (w1.alloc (.cells #[.int .i64 W, .int .i64 H, .slice (some ⟨gq, 0, none⟩) N c'] 29)) := by (repeat (first | exact Below.refl _ _ | assumption | refine Below.drew ?_ | refine below_drewN ?_ _ | refine Below.alloc ?_ (by first | omega | (simp; done) | (simp; omega)) _ | refine Below.setCell ?_ (by first | omega | (simp; done) | (simp; omega)) _ | refine below_setRow ?_ (by first | omega | (simp; done) | (simp; omega)) _ ))
  have hq5 : gq < g5 := by omega
  clear k1 k2 ho b1 hlt0 hg5
  generalize w1.alloc (.cells #[.int .i64 W, .int .i64 H, .slice (some ⟨gq, 0, none⟩) N c'] 29) = w2 at *
  go_cut [19, 20, 21] (fun a b s wx => a = .slice C l d ∧ b = .int .i64 l ∧ s = .int .i64 0 ∧ wx = w2)
  case first =>
    by_cases h12 : (m : Int) < 40
    · obtain rfl : l = m := by have := HL.out; omega
      go_wp2_with fail
      go_meet
      exact ⟨rfl, rfl, rfl, rfl⟩
    · obtain rfl : l = 40 := by have := HL.out; omega
      go_wp2_with fail
      · go_meet
        exact ⟨rfl, rfl, rfl, rfl⟩
      · obtain rfl : m = 40 := by omega
        go_meet
        exact ⟨rfl, rfl, rfl, rfl⟩
  case rest =>
  obtain ⟨rfl, rfl, rfl, rfl⟩ := hcut
  have hC' : ArrU w w.heap.size C l a := fun h => by
    obtain ⟨b, off, e, hb, hc⟩ := hC (by omega)
    exact ⟨b, off, e, hb, fun i a b => hc i a (by omega)⟩
  clear hC
  go_wp2
  go_loopw [21] (fun s wr => ∃ i : Nat, i ≤ l ∧ s = .int .i64 i ∧ Below w.heap.size w wr ∧ Blk wr w.heap.size 29 #[.int .i64 W, .int .i64 H, .slice (some ad) N c] ∧ Blk wr (w.heap.size + 1) 29 #[.int .i64 0, .int .i64 0, .slice none 0 0] ∧ Blk wr g5 29 #[.int .i64 W, .int .i64 H, .slice (some ⟨gq, 0, none⟩) N c'] ∧ ArrO wr gq N (spkL W H a p i)) (fun s _ => l - (intOf s).toNat)
  case atStart => exact ⟨0, by omega, rfl, b2, x1, x2, x5, xo⟩
  case round =>
    obtain ⟨i, hi, rfl, b3, y1, y2, y5, yo⟩ := hrel
    clear x1 x2 x5 xo b2
    by_cases hlt : i < l
    · obtain ⟨b, off, rfl, hbB, hcell⟩ := Arr.at_ (Arr.below hC' b3) (i := (i : Int)) (by omega) (by omega)
      rw [Int.toNat_natCast] at hcell
      obtain ⟨vb1, vb2⟩ := HAA.out i
      have SN : Hid (spkL W H a p (i + 1) = spkS W H (spkL W H a p i) (a i)) := by show _ = _; rfl
      have Q01 := Lib.hid (spkL_01 (W := W) (H := H) HP.out a i)
      generalize spkL W H a p i = q at *
      generalize a i = v at *
      obtain ⟨Q, hQ⟩ : ∃ Q, v / W = Q := ⟨_, rfl⟩
      obtain ⟨X, hX⟩ : ∃ X, v % W = X := ⟨_, rfl⟩
      obtain ⟨Y, hY⟩ : ∃ Y, Q % H = Y := ⟨_, rfl⟩
      have q0 : 0 ≤ Q := by rw [← hQ]; exact Int.ediv_nonneg vb1 (by omega)
      have q1 : Q ≤ 65535 := by rw [← hQ]; exact Int.le_trans (Int.ediv_le_self _ vb1) vb2
      have X0 : 0 ≤ X := by rw [← hX]; exact Int.emod_nonneg _ (by omega)
      have X1 : X < W := by rw [← hX]; exact Int.emod_lt_of_pos _ hW0
      have Y0 : 0 ≤ Y := by rw [← hY]; exact Int.emod_nonneg _ (by omega)
      have Y1 : Y < H := by rw [← hY]; exact Int.emod_lt_of_pos _ hH0
      have tm1 : v.tmod W = X := by rw [← hX]; exact Int.tmod_eq_emod_of_nonneg vb1
      have td1 : v.tdiv W = Q := by rw [← hQ]; exact Int.tdiv_eq_ediv_of_nonneg vb1
      have tm2 : Q.tmod H = Y := by rw [← hY]; exact Int.tmod_eq_emod_of_nonneg q0
      have SQ1 : Hid (FreeQ W H q X Y → spkS W H q v = upd q (Y * W + X) 1) := by intro h; unfold spkS; rw [hQ, hX, hY, if_pos h]
      have SQ2 : Hid (¬ FreeQ W H q X Y → spkS W H q v = q) := by intro h; unfold spkS; rw [hQ, hX, hY, if_neg h]
      have w1' : ¬ W = 0 := by omega
      have w2' : ¬ H = 0 := by omega
      have w3' : (W == 0) = false := by simp; omega
      have w4' : (H == 0) = false := by simp; omega
      have w5' : IntKind.i64.wrap v = v := IntWalk.i64_in _ (by omega)
      have w6' : IntKind.i64.wrap X = X := IntWalk.i64_in _ (by omega)
      have w7' : IntKind.i64.wrap Q = Q := IntWalk.i64_in _ (by omega)
      have w8' : IntKind.i64.wrap Y = Y := IntWalk.i64_in _ (by omega)
      obtain ⟨p1, p2, p3⟩ := y1.cells3
      obtain ⟨r1, r2, r3⟩ := y5.cells3
      clear hQ hX hY
      go_upto_region 5 with fail
      go_quiet (fail)
      have z1 := y1.drewN nq
      have z2 := y2.drewN nq
      have z5 := y5.drewN nq
      have zo : ArrO (wr.drewN nq) gq N q := yo.move rfl
      have b4 := below_drewN b3 nq
      clear y1 y2 y5 yo b3 p1 p2 p3 r1 r2 r3 hcell tm1 td1 tm2 w5' w6' w7' w8' w1' w2' w3' w4'
      generalize wr.drewN nq = w3 at *
      obtain ⟨p1, p2, p3⟩ := z1.cells3
      obtain ⟨r1, r2, r3⟩ := z5.cells3
      obtain ⟨ya, hya⟩ : ∃ y, (if Y - 1 < 0 then 0 else Y - 1) = y := ⟨_, rfl⟩
      obtain ⟨yb, hyb⟩ : ∃ y, (if H - 1 < Y + 1 then H - 1 else Y + 1) = y := ⟨_, rfl⟩
      obtain ⟨xa, hxa⟩ : ∃ y, (if X - 1 < 0 then 0 else X - 1) = y := ⟨_, rfl⟩
      obtain ⟨xb, hxb⟩ : ∃ y, (if W - 1 < X + 1 then W - 1 else X + 1) = y := ⟨_, rfl⟩
      have ya' : ya = 0 ∧ Y = 0 ∨ ya = Y - 1 ∧ 0 < Y := by rw [← hya]; split <;> omega
      have yb' : yb = H - 1 ∧ Y = H - 1 ∨ yb = Y + 1 ∧ Y < H - 1 := by rw [← hyb]; split <;> omega
      have xa' : xa = 0 ∧ X = 0 ∨ xa = X - 1 ∧ 0 < X := by rw [← hxa]; split <;> omega
      have xb' : xb = W - 1 ∧ X = W - 1 ∨ xb = X + 1 ∧ X < W - 1 := by rw [← hxb]; split <;> omega
      have YA := Lib.hid ya'
      have YB := Lib.hid yb'
      have XA := Lib.hid xa'
      have XB := Lib.hid xb'
      have ya0 : 0 ≤ ya := by omega
      have ya1 : ya ≤ 640 := by omega
      have yb0 : 0 ≤ yb := by omega
      have yb1 : yb < H := by omega
      have xa0 : 0 ≤ xa := by omega
      have xa1 : xa ≤ 640 := by omega
      have xb0 : 0 ≤ xb := by omega
      have xb1 : xb < W := by omega
      clear ya' yb' xa' xb'
      have wy1 : IntKind.i64.wrap (Y - 1) = Y - 1 := IntWalk.i64_in _ (by omega)
      have wy2 : IntKind.i64.wrap (Y + 1) = Y + 1 := IntWalk.i64_in _ (by omega)
      have wh1 : IntKind.i64.wrap (H - 1) = H - 1 := IntWalk.i64_in _ (by omega)
      have wx1 : IntKind.i64.wrap (X - 1) = X - 1 := IntWalk.i64_in _ (by omega)
      have wx2 : IntKind.i64.wrap (X + 1) = X + 1 := IntWalk.i64_in _ (by omega)
      have wd1 : IntKind.i64.wrap (W - 1) = W - 1 := IntWalk.i64_in _ (by omega)
      go_wp2
      go_loop [10, 11] (fun f y => ∃ (fb : Bool) (yi : Int), f = .bool fb ∧ y = .int .i64 yi ∧ ya ≤ yi ∧ yi ≤ yb + 1 ∧ (fb = true ↔ ∀ u' v' : Int, xa ≤ u' → u' ≤ xb → ya ≤ v' → v' < yi → q (v' * W + u') = 0)) (fun _ y => (yb + 1 - intOf y).toNat)
      case atStart => exact ⟨true, ya, rfl, rfl, by omega, by have := YA.out; have := YB.out; omega, by simp; intro u' v' _ _ h1 h2; omega⟩
      case round =>
        obtain ⟨fb, yi, rfl, rfl, yi0, yi1, hfb⟩ := hrel
        have HFB := Lib.hid hfb
        clear hfb
        by_cases hy : yi ≤ yb
        · go_wp2
          go_loop [10, 12] (fun f u => ∃ (fc : Bool) (ui : Int), f = .bool fc ∧ u = .int .i64 ui ∧ xa ≤ ui ∧ ui ≤ xb + 1 ∧ (fc = true ↔ fb = true ∧ ∀ u' : Int, xa ≤ u' → u' < ui → q (yi * W + u') = 0)) (fun _ u => (xb + 1 - intOf u).toNat)
          case atStart => exact ⟨fb, xa, rfl, rfl, by omega, by have := XA.out; have := XB.out; omega, by simp; intro _ u' h1 h2; omega⟩
          case round =>
            obtain ⟨fc, ui, rfl, rfl, ui0, ui1, hfc⟩ := hrel
            have HFC := Lib.hid hfc
            clear hfc
            have yi2 : 0 ≤ yi := by omega
            have yi3 : yi < H := by omega
            have ui2 : 0 ≤ ui := by omega
            by_cases hu : ui ≤ xb
            · obtain ⟨j1, j2, j3⟩ := idx_lt ui2 (show ui < W by omega) yi2 yi3
              rw [Int.mul_comm H W] at j2
              have j4 : yi * W + ui < N := by have := HN.out; omega
              have wj1 : IntKind.i64.wrap (yi * W) = yi * W := IntWalk.i64_in _ (by omega)
              have wj2 : IntKind.i64.wrap (yi * W + ui) = yi * W + ui := IntWalk.i64_in _ (by omega)
              have hc := zo.cell j1 j4
              have hq := Q01.out (yi * W + ui)
              obtain ⟨J, hJ⟩ : ∃ J, yi * W + ui = J := ⟨_, rfl⟩
              rw [hJ] at hc j1 j4 wj2 hq
              obtain ⟨z, hz⟩ : ∃ z, q J = z := ⟨_, rfl⟩
              rw [hz] at hc hq
              have HJ := Lib.hid hJ
              have HZ := Lib.hid hz
              have wj3 : IntKind.i64.wrap (yi * W + ui) = J := by rw [hJ]; exact wj2
              have SJ : Hid (∀ fd : Bool, (fd = true ↔ fc = true ∧ z = 0) → (fd = true ↔ fb = true ∧ ∀ u' : Int, xa ≤ u' → u' < ui + 1 → q (yi * W + u') = 0)) := by
                intro fd hfd
                rw [hfd, HFC.out]
                constructor
                · rintro ⟨⟨h1, h2⟩, h3⟩
                  refine ⟨h1, fun u' a b => ?_⟩
                  by_cases e : u' = ui
                  · rw [e, hJ, hz]; exact h3
                  · exact h2 u' a (by omega)
                · rintro ⟨h1, h2⟩
                  exact ⟨⟨h1, fun u' a b => h2 u' a (by omega)⟩, by rw [← hz, ← hJ]; exact h2 ui ui0 (by omega)⟩
              clear hJ hz
              cases fc with
              | false =>
                go_wp2
                go_round
                case rel => exact ⟨false, ui + 1, rfl, by go_num, by omega, by omega, SJ.out false (by simp)⟩
                case measure => simp [intOf]; omega
              | true =>
                by_cases hz0 : z = 0
                · have hzb : (z == 0) = true := by simp [hz0]
                  have HZ0 := Lib.hid hz0
                  clear hz0
                  go_wp2
                  go_round
                  case rel => exact ⟨true, ui + 1, by first | rfl | (simp; exact HZ0.out), by go_num, by omega, by omega, SJ.out true (by simp; exact HZ0.out)⟩
                  case measure => simp [intOf]; omega
                · have hzb : (z == 0) = false := by simp [hz0]
                  have HZ0 := Lib.hid hz0
                  clear hz0
                  go_wp2
                  go_round
                  case rel => exact ⟨false, ui + 1, by first | rfl | (simp; exact HZ0.out), by go_num, by omega, by omega, SJ.out false (by simp; exact HZ0.out)⟩
                  case measure => simp [intOf]; omega
            · obtain rfl : ui = xb + 1 := by omega
              go_wp2
              go_round
              case rel =>
                refine ⟨fc, yi + 1, rfl, by go_num, by omega, by omega, ?_⟩
                rw [HFC.out, HFB.out]
                constructor
                · rintro ⟨h1, h2⟩ u' v' a b c d
                  by_cases e : v' = yi
                  · rw [e]; exact h2 u' a (by omega)
                  · exact h1 u' v' a b c (by omega)
                · intro h
                  exact ⟨fun u' v' a b c d => h u' v' a b c (by omega), fun u' a b => h u' yi a (by omega) yi0 (by omega)⟩
              case measure => simp [intOf]; omega
        · obtain rfl : yi = yb + 1 := by omega
          have hF := free_iff (q := q) X0 X1 Y0 Y1 YA.out YB.out XA.out XB.out
          rw [← HFB.out] at hF
          have HF := Lib.hid hF
          obtain ⟨j1, j2, j3⟩ := idx_lt X0 X1 Y0 Y1
          rw [Int.mul_comm H W] at j2
          have j4 : Y * W + X < N := by have := HN.out; omega
          have wj1 : IntKind.i64.wrap (Y * W) = Y * W := IntWalk.i64_in _ (by omega)
          have wj2 : IntKind.i64.wrap (Y * W + X) = Y * W + X := IntWalk.i64_in _ (by omega)
          have hc := zo.cell j1 j4
          have ZS := zo.set _ j1 j4 1
          obtain ⟨J, hJ⟩ : ∃ J, Y * W + X = J := ⟨_, rfl⟩
          rw [hJ] at hc j1 j4 wj2 ZS SQ1
          have wj3 : IntKind.i64.wrap (Y * W + X) = J := by rw [hJ]; exact wj2
          have hfz := zo.frozen J.toNat
          have ZS := Lib.hid ZS
          clear hJ hF
          have Z1 := Lib.hid z1; have Z2 := Lib.hid z2; have Z5 := Lib.hid z5; have ZO := Lib.hid zo; have B4 := Lib.hid b4
          have n1 : w.heap.size ≠ gq := by omega
          have n2 : w.heap.size + 1 ≠ gq := by omega
          have n5 : g5 ≠ gq := by omega
          have n3 : w.heap.size ≤ gq := by omega
          clear z1 z2 z5 zo b4
          cases fb with
          | false =>
            have hn : spkL W H a p (i + 1) = q := by rw [SN.out]; exact SQ2.out (fun h => by have := HF.out.1 h; cases this)
            have SN9 := Lib.hid hn
            clear hn
            go_wp2
            go_roundw
            case rel => exact ⟨i + 1, by omega, by go_num, B4.out, Z1.out, Z2.out, Z5.out, by rw [SN9.out]; exact ZO.out⟩
            case measure => simp [intOf]; omega
          | true =>
            have hn : spkL W H a p (i + 1) = upd q J 1 := by rw [SN.out]; exact SQ1.out (HF.out.2 rfl)
            have SN9 := Lib.hid hn
            clear hn
            go_wp2
            go_roundw
            case rel => exact ⟨i + 1, by omega, by go_num, B4.out.setCell n3 _, Z1.out.far n1 _, Z2.out.far n2 _, Z5.out.far n5 _, by rw [SN9.out]; exact ZS.out⟩
            case measure => simp [intOf]; omega
    · obtain rfl : i = l := by omega
      obtain ⟨r1, r2, r3⟩ := y5.cells3
      obtain ⟨f1, f2, f3⟩ := y2.frozen3
      obtain ⟨t1, t2, t3⟩ := y2.cells3
      have k9 := ((y2.set_ 0 (.int .i64 W)).set_ 1 (.int .i64 H)).set_ 2 (.slice (some ⟨gq, 0, none⟩) N c')
      obtain ⟨s1, s2, s3⟩ := Blk.cells3 (a := .int .i64 W) (b := .int .i64 H) (c := .slice (some ⟨gq, 0, none⟩) N c') k9
      have n2 : gq ≠ w.heap.size + 1 := by omega
      have YO := Lib.hid (((yo.far (p := ⟨w.heap.size + 1, 0, none⟩) n2 (.int .i64 W)).far (p := ⟨w.heap.size + 1, 1, none⟩) n2 (.int .i64 H)).far (p := ⟨w.heap.size + 1, 2, none⟩) n2 (.slice (some ⟨gq, 0, none⟩) N c'))
      have B3 := Lib.hid b3
      clear yo y1 y5 y2 b3
      go_wp2_with fail
      refine bodyPost_ret (v := .agg #[.int .i64 W, .int .i64 H, .slice (some ⟨gq, 0, none⟩) N c']) (by simp [results, Try.results16, go_sem, s1, s2, s3]) rfl ?_
      have b3 := B3.out
      exact ⟨_, rfl, ⟨gq, c', rfl, by omega, YO.out⟩, by (repeat (first | exact Below.refl _ _ | assumption | refine Below.drew ?_ | refine below_drewN ?_ _ | refine Below.alloc ?_ (by first | omega | (simp; done) | (simp; omega)) _ | refine Below.setCell ?_ (by first | omega | (simp; done) | (simp; omega)) _ | refine below_setRow ?_ (by first | omega | (simp; done) | (simp; omega)) _ ))⟩
end Go.Proofs.Ytoonkpjddfiopaa

/- Plain laws: the threshold by all pairs of levels is the threshold by one pass. No program in sight. -/
namespace Go.Proofs.Ytoonkpjddfiopaa
open Go.RowKit
set_option linter.unusedVariables false

theorem first_occ (c : Int → Int) (a : Nat) (h : a ≤ 256) : ∃ m : Nat, a ≤ m ∧ m ≤ 256 ∧ (∀ j : Nat, a ≤ j → j < m → c j = 0) ∧ (m < 256 → c m ≠ 0) := by
  by_cases e : a = 256
  · exact ⟨a, by omega, by omega, fun j h1 h2 => by omega, fun h => by omega⟩
  · by_cases hc : c a = 0
    · obtain ⟨m, h1, h2, h3, h4⟩ := first_occ c (a + 1) (by omega)
      refine ⟨m, by omega, h2, fun j j1 j2 => ?_, h4⟩
      by_cases ej : j = a
      · subst ej; exact hc
      · exact h3 j (by omega) j2
    · exact ⟨a, by omega, by omega, fun j h1 h2 => by omega, fun _ => hc⟩
termination_by 256 - a
theorem levP_skip (c : Int → Int) (a m : Nat) (h : a ≤ m) (hz : ∀ j : Nat, a ≤ j → j < m → c j = 0) : levP c m = levP c a := by
  induction m with
  | zero => obtain rfl : a = 0 := by omega
            rfl
  | succ m ih =>
    by_cases e : a = m + 1
    · rw [e]
    · rw [levP, if_pos (hz m (by omega) (by omega))]
      exact ih (by omega) fun j h1 h2 => hz j h1 (by omega)
/-- the pairs that begin before the level a are done; m is the first level that occurs from a on -/
structure RL (c : Int → Int) (a m : Nat) (o b : Int) : Prop where
  le : a ≤ m
  top : m ≤ 256
  gap : ∀ j : Nat, a ≤ j → j < m → c j = 0
  occ : m < 256 → c m ≠ 0
  o : o = (levP c (min (m + 1) 256)).1
  b : b = (levP c (min (m + 1) 256)).2.1
theorem RL.start (c : Int → Int) : ∃ m, RL c 0 m 128 0 := by
  obtain ⟨m, h1, h2, h3, h4⟩ := first_occ c 0 (by omega)
  have hs := levP_skip c 0 m h1 h3
  by_cases e : m < 256
  · have hl : levP c (m + 1) = (128, 0, (m : Int)) := by
      rw [levP, if_neg (h4 e), hs]
      simp [levP]
    refine ⟨m, h1, h2, h3, h4, ?_, ?_⟩ <;> rw [Nat.min_eq_left (by omega), hl]
  · obtain rfl : m = 256 := by omega
    refine ⟨256, h1, h2, h3, h4, ?_, ?_⟩ <;> rw [Nat.min_eq_right (by omega), hs] <;> rfl
theorem RL.skip {c : Int → Int} {a m : Nat} {o b : Int} (h : RL c a m o b) (ha : a < 256) (hc : c a = 0) : RL c (a + 1) m o b := by
  have : a ≠ m := by rintro rfl; exact h.occ ha hc
  have := h.le
  exact ⟨by omega, h.top, fun j h1 h2 => h.gap j (by omega) h2, h.occ, h.o, h.b⟩
theorem RL.here {c : Int → Int} {a m : Nat} {o b : Int} (h : RL c a m o b) (ha : a < 256) (hc : c a ≠ 0) : levP c (a + 1) = (o, b, (a : Int)) := by
  have h1 := h.le
  have : m = a := by
    by_cases e : m = a
    · exact e
    · exact absurd (h.gap a (by omega) (by omega)) hc
  subst this
  have ho := h.o; have hb := h.b
  rw [Nat.min_eq_left (by omega)] at ho hb
  rw [ho, hb]
  have h3 : (levP c (m + 1)).2.2 = m := by
    rw [levP, if_neg hc]; split <;> rfl
  rw [← h3]
theorem RL.next {c : Int → Int} {a m : Nat} {o b : Int} (h : RL c a m o b) (ha : a < 256) (hc : c a ≠ 0) {k : Nat} (h1 : a < k) (hk : k < 256) (hz : ∀ j : Nat, a < j → j < k → c j = 0) (hck : c k ≠ 0) :
    RL c (a + 1) k (if b < (k : Int) - a then ((a : Int) + k + 1) / 2 else o) (if b < (k : Int) - a then (k : Int) - a else b) := by
  have hl := h.here ha hc
  have hs := levP_skip c (a + 1) k (by omega) fun j j1 j2 => hz j (by omega) j2
  rw [hl] at hs
  have e : levP c (k + 1) = if b < (k : Int) - a then (((a : Int) + k + 1) / 2, (k : Int) - a, (k : Int)) else (o, b, (k : Int)) := by
    rw [levP, if_neg hck, hs]
    by_cases hb : b < (k : Int) - a
    · simp [hb]
    · simp [hb]
  refine ⟨by omega, by omega, fun j j1 j2 => hz j (by omega) j2, fun _ => hck, ?_, ?_⟩ <;> rw [Nat.min_eq_left (by omega), e] <;> split <;> rfl
theorem RL.none {c : Int → Int} {a m : Nat} {o b : Int} (h : RL c a m o b) (ha : a < 256) (hc : c a ≠ 0) (hz : ∀ j : Nat, a < j → j < 256 → c j = 0) : RL c (a + 1) 256 o b := by
  have hl := h.here ha hc
  have hs := levP_skip c (a + 1) 256 (by omega) fun j j1 j2 => hz j (by omega) j2
  rw [hl] at hs
  refine ⟨by omega, by omega, fun j j1 j2 => hz j (by omega) j2, fun h => by omega, ?_, ?_⟩ <;> rw [Nat.min_eq_right (by omega), hs]
theorem RL.end_ {c : Int → Int} {m : Nat} {o b : Int} (h : RL c 256 m o b) : o = (levP c 256).1 := by
  have h1 := h.le; have h2 := h.top
  rw [h.o, Nat.min_eq_right (by omega)]
theorem RL.bd {c : Int → Int} {a m : Nat} {o b : Int} (h : RL c a m o b) : 0 ≤ o ∧ o ≤ 384 ∧ 0 ≤ b ∧ b ≤ 256 := by
  have hm := Nat.min_le_right (m + 1) 256
  rw [h.o, h.b]
  obtain ⟨d1, d2, d3, d4, d5, d6⟩ := levP_bd c (min (m + 1) 256)
  omega
end Go.Proofs.Ytoonkpjddfiopaa

/- Plain lemmas on memory: a list of blocks and of arrays that is kept as one fact. No program in sight. -/
namespace Go.Proofs.Ytoonkpjddfiopaa
open Go.RowKit
set_option linter.unusedVariables false

/-- these blocks are known whole, and these slices of bytes read ar these functions -/
def Kp (w : World) (bs : List (Nat × TypeId × Array Value)) (ar : List (Option Addr × Nat × (Int → Int))) : Prop :=
  (∀ b ∈ bs, Blk w b.1 b.2.1 b.2.2) ∧ ∀ a ∈ ar, ArrB w w.heap.size a.1 a.2.1 a.2.2
section
variable {w w' : World} {bs : List (Nat × TypeId × Array Value)} {ar : List (Option Addr × Nat × (Int → Int))}
theorem Kp.nil (w : World) : Kp w [] [] := ⟨fun _ h => by simp at h, fun _ h => by simp at h⟩
theorem Kp.below (h : Kp w bs ar) (hb : Below w.heap.size w w') : Kp w' bs ar :=
  ⟨fun b hm => (h.1 b hm).below' hb, fun a hm => (h.2 a hm).to hb⟩
theorem Kp.alloc (h : Kp w bs ar) (o : Obj) : Kp (w.alloc o) bs ar := h.below ((Below.refl _ _).alloc (Nat.le_refl _) _)
theorem Kp.drew (h : Kp w bs ar) : Kp w.drew bs ar := h
theorem Kp.addB (h : Kp w bs ar) {g : Nat} {t : TypeId} {cs : Array Value} (hk : Blk w g t cs) : Kp w ((g, t, cs) :: bs) ar :=
  ⟨fun b hm => by rcases List.mem_cons.1 hm with rfl | hm <;> first | exact hk | exact h.1 b hm, h.2⟩
theorem Kp.addA (h : Kp w bs ar) {A : Option Addr} {n : Nat} {q : Int → Int} (hk : ArrB w w.heap.size A n q) : Kp w bs ((A, n, q) :: ar) :=
  ⟨h.1, fun b hm => by rcases List.mem_cons.1 hm with rfl | hm <;> first | exact hk | exact h.2 b hm⟩
/-- one more block, just made -/
theorem Kp.new (h : Kp w bs ar) (t : TypeId) (cs : Array Value) : Kp (w.alloc (.cells cs t)) ((w.heap.size, t, cs) :: bs) ar := (h.alloc _).addB (Blk.new _ _ _)
theorem Kp.b (h : Kp w bs ar) (i : Nat) {g : Nat} {t : TypeId} {cs : Array Value} (hi : bs[i]? = some (g, t, cs)) : Blk w g t cs := h.1 _ (List.mem_of_getElem? hi)
theorem Kp.a (h : Kp w bs ar) (i : Nat) {A : Option Addr} {n : Nat} {q : Int → Int} (hi : ar[i]? = some (A, n, q)) : ArrB w w.heap.size A n q := h.2 _ (List.mem_of_getElem? hi)
end
/-! ### a box of three cells that is filled -/
def fill3 (w : World) (g : Nat) (a b c : Value) : World := ((w.setCell ⟨g, 0, none⟩ a).setCell ⟨g, 1, none⟩ b).setCell ⟨g, 2, none⟩ c
section
variable {w w' : World} {g : Nat} {t : TypeId} {a b c x y z : Value}
theorem Blk.fill3 (h : Blk w g t #[x, y, z]) : Blk (((w.setCell ⟨g, 0, none⟩ a).setCell ⟨g, 1, none⟩ b).setCell ⟨g, 2, none⟩ c) g t #[a, b, c] := ((h.set_ 0 a).set_ 1 b).set_ 2 c
theorem Blk.far3 {k : Nat} {cs : Array Value} (h : Blk w k t cs) (hk : k ≠ g) : Blk (((w.setCell ⟨g, 0, none⟩ a).setCell ⟨g, 1, none⟩ b).setCell ⟨g, 2, none⟩ c) k t cs := ((h.far hk _).far hk _).far hk _
theorem ArrB.far1 {B n : Nat} {A : Option Addr} {q : Int → Int} (h : ArrB w B A n q) {p : Addr} (hp : ∀ a, A = some a → a.block ≠ p.block) (u : Value) : ArrB (w.setCell p u) B A n q := fun hn => by
  obtain ⟨b, off, e, hb, hc⟩ := h hn
  exact ⟨b, off, e, hb, fun i h0 hi => (World.cell?_of_block (heap_setCell_other w p b u (hp _ e))).trans (hc i h0 hi)⟩
theorem ArrB.far3 {B n : Nat} {A : Option Addr} {q : Int → Int} (h : ArrB w B A n q) (hg : ∀ a, A = some a → a.block ≠ g) : ArrB (((w.setCell ⟨g, 0, none⟩ a).setCell ⟨g, 1, none⟩ b).setCell ⟨g, 2, none⟩ c) B A n q := ((h.far1 (p := ⟨g, 0, none⟩) hg a).far1 (p := ⟨g, 1, none⟩) hg b).far1 (p := ⟨g, 2, none⟩) hg c
theorem fill3_size : (((w.setCell ⟨g, 0, none⟩ a).setCell ⟨g, 1, none⟩ b).setCell ⟨g, 2, none⟩ c).heap.size = w.heap.size := by simp
theorem below_fill3 {B : Nat} {v : World} (h : Below B v w) (hg : B ≤ g) : Below B v (((w.setCell ⟨g, 0, none⟩ a).setCell ⟨g, 1, none⟩ b).setCell ⟨g, 2, none⟩ c) := ((h.setCell hg _).setCell hg _).setCell hg _
end
/-! ### chains: facts carried from world to world by the shape of the world -/
theorem bcell {W W1 : World} (hb : Below W.heap.size W W1) : (∀ b o, b < W.heap.size → W1.cell? ⟨b, o, none⟩ = W.cell? ⟨b, o, none⟩) ∧ (∀ b o, b < W.heap.size → W1.frozen? ⟨b, o, none⟩ = W.frozen? ⟨b, o, none⟩) :=
  ⟨fun b o h => hb.cell (p := ⟨b, o, none⟩) h, fun b o h => hb.frozen (p := ⟨b, o, none⟩) h⟩
theorem ArrB.alloc1 {w : World} {n : Nat} {A : Option Addr} {q : Int → Int} (h : ArrB w w.heap.size A n q) (o : Obj) : ArrB (w.alloc o) (w.alloc o).heap.size A n q := h.to ((Below.refl _ _).alloc (Nat.le_refl _) _)
theorem ArrB.drew1 {w : World} {n : Nat} {A : Option Addr} {q : Int → Int} (h : ArrB w w.heap.size A n q) : ArrB w.drew w.drew.heap.size A n q := h
theorem ArrB.fill1 {w : World} {g n : Nat} {A : Option Addr} {q : Int → Int} {a b c : Value} (h : ArrB w w.heap.size A n q) (hg : ∀ x, A = some x → x.block ≠ g) : ArrB (((w.setCell ⟨g, 0, none⟩ a).setCell ⟨g, 1, none⟩ b).setCell ⟨g, 2, none⟩ c) (((w.setCell ⟨g, 0, none⟩ a).setCell ⟨g, 1, none⟩ b).setCell ⟨g, 2, none⟩ c).heap.size A n q := by
  rw [fill3_size]; exact h.far3 hg
/-! the same with their side conditions first, for the chains -/
section
variable {w w' v : World} {n g B : Nat} {A : Option Addr} {q : Int → Int} {t : TypeId} {cs : Array Value} {a b c : Value}
theorem ArrB.to' (hb : Below w.heap.size w w') (h : ArrB w w.heap.size A n q) : ArrB w' w'.heap.size A n q := h.to hb
theorem ArrB.fill1' (hg : ∀ x, A = some x → x.block ≠ g) (h : ArrB w w.heap.size A n q) : ArrB (((w.setCell ⟨g, 0, none⟩ a).setCell ⟨g, 1, none⟩ b).setCell ⟨g, 2, none⟩ c) (((w.setCell ⟨g, 0, none⟩ a).setCell ⟨g, 1, none⟩ b).setCell ⟨g, 2, none⟩ c).heap.size A n q := h.fill1 hg
theorem ArrB.fillN (h0 : ArrB v v.heap.size A n q) (hv : v.heap.size ≤ g) (h : ArrB w w.heap.size A n q) : ArrB (((w.setCell ⟨g, 0, none⟩ a).setCell ⟨g, 1, none⟩ b).setCell ⟨g, 2, none⟩ c) (((w.setCell ⟨g, 0, none⟩ a).setCell ⟨g, 1, none⟩ b).setCell ⟨g, 2, none⟩ c).heap.size A n q := fun hn => by
  obtain ⟨k, off, rfl, hk, _⟩ := h0 hn
  exact (h.fill1 (fun x e => by cases e; show k ≠ g; omega)) hn
theorem ArrB.fillL {m : Nat} (hge : ∀ x, A = some x → m ≤ x.block) (hm : g < m) (h : ArrB w w.heap.size A n q) : ArrB (((w.setCell ⟨g, 0, none⟩ a).setCell ⟨g, 1, none⟩ b).setCell ⟨g, 2, none⟩ c) (((w.setCell ⟨g, 0, none⟩ a).setCell ⟨g, 1, none⟩ b).setCell ⟨g, 2, none⟩ c).heap.size A n q :=
  h.fill1 fun x e => by have := hge x e; omega
theorem Blk.far3' {k : Nat} (hk : k ≠ g) (h : Blk w k t cs) : Blk (((w.setCell ⟨g, 0, none⟩ a).setCell ⟨g, 1, none⟩ b).setCell ⟨g, 2, none⟩ c) k t cs := h.far3 hk
theorem Blk.below2 (hb : Below w.heap.size w w') (h : Blk w g t cs) : Blk w' g t cs := h.below' hb
theorem below_alloc' {o : Obj} (hB : B ≤ w.heap.size) (h : Below B v w) : Below B v (w.alloc o) := h.alloc hB o
theorem below_fill3' (hg : B ≤ g) (h : Below B v w) : Below B v (((w.setCell ⟨g, 0, none⟩ a).setCell ⟨g, 1, none⟩ b).setCell ⟨g, 2, none⟩ c) := below_fill3 h hg
theorem below_setCell' {p : Addr} {u : Value} (hg : B ≤ p.block) (h : Below B v w) : Below B v (w.setCell p u) := h.setCell hg u
theorem below_call' (hc : Below w.heap.size w w') (hB : B ≤ w.heap.size) (h : Below B v w) : Below B v w' := below_call h hB hc
end
theorem ArrI.fn {w : World} {B n : Nat} {A : Option Addr} {q : Int → Int} (h : ArrI w B A n q) (hn : 0 < n) : ∃ b off, A = some ⟨b, off, none⟩ ∧ b < B ∧ ∀ i : Int, 0 ≤ i → i < n → w.cell? ⟨b, off + i.toNat, none⟩ = some (.int .i64 (q i)) := h hn
theorem ArrB.fn {w : World} {B n : Nat} {A : Option Addr} {q : Int → Int} (h : ArrB w B A n q) (hn : 0 < n) : ∃ b off, A = some ⟨b, off, none⟩ ∧ b < B ∧ ∀ i : Int, 0 ≤ i → i < n → w.cell? ⟨b, off + i.toNat, none⟩ = some (.int .u8 (q i)) := h hn
theorem new_size_lt (w : World) (o : Obj) : w.heap.size < (w.alloc o).heap.size := by simp
end Go.Proofs.Ytoonkpjddfiopaa

/- Plain: a strip that is cut out along a line, filled column by column or row by row; a strip that is put back. No program in sight. -/
namespace Go.Proofs.Ytoonkpjddfiopaa
open Go.RowKit
set_option linter.unusedVariables false
/-- the strip: row y of column x is row 'l x - up + y' of the image, paper beside the image -/
def recQ (W H : Int) (p : Int → Int) (l : Nat → Int) (up : Int) : Int → Int := fun i =>
  if 0 ≤ l (i % W).toNat - up + i / W ∧ l (i % W).toNat - up + i / W < H then p ((l (i % W).toNat - up + i / W) * W + i % W) else 0
/-- the image with a strip of h rows put back -/
def resQ (W H h : Int) (p q : Int → Int) (l : Nat → Int) (up : Int) : Int → Int := fun i =>
  if 0 ≤ i / W - l (i % W).toNat + up ∧ i / W - l (i % W).toNat + up < h then q ((i / W - l (i % W).toNat + up) * W + i % W) else p i
/-- filled column by column: the columns before x, and column x above row y -/
def byCol (W : Int) (q z : Int → Int) (x y : Int) : Int → Int := fun i => if i % W < x ∨ (i % W = x ∧ i / W < y) then q i else z i
/-- filled row by row: the rows above y, and row y before column x -/
def byRow (W : Int) (q z : Int → Int) (y x : Int) : Int → Int := fun i => if i / W < y ∨ (i / W = y ∧ i % W < x) then q i else z i
section
variable {W h : Int} {q z : Int → Int} {x y i : Int}
theorem byCol_zero (hW : 0 < W) (h0 : 0 ≤ i) : byCol W q z 0 0 i = z i := by
  unfold byCol
  have h1 : 0 ≤ i % W := Int.emod_nonneg _ (by omega)
  have h2 : 0 ≤ i / W := Int.ediv_nonneg h0 (by omega)
  rw [if_neg (by omega)]
theorem byCol_end (hW : 0 < W) : byCol W q z W 0 i = q i := by
  unfold byCol
  have h1 : i % W < W := Int.emod_lt_of_pos _ hW
  rw [if_pos (by omega)]
theorem byCol_col (hW : 0 < W) (h0 : 0 ≤ i) (hi : i < W * h) : byCol W q z x h i = byCol W q z (x + 1) 0 i := by
  have h1 : i / W < h := Int.ediv_lt_of_lt_mul hW (by rw [Int.mul_comm]; exact hi)
  have h2 : 0 ≤ i / W := Int.ediv_nonneg h0 (by omega)
  unfold byCol
  by_cases c : i % W < x ∨ (i % W = x ∧ i / W < h)
  · rw [if_pos c, if_pos (by omega)]
  · rw [if_neg c, if_neg (by omega)]
theorem byCol_set (x0 : 0 ≤ x) (x1 : x < W) : upd (byCol W q z x y) (y * W + x) (q (y * W + x)) i = byCol W q z x (y + 1) i := by
  have a := idx_mod (y := y) x0 x1
  have b := idx_div (y := y) x0 x1
  unfold upd byCol
  by_cases e : i = y * W + x
  · subst e
    rw [if_pos rfl, a, b, if_pos (.inr ⟨rfl, by omega⟩)]
  · rw [if_neg e]
    have hne : i % W = x → i / W ≠ y := fun h3 h4 => e (by
      have := Int.emod_add_mul_ediv i W
      rw [h3, h4, Int.mul_comm] at this; omega)
    by_cases c : i % W < x ∨ (i % W = x ∧ i / W < y)
    · rw [if_pos c, if_pos (by omega)]
    · rw [if_neg c, if_neg (by omega)]
theorem byCol_skip (x0 : 0 ≤ x) (x1 : x < W) (hq : q (y * W + x) = z (y * W + x)) : byCol W q z x y i = byCol W q z x (y + 1) i := by
  have a := idx_mod (y := y) x0 x1
  have b := idx_div (y := y) x0 x1
  unfold byCol
  by_cases e : i = y * W + x
  · subst e
    rw [a, b, if_neg (by omega), if_pos (.inr ⟨rfl, by omega⟩), hq]
  · have hne : i % W = x → i / W ≠ y := fun h3 h4 => e (by
      have := Int.emod_add_mul_ediv i W
      rw [h3, h4, Int.mul_comm] at this; omega)
    by_cases c : i % W < x ∨ (i % W = x ∧ i / W < y)
    · rw [if_pos c, if_pos (by omega)]
    · rw [if_neg c, if_neg (by omega)]
theorem byRow_zero (hW : 0 < W) (h0 : 0 ≤ i) : byRow W q z 0 0 i = z i := by
  unfold byRow
  have h1 : 0 ≤ i % W := Int.emod_nonneg _ (by omega)
  have h2 : 0 ≤ i / W := Int.ediv_nonneg h0 (by omega)
  rw [if_neg (by omega)]
theorem byRow_end (hW : 0 < W) (hi : i < W * h) : byRow W q z h 0 i = q i := by
  have h1 : i / W < h := Int.ediv_lt_of_lt_mul hW (by rw [Int.mul_comm]; exact hi)
  unfold byRow
  rw [if_pos (by omega)]
theorem byRow_row (hW : 0 < W) : byRow W q z y W i = byRow W q z (y + 1) 0 i := by
  have h1 : i % W < W := Int.emod_lt_of_pos _ hW
  have h2 : 0 ≤ i % W := Int.emod_nonneg _ (by omega)
  unfold byRow
  by_cases c : i / W < y ∨ (i / W = y ∧ i % W < W)
  · rw [if_pos c, if_pos (by omega)]
  · rw [if_neg c, if_neg (by omega)]
theorem byRow_set (x0 : 0 ≤ x) (x1 : x < W) : upd (byRow W q z y x) (y * W + x) (q (y * W + x)) i = byRow W q z y (x + 1) i := by
  have a := idx_mod (y := y) x0 x1
  have b := idx_div (y := y) x0 x1
  unfold upd byRow
  by_cases e : i = y * W + x
  · subst e
    rw [if_pos rfl, a, b, if_pos (.inr ⟨rfl, by omega⟩)]
  · rw [if_neg e]
    have hne : i % W = x → i / W ≠ y := fun h3 h4 => e (by
      have := Int.emod_add_mul_ediv i W
      rw [h3, h4, Int.mul_comm] at this; omega)
    by_cases c : i / W < y ∨ (i / W = y ∧ i % W < x)
    · rw [if_pos c, if_pos (by omega)]
    · rw [if_neg c, if_neg (by omega)]
theorem byRow_skip (x0 : 0 ≤ x) (x1 : x < W) (hq : q (y * W + x) = z (y * W + x)) : byRow W q z y x i = byRow W q z y (x + 1) i := by
  have a := idx_mod (y := y) x0 x1
  have b := idx_div (y := y) x0 x1
  unfold byRow
  by_cases e : i = y * W + x
  · subst e
    rw [a, b, if_neg (by omega), if_pos (.inr ⟨rfl, by omega⟩), hq]
  · have hne : i % W = x → i / W ≠ y := fun h3 h4 => e (by
      have := Int.emod_add_mul_ediv i W
      rw [h3, h4, Int.mul_comm] at this; omega)
    by_cases c : i / W < y ∨ (i / W = y ∧ i % W < x)
    · rw [if_pos c, if_pos (by omega)]
    · rw [if_neg c, if_neg (by omega)]
end
end Go.Proofs.Ytoonkpjddfiopaa

/- Walk: an image made pixel by pixel by a function value (image.made). -/
namespace Go.Proofs.Ytoonkpjddfiopaa
open Go.RowKit
set_option linter.unusedVariables false
attribute [local go_sem] Oper.semAt_some

/-- pixel by pixel -/
def byPix (W : Int) (f : Int → Int → Int) : Int → Int := fun i => f (i % W) (i / W)
theorem byPix_at {W x y : Int} {f : Int → Int → Int} (x0 : 0 ≤ x) (x1 : x < W) : byPix W f (y * W + x) = f x y := by
  unfold byPix; rw [idx_mod x0 x1, idx_div x0 x1]
theorem OutImg.outN {w w' : World} {W H : Int} {N : Nat} {q : Int → Int} {v : Value} (h : OutImg w w' W H q v) (hN : (N : Int) = W * H) : OutN w w' W H N q v := by
  obtain ⟨g, rfl, hg, hk⟩ := h
  obtain rfl : (W * H).toNat = N := by omega
  exact ⟨g, rfl, hg, hk⟩
set_option maxRecDepth 100000 in
set_option maxHeartbeats 4000000 in
theorem pixmade_any (W H : Int) (N : Nat) (fid : Nat) (cap : Array Value) (f : Int → Int → Int) (w : World) (hent : ∀ args w, (callFunc fid args).run Try.prog w = .ok (.enter fid args) w) (h1 : 0 ≤ W) (h2 : W ≤ 640) (h3 : 0 ≤ H) (h4 : H ≤ 640) (hN : (N : Int) = W * H)
    (hf : ∀ x y w', 0 ≤ x → x < W → 0 ≤ y → y < H → Below w.heap.size w w' → Calls Try.prog fid (#[.int .i64 x, .int .i64 y] ++ cap) w' fun e w'' => e = .returned (.int .u8 (f x y)) ∧ Below w'.heap.size w' w'') :
    Calls Try.prog 70 #[.int .i64 W, .int .i64 H, .func (.func fid) #[] cap] w (New w fun v w' => OutN w w' W H N (byPix W f) v) := by
  have HF := Lib.hid hf
  have BL := Lib.hid fun w' => (blank_any W H w' h1 h2 h3 h4).mono fun e w'' (⟨v, he, ho, hb⟩ : New w' (fun v w'' => OutImg w' w'' W H (fun _ => 0) v) e w'') => (show New w' (fun v w'' => OutN w' w'' W H N (fun _ => 0) v) e w'' from ⟨v, he, ho.outN hN, hb⟩)
  have HN := Lib.hid hN
  have nb := (area_bd h1 h2 h3 h4).2
  clear hf hN
  go_enter Try.func70, Try.ntmps70
  go_wp2_with fail
  refine (BL.out _).mono ?_
  rintro e w1 ⟨_, rfl, ⟨gp, rfl, hgp, kp⟩, hb1⟩
  have z0 : w.heap.size < w1.heap.size := by have := hb1.size; simp at this; omega
  have z1 : w.heap.size < gp := by simp at hgp; omega
  have z2 := kp.lt
  have k6 : Blk w1 w.heap.size 29 #[.int .i64 0, .int .i64 0, .slice none 0 0] := (Blk.new _ _ _).below' hb1
  have b1 : Below w.heap.size w w1 := below_call (by (repeat (first | exact Below.refl _ _ | assumption | refine Below.drew ?_ | refine below_drewN ?_ _ | refine Below.alloc ?_ (by first | omega | (simp; done) | (simp; omega)) _ | refine Below.setCell ?_ (by first | omega | (simp; done) | (simp; omega)) _ | refine below_setRow ?_ (by first | omega | (simp; done) | (simp; omega)) _ ))) (by simp) hb1
  clear hb1 hgp BL
  have b2 : Below w.heap.size w (w1.alloc (.cells #[.int .i64 W, .int .i64 H, .slice (some ⟨gp, 0, none⟩) N N] 29)) := by (repeat (first | exact Below.refl _ _ | assumption | refine Below.drew ?_ | refine below_drewN ?_ _ | refine Below.alloc ?_ (by first | omega | (simp; done) | (simp; omega)) _ | refine Below.setCell ?_ (by first | omega | (simp; done) | (simp; omega)) _ | refine below_setRow ?_ (by first | omega | (simp; done) | (simp; omega)) _ ))
  have t6 := k6.alloc (.cells #[.int .i64 W, .int .i64 H, .slice (some ⟨gp, 0, none⟩) N N] 29)
  have tx := Blk.new w1 29 #[.int .i64 W, .int .i64 H, .slice (some ⟨gp, 0, none⟩) N N]
  have tp : H = 0 ∨ W = 0 ∨ Blk (w1.alloc (.cells #[.int .i64 W, .int .i64 H, .slice (some ⟨gp, 0, none⟩) N N] 29)) gp 5 (u8s N (byRow W (byPix W f) (fun _ => 0) (0 : Nat) (0 : Nat))) := by
    by_cases hw : W = 0
    · exact .inr (.inl hw)
    · exact .inr (.inr ((kp.alloc _).u8conv fun i i0 _ => (byRow_zero (W := W) (q := byPix W f) (z := fun _ => 0) (by omega) i0).symm))
  have tp0 := kp.alloc (.cells #[.int .i64 W, .int .i64 H, .slice (some ⟨gp, 0, none⟩) N N] 29)
  clear kp b1 k6 tp
  have tp : Blk (w1.alloc (.cells #[.int .i64 W, .int .i64 H, .slice (some ⟨gp, 0, none⟩) N N] 29)) gp 5 (u8s N (byRow W (byPix W f) (fun _ => 0) (0 : Nat) (0 : Nat))) := tp0.u8conv fun i i0 i1 => by
    have hw : 0 < W := by
      rcases Int.lt_or_le 0 W with h | h
      · exact h
      · have : W = 0 := by omega
        subst this
        have := HN.out
        simp at this
        omega
    exact (byRow_zero (W := W) (q := byPix W f) (z := fun _ => 0) hw i0).symm
  have hgx : gp ≠ w1.heap.size := by omega
  clear tp0
  go_wp2_with fail
  generalize w1.alloc (.cells #[.int .i64 W, .int .i64 H, .slice (some ⟨gp, 0, none⟩) N N] 29) = w2 at *
  generalize w1.heap.size = gx at *
  go_loopw [14] (fun s wr => ∃ y : Nat, (y : Int) ≤ H ∧ s = .int .i64 y ∧ Below w.heap.size w wr ∧ Blk wr w.heap.size 29 #[.int .i64 0, .int .i64 0, .slice none 0 0] ∧ Blk wr gx 29 #[.int .i64 W, .int .i64 H, .slice (some ⟨gp, 0, none⟩) N N] ∧ Blk wr gp 5 (u8s N (byRow W (byPix W f) (fun _ => 0) y (0 : Nat)))) (fun s _ => (H - intOf s).toNat)
  case atStart => exact ⟨0, by omega, rfl, b2, t6, tx, tp⟩
  case round =>
    obtain ⟨y, hy, rfl, b3, a6, ax, ap⟩ := hrel
    clear b2 t6 tx tp
    obtain ⟨x1, x2, x3⟩ := ax.cells3
    by_cases yl : (y : Int) < H
    · go_wp2_with fail
      go_loopw [18] (fun s wr => ∃ x : Nat, (x : Int) ≤ W ∧ s = .int .i64 x ∧ Below w.heap.size w wr ∧ Blk wr w.heap.size 29 #[.int .i64 0, .int .i64 0, .slice none 0 0] ∧ Blk wr gx 29 #[.int .i64 W, .int .i64 H, .slice (some ⟨gp, 0, none⟩) N N] ∧ Blk wr gp 5 (u8s N (byRow W (byPix W f) (fun _ => 0) y x))) (fun s _ => (W - intOf s).toNat)
      case atStart => exact ⟨0, by omega, rfl, b3, a6, ax, ap⟩
      case round =>
        obtain ⟨x, hx, rfl, b4, c6, cx, cp⟩ := hrel
        clear x1 x2 x3 b3 a6 ax ap
        obtain ⟨x1, x2, x3⟩ := cx.cells3
        by_cases xl : (x : Int) < W
        · obtain ⟨j1, j2, j3⟩ := idx_lt (x := (x : Int)) (y := (y : Int)) (W := W) (H := H) (by omega) xl (by omega) yl
          rw [Int.mul_comm H W] at j2
          have j4 : (y : Int) * W + x < (N : Int) := by have := HN.out; omega
          have v7 : IntKind.i64.wrap ((y : Int) * W) = (y : Int) * W := IntWalk.i64_in _ (by omega)
          have v8 : IntKind.i64.wrap ((y : Int) * W + x) = (y : Int) * W + x := IntWalk.i64_in _ (by omega)
          have HC := Lib.hid (HF.out x y wr.drew (by omega) xl (by omega) yl b4.drew)
          have HV := Lib.hid (byPix_at (W := W) (x := (x : Int)) (y := (y : Int)) (f := f) (by omega) xl)
          have BS := Lib.hid (fun i => byRow_set (q := byPix W f) (z := fun _ => 0) (W := W) (y := (y : Int)) (i := i) (by omega : (0 : Int) ≤ x) xl)
          go_wp2_with fail
          go_region_held3 (fun w' => w'.cell? ⟨gx, 2, none⟩ = some (.slice (some ⟨gp, 0, none⟩) N N))
            (simp [go_sem, *])
            (first
              | (with_reducible refine Calls.mono HC.out ?_; rintro e w5 ⟨rfl, hb5⟩
                 have d6 := c6.drew.below' hb5; have dx := cx.drew.below' hb5; have dp := cp.drew.below' hb5
                 obtain ⟨y1, y2, y3⟩ := dx.cells3
                 have cg := dp.u8at j1 j4
                 have fg := dp.frozen ((y : Int) * W + x).toNat))
          have b5 := below_call b4.drew b4.drew.size hb5
          have zz := b5.size
          go_wp2
          go_roundw
          case rel =>
            refine ⟨x + 1, by omega, by go_num, b5.setCell (by show w.heap.size ≤ gp; omega) _, d6.far (p := ⟨gp, ((y : Int) * W + x).toNat, none⟩) (by show w.heap.size ≠ gp; omega) _, dx.far (p := ⟨gp, ((y : Int) * W + x).toNat, none⟩) (fun e => hgx e.symm) _, (dp.u8set ((y : Int) * W + x) j1 (f x y)).u8conv fun i _ _ => ?_⟩
            have h := BS.out i
            rw [HV.out] at h
            rw [Int.natCast_add]
            exact h
          case measure => simp [intOf]; omega
        · have ex : (x : Int) = W := by omega
          have cp2 := cp.u8conv (r := byRow W (byPix W f) (fun _ => 0) ((y : Int) + 1) (0 : Nat)) fun i i0 i1 => by
            rw [ex]
            refine byRow_row ?_
            rcases Int.lt_or_le 0 W with h | h
            · exact h
            · have : W = 0 := by omega
              subst this
              have := HN.out
              simp at this
              omega
          clear cp ex
          go_wp2_with fail
          go_roundw
          case rel => exact ⟨y + 1, by omega, by go_num, b4, c6, cx, cp2⟩
          case measure => simp [intOf]; omega
    · have ey : (y : Int) = H := by omega
      obtain ⟨u1, u2, u3⟩ := a6.cells3
      obtain ⟨f1, f2, f3⟩ := a6.frozen3
      have k5 := ((a6.set_ 0 (.int .i64 W)).set_ 1 (.int .i64 H)).set_ 2 (.slice (some ⟨gp, 0, none⟩) N N)
      obtain ⟨s4, s5, s6⟩ := Blk.cells3 (a := .int .i64 W) (b := .int .i64 H) (c := .slice (some ⟨gp, 0, none⟩) N N) k5
      have zz := b3.size
      have g1 : gp ≠ w.heap.size := by omega
      have TP := Lib.hid (ap.u8conv (r := byPix W f) fun i i0 i1 => by
        rw [ey]
        refine byRow_end (h := H) ?_ (by have := HN.out; omega)
        rcases Int.lt_or_le 0 W with h | h
        · exact h
        · have : W = 0 := by omega
          subst this
          have := HN.out
          simp at this
          omega)
      clear ap ey
      go_wp2_with fail
      refine bodyPost_ret (v := .agg #[.int .i64 W, .int .i64 H, .slice (some ⟨gp, 0, none⟩) N N]) (by simp [results, Try.results70, go_sem, s4, s5, s6]) rfl ?_
      exact ⟨_, rfl, OutN.mk (by omega) (Blk.far (Blk.far (Blk.far TP.out (p := ⟨w.heap.size, 0, none⟩) g1 (.int .i64 W)) (p := ⟨w.heap.size, 1, none⟩) g1 (.int .i64 H)) (p := ⟨w.heap.size, 2, none⟩) g1 (.slice (some ⟨gp, 0, none⟩) N N)), by (repeat (first | exact Below.refl _ _ | assumption | refine Below.drew ?_ | refine below_drewN ?_ _ | refine Below.alloc ?_ (by first | omega | (simp; done) | (simp; omega)) _ | refine Below.setCell ?_ (by first | omega | (simp; done) | (simp; omega)) _ | refine below_setRow ?_ (by first | omega | (simp; done) | (simp; omega)) _ ))⟩
end Go.Proofs.Ytoonkpjddfiopaa

/- Plain: an image that is made, or none, with an error. No program in sight. -/
namespace Go.Proofs.Ytoonkpjddfiopaa
open Go.RowKit
set_option linter.unusedVariables false
/-- an image over memory made by the call, and an error -/
def OutT (w w' : World) (E W H : Int) (N : Nat) (q : Int → Int) (v : Value) : Prop := ∃ A c, v = .tuple #[.agg #[.int .i64 W, .int .i64 H, .slice A N c], .int .i64 E] ∧ (∀ a, A = some a → w.heap.size ≤ a.block) ∧ ArrB w' w'.heap.size A N q
/-- the sides of an image that is made, or of none -/
def RSize (E W h W2 H2 : Int) (N : Nat) : Prop := (E = 0 → W2 = W ∧ H2 = h ∧ (N : Int) = W * h) ∧ (E ≠ 0 → W2 = 0 ∧ H2 = 0 ∧ N = 0)
theorem rsize_ex (E W h : Int) (hp : E = 0 → 0 ≤ W * h) : ∃ W2 H2 N, RSize E W h W2 H2 N := by
  by_cases hE : E = 0
  · exact ⟨W, h, (W * h).toNat, fun _ => ⟨rfl, rfl, Int.toNat_of_nonneg (hp hE)⟩, fun h => absurd hE h⟩
  · exact ⟨0, 0, 0, fun h => absurd h hE, fun _ => ⟨rfl, rfl, rfl⟩⟩
theorem rsize_le {E W h W2 H2 : Int} {N : Nat} (hs : RSize E W h W2 H2 N) (hb : E = 0 → 0 ≤ W ∧ W ≤ 640 ∧ 0 ≤ h ∧ h ≤ 640) : N ≤ 409600 := by
  by_cases hE : E = 0
  · obtain ⟨-, -, h1⟩ := hs.1 hE
    obtain ⟨a, b, c, d⟩ := hb hE
    have := (area_bd a b c d).2
    omega
  · obtain ⟨-, -, h1⟩ := hs.2 hE
    omega
theorem outT_bad {w w' : World} {E W h W2 H2 : Int} {N : Nat} {q : Int → Int} (hs : RSize E W h W2 H2 N) (hE : E ≠ 0) : OutT w w' E W2 H2 N q (.tuple #[noImg, .int .i64 E]) := by
  obtain ⟨rfl, rfl, rfl⟩ := hs.2 hE
  exact ⟨none, 0, rfl, (fun _ h => by cases h), ArrB.nil⟩
theorem OutN.outT {w w' : World} {W H : Int} {N : Nat} {q : Int → Int} {v : Value} (h : OutN w w' W H N q v) : OutT w w' 0 W H N q (.tuple #[v, .int .i64 0]) := by
  obtain ⟨g, rfl, hg, hk⟩ := h
  exact ⟨_, _, rfl, (fun a e => by cases e; exact hg), hk.arrB hk.lt⟩
theorem OutT.conv {w w' : World} {E W H : Int} {N : Nat} {q r : Int → Int} {v : Value} (h : OutT w w' E W H N q v) (he : ∀ i : Int, 0 ≤ i → i < N → q i = r i) : OutT w w' E W H N r v := by
  obtain ⟨A, c, rfl, hg, ha⟩ := h
  exact ⟨A, c, rfl, hg, ha.congr he⟩
end Go.Proofs.Ytoonkpjddfiopaa

/- Walk: image.Not. -/
namespace Go.Proofs.Ytoonkpjddfiopaa
open Go.RowKit
set_option linter.unusedVariables false
attribute [local go_sem] Oper.semAt_some
end Go.Proofs.Ytoonkpjddfiopaa

/- Walk: image.Threshold. -/
namespace Go.Proofs.Ytoonkpjddfiopaa
open Go.RowKit
set_option linter.unusedVariables false
attribute [local go_sem] Oper.semAt_some
/-- the error of a threshold -/
def thrE (W H : Int) (n : Nat) (lv : Int) : Int := if sidesB W H n then (if lv < 0 ∨ 256 < lv then 1 else 0) else 2
def thrQ (p : Int → Int) (lv : Int) : Int → Int := fun i => if p i < lv then 1 else 0
theorem enterThr1 (args : Array Value) (w : World) : (callFunc 71 args).run Try.prog w = .ok (.enter 71 args) w := by kernel_rfl
set_option maxHeartbeats 1000000 in
theorem thr1_any (W H lv x y : Int) (A : Option Addr) (n c bx bl : Nat) (p : Int → Int) (w : World) (hk : Blk w bx 24 #[.int .i64 W, .int .i64 H, .slice A n c]) (hl : Blk w bl 3 #[.int .i64 lv]) (hA : ArrB w w.heap.size A n p) (hB : IsB p) (h1 : 0 ≤ W) (h2 : W ≤ 640) (h3 : 0 ≤ H) (h4 : H ≤ 640) (hnn : (n : Int) = W * H) (x0 : 0 ≤ x) (x1 : x < W) (y0 : 0 ≤ y) (y1 : y < H) :
    Calls Try.prog 71 #[.int .i64 x, .int .i64 y, .pointer (some ⟨bx, 0, none⟩), .pointer (some ⟨bl, 0, none⟩)] w fun e w' => e = .returned (.int .u8 (if p (y * W + x) < lv then 1 else 0)) ∧ Below w.heap.size w w' := by
  obtain ⟨p1, p2, p3⟩ := hk.cells3
  have p4 := hl.cells1
  obtain ⟨j1, j2, j3⟩ := idx_lt x0 x1 y0 y1
  rw [Int.mul_comm H W] at j2
  have j4 : y * W + x < (n : Int) := by omega
  have nb := (area_bd h1 h2 h3 h4).2
  obtain ⟨b, off, rfl, hb, hc⟩ := ArrB.at_ hA j1 j4
  have q1 := hB (y * W + x)
  generalize p (y * W + x) = v at *
  obtain ⟨q2, q3⟩ := q1
  have v1 : IntKind.i64.wrap (y * W) = y * W := IntWalk.i64_in _ (by omega)
  have v2 : IntKind.i64.wrap (y * W + x) = y * W + x := IntWalk.i64_in _ (by omega)
  have v3 : IntKind.i64.wrap v = v := IntWalk.i64_in _ (by omega)
  clear hnn hA
  by_cases hv : v < lv
  · have e1 : (if v < lv then (1 : Int) else 0) = 1 := if_pos hv
    rw [e1]
    go_enter Try.func71, Try.ntmps71
    go_wp2_with fail
    go_quiet (fail)
    go_wp2_with fail
    go_ret
    exact ⟨rfl, by (repeat (first | exact Below.refl _ _ | assumption | refine Below.drew ?_ | refine below_drewN ?_ _ | refine Below.alloc ?_ (by first | omega | (simp; done) | (simp; omega)) _ | refine Below.setCell ?_ (by first | omega | (simp; done) | (simp; omega)) _ | refine below_setRow ?_ (by first | omega | (simp; done) | (simp; omega)) _ ))⟩
  · have e1 : (if v < lv then (1 : Int) else 0) = 0 := if_neg hv
    rw [e1]
    go_enter Try.func71, Try.ntmps71
    go_wp2_with fail
    go_quiet (fail)
    go_wp2_with fail
    go_ret
    exact ⟨rfl, by (repeat (first | exact Below.refl _ _ | assumption | refine Below.drew ?_ | refine below_drewN ?_ _ | refine Below.alloc ?_ (by first | omega | (simp; done) | (simp; omega)) _ | refine Below.setCell ?_ (by first | omega | (simp; done) | (simp; omega)) _ | refine below_setRow ?_ (by first | omega | (simp; done) | (simp; omega)) _ ))⟩
set_option maxRecDepth 100000 in
set_option maxHeartbeats 2000000 in
theorem thr_all (W H lv : Int) (A : Option Addr) (n c : Nat) (p : Int → Int) (E W2 H2 : Int) (N : Nat) (w : World) (hA : ArrB w w.heap.size A n p) (hB : IsB p) (hE : thrE W H n lv = E) (hs : RSize E W H W2 H2 N) :
    Calls Try.prog 47 #[.agg #[.int .i64 W, .int .i64 H, .slice A n c], .int .i64 lv] w (New w fun v w' => OutT w w' E W2 H2 N (thrQ p lv) v) := by
  have CK := Lib.hid fun w' => checkGrey_any W H A n c w'
  have b1 : Below w.heap.size w (((w.alloc (.cells #[.int .i64 W, .int .i64 H, .slice A n c] 24)).alloc (.cells #[.int .i64 lv] 3)).alloc (.cells #[.int .i64 0, .int .i64 0, .slice none 0 0] 29)) := by (repeat (first | exact Below.refl _ _ | assumption | refine Below.drew ?_ | refine below_drewN ?_ _ | refine Below.alloc ?_ (by first | omega | (simp; done) | (simp; omega)) _ | refine Below.setCell ?_ (by first | omega | (simp; done) | (simp; omega)) _ | refine below_setRow ?_ (by first | omega | (simp; done) | (simp; omega)) _ ))
  have k1 : Blk (((w.alloc (.cells #[.int .i64 W, .int .i64 H, .slice A n c] 24)).alloc (.cells #[.int .i64 lv] 3)).alloc (.cells #[.int .i64 0, .int .i64 0, .slice none 0 0] 29)) w.heap.size 24 #[.int .i64 W, .int .i64 H, .slice A n c] := ((Blk.new _ _ _).alloc _).alloc _
  have k2 : Blk (((w.alloc (.cells #[.int .i64 W, .int .i64 H, .slice A n c] 24)).alloc (.cells #[.int .i64 lv] 3)).alloc (.cells #[.int .i64 0, .int .i64 0, .slice none 0 0] 29)) (w.heap.size + 1) 3 #[.int .i64 lv] := (Blk.new' (by simp) _ _).alloc _
  have k3 : Blk (((w.alloc (.cells #[.int .i64 W, .int .i64 H, .slice A n c] 24)).alloc (.cells #[.int .i64 lv] 3)).alloc (.cells #[.int .i64 0, .int .i64 0, .slice none 0 0] 29)) (w.heap.size + 1 + 1) 29 #[.int .i64 0, .int .i64 0, .slice none 0 0] := Blk.new' (by simp) _ _
  have HS := Lib.hid hs
  cases hsd : sidesB W H n with
  | false =>
    have hE2 : E = 2 := by rw [← hE]; unfold thrE; rw [hsd]; rfl
    subst hE2
    rw [hsd] at CK
    clear hs hE hsd
    go_enter Try.func47, Try.ntmps47
    go_wp2_with fail
    generalize ((w.alloc (.cells #[.int .i64 W, .int .i64 H, .slice A n c] 24)).alloc (.cells #[.int .i64 lv] 3)).alloc (.cells #[.int .i64 0, .int .i64 0, .slice none 0 0] 29) = w1 at *
    refine (CK.out _).mono ?_
    rintro e w2 ⟨rfl, hb2⟩
    have b2 := below_call b1 b1.size hb2
    have k4 := k3.below' hb2
    obtain ⟨r1, r2, r3⟩ := k4.cells3
    obtain ⟨f1, f2, f3⟩ := k4.frozen3
    have k9 := ((k4.set_ 0 (.int .i64 0)).set_ 1 (.int .i64 0)).set_ 2 (.slice none 0 0)
    obtain ⟨s1, s2, s3⟩ := Blk.cells3 (a := .int .i64 0) (b := .int .i64 0) (c := .slice none 0 0) k9
    go_wp2_with fail
    refine bodyPost_ret (v := .tuple #[noImg, .int .i64 2]) (by simp [results, Try.results47, go_sem, noImg, s1, s2, s3]) rfl ?_
    exact ⟨_, rfl, outT_bad HS.out (by decide), by (repeat (first | with_reducible exact Below.refl _ _ | with_reducible assumption | with_reducible refine Below.drew ?_ | (with_reducible refine below_alloc' ?_ ?_; focus (first | omega | (simp; done) | (simp; omega))) | (with_reducible refine below_fill3' ?_ ?_; focus omega) | (with_reducible refine below_setCell' ?_ ?_; focus (first | omega | (simp; done) | (simp; omega))) | (with_reducible apply below_call'; (focus (with_reducible assumption)); (focus (first | omega | (simp; done) | (simp; omega))))))⟩
  | true =>
    rw [hsd] at CK
    obtain ⟨hW1, hW2, hH1, hH2, hnn⟩ := sidesB_iff.1 hsd
    by_cases hl : lv < 0 ∨ 256 < lv
    · have hE2 : E = 1 := by rw [← hE]; unfold thrE; rw [hsd, if_pos rfl, if_pos hl]
      subst hE2
      clear hs hE hsd hnn
      rcases (show lv < 0 ∨ (0 ≤ lv ∧ 256 < lv) by omega) with hl | ⟨hl0, hl⟩
      all_goals
        go_enter Try.func47, Try.ntmps47
        go_wp2_with fail
        generalize ((w.alloc (.cells #[.int .i64 W, .int .i64 H, .slice A n c] 24)).alloc (.cells #[.int .i64 lv] 3)).alloc (.cells #[.int .i64 0, .int .i64 0, .slice none 0 0] 29) = w1 at *
        refine (CK.out _).mono ?_
        rintro e w2 ⟨rfl, hb2⟩
        have b2 := below_call b1 b1.size hb2
        have k4 := k3.below' hb2
        have k5 := (k2.below' hb2).cells1
        obtain ⟨r1, r2, r3⟩ := k4.cells3
        obtain ⟨f1, f2, f3⟩ := k4.frozen3
        have k9 := ((k4.set_ 0 (.int .i64 0)).set_ 1 (.int .i64 0)).set_ 2 (.slice none 0 0)
        obtain ⟨s1, s2, s3⟩ := Blk.cells3 (a := .int .i64 0) (b := .int .i64 0) (c := .slice none 0 0) k9
        go_wp2_with fail
        refine bodyPost_ret (v := .tuple #[noImg, .int .i64 1]) (by simp [results, Try.results47, go_sem, noImg, s1, s2, s3]) rfl ?_
        exact ⟨_, rfl, outT_bad HS.out (by decide), by (repeat (first | with_reducible exact Below.refl _ _ | with_reducible assumption | with_reducible refine Below.drew ?_ | (with_reducible refine below_alloc' ?_ ?_; focus (first | omega | (simp; done) | (simp; omega))) | (with_reducible refine below_fill3' ?_ ?_; focus omega) | (with_reducible refine below_setCell' ?_ ?_; focus (first | omega | (simp; done) | (simp; omega))) | (with_reducible apply below_call'; (focus (with_reducible assumption)); (focus (first | omega | (simp; done) | (simp; omega))))))⟩
    · have hE2 : E = 0 := by rw [← hE]; unfold thrE; rw [hsd, if_pos rfl, if_neg hl]
      subst hE2
      obtain ⟨rfl, rfl, hN⟩ := hs.1 rfl
      obtain rfl : N = n := by omega
      have l0 : 0 ≤ lv := by omega
      have l1 : lv ≤ 256 := by omega
      have N1 := Lib.hid fun x y bx bl w' hk hl hA' => thr1_any W2 H2 lv x y A N c bx bl p w' hk hl hA' hB hW1 hW2 hH1 hH2 hnn
      have MD := Lib.hid fun (w' : World) (hk : Blk w' w.heap.size 24 #[.int .i64 W2, .int .i64 H2, .slice A N c]) (hl : Blk w' (w.heap.size + 1) 3 #[.int .i64 lv]) (hA' : ArrB w' w'.heap.size A N p) => pixmade_any W2 H2 N 71 #[.pointer (some ⟨w.heap.size, 0, none⟩), .pointer (some ⟨w.heap.size + 1, 0, none⟩)] (fun x y => if p (y * W2 + x) < lv then 1 else 0) w' enterThr1 hW1 hW2 hH1 hH2 hN
        (fun x y v x0 x1 y0 y1 hb => by
          show Calls _ _ #[_, _, _, _] _ _
          exact N1.out x y w.heap.size (w.heap.size + 1) v (hk.below' hb) (hl.below' hb) (hA'.to hb) x0 x1 y0 y1)
      clear hs hE hnn hB hN hsd hl
      go_enter Try.func47, Try.ntmps47
      go_wp2_with fail
      generalize ((w.alloc (.cells #[.int .i64 W2, .int .i64 H2, .slice A N c] 24)).alloc (.cells #[.int .i64 lv] 3)).alloc (.cells #[.int .i64 0, .int .i64 0, .slice none 0 0] 29) = w1 at *
      refine (CK.out _).mono ?_
      rintro e w2 ⟨rfl, hb2⟩
      have b2 := below_call b1 b1.size hb2
      have m1 := k1.below' hb2
      have m2 := k2.below' hb2
      have k4 := k3.below' hb2
      have hA2 := Lib.hid (hA.to b2)
      have M1 := Lib.hid m1
      have M2 := Lib.hid m2
      obtain ⟨p1, p2, p3⟩ := m1.cells3
      have p4 := m2.cells1
      have hmf : ∀ (fn : Fn) (first cap : Array Value) (w : World), (Instr.makeFunc fn first cap).run Try.prog w = .ok (.func fn first cap) w := fun _ _ _ _ => rfl
      clear b1 k1 k2 hb2 CK m1 m2
      go_wp2_with fail
      refine (MD.out _ M1.out M2.out hA2.out).mono ?_
      rintro e w3 ⟨_, rfl, ⟨gp, rfl, hgp, kp⟩, hb3⟩
      have b3 := below_call b2 b2.size hb3
      have k5 := k4.below' hb3
      have zz := k4.lt
      obtain ⟨r1, r2, r3⟩ := k5.cells3
      obtain ⟨f1, f2, f3⟩ := k5.frozen3
      have k6 := ((k5.set_ 0 (.int .i64 W2)).set_ 1 (.int .i64 H2)).set_ 2 (.slice (some ⟨gp, 0, none⟩) N N)
      obtain ⟨s1, s2, s3⟩ := Blk.cells3 (a := .int .i64 W2) (b := .int .i64 H2) (c := .slice (some ⟨gp, 0, none⟩) N N) k6
      have zb := b2.size
      clear p1 p2 p3 p4
      go_wp2_with fail
      refine bodyPost_ret (v := .tuple #[.agg #[.int .i64 W2, .int .i64 H2, .slice (some ⟨gp, 0, none⟩) N N], .int .i64 0]) (by simp [results, Try.results47, go_sem, s1, s2, s3]) rfl ?_
      have g1 : gp ≠ w.heap.size + 1 + 1 := by omega
      refine ⟨_, rfl, ⟨_, _, rfl, (fun a e => by cases e; show w.heap.size ≤ gp; omega), ?_⟩, by (repeat (first | exact Below.refl _ _ | assumption | refine Below.drew ?_ | refine below_drewN ?_ _ | refine Below.alloc ?_ (by first | omega | (simp; done) | (simp; omega)) _ | refine Below.setCell ?_ (by first | omega | (simp; done) | (simp; omega)) _ | refine below_setRow ?_ (by first | omega | (simp; done) | (simp; omega)) _ ))⟩
      have KE := Blk.far (Blk.far (Blk.far kp (p := ⟨w.heap.size + 1 + 1, 0, none⟩) g1 (.int .i64 W2)) (p := ⟨w.heap.size + 1 + 1, 1, none⟩) g1 (.int .i64 H2)) (p := ⟨w.heap.size + 1 + 1, 2, none⟩) g1 (.slice (some ⟨gp, 0, none⟩) N N)
      refine (KE.arrB KE.lt).congr fun i i0 i1 => ?_
      unfold byPix thrQ
      have := Int.emod_add_mul_ediv i W2
      rw [Int.mul_comm] at this
      show (if p (i / W2 * W2 + i % W2) < lv then (1 : Int) else 0) = _
      rw [show i / W2 * W2 + i % W2 = i by omega]
end Go.Proofs.Ytoonkpjddfiopaa

/- Plain laws for CleanFound: the threshold between ink of at most 60 and paper of at least 195. No program in sight. -/
namespace Go.Proofs.Ytoonkpjddfiopaa
open Go.RowKit
set_option linter.unusedVariables false

theorem cntS_zero {n : Nat} {p : Int → Int} {v : Int} (h : ∀ i : Int, 0 ≤ i → i < n → p i ≠ v) : cntS n p v = 0 := sumN_zero fun i a b => if_neg (h i a b)
theorem cntS_pos {n : Nat} {p : Int → Int} {v i : Int} (h0 : 0 ≤ i) (hi : i < n) (h : p i = v) : cntS n p v ≠ 0 := by
  have := sumN_ge (n := n) (f := fun j => if p j = v then 1 else 0) (fun i _ _ => by split <;> omega) h0 hi
  rw [if_pos h] at this
  show sumN n _ ≠ 0
  omega
theorem lev_found {c : Int → Int} (hz : ∀ j : Nat, 61 ≤ j → j < 195 → c j = 0) (ha : ∃ a : Nat, a ≤ 60 ∧ c a ≠ 0) (hb : ∃ b : Nat, 195 ≤ b ∧ b < 256 ∧ c b ≠ 0) : 98 ≤ (levP c 256).1 ∧ (levP c 256).1 ≤ 158 := by
  have s1 : ∀ m : Nat, m ≤ 61 → (levP c m).2.1 ≤ 60 ∧ -1 ≤ (levP c m).2.2 ∧ (levP c m).2.2 ≤ 60 ∧ ∀ a : Nat, a < m → c a ≠ 0 → (a : Int) ≤ (levP c m).2.2 := by
    intro m
    induction m with
    | zero => intro _; simp [levP]
    | succ m ih =>
      intro hm
      obtain ⟨i1, i2, i3, i4⟩ := ih (by omega)
      rw [levP]
      split
      · rename_i h0
        refine ⟨i1, i2, i3, fun a h1 h2 => ?_⟩
        by_cases e : a = m
        · subst e; exact absurd h0 h2
        · exact i4 a (by omega) h2
      · split
        · exact ⟨by simp only; omega, by simp only; omega, by simp only; omega, fun a h1 h2 => by simp only; omega⟩
        · exact ⟨by simp only; omega, by simp only; omega, by simp only; omega, fun a h1 h2 => by simp only; omega⟩
  obtain ⟨i1, i2, i3, i4⟩ := s1 61 (by omega)
  obtain ⟨a, a1, a2⟩ := ha
  have i5 := i4 a (by omega) a2
  have h195 : levP c 195 = levP c 61 := levP_skip c 61 195 (by omega) hz
  have s2 : ∀ t : Nat, t ≤ 61 → (levP c (195 + t) = levP c 195 ∧ ∀ j : Nat, 195 ≤ j → j < 195 + t → c j = 0) ∨ (98 ≤ (levP c (195 + t)).1 ∧ (levP c (195 + t)).1 ≤ 158 ∧ 135 ≤ (levP c (195 + t)).2.1 ∧ 195 ≤ (levP c (195 + t)).2.2) := by
    intro t
    induction t with
    | zero => intro _; exact .inl ⟨rfl, fun j h1 h2 => by omega⟩
    | succ t ih =>
      intro ht
      rcases ih (by omega) with ⟨e, hz'⟩ | ⟨j1, j2, j3, j4⟩
      · by_cases h0 : c ((195 + t : Nat) : Int) = 0
        · refine .inl ⟨?_, fun j h1 h2 => ?_⟩
          · rw [← Nat.add_assoc, levP, if_pos h0, e]
          · by_cases ej : j = 195 + t
            · subst ej; exact h0
            · exact hz' j h1 (by omega)
        · refine .inr ?_
          rw [← Nat.add_assoc, levP, if_neg h0, e, h195, if_pos (by omega)]
          simp only
          omega
      · refine .inr ?_
        have hd := levP_bd c (195 + t)
        rw [← Nat.add_assoc, levP]
        split
        · exact ⟨j1, j2, j3, j4⟩
        · rw [if_neg (by omega)]
          simp only
          omega
  obtain ⟨b, b1, b2, b3⟩ := hb
  rcases s2 61 (by omega) with ⟨_, hz'⟩ | h
  · exact absurd (hz' b b1 (by omega)) b3
  · exact ⟨h.1, h.2.1⟩
/-- the grey image of an ink image t -/
structure GreyQ (n : Nat) (t g : Int → Int) : Prop where
  ink : ∀ i : Int, 0 ≤ i → i < n → t i = 1 → 0 ≤ g i ∧ g i ≤ 60
  paper : ∀ i : Int, 0 ≤ i → i < n → t i = 0 → 195 ≤ g i ∧ g i ≤ 255
  bit : ∀ i : Int, 0 ≤ i → i < n → t i = 0 ∨ t i = 1
  some1 : ∃ i : Int, 0 ≤ i ∧ i < n ∧ t i = 1
  some0 : ∃ i : Int, 0 ≤ i ∧ i < n ∧ t i = 0
theorem GreyQ.level {n : Nat} {t g : Int → Int} (h : GreyQ n t g) : 98 ≤ levelS n g ∧ levelS n g ≤ 158 := by
  refine lev_found (fun j j1 j2 => cntS_zero fun i i0 i1 e => ?_) ?_ ?_
  · rcases h.bit i i0 i1 with h' | h'
    · have := h.paper i i0 i1 h'; omega
    · have := h.ink i i0 i1 h'; omega
  · obtain ⟨i, i0, i1, hi⟩ := h.some1
    have := h.ink i i0 i1 hi
    refine ⟨(g i).toNat, by omega, cntS_pos i0 i1 ?_⟩
    omega
  · obtain ⟨i, i0, i1, hi⟩ := h.some0
    have := h.paper i i0 i1 hi
    refine ⟨(g i).toNat, by omega, by omega, cntS_pos i0 i1 ?_⟩
    omega
theorem GreyQ.thr {n : Nat} {t g : Int → Int} (h : GreyQ n t g) {i : Int} (i0 : 0 ≤ i) (i1 : i < n) : thrQ g (levelS n g) i = t i := by
  have hl := h.level
  unfold thrQ
  rcases h.bit i i0 i1 with h' | h'
  · have := h.paper i i0 i1 h'; rw [if_neg (by omega), h']
  · have := h.ink i i0 i1 h'; rw [if_pos (by omega), h']
end Go.Proofs.Ytoonkpjddfiopaa

/- Plain laws of the cheapest paths: least costs column by column, once with the program's number for 'never', once with the reference's. No program in sight. -/
namespace Go.Proofs.Ytoonkpjddfiopaa
open Go.RowKit
set_option linter.unusedVariables false

/-- the least of N and of f at j places from lo on -/
def mfold (N : Int) (f : Int → Int) (lo : Int) : Nat → Int
  | 0 => N
  | j + 1 => min (mfold N f lo j) (f (lo + j))
theorem mfold_le (N : Int) (f : Int → Int) (lo : Int) (j : Nat) : mfold N f lo j ≤ N := by
  induction j with
  | zero => exact Int.le_refl _
  | succ j ih => rw [mfold]; omega
theorem mfold_ge {N m : Int} {f : Int → Int} {lo : Int} {j : Nat} (hN : m ≤ N) (h : ∀ i : Nat, i < j → m ≤ f (lo + i)) : m ≤ mfold N f lo j := by
  induction j with
  | zero => exact hN
  | succ j ih => rw [mfold]; have := ih (fun i hi => h i (by omega)); have := h j (by omega); omega
theorem mfold_at {N : Int} {f : Int → Int} {lo : Int} {j i : Nat} (h : i < j) : mfold N f lo j ≤ f (lo + i) := by
  induction j with
  | zero => omega
  | succ j ih =>
    rw [mfold]
    by_cases e : i = j
    · subst e; omega
    · have := ih (by omega); omega
theorem mfold_is {N : Int} {f : Int → Int} {lo : Int} {j : Nat} : mfold N f lo j = N ∨ ∃ i : Nat, i < j ∧ mfold N f lo j = f (lo + i) := by
  induction j with
  | zero => exact .inl rfl
  | succ j ih =>
    rw [mfold]
    rcases Int.le_total (mfold N f lo j) (f (lo + j)) with h | h
    · rw [Int.min_eq_left h]
      rcases ih with e | ⟨i, hi, e⟩
      · exact .inl e
      · exact .inr ⟨i, by omega, e⟩
    · rw [Int.min_eq_right h]
      exact .inr ⟨j, by omega, rfl⟩

/-- what it costs to go on to a row -/
def goTo (d : Int → Int) (y : Int) : Int → Int := fun u => d u + if u = y then 0 else 1
/-- the first of the rows next to a row, and how many there are -/
def nxLo (y : Int) : Int := if y - 1 < 0 then 0 else y - 1
def nxN (H y : Int) : Nat := ((if y + 1 < H - 1 then y + 1 else H - 1) - nxLo y + 1).toNat
/-- the least costs to the last column: k columns are to the right -/
def gcol (N W H : Int) (c : Int → Int → Int) (F : Int → Int → Bool) : Nat → Int → Int
  | 0, y => if F (W - 1) y then N else min (c (W - 1) y) N
  | k + 1, y => if F (W - 1 - (k + 1 : Nat)) y then N else min (mfold N (goTo (gcol N W H c F k) y) (nxLo y) (nxN H y) + c (W - 1 - (k + 1 : Nat)) y) N
/-- the same as the reference has it -/
def rgo (N H cc : Int) (d : Int → Int) (y : Int) : Int → Int := fun u => if u < 0 ∨ H ≤ u ∨ d u = N then N else cc + d u + if u = y then 0 else 1
def rcol (N W H : Int) (c : Int → Int → Int) (F : Int → Int → Bool) : Nat → Int → Int
  | 0, y => if F (W - 1) y then N else c (W - 1) y
  | k + 1, y => if F (W - 1 - (k + 1 : Nat)) y then N else mfold N (rgo N H (c (W - 1 - (k + 1 : Nat)) y) (rcol N W H c F k) y) (y - 1) 3
/-- two numbers are the same cost, or both are none -/
def Alike (N M b x y : Int) : Prop := (0 ≤ x ∧ x ≤ b ∧ y = x) ∨ (x = N ∧ y = M)
theorem nx_in {H y : Int} (h0 : 0 ≤ y) (h : y < H) (i : Nat) : i < nxN H y ↔ nxLo y + i < H ∧ nxLo y + i ≤ y + 1 := by
  unfold nxN nxLo; split <;> split <;> omega
theorem alike_N (N M b : Int) : Alike N M b N M := .inr ⟨rfl, rfl⟩
theorem alike_min {N M b x y x' y' : Int} (hN : b < N) (hM : b < M) (h : Alike N M b x y) (h' : Alike N M b x' y') : Alike N M b (min x x') (min y y') := by
  rcases h with ⟨h1, h2, h3⟩ | ⟨h1, h2⟩ <;> rcases h' with ⟨g1, g2, g3⟩ | ⟨g1, g2⟩
  · left; omega
  · left; omega
  · left; omega
  · right; omega
theorem alike_capR {N M b x y : Int} (hM : b < M) (h : Alike N M b x y) : Alike N M b x (min y M) := by
  rcases h with ⟨h1, h2, h3⟩ | ⟨h1, h2⟩
  · left; omega
  · right; omega
theorem alike_term {N M b d e cc z : Int} (hN : b + 3 < N) (hc0 : 0 ≤ cc) (hc : cc ≤ 2) (z0 : 0 ≤ z) (z1 : z ≤ 1) (hM : b + 3 < M) (h : Alike N M b d e) :
    Alike N M (b + 3) (min (d + z + cc) N) (if e = M then M else cc + e + z) := by
  rcases h with ⟨h1, h2, h3⟩ | ⟨h1, h2⟩
  · left; rw [if_neg (by omega)]; omega
  · right; rw [if_pos h2]; exact ⟨by omega, rfl⟩
theorem mfold_cap {N cc : Int} (hc0 : 0 ≤ cc) (f : Int → Int) (lo : Int) (j : Nat) : min (mfold N f lo j + cc) N = mfold N (fun t => min (f t + cc) N) lo j := by
  induction j with
  | zero => simp only [mfold]; omega
  | succ j ih =>
    simp only [mfold]
    rw [← ih]
    generalize mfold N f lo j = a
    generalize f (lo + j) = b
    omega
theorem step_alike {N M H b cc : Int} {d e : Int → Int} {y : Int} (h0 : 0 ≤ y) (h : y < H) (hN : b + 3 < N) (hM : b + 3 < M) (hc0 : 0 ≤ cc) (hc : cc ≤ 2) (ha : ∀ t, 0 ≤ t → t < H → Alike N M b (d t) (e t)) :
    Alike N M (b + 3) (min (mfold N (goTo d y) (nxLo y) (nxN H y) + cc) N) (mfold M (rgo M H cc e y) (y - 1) 3) := by
  have e3 : mfold M (rgo M H cc e y) (y - 1) 3 = min (min (min M (rgo M H cc e y (y - 1))) (rgo M H cc e y y)) (rgo M H cc e y (y + 1)) := by
    simp only [mfold]
    rw [show y - 1 + ((0 : Nat) : Int) = y - 1 by omega, show y - 1 + ((1 : Nat) : Int) = y by omega, show y - 1 + ((2 : Nat) : Int) = y + 1 by omega]
  rw [e3, mfold_cap hc0]
  have g0 : goTo d y y = d y + 0 := by unfold goTo; rw [if_pos rfl]
  have gm : goTo d y (y - 1) = d (y - 1) + 1 := by unfold goTo; rw [if_neg (by omega)]
  have gp : goTo d y (y + 1) = d (y + 1) + 1 := by unfold goTo; rw [if_neg (by omega)]
  have r0 : rgo M H cc e y y = if e y = M then M else cc + e y + 0 := by
    unfold rgo; rw [if_pos rfl]
    by_cases h1 : e y = M
    · rw [if_pos (.inr (.inr h1)), if_pos h1]
    · rw [if_neg (by omega), if_neg h1]
  have T0 := alike_term (z := 0) hN hc0 hc (by omega) (by omega) hM (ha y h0 h)
  have rm : 0 ≤ y - 1 → rgo M H cc e y (y - 1) = if e (y - 1) = M then M else cc + e (y - 1) + 1 := by
    intro hm
    unfold rgo; rw [if_neg (by omega : ¬ y - 1 = y)]
    by_cases h1 : e (y - 1) = M
    · rw [if_pos (.inr (.inr h1)), if_pos h1]
    · rw [if_neg (by omega), if_neg h1]
  have rp : y + 1 < H → rgo M H cc e y (y + 1) = if e (y + 1) = M then M else cc + e (y + 1) + 1 := by
    intro hp
    unfold rgo; rw [if_neg (by omega : ¬ y + 1 = y)]
    by_cases h1 : e (y + 1) = M
    · rw [if_pos (.inr (.inr h1)), if_pos h1]
    · rw [if_neg (by omega), if_neg h1]
  by_cases hm : 0 ≤ y - 1
  · have Tm := alike_term (z := 1) hN hc0 hc (by omega) (by omega) hM (ha (y - 1) hm (by omega))
    have lo : nxLo y = y - 1 := by unfold nxLo; rw [if_neg (by omega)]
    rw [rm hm, r0]
    by_cases hp : y + 1 < H
    · have Tp := alike_term (z := 1) hN hc0 hc (by omega) (by omega) hM (ha (y + 1) (by omega) hp)
      have nn : nxN H y = 3 := by
        have := (nx_in h0 h 2).2 (by rw [lo]; omega)
        have := mt (nx_in h0 h 3).1 (by rw [lo]; omega)
        omega
      rw [rp hp, nn, lo]
      simp only [mfold]
      rw [show y - 1 + ((0 : Nat) : Int) = y - 1 by omega, show y - 1 + ((1 : Nat) : Int) = y by omega, show y - 1 + ((2 : Nat) : Int) = y + 1 by omega, g0, gm, gp]
      exact alike_min hN hM (alike_min hN hM (alike_min hN hM (alike_N _ _ _) Tm) T0) Tp
    · have rq : rgo M H cc e y (y + 1) = M := by unfold rgo; rw [if_pos (by omega)]
      have nn : nxN H y = 2 := by
        have := (nx_in h0 h 1).2 (by rw [lo]; omega)
        have := mt (nx_in h0 h 2).1 (by rw [lo]; omega)
        omega
      rw [rq, nn, lo]
      simp only [mfold]
      rw [show y - 1 + ((0 : Nat) : Int) = y - 1 by omega, show y - 1 + ((1 : Nat) : Int) = y by omega, g0, gm]
      exact alike_capR hM (alike_min hN hM (alike_min hN hM (alike_N _ _ _) Tm) T0)
  · have rq : rgo M H cc e y (y - 1) = M := by unfold rgo; rw [if_pos (by omega)]
    have lo : nxLo y = y := by unfold nxLo; rw [if_pos (by omega)]; omega
    rw [rq, r0, show min M M = M from Int.min_self M]
    by_cases hp : y + 1 < H
    · have Tp := alike_term (z := 1) hN hc0 hc (by omega) (by omega) hM (ha (y + 1) (by omega) hp)
      have nn : nxN H y = 2 := by
        have := (nx_in h0 h 1).2 (by rw [lo]; omega)
        have := mt (nx_in h0 h 2).1 (by rw [lo]; omega)
        omega
      rw [rp hp, nn, lo]
      simp only [mfold]
      rw [show y + ((0 : Nat) : Int) = y by omega, show y + ((1 : Nat) : Int) = y + 1 by omega, g0, gp]
      exact alike_min hN hM (alike_min hN hM (alike_N _ _ _) T0) Tp
    · have rs : rgo M H cc e y (y + 1) = M := by unfold rgo; rw [if_pos (by omega)]
      have nn : nxN H y = 1 := by
        have := (nx_in h0 h 0).2 (by rw [lo]; omega)
        have := mt (nx_in h0 h 1).1 (by rw [lo]; omega)
        omega
      rw [rs, nn, lo]
      simp only [mfold]
      rw [show y + ((0 : Nat) : Int) = y by omega, g0]
      exact alike_capR hM (alike_min hN hM (alike_N _ _ _) T0)
theorem cols_alike {N M W H : Int} {c : Int → Int → Int} {F : Int → Int → Bool} (hc : ∀ x y, 0 ≤ c x y ∧ c x y ≤ 2) (hN : 3 * W < N) (hM : 3 * W < M) (k : Nat) (hk : (k : Int) < W) (y : Int) (h0 : 0 ≤ y) (h : y < H) :
    Alike N M (3 * (k + 1)) (gcol N W H c F k y) (rcol M W H c F k y) := by
  induction k generalizing y with
  | zero =>
    rw [gcol, rcol]
    have := hc (W - 1) y
    unfold Alike
    split <;> omega
  | succ k ih =>
    rw [gcol, rcol]
    by_cases hF : F (W - 1 - (k + 1 : Nat)) y = true
    · rw [if_pos hF, if_pos hF]; exact .inr ⟨rfl, rfl⟩
    · rw [if_neg hF, if_neg hF]
      have hcc := hc (W - 1 - (k + 1 : Nat)) y
      have := step_alike (N := N) (M := M) (H := H) (b := 3 * (k + 1)) (cc := c (W - 1 - (k + 1 : Nat)) y) (d := gcol N W H c F k) (e := rcol M W H c F k) h0 h (by omega) (by omega) hcc.1 hcc.2 (fun t a b => ih (by omega) t a b)
      rw [show (3 * (((k + 1 : Nat) : Int) + 1)) = 3 * ((k : Int) + 1) + 3 by omega]
      exact this
end Go.Proofs.Ytoonkpjddfiopaa

/- Plain laws of the cheapest paths: the path that is read off the costs, its cost, and that the reference reads off the same. No program in sight. -/
namespace Go.Proofs.Ytoonkpjddfiopaa
open Go.RowKit
set_option linter.unusedVariables false

/-- the first place at which g is least -/
def fmin (g : Int → Int) : Nat → Int
  | 0 => 0
  | y + 1 => if g y < g (fmin g y) then y else fmin g y
theorem fmin_bd (g : Int → Int) (n : Nat) : 0 ≤ fmin g n ∧ (0 < n → fmin g n < n) := by
  induction n with
  | zero => simp [fmin]
  | succ n ih =>
    rw [fmin]
    split
    · omega
    · refine ⟨ih.1, fun _ => ?_⟩
      by_cases h : 0 < n
      · have := ih.2 h; omega
      · obtain rfl : n = 0 := by omega
        show (0 : Int) < _; omega
theorem fmin_le {g : Int → Int} {n : Nat} {i : Int} (h0 : 0 ≤ i) (h : i < n) : g (fmin g n) ≤ g i := by
  induction n with
  | zero => omega
  | succ n ih =>
    rw [fmin]
    by_cases e : i = n
    · subst e; split <;> omega
    · have := ih (by omega)
      split <;> omega
theorem fmin_first {g : Int → Int} {n : Nat} {i : Int} (h0 : 0 ≤ i) (h : i < fmin g n) : g (fmin g n) < g i := by
  induction n with
  | zero => simp [fmin] at h; omega
  | succ n ih =>
    rw [fmin] at h ⊢
    by_cases e : g n < g (fmin g n)
    · rw [if_pos e] at h ⊢
      have := fmin_le (g := g) h0 h
      omega
    · rw [if_neg e] at h ⊢
      exact ih h

section
variable (N W H : Int) (c : Int → Int → Int) (F : Int → Int → Bool)
/-- the least cost from a pixel on -/
def gAt (x y : Int) : Int := gcol N W H c F (W - 1 - x).toNat y
def rAt (x y : Int) : Int := rcol N W H c F (W - 1 - x).toNat y
/-- the row in which the path goes on -/
def nxt (x a : Int) : Int :=
  if 0 ≤ idxF (fun i => decide (goTo (gAt N W H c F (x + 1)) a (nxLo a + i) = gAt N W H c F x a - c x a)) (nxN H a)
  then nxLo a + idxF (fun i => decide (goTo (gAt N W H c F (x + 1)) a (nxLo a + i) = gAt N W H c F x a - c x a)) (nxN H a) else a
def pathP : Nat → Int
  | 0 => fmin (gAt N W H c F 0) H.toNat
  | x + 1 => nxt N W H c F x (pathP x)
end
/-- the cost of a path up to a column -/
def costP (c : Int → Int → Int) (l : Int → Int) : Nat → Int
  | 0 => 0
  | x + 1 => costP c l x + c x (l x) + if 0 < x ∧ l x ≠ l ((x : Int) - 1) then 1 else 0

section
variable {N W H : Int} {c : Int → Int → Int} {F : Int → Int → Bool}
theorem gAt_last (y : Int) : gAt N W H c F (W - 1) y = if F (W - 1) y then N else min (c (W - 1) y) N := by
  unfold gAt; rw [show (W - 1 - (W - 1)).toNat = 0 by omega, gcol]
theorem gAt_step {x : Int} (h0 : 0 ≤ x) (h : x < W - 1) (y : Int) : gAt N W H c F x y = if F x y then N else min (mfold N (goTo (gAt N W H c F (x + 1)) y) (nxLo y) (nxN H y) + c x y) N := by
  unfold gAt
  obtain ⟨k, hk⟩ : ∃ k : Nat, (W - 1 - x).toNat = k + 1 := ⟨(W - 1 - x).toNat - 1, by omega⟩
  rw [hk, gcol, show W - 1 - ((k + 1 : Nat) : Int) = x by omega, show (W - 1 - (x + 1)).toNat = k by omega]
theorem gAt_bd (hc : ∀ x y, 0 ≤ c x y ∧ c x y ≤ 2) (hN : 3 * W < N) {x y : Int} (h0 : 0 ≤ x) (h : x < W) (y0 : 0 ≤ y) (y1 : y < H) : (0 ≤ gAt N W H c F x y ∧ gAt N W H c F x y ≤ 3 * (W - x)) ∨ gAt N W H c F x y = N := by
  have := cols_alike (F := F) hc hN hN (W - 1 - x).toNat (by omega) y y0 y1
  unfold gAt
  unfold Alike at this
  omega
/-- where the cost is finite there is a row to go on to -/
theorem nxt_ex (hc : ∀ x y, 0 ≤ c x y ∧ c x y ≤ 2) {x a : Int} (h0 : 0 ≤ x) (h : x < W - 1) (hf : gAt N W H c F x a < N) :
    ∃ i : Nat, i < nxN H a ∧ goTo (gAt N W H c F (x + 1)) a (nxLo a + i) = gAt N W H c F x a - c x a := by
  rw [gAt_step h0 h] at hf ⊢
  by_cases hF : F x a = true
  · rw [if_pos hF] at hf; omega
  · rw [if_neg hF] at hf ⊢
    have hcc := hc x a
    rcases mfold_is (N := N) (f := goTo (gAt N W H c F (x + 1)) a) (lo := nxLo a) (j := nxN H a) with e | ⟨i, hi, e⟩
    · rw [e] at hf; omega
    · exact ⟨i, hi, by omega⟩
theorem nxt_spec (hc : ∀ x y, 0 ≤ c x y ∧ c x y ≤ 2) {x a : Int} (h0 : 0 ≤ x) (h : x < W - 1) (a0 : 0 ≤ a) (a1 : a < H) (hf : gAt N W H c F x a < N) :
    goTo (gAt N W H c F (x + 1)) a (nxt N W H c F x a) = gAt N W H c F x a - c x a ∧ 0 ≤ nxt N W H c F x a ∧ nxt N W H c F x a < H ∧ a - 1 ≤ nxt N W H c F x a ∧ nxt N W H c F x a ≤ a + 1 ∧
      ∀ y, 0 ≤ y → a - 1 ≤ y → y < nxt N W H c F x a → goTo (gAt N W H c F (x + 1)) a y ≠ gAt N W H c F x a - c x a := by
  obtain ⟨i, hi, e⟩ := nxt_ex hc h0 h hf
  have hex : 0 ≤ idxF (fun i => decide (goTo (gAt N W H c F (x + 1)) a (nxLo a + i) = gAt N W H c F x a - c x a)) (nxN H a) := idxF_iff.2 ⟨i, by omega, by omega, by simpa using e⟩
  have sp : ∀ n : Nat, ∀ f : Int → Bool, 0 ≤ idxF f n → idxF f n < n ∧ f (idxF f n) = true ∧ ∀ j : Int, 0 ≤ j → j < idxF f n → f j = false := by
    intro n f
    induction n with
    | zero => intro h; simp [idxF] at h
    | succ n ih =>
      intro h
      rw [idxF] at h ⊢
      by_cases h1 : 0 ≤ idxF f n
      · rw [if_pos h1]; have := ih h1; exact ⟨by omega, this.2.1, this.2.2⟩
      · rw [if_neg h1] at h ⊢
        by_cases h2 : f n = true
        · rw [if_pos h2]
          exact ⟨by omega, h2, fun j j0 j1 => Bool.eq_false_iff.2 fun h3 => h1 (idxF_iff.2 ⟨j, j0, j1, h3⟩)⟩
        · rw [if_neg h2] at h; omega
  obtain ⟨s1, s2, s3⟩ := sp _ _ hex
  have hn : nxt N W H c F x a = nxLo a + idxF (fun i => decide (goTo (gAt N W H c F (x + 1)) a (nxLo a + i) = gAt N W H c F x a - c x a)) (nxN H a) := by unfold nxt; rw [if_pos hex]
  generalize idxF (fun i => decide (goTo (gAt N W H c F (x + 1)) a (nxLo a + i) = gAt N W H c F x a - c x a)) (nxN H a) = k at *
  rw [hn]
  obtain ⟨k', rfl⟩ := Int.eq_ofNat_of_zero_le hex
  have hin := (nx_in a0 a1 k').1 (by omega)
  have lo : nxLo a = if a - 1 < 0 then 0 else a - 1 := rfl
  have lo2 : 0 ≤ nxLo a ∧ a - 1 ≤ nxLo a ∧ (0 < nxLo a → nxLo a = a - 1) := by rw [lo]; split <;> omega
  refine ⟨by simpa using s2, by omega, hin.1, by omega, hin.2, fun y y0 y1 y2 hy => ?_⟩
  have h4 : nxLo a ≤ y := by rw [lo]; split <;> omega
  have := s3 (y - nxLo a) (by omega) (by omega)
  rw [show nxLo a + (y - nxLo a) = y by omega] at this
  simp at this
  exact this hy
/-- the path stays in the image and its costs stay finite -/
theorem path_ok (hc : ∀ x y, 0 ≤ c x y ∧ c x y ≤ 2) (hN : 3 * W < N) (hH : 0 < H) (hW : 0 < W) (hf : gAt N W H c F 0 (pathP N W H c F 0) < N) (x : Nat) (hx : (x : Int) < W) :
    0 ≤ pathP N W H c F x ∧ pathP N W H c F x < H ∧ gAt N W H c F x (pathP N W H c F x) < N := by
  induction x with
  | zero =>
    have := fmin_bd (gAt N W H c F 0) H.toNat
    refine ⟨this.1, ?_, hf⟩
    have := this.2 (by omega)
    show fmin _ _ < H
    omega
  | succ x ih =>
    obtain ⟨i1, i2, i3⟩ := ih (by omega)
    obtain ⟨s1, s2, s3, s4, s5, -⟩ := nxt_spec hc (by omega) (by omega : (x : Int) < W - 1) i1 i2 i3
    refine ⟨s2, s3, ?_⟩
    show gAt N W H c F ((x + 1 : Nat) : Int) (nxt N W H c F x (pathP N W H c F x)) < N
    have hcc := hc x (pathP N W H c F x)
    unfold goTo at s1
    rw [show ((x + 1 : Nat) : Int) = (x : Int) + 1 by omega]
    split at s1 <;> omega
theorem path_cost (hc : ∀ x y, 0 ≤ c x y ∧ c x y ≤ 2) (hN : 3 * W < N) (hH : 0 < H) (hW : 0 < W) (hf : gAt N W H c F 0 (pathP N W H c F 0) < N) (x : Nat) (hx : (x : Int) < W) :
    costP c (fun i => pathP N W H c F i.toNat) (x + 1) + gAt N W H c F x (pathP N W H c F x) = gAt N W H c F 0 (pathP N W H c F 0) + c x (pathP N W H c F x) := by
  induction x with
  | zero => simp [costP]; omega
  | succ x ih =>
    have ih := ih (by omega)
    obtain ⟨i1, i2, i3⟩ := path_ok hc hN hH hW hf x (by omega)
    obtain ⟨s1, -, -, -, -, -⟩ := nxt_spec hc (by omega) (by omega : (x : Int) < W - 1) i1 i2 i3
    rw [costP]
    have e : pathP N W H c F (x + 1) = nxt N W H c F x (pathP N W H c F x) := rfl
    rw [← e] at s1
    unfold goTo at s1
    simp only [Int.toNat_natCast, show ((x + 1 : Nat) : Int) - 1 = (x : Int) by omega]
    rw [show ((x + 1 : Nat) : Int) = (x : Int) + 1 by omega] at *
    by_cases hq : pathP N W H c F (x + 1) = pathP N W H c F x
    · rw [if_pos hq] at s1
      rw [if_neg (by simp [hq])]
      omega
    · rw [if_neg hq] at s1
      rw [if_pos ⟨by omega, hq⟩]
      omega
/-- the whole path costs what stands at its start -/
theorem path_total (hc : ∀ x y, 0 ≤ c x y ∧ c x y ≤ 2) (hN : 3 * W < N) (hH : 0 < H) (hW : 0 < W) (hf : gAt N W H c F 0 (pathP N W H c F 0) < N) :
    costP c (fun i => pathP N W H c F i.toNat) W.toNat = gAt N W H c F 0 (pathP N W H c F 0) := by
  obtain ⟨x, hx⟩ : ∃ x : Nat, W.toNat = x + 1 := ⟨W.toNat - 1, by omega⟩
  have h1 := path_cost hc hN hH hW hf x (by omega)
  obtain ⟨i1, i2, i3⟩ := path_ok hc hN hH hW hf x (by omega)
  have e : (x : Int) = W - 1 := by omega
  rw [hx]
  have hl := gAt_last (N := N) (W := W) (H := H) (c := c) (F := F) (pathP N W H c F x)
  rw [← e] at hl
  rw [hl] at h1 i3
  by_cases hF : F x (pathP N W H c F x) = true
  · rw [if_pos hF] at i3; omega
  · rw [if_neg hF] at h1 i3; omega
end
end Go.Proofs.Ytoonkpjddfiopaa

/- Plain laws of the cheapest paths: the reference finds the same path. No program in sight. -/
namespace Go.Proofs.Ytoonkpjddfiopaa
open Go.RowKit
set_option linter.unusedVariables false
section
variable {N M W H : Int} {c : Int → Int → Int} {F : Int → Int → Bool}
theorem gr_alike (hc : ∀ x y, 0 ≤ c x y ∧ c x y ≤ 2) (hN : 3 * W < N) (hM : 3 * W < M) {x y : Int} (h0 : 0 ≤ x) (h : x < W) (y0 : 0 ≤ y) (y1 : y < H) :
    (gAt N W H c F x y < N ∧ rAt M W H c F x y = gAt N W H c F x y ∧ gAt N W H c F x y ≤ 3 * W ∧ 0 ≤ gAt N W H c F x y) ∨ (gAt N W H c F x y = N ∧ rAt M W H c F x y = M) := by
  have := cols_alike (F := F) hc hN hM (W - 1 - x).toNat (by omega) y y0 y1
  unfold gAt rAt
  unfold Alike at this
  omega
/-- the least cost of the first column, as the reference reckons it -/
def rleast (M W H : Int) (c : Int → Int → Int) (F : Int → Int → Bool) : Int := mfold M (rAt M W H c F 0) 0 H.toNat
theorem rleast_eq (hc : ∀ x y, 0 ≤ c x y ∧ c x y ≤ 2) (hN : 3 * W < N) (hM : 3 * W < M) (hW : 0 < W) (hH : 0 < H) :
    (gAt N W H c F 0 (pathP N W H c F 0) < N ∧ rleast M W H c F = gAt N W H c F 0 (pathP N W H c F 0) ∧ rleast M W H c F < M) ∨ (gAt N W H c F 0 (pathP N W H c F 0) = N ∧ rleast M W H c F = M) := by
  have hp := fmin_bd (gAt N W H c F 0) H.toNat
  have h2 := hp.2 (by omega)
  have e : pathP N W H c F 0 = fmin (gAt N W H c F 0) H.toNat := rfl
  rw [← e] at hp h2
  have ha := gr_alike (H := H) (F := F) hc hN hM (x := 0) (y := pathP N W H c F 0) (by omega) hW hp.1 (by omega)
  have hle : ∀ i : Nat, i < H.toNat → gAt N W H c F 0 (pathP N W H c F 0) ≤ gAt N W H c F 0 i := fun i hi => fmin_le (by omega) (by omega)
  have hat := mfold_at (N := M) (f := rAt M W H c F 0) (lo := 0) (j := H.toNat) (i := (pathP N W H c F 0).toNat) (by omega)
  rw [show (0 : Int) + ((pathP N W H c F 0).toNat : Int) = pathP N W H c F 0 by omega] at hat
  have hlM := mfold_le M (rAt M W H c F 0) 0 H.toNat
  rcases ha with ⟨a1, a2, a3, a4⟩ | ⟨a1, a2⟩
  · left
    have hge : gAt N W H c F 0 (pathP N W H c F 0) ≤ mfold M (rAt M W H c F 0) 0 H.toNat := mfold_ge (by omega) fun i hi => by
      have hi2 := hle i hi
      rw [Int.zero_add]
      have := gr_alike (H := H) (F := F) hc hN hM (x := 0) (y := i) (by omega) hW (by omega) (by omega)
      omega
    unfold rleast
    omega
  · right
    refine ⟨a1, ?_⟩
    unfold rleast
    rcases mfold_is (N := M) (f := rAt M W H c F 0) (lo := 0) (j := H.toNat) with h | ⟨i, hi, h⟩
    · exact h
    · have hi2 := hle i hi
      rw [Int.zero_add] at h
      have := gr_alike (H := H) (F := F) hc hN hM (x := 0) (y := i) (by omega) hW (by omega) (by omega)
      omega
/-- the reference's test in the first column -/
theorem rfirst (hc : ∀ x y, 0 ≤ c x y ∧ c x y ≤ 2) (hN : 3 * W < N) (hM : 3 * W < M) (hW : 0 < W) (hH : 0 < H) (hf : gAt N W H c F 0 (pathP N W H c F 0) < N) :
    (rAt M W H c F 0 (pathP N W H c F 0) ≠ M ∧ rAt M W H c F 0 (pathP N W H c F 0) = rleast M W H c F) ∧ ∀ y, 0 ≤ y → y < pathP N W H c F 0 → ¬ (rAt M W H c F 0 y ≠ M ∧ rAt M W H c F 0 y = rleast M W H c F) := by
  have hp := fmin_bd (gAt N W H c F 0) H.toNat
  have h2 := hp.2 (by omega)
  have e : pathP N W H c F 0 = fmin (gAt N W H c F 0) H.toNat := rfl
  rw [← e] at hp h2
  have hl := rleast_eq (H := H) (F := F) hc hN hM hW hH
  have ha := gr_alike (H := H) (F := F) hc hN hM (x := 0) (y := pathP N W H c F 0) (by omega) hW hp.1 (by omega)
  refine ⟨by omega, fun y y0 y1 => ?_⟩
  have hy := gr_alike (H := H) (F := F) hc hN hM (x := 0) (y := y) (by omega) hW y0 (by omega)
  have := fmin_first (g := gAt N W H c F 0) (n := H.toNat) y0 (by rw [← e]; exact y1)
  rw [← e] at this
  omega
/-- the reference's test in a later column: what is left is the cost of the last pixel's rest -/
theorem rnext (hc : ∀ x y, 0 ≤ c x y ∧ c x y ≤ 2) (hN : 3 * W < N) (hM : 3 * W < M) (hW : 0 < W) (hH : 0 < H) (hf : gAt N W H c F 0 (pathP N W H c F 0) < N) (x : Nat) (hx : (x : Int) + 1 < W) :
    (rAt M W H c F (x + 1) (pathP N W H c F (x + 1)) ≠ M ∧ rAt M W H c F (x + 1) (pathP N W H c F (x + 1)) + (if pathP N W H c F (x + 1) = pathP N W H c F x then 0 else 1) = rAt M W H c F x (pathP N W H c F x) - c x (pathP N W H c F x)) ∧
    (0 ≤ pathP N W H c F (x + 1) ∧ pathP N W H c F (x + 1) < H ∧ pathP N W H c F x - 1 ≤ pathP N W H c F (x + 1) ∧ pathP N W H c F (x + 1) ≤ pathP N W H c F x + 1) ∧
    ∀ y, 0 ≤ y → y < H → pathP N W H c F x - 1 ≤ y → y < pathP N W H c F (x + 1) → ¬ (rAt M W H c F (x + 1) y ≠ M ∧ rAt M W H c F (x + 1) y + (if y = pathP N W H c F x then 0 else 1) = rAt M W H c F x (pathP N W H c F x) - c x (pathP N W H c F x)) := by
  obtain ⟨i1, i2, i3⟩ := path_ok hc hN hH hW hf x (by omega)
  obtain ⟨j1, j2, j3⟩ := path_ok hc hN hH hW hf (x + 1) (by omega)
  obtain ⟨s1, s2, s3, s4, s5, s6⟩ := nxt_spec hc (by omega) (by omega : (x : Int) < W - 1) i1 i2 i3
  have e : nxt N W H c F x (pathP N W H c F x) = pathP N W H c F (x + 1) := rfl
  rw [e] at s1 s2 s3 s4 s5 s6
  have ha := gr_alike (H := H) (F := F) hc hN hM (x := x) (by omega) (by omega) i1 i2
  have hb := gr_alike (H := H) (F := F) hc hN hM (x := (x : Int) + 1) (by omega) (by omega) j1 j2
  rw [show ((x + 1 : Nat) : Int) = (x : Int) + 1 by omega] at j3
  have hcc := hc x (pathP N W H c F x)
  unfold goTo at s1 s6
  refine ⟨⟨by omega, ?_⟩, ⟨s2, s3, s4, s5⟩, fun y y0 y1 y2 y3 ⟨h1, h2⟩ => ?_⟩
  · split at s1 <;> split <;> omega
  · have hy := gr_alike (H := H) (F := F) hc hN hM (x := (x : Int) + 1) (y := y) (by omega) (by omega) y0 y1
    have := s6 y y0 y2 y3
    split at h2 <;> split at this <;> omega
end
end Go.Proofs.Ytoonkpjddfiopaa
