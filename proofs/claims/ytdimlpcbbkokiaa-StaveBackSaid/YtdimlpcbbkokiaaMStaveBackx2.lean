/- Texts of mine in build order: W15, Lib3, W21, T1, T4, T2, T3, T5, T6. Conditions: each theorem's own. -/
import Derived.Test.YtdimlpcbbkokiaaMStaveBackx1
import Derived.Laws.AppendOwn
import Derived.StillTailTactics
import Derived.BigQuiet
import Derived.Deep.QuietTactic
/- Walks: the reference's checks, New, Ink and Set. -/
namespace Go.Proofs.Ytdimlpcbbkokiaa
open Go.RowKit
set_option linter.unusedVariables false

def fitsB (W H : Int) : Bool := decide (0 ≤ W ∧ W ≤ 640 ∧ 0 ≤ H ∧ H ≤ 640)
theorem fitsB_iff {W H : Int} : fitsB W H = true ↔ 0 ≤ W ∧ W ≤ 640 ∧ 0 ≤ H ∧ H ≤ 640 := by simp [fitsB]
set_option maxHeartbeats 400000 in
theorem fits_any (W H : Int) (w : World) : Calls Try.prog 66 #[.int .i64 W, .int .i64 H] w fun e w' => e = .returned (.bool (fitsB W H)) ∧ w = w' := by
  by_cases h : 0 ≤ W ∧ W ≤ 640 ∧ 0 ≤ H ∧ H ≤ 640
  · rw [fitsB_iff.2 h]
    obtain ⟨h1, h2, h3, h4⟩ := h
    go_enter Try.func66, Try.ntmps66
    go_wp2
    go_ret
    exact ⟨rfl, rfl⟩
  · have h' : fitsB W H = false := Bool.eq_false_iff.2 fun e => h (fitsB_iff.1 e)
    rw [h']
    by_cases a : 0 ≤ W
    · by_cases b : W ≤ 640
      · by_cases c : 0 ≤ H
        · have d : ¬ H ≤ 640 := fun d => h ⟨a, b, c, d⟩
          clear h h'
          go_enter Try.func66, Try.ntmps66
          go_wp2
          go_ret
          exact ⟨rfl, rfl⟩
        · clear h h'
          go_enter Try.func66, Try.ntmps66
          go_wp2
          go_ret
          exact ⟨rfl, rfl⟩
      · clear h h'
        go_enter Try.func66, Try.ntmps66
        go_wp2
        go_ret
        exact ⟨rfl, rfl⟩
    · clear h h'
      go_enter Try.func66, Try.ntmps66
      go_wp2
      go_ret
      exact ⟨rfl, rfl⟩

theorem chk_nofit {W H : Int} {n : Nat} {p : Int → Int} (h : fitsB W H = false) : chk W H n p = 2 := by
  have : sidesB W H n = false := Bool.eq_false_iff.2 fun e => by
    obtain ⟨a, b, c, d, _⟩ := sidesB_iff.1 e
    rw [fitsB_iff.2 ⟨a, b, c, d⟩] at h; cases h
  unfold chk; rw [this]; rfl
theorem chk_size {W H : Int} {n : Nat} {p : Int → Int} (h : (n : Int) ≠ W * H) : chk W H n p = 2 := by
  have : sidesB W H n = false := Bool.eq_false_iff.2 fun e => h (sidesB_iff.1 e).2.2.2.2
  unfold chk; rw [this]; rfl
theorem sides_mk {W H : Int} {n : Nat} (h : fitsB W H = true) (hn : (n : Int) = W * H) : sidesB W H n = true := by
  obtain ⟨a, b, c, d⟩ := fitsB_iff.1 h; exact sidesB_iff.2 ⟨a, b, c, d, hn⟩
theorem chk_pix {W H : Int} {n : Nat} {p : Int → Int} (h : sidesB W H n = true) {i : Int} (h0 : 0 ≤ i) (hi : i < n) (hp : ¬ p i ≤ 1) : chk W H n p = 3 := by
  have : pixB n p = false := Bool.eq_false_iff.2 fun e => hp (by simpa using allN_iff.1 e i h0 hi)
  unfold chk; rw [h, this]; rfl

set_option maxHeartbeats 1000000 in
theorem rcheck_any (W H : Int) (A : Option Addr) (n c : Nat) (p : Int → Int) (w : World) (hA : ArrB w w.heap.size A n p) (hn : n ≤ maxLen) (hB : IsB p) :
    Calls Try.prog 20 #[.agg #[.int .i64 W, .int .i64 H, .slice A n c]] w fun e w' => e = .returned (.int .i64 (chk W H n p)) ∧ Below w.heap.size w w' := by
  unfold maxLen at hn
  have FT := Lib.hid (fits_any W H)
  have K0 := Blk.new w 24 #[.int .i64 W, .int .i64 H, .slice A n c]
  cases hf : fitsB W H
  · rw [chk_nofit hf]
    rw [hf] at FT
    clear hf
    go_enter Try.func20, Try.ntmps20
    go_wp2_with (go_at_call 66; refine (FT.out _).mono ?_; rintro e w' ⟨rfl, rfl⟩)
    go_ret
    exact ⟨rfl, by (repeat (first | exact Below.refl _ _ | assumption | refine Below.drew ?_ | refine below_drewN ?_ _ | refine Below.alloc ?_ (by first | omega | (simp; done) | (simp; omega)) _ | refine Below.setCell ?_ (by first | omega | (simp; done) | (simp; omega)) _ | refine below_setRow ?_ (by first | omega | (simp; done) | (simp; omega)) _ ))⟩
  · obtain ⟨h1, h2, h3, h4⟩ := fitsB_iff.1 hf
    obtain ⟨m1, m2⟩ := area_bd h1 h2 h3 h4
    rw [hf] at FT
    have m3 : IntKind.i64.wrap (W * H) = W * H := IntWalk.i64_in _ (by omega)
    by_cases hs : (n : Int) = W * H
    · have hS := Lib.hid (sides_mk hf hs)
      have hb : ((n : Int) != W * H) = false := by simp [hs]
      have HS := Lib.hid hs
      clear hf hs
      go_enter Try.func20, Try.ntmps20
      go_wp2_with (go_at_call 66; refine (FT.out _).mono ?_; rintro e w' ⟨rfl, rfl⟩)
      go_loop [3] (fun s => ∃ i : Int, 0 ≤ i ∧ i ≤ n ∧ s = .int .i64 i ∧ ∀ j : Int, 0 ≤ j → j < i → p j ≤ 1) (fun s => n - (intOf s).toNat)
      case atStart => exact ⟨0, by omega, by omega, rfl, fun j a b => by omega⟩
      case round =>
        obtain ⟨i, h0, hi, rfl, hall⟩ := hrel
        have HALL := Lib.hid hall; clear hall
        by_cases hlt : i < n
        · have hA' := hA.to (w' := w.alloc (.cells #[.int .i64 W, .int .i64 H, .slice A n c] 24)) (by (repeat (first | exact Below.refl _ _ | assumption | refine Below.drew ?_ | refine below_drewN ?_ _ | refine Below.alloc ?_ (by first | omega | (simp; done) | (simp; omega)) _ | refine Below.setCell ?_ (by first | omega | (simp; done) | (simp; omega)) _ | refine below_setRow ?_ (by first | omega | (simp; done) | (simp; omega)) _ )))
          obtain ⟨b, off, rfl, hbB, hcell⟩ := ArrB.at_ hA' h0 hlt
          obtain ⟨pb1, pb2⟩ := hB i
          by_cases e0 : p i = 0
          · have hb0 : (p i != 0) = false := by simp [e0]
            have E0 := Lib.hid e0; clear e0
            go_wp2
            go_round
            case rel => exact ⟨i + 1, by omega, by omega, by go_num, fun j a b => if e : j = i then by rw [e, E0.out]; omega else HALL.out j a (by omega)⟩
            case measure => simp [intOf]; omega
          · have hb0 : (p i != 0) = true := by simp [e0]
            by_cases e1 : p i = 1
            · have hb1 : (p i != 1) = false := by simp [e1]
              have E1 := Lib.hid e1; clear e1
              have E0 := Lib.hid e0; clear e0
              go_wp2
              go_round
              case rel => exact ⟨i + 1, by omega, by omega, by go_num, fun j a b => if e : j = i then by rw [e, E1.out]; omega else HALL.out j a (by omega)⟩
              case measure => simp [intOf]; omega
            · have hb1 : (p i != 1) = true := by simp [e1]
              have hr : Hid (chk W H n p = 3) := by show _ = _; exact chk_pix hS.out h0 hlt (by omega)
              have E1 := Lib.hid e1; clear e1
              have E0 := Lib.hid e0; clear e0
              go_wp2
              go_ret
              exact ⟨ret_int hr.out.symm, by (repeat (first | exact Below.refl _ _ | assumption | refine Below.drew ?_ | refine below_drewN ?_ _ | refine Below.alloc ?_ (by first | omega | (simp; done) | (simp; omega)) _ | refine Below.setCell ?_ (by first | omega | (simp; done) | (simp; omega)) _ | refine below_setRow ?_ (by first | omega | (simp; done) | (simp; omega)) _ ))⟩
        · have hr : Hid (chk W H n p = 0) := by
            show _ = _; unfold chk; rw [hS.out, show pixB n p = true from allN_iff.2 fun j a b => by simpa using HALL.out j a (by omega)]; rfl
          go_wp2
          go_ret
          exact ⟨ret_int hr.out.symm, by (repeat (first | exact Below.refl _ _ | assumption | refine Below.drew ?_ | refine below_drewN ?_ _ | refine Below.alloc ?_ (by first | omega | (simp; done) | (simp; omega)) _ | refine Below.setCell ?_ (by first | omega | (simp; done) | (simp; omega)) _ | refine below_setRow ?_ (by first | omega | (simp; done) | (simp; omega)) _ ))⟩
    · rw [chk_size hs]
      have hb : ((n : Int) != W * H) = true := by simp [hs]
      have HS := Lib.hid hs
      clear hf hs
      go_enter Try.func20, Try.ntmps20
      go_wp2_with (go_at_call 66; refine (FT.out _).mono ?_; rintro e w' ⟨rfl, rfl⟩)
      go_ret
      exact ⟨rfl, by (repeat (first | exact Below.refl _ _ | assumption | refine Below.drew ?_ | refine below_drewN ?_ _ | refine Below.alloc ?_ (by first | omega | (simp; done) | (simp; omega)) _ | refine Below.setCell ?_ (by first | omega | (simp; done) | (simp; omega)) _ | refine below_setRow ?_ (by first | omega | (simp; done) | (simp; omega)) _ ))⟩

set_option maxHeartbeats 400000 in
theorem rnew_any (W H : Int) (N : Nat) (w : World) (h1 : 0 ≤ W) (h2 : W ≤ 640) (h3 : 0 ≤ H) (h4 : H ≤ 640) (hN : (N : Int) = W * H) :
    Calls Try.prog 69 #[.int .i64 W, .int .i64 H] w (New w fun v w' => OutN w w' W H N (fun _ => 0) v) := by
  obtain ⟨m1, m2⟩ := area_bd h1 h2 h3 h4
  have hmk := makeB (W * H) m1 (by omega)
  have e : (W * H).toNat = N := by omega
  rw [e] at hmk
  have HN := Lib.hid hN
  clear hN e
  go_enter Try.func69, Try.ntmps69
  go_wp2
  refine bodyPost_ret (v := .agg #[.int .i64 W, .int .i64 H, .slice (some ⟨w.heap.size + 1, 0, none⟩) N N]) (by simp [results, Try.results69, go_sem]) rfl ?_
  exact ⟨_, rfl, OutN.mk (by omega) (Blk.new' (by simp) _ _), by (repeat (first | exact Below.refl _ _ | assumption | refine Below.drew ?_ | refine below_drewN ?_ _ | refine Below.alloc ?_ (by first | omega | (simp; done) | (simp; omega)) _ | refine Below.setCell ?_ (by first | omega | (simp; done) | (simp; omega)) _ | refine below_setRow ?_ (by first | omega | (simp; done) | (simp; omega)) _ ))⟩

set_option maxHeartbeats 1000000 in
theorem rink_any (W H : Int) (A : Option Addr) (n c : Nat) (p : Int → Int) (x y : Int) (w : World) (hA : ArrB w w.heap.size A n p) (hW : W ≤ 640) (hH : H ≤ 640) (hn : (n : Int) = W * H) :
    Calls Try.prog 108 #[.agg #[.int .i64 W, .int .i64 H, .slice A n c], .int .i64 x, .int .i64 y] w fun e w' => e = .returned (.bool (inkB W H p x y)) ∧ Below w.heap.size w w' := by
  by_cases a : 0 ≤ x
  · by_cases b : x < W
    · by_cases c' : 0 ≤ y
      · by_cases d : y < H
        · obtain ⟨i1, i2, i3⟩ := idx_lt a b c' d
          rw [Int.mul_comm H W] at i2
          have i4 : y * W + x < n := by omega
          have j6 := (area_bd (by omega : 0 ≤ W) hW (by omega : 0 ≤ H) hH).2
          have v1 : IntKind.i64.wrap (y * W) = y * W := IntWalk.i64_in _ (by omega)
          have v2 : IntKind.i64.wrap (y * W + x) = y * W + x := IntWalk.i64_in _ (by omega)
          obtain ⟨b', off, rfl, hbB, hcell⟩ := ArrB.at_ (hA.to (w' := w.alloc (.cells #[.int .i64 W, .int .i64 H, .slice A n c] 24)) (by (repeat (first | exact Below.refl _ _ | assumption | refine Below.drew ?_ | refine below_drewN ?_ _ | refine Below.alloc ?_ (by first | omega | (simp; done) | (simp; omega)) _ | refine Below.setCell ?_ (by first | omega | (simp; done) | (simp; omega)) _ | refine below_setRow ?_ (by first | omega | (simp; done) | (simp; omega)) _ )))) i1 i4
          by_cases e : p (y * W + x) = 1
          · have hr : inkB W H p x y = true := inkB_iff.2 ⟨a, b, c', d, e⟩
            rw [hr]
            have hb : (p (y * W + x) == 1) = true := by simp [e]
            have E := Lib.hid e; clear e hr
            go_enter Try.func108, Try.ntmps108
            go_wp2
            go_ret
            exact ⟨rfl, by (repeat (first | exact Below.refl _ _ | assumption | refine Below.drew ?_ | refine below_drewN ?_ _ | refine Below.alloc ?_ (by first | omega | (simp; done) | (simp; omega)) _ | refine Below.setCell ?_ (by first | omega | (simp; done) | (simp; omega)) _ | refine below_setRow ?_ (by first | omega | (simp; done) | (simp; omega)) _ ))⟩
          · have hr : inkB W H p x y = false := Bool.eq_false_iff.2 fun h => e (inkB_iff.1 h).2.2.2.2
            rw [hr]
            have hb : (p (y * W + x) == 1) = false := by simp [e]
            have E := Lib.hid e; clear e hr
            go_enter Try.func108, Try.ntmps108
            go_wp2
            go_ret
            exact ⟨rfl, by (repeat (first | exact Below.refl _ _ | assumption | refine Below.drew ?_ | refine below_drewN ?_ _ | refine Below.alloc ?_ (by first | omega | (simp; done) | (simp; omega)) _ | refine Below.setCell ?_ (by first | omega | (simp; done) | (simp; omega)) _ | refine below_setRow ?_ (by first | omega | (simp; done) | (simp; omega)) _ ))⟩
        · have hr : inkB W H p x y = false := Bool.eq_false_iff.2 fun e => d (inkB_iff.1 e).2.2.2.1
          rw [hr]
          go_enter Try.func108, Try.ntmps108
          go_wp2
          go_ret
          exact ⟨rfl, by (repeat (first | exact Below.refl _ _ | assumption | refine Below.drew ?_ | refine below_drewN ?_ _ | refine Below.alloc ?_ (by first | omega | (simp; done) | (simp; omega)) _ | refine Below.setCell ?_ (by first | omega | (simp; done) | (simp; omega)) _ | refine below_setRow ?_ (by first | omega | (simp; done) | (simp; omega)) _ ))⟩
      · have hr : inkB W H p x y = false := Bool.eq_false_iff.2 fun e => c' (inkB_iff.1 e).2.2.1
        rw [hr]
        go_enter Try.func108, Try.ntmps108
        go_wp2
        go_ret
        exact ⟨rfl, by (repeat (first | exact Below.refl _ _ | assumption | refine Below.drew ?_ | refine below_drewN ?_ _ | refine Below.alloc ?_ (by first | omega | (simp; done) | (simp; omega)) _ | refine Below.setCell ?_ (by first | omega | (simp; done) | (simp; omega)) _ | refine below_setRow ?_ (by first | omega | (simp; done) | (simp; omega)) _ ))⟩
    · have hr : inkB W H p x y = false := Bool.eq_false_iff.2 fun e => b (inkB_iff.1 e).2.1
      rw [hr]
      go_enter Try.func108, Try.ntmps108
      go_wp2
      go_ret
      exact ⟨rfl, by (repeat (first | exact Below.refl _ _ | assumption | refine Below.drew ?_ | refine below_drewN ?_ _ | refine Below.alloc ?_ (by first | omega | (simp; done) | (simp; omega)) _ | refine Below.setCell ?_ (by first | omega | (simp; done) | (simp; omega)) _ | refine below_setRow ?_ (by first | omega | (simp; done) | (simp; omega)) _ ))⟩
  · have hr : inkB W H p x y = false := Bool.eq_false_iff.2 fun e => a (inkB_iff.1 e).1
    rw [hr]
    go_enter Try.func108, Try.ntmps108
    go_wp2
    go_ret
    exact ⟨rfl, by (repeat (first | exact Below.refl _ _ | assumption | refine Below.drew ?_ | refine below_drewN ?_ _ | refine Below.alloc ?_ (by first | omega | (simp; done) | (simp; omega)) _ | refine Below.setCell ?_ (by first | omega | (simp; done) | (simp; omega)) _ | refine below_setRow ?_ (by first | omega | (simp; done) | (simp; omega)) _ ))⟩

set_option maxHeartbeats 400000 in
theorem rset_any (W H : Int) (g n c t : Nat) (q : Int → Int) (x y : Int) (w : World) (hA : Blk w g t (u8s n q)) (h1 : 0 ≤ x) (h2 : x < W) (h3 : 0 ≤ y) (h4 : y < H) (hW : W ≤ 640) (hH : H ≤ 640) (hn : (n : Int) = W * H) :
    Calls Try.prog 71 #[.agg #[.int .i64 W, .int .i64 H, .slice (some ⟨g, 0, none⟩) n c], .int .i64 x, .int .i64 y] w fun e w' => e = .returned (.tuple #[]) ∧ Blk w' g t (u8s n (upd q (y * W + x) 1)) ∧ w.grownBy w' (some g) := by
  obtain ⟨i1, i2, i3⟩ := idx_lt h1 h2 h3 h4
  rw [Int.mul_comm H W] at i2
  have i4 : y * W + x < n := by omega
  have j6 := (area_bd (by omega : 0 ≤ W) hW (by omega : 0 ≤ H) hH).2
  have v1 : IntKind.i64.wrap (y * W) = y * W := IntWalk.i64_in _ (by omega)
  have v2 : IntKind.i64.wrap (y * W + x) = y * W + x := IntWalk.i64_in _ (by omega)
  have hr := (hA.alloc (.cells #[.int .i64 W, .int .i64 H, .slice (some ⟨g, 0, none⟩) n c] 24)).u8at i1 i4
  have hf := (hA.alloc (.cells #[.int .i64 W, .int .i64 H, .slice (some ⟨g, 0, none⟩) n c] 24)).frozen (y * W + x).toNat
  have US := Lib.hid ((hA.u8set _ i1 1).alloc (.cells #[.int .i64 W, .int .i64 H, .slice (some ⟨g, 0, none⟩) n c] 24))
  have gl := hA.lt
  go_enter Try.func71, Try.ntmps71
  go_wp2
  go_end0
  refine ⟨rfl, US.out, rfl, rfl, rfl, by simp, fun k hk hne => ?_⟩
  rw [Below.heap_alloc _ _ k (by simpa using hk), heap_setCell_other _ _ _ _ (by intro e; exact hne (by rw [e]))]
end Go.Proofs.Ytdimlpcbbkokiaa

/- Plain lemmas on memory: a list of blocks and of arrays that is kept as one fact. No program in sight. -/
namespace Go.Proofs.Ytdimlpcbbkokiaa
open Go.RowKit
set_option linter.unusedVariables false

/-- these blocks are known whole, and these slices of bytes read ar these functions -/
def Kp (w : World) (bs : List (Nat × TypeId × Array Value)) (ar : List (Option Addr × Nat × (Int → Int))) : Prop :=
  (∀ b ∈ bs, Blk w b.1 b.2.1 b.2.2) ∧ ∀ a ∈ ar, ArrB w w.heap.size a.1 a.2.1 a.2.2
section
variable {w w' : World} {bs : List (Nat × TypeId × Array Value)} {ar : List (Option Addr × Nat × (Int → Int))}
theorem Kp.nil (w : World) : Kp w [] [] := ⟨fun _ h => by simp at h, fun _ h => by simp at h⟩
theorem Kp.below (h : Kp w bs ar) (hb : Below w.heap.size w w') : Kp w' bs ar :=
  ⟨fun b hm => (h.1 b hm).below' hb, fun a hm => (h.2 a hm).to hb⟩
theorem Kp.alloc (h : Kp w bs ar) (o : Obj) : Kp (w.alloc o) bs ar := h.below ((Below.refl _ _).alloc (Nat.le_refl _) _)
theorem Kp.drew (h : Kp w bs ar) : Kp w.drew bs ar := h
theorem Kp.addB (h : Kp w bs ar) {g : Nat} {t : TypeId} {cs : Array Value} (hk : Blk w g t cs) : Kp w ((g, t, cs) :: bs) ar :=
  ⟨fun b hm => by rcases List.mem_cons.1 hm with rfl | hm <;> first | exact hk | exact h.1 b hm, h.2⟩
theorem Kp.addA (h : Kp w bs ar) {A : Option Addr} {n : Nat} {q : Int → Int} (hk : ArrB w w.heap.size A n q) : Kp w bs ((A, n, q) :: ar) :=
  ⟨h.1, fun b hm => by rcases List.mem_cons.1 hm with rfl | hm <;> first | exact hk | exact h.2 b hm⟩
/-- one more block, just made -/
theorem Kp.new (h : Kp w bs ar) (t : TypeId) (cs : Array Value) : Kp (w.alloc (.cells cs t)) ((w.heap.size, t, cs) :: bs) ar := (h.alloc _).addB (Blk.new _ _ _)
theorem Kp.b (h : Kp w bs ar) (i : Nat) {g : Nat} {t : TypeId} {cs : Array Value} (hi : bs[i]? = some (g, t, cs)) : Blk w g t cs := h.1 _ (List.mem_of_getElem? hi)
theorem Kp.a (h : Kp w bs ar) (i : Nat) {A : Option Addr} {n : Nat} {q : Int → Int} (hi : ar[i]? = some (A, n, q)) : ArrB w w.heap.size A n q := h.2 _ (List.mem_of_getElem? hi)
end
/-! ### a box of three cells that is filled -/
def fill3 (w : World) (g : Nat) (a b c : Value) : World := ((w.setCell ⟨g, 0, none⟩ a).setCell ⟨g, 1, none⟩ b).setCell ⟨g, 2, none⟩ c
section
variable {w w' : World} {g : Nat} {t : TypeId} {a b c x y z : Value}
theorem Blk.fill3 (h : Blk w g t #[x, y, z]) : Blk (((w.setCell ⟨g, 0, none⟩ a).setCell ⟨g, 1, none⟩ b).setCell ⟨g, 2, none⟩ c) g t #[a, b, c] := ((h.set_ 0 a).set_ 1 b).set_ 2 c
theorem Blk.far3 {k : Nat} {cs : Array Value} (h : Blk w k t cs) (hk : k ≠ g) : Blk (((w.setCell ⟨g, 0, none⟩ a).setCell ⟨g, 1, none⟩ b).setCell ⟨g, 2, none⟩ c) k t cs := ((h.far hk _).far hk _).far hk _
theorem ArrB.far1 {B n : Nat} {A : Option Addr} {q : Int → Int} (h : ArrB w B A n q) {p : Addr} (hp : ∀ a, A = some a → a.block ≠ p.block) (u : Value) : ArrB (w.setCell p u) B A n q := fun hn => by
  obtain ⟨b, off, e, hb, hc⟩ := h hn
  exact ⟨b, off, e, hb, fun i h0 hi => (World.cell?_of_block (heap_setCell_other w p b u (hp _ e))).trans (hc i h0 hi)⟩
theorem ArrB.far3 {B n : Nat} {A : Option Addr} {q : Int → Int} (h : ArrB w B A n q) (hg : ∀ a, A = some a → a.block ≠ g) : ArrB (((w.setCell ⟨g, 0, none⟩ a).setCell ⟨g, 1, none⟩ b).setCell ⟨g, 2, none⟩ c) B A n q := ((h.far1 (p := ⟨g, 0, none⟩) hg a).far1 (p := ⟨g, 1, none⟩) hg b).far1 (p := ⟨g, 2, none⟩) hg c
theorem fill3_size : (((w.setCell ⟨g, 0, none⟩ a).setCell ⟨g, 1, none⟩ b).setCell ⟨g, 2, none⟩ c).heap.size = w.heap.size := by simp
theorem below_fill3 {B : Nat} {v : World} (h : Below B v w) (hg : B ≤ g) : Below B v (((w.setCell ⟨g, 0, none⟩ a).setCell ⟨g, 1, none⟩ b).setCell ⟨g, 2, none⟩ c) := ((h.setCell hg _).setCell hg _).setCell hg _
end
/-! ### chains: facts carried from world to world by the shape of the world -/
theorem bcell {W W1 : World} (hb : Below W.heap.size W W1) : (∀ b o, b < W.heap.size → W1.cell? ⟨b, o, none⟩ = W.cell? ⟨b, o, none⟩) ∧ (∀ b o, b < W.heap.size → W1.frozen? ⟨b, o, none⟩ = W.frozen? ⟨b, o, none⟩) :=
  ⟨fun b o h => hb.cell (p := ⟨b, o, none⟩) h, fun b o h => hb.frozen (p := ⟨b, o, none⟩) h⟩
theorem ArrB.alloc1 {w : World} {n : Nat} {A : Option Addr} {q : Int → Int} (h : ArrB w w.heap.size A n q) (o : Obj) : ArrB (w.alloc o) (w.alloc o).heap.size A n q := h.to ((Below.refl _ _).alloc (Nat.le_refl _) _)
theorem ArrB.drew1 {w : World} {n : Nat} {A : Option Addr} {q : Int → Int} (h : ArrB w w.heap.size A n q) : ArrB w.drew w.drew.heap.size A n q := h
theorem ArrB.fill1 {w : World} {g n : Nat} {A : Option Addr} {q : Int → Int} {a b c : Value} (h : ArrB w w.heap.size A n q) (hg : ∀ x, A = some x → x.block ≠ g) : ArrB (((w.setCell ⟨g, 0, none⟩ a).setCell ⟨g, 1, none⟩ b).setCell ⟨g, 2, none⟩ c) (((w.setCell ⟨g, 0, none⟩ a).setCell ⟨g, 1, none⟩ b).setCell ⟨g, 2, none⟩ c).heap.size A n q := by
  rw [fill3_size]; exact h.far3 hg
/-! the same with their side conditions first, for the chains -/
section
variable {w w' v : World} {n g B : Nat} {A : Option Addr} {q : Int → Int} {t : TypeId} {cs : Array Value} {a b c : Value}
theorem ArrB.to' (hb : Below w.heap.size w w') (h : ArrB w w.heap.size A n q) : ArrB w' w'.heap.size A n q := h.to hb
theorem ArrB.fill1' (hg : ∀ x, A = some x → x.block ≠ g) (h : ArrB w w.heap.size A n q) : ArrB (((w.setCell ⟨g, 0, none⟩ a).setCell ⟨g, 1, none⟩ b).setCell ⟨g, 2, none⟩ c) (((w.setCell ⟨g, 0, none⟩ a).setCell ⟨g, 1, none⟩ b).setCell ⟨g, 2, none⟩ c).heap.size A n q := h.fill1 hg
theorem ArrB.fillN (h0 : ArrB v v.heap.size A n q) (hv : v.heap.size ≤ g) (h : ArrB w w.heap.size A n q) : ArrB (((w.setCell ⟨g, 0, none⟩ a).setCell ⟨g, 1, none⟩ b).setCell ⟨g, 2, none⟩ c) (((w.setCell ⟨g, 0, none⟩ a).setCell ⟨g, 1, none⟩ b).setCell ⟨g, 2, none⟩ c).heap.size A n q := fun hn => by
  obtain ⟨k, off, rfl, hk, _⟩ := h0 hn
  exact (h.fill1 (fun x e => by cases e; show k ≠ g; omega)) hn
theorem ArrB.fillL {m : Nat} (hge : ∀ x, A = some x → m ≤ x.block) (hm : g < m) (h : ArrB w w.heap.size A n q) : ArrB (((w.setCell ⟨g, 0, none⟩ a).setCell ⟨g, 1, none⟩ b).setCell ⟨g, 2, none⟩ c) (((w.setCell ⟨g, 0, none⟩ a).setCell ⟨g, 1, none⟩ b).setCell ⟨g, 2, none⟩ c).heap.size A n q :=
  h.fill1 fun x e => by have := hge x e; omega
theorem Blk.far3' {k : Nat} (hk : k ≠ g) (h : Blk w k t cs) : Blk (((w.setCell ⟨g, 0, none⟩ a).setCell ⟨g, 1, none⟩ b).setCell ⟨g, 2, none⟩ c) k t cs := h.far3 hk
theorem Blk.below2 (hb : Below w.heap.size w w') (h : Blk w g t cs) : Blk w' g t cs := h.below' hb
theorem below_alloc' {o : Obj} (hB : B ≤ w.heap.size) (h : Below B v w) : Below B v (w.alloc o) := h.alloc hB o
theorem below_fill3' (hg : B ≤ g) (h : Below B v w) : Below B v (((w.setCell ⟨g, 0, none⟩ a).setCell ⟨g, 1, none⟩ b).setCell ⟨g, 2, none⟩ c) := below_fill3 h hg
theorem below_setCell' {p : Addr} {u : Value} (hg : B ≤ p.block) (h : Below B v w) : Below B v (w.setCell p u) := h.setCell hg u
theorem below_call' (hc : Below w.heap.size w w') (hB : B ≤ w.heap.size) (h : Below B v w) : Below B v w' := below_call h hB hc
end
theorem ArrI.fn {w : World} {B n : Nat} {A : Option Addr} {q : Int → Int} (h : ArrI w B A n q) (hn : 0 < n) : ∃ b off, A = some ⟨b, off, none⟩ ∧ b < B ∧ ∀ i : Int, 0 ≤ i → i < n → w.cell? ⟨b, off + i.toNat, none⟩ = some (.int .i64 (q i)) := h hn
theorem ArrB.fn {w : World} {B n : Nat} {A : Option Addr} {q : Int → Int} (h : ArrB w B A n q) (hn : 0 < n) : ∃ b off, A = some ⟨b, off, none⟩ ∧ b < B ∧ ∀ i : Int, 0 ≤ i → i < n → w.cell? ⟨b, off + i.toNat, none⟩ = some (.int .u8 (q i)) := h hn
theorem new_size_lt (w : World) (o : Obj) : w.heap.size < (w.alloc o).heap.size := by simp
end Go.Proofs.Ytdimlpcbbkokiaa

/- Walks: images made of bits; lists of numbers compared. -/
namespace Go.Proofs.Ytdimlpcbbkokiaa
open Go.RowKit
set_option linter.unusedVariables false

theorem and_one_u8 (E : Int) (h0 : 0 ≤ E) (h1 : E ≤ 255) : bits BinOp.and IntKind.u8 E 1 = E % 2 := by
  have h : ∀ k : Fin 256, bits BinOp.and IntKind.u8 (k.val : Int) 1 = (k.val : Int) % 2 := by decide +kernel
  have := h ⟨E.toNat, by omega⟩
  simpa [Int.toNat_of_nonneg h0] using this
/-- the bit i of a list of bytes; 0 behind its end -/
def bitV (r : Int → Int) (i : Int) : Int := r (i / 8) / 2 ^ (i % 8).toNat % 2
def bitQ (n : Nat) (r : Int → Int) : Int → Int := fun i => if i / 8 < n then bitV r i else 0
def bitP (n : Nat) (r : Int → Int) (k : Nat) : Int → Int := fun i => if i < k then bitQ n r i else 0
theorem bitV_01 (r : Int → Int) (i : Int) : 0 ≤ bitV r i ∧ bitV r i ≤ 1 := by unfold bitV; omega
theorem bitQ_01 (n : Nat) (r : Int → Int) (i : Int) : 0 ≤ bitQ n r i ∧ bitQ n r i ≤ 1 := by
  unfold bitQ; split
  · exact bitV_01 r i
  · omega
theorem bitP_yes {n : Nat} {r : Int → Int} {k : Nat} (h : (k : Int) / 8 < n) (i : Int) : upd (bitP n r k) k (bitV r k) i = bitP n r (k + 1) i := by
  unfold upd bitP
  by_cases e : i = k
  · subst e; rw [if_pos rfl, if_pos (by omega)]; unfold bitQ; rw [if_pos h]
  · rw [if_neg e]
    by_cases h2 : i < k
    · rw [if_pos h2, if_pos (by omega)]
    · rw [if_neg h2, if_neg (by omega)]
theorem bitP_no {n : Nat} {r : Int → Int} {k : Nat} (h : ¬ (k : Int) / 8 < n) (i : Int) : bitP n r k i = bitP n r (k + 1) i := by
  unfold bitP
  by_cases e : i = k
  · subst e; rw [if_neg (by omega), if_pos (by omega)]; unfold bitQ; rw [if_neg h]
  · by_cases h2 : i < k
    · rw [if_pos h2, if_pos (by omega)]
    · rw [if_neg h2, if_neg (by omega)]
theorem bitP_end {n : Nat} {r : Int → Int} {k : Nat} {i : Int} (h : i < k) : bitP n r k i = bitQ n r i := by unfold bitP; rw [if_pos h]

set_option maxRecDepth 100000 in
set_option maxHeartbeats 1000000 in
theorem made_any (s W H : Int) (A : Option Addr) (n c : Nat) (r : Int → Int) (w : World) (hA : ArrB w w.heap.size A n r) (hn : n ≤ maxLen) (hr : IsB r) (hs0 : 0 ≤ s) (hs1 : s ≤ 65535) (hW : s % 41 = W) (hH : s / 41 % 31 = H) (N : Nat) (hN : (N : Int) = W * H) :
    Calls Try.prog 24 #[.int .u16 s, .slice A n c] w (New w fun v w' => OutN w w' W H N (bitQ n r) v) := by
  unfold maxLen at hn
  have q1 : 0 ≤ W ∧ W ≤ 40 := by omega
  have q2 : 0 ≤ H ∧ H ≤ 30 := by omega
  obtain ⟨q11, q12⟩ := q1
  obtain ⟨q21, q22⟩ := q2
  obtain ⟨m1, m2⟩ := mul_bd q11 q12 q21 q22
  have hmk := makeB (W * H) m1 (by omega)
  rw [show (W * H).toNat = N by omega] at hmk
  have HN := Lib.hid hN; clear hN
  have u1 : IntKind.u16.wrap (s.tdiv 41) = s / 41 := by rw [Int.tdiv_eq_ediv_of_nonneg hs0]; exact IntWalk.u16_in _ (by omega)
  have u2 : (s / 41).tmod 31 = H := by rw [Int.tmod_eq_emod_of_nonneg (by omega)]; exact hH
  go_enter Try.func24, Try.ntmps24
  go_wp2_with fail
  clear hmk hs0 hs1 u1 u2 hW hH
  go_loopw [26] (fun x wr => ∃ i : Nat, i ≤ N ∧ x = .int .i64 i ∧ Below w.heap.size w wr ∧ Blk wr w.heap.size 24 #[.int .i64 0, .int .i64 0, .slice none 0 0] ∧
    Blk wr (w.heap.size + 1 + 1) 24 #[.int .i64 W, .int .i64 H, .slice (some ⟨w.heap.size + 1, 0, none⟩) N N] ∧ Blk wr (w.heap.size + 1) 5 (u8s N (bitP n r i))) (fun x _ => N - (intOf x).toNat)
  case atStart =>
    exact ⟨0, by omega, rfl, by (repeat (first | exact Below.refl _ _ | assumption | refine Below.drew ?_ | refine below_drewN ?_ _ | refine Below.alloc ?_ (by first | omega | (simp; done) | (simp; omega)) _ | refine Below.setCell ?_ (by first | omega | (simp; done) | (simp; omega)) _ | refine below_setRow ?_ (by first | omega | (simp; done) | (simp; omega)) _ )), ((Blk.new _ _ _).alloc _).alloc _, Blk.new' (by simp) _ _, Blk.u8conv ((Blk.new' (by simp) _ _).alloc _) fun i h0 hi => by unfold bitP; rw [if_neg (by omega)]⟩
  case round =>
    obtain ⟨i, hi, rfl, b1, k1, k2, k3⟩ := hrel
    obtain ⟨p1, p2, p3⟩ := k2.cells3
    by_cases hlt : i < N
    · have hi0 : (0 : Int) ≤ (i : Int) := by omega
      have hin : (i : Int) < (N : Int) := by omega
      have hNb : (N : Int) ≤ 1200 := by rw [HN.out]; omega
      by_cases hb : (i : Int) / 8 < n
      · have d0 : 0 ≤ (i : Int) / 8 := by omega
        have e0 : 0 ≤ (i : Int) % 8 := by omega
        have e1 : (i : Int) % 8 < 8 := by omega
        obtain ⟨bA, off, rfl, hbA, hcell⟩ := ArrB.at_ (ArrB.below hA b1) d0 hb
        have hr1 := hr ((i : Int) / 8)
        obtain ⟨hr2, hr3⟩ := hr1
        have hv : 0 ≤ r ((i : Int) / 8) / 2 ^ ((i : Int) % 8).toNat ∧ r ((i : Int) / 8) / 2 ^ ((i : Int) % 8).toNat ≤ 255 := by
          have h1 : (0 : Int) < 2 ^ ((i : Int) % 8).toNat := Int.pow_pos (by omega)
          exact ⟨Int.ediv_nonneg hr2 (by omega), Int.le_trans (Int.ediv_le_self _ hr2) hr3⟩
        obtain ⟨hv1, hv2⟩ := hv
        have BV : Hid (bits BinOp.and IntKind.u8 (r ((i : Int) / 8) / 2 ^ ((i : Int) % 8).toNat) 1 = bitV r i) := by show _ = _; rw [and_one_u8 _ hv1 hv2]; rfl
        have YS := Lib.hid (fun j => bitP_yes (r := r) hb j)
        have ho := k3.u8at hi0 hin
        have hf := k3.frozen i
        have U := Lib.hid (k3.u8set i hi0 (bitV r i))
        rw [Int.toNat_natCast] at ho
        have bv := BV.out
        have t1 : IntKind.i64.wrap ((i : Int) / 8) = (i : Int) / 8 := IntWalk.i64_in _ (by omega)
        have t2 : (i : Int).tmod 8 = (i : Int) % 8 := Int.tmod_eq_emod_of_nonneg hi0
        have e2 : (i : Int) % 8 ≤ 8 := by omega
        go_wp2_with fail
        go_still_tail 13, (by kernel_rfl)
        change wpList _ _ _ _ _ wr.drew
        clear t1 t2 bv
        go_wp2
        go_roundw
        case rel => exact ⟨i + 1, by omega, by go_num, by (repeat (first | exact Below.refl _ _ | assumption | refine Below.drew ?_ | refine below_drewN ?_ _ | refine Below.alloc ?_ (by first | omega | (simp; done) | (simp; omega)) _ | refine Below.setCell ?_ (by first | omega | (simp; done) | (simp; omega)) _ | refine below_setRow ?_ (by first | omega | (simp; done) | (simp; omega)) _ )), k1.far (by (first | omega | (simp; done) | (simp; omega))) _, k2.far (by (first | omega | (simp; done) | (simp; omega))) _, Blk.u8conv (by simpa using U.out.drew) fun j _ _ => YS.out j⟩
        case measure => simp [intOf]; omega
      · have NS := Lib.hid (fun j => bitP_no (r := r) hb j)
        go_wp2
        go_roundw
        case rel => exact ⟨i + 1, by omega, by go_num, b1, k1, k2, k3.u8conv fun j _ _ => NS.out j⟩
        case measure => simp [intOf]; omega
    · obtain rfl : i = N := by omega
      obtain ⟨s1, s2, s3⟩ := k1.cells3
      obtain ⟨f1, f2, f3⟩ := k1.frozen3
      have z1 := k1.lt
      go_wp2
      refine bodyPost_ret (v := .agg #[.int .i64 W, .int .i64 H, .slice (some ⟨w.heap.size + 1, 0, none⟩) i i]) (by simp [results, Try.results24, go_sem, s1, s2, s3]) rfl ?_
      refine ⟨_, rfl, OutN.mk (w := w) (g := w.heap.size + 1) (by omega) ?_, by (repeat (first | exact Below.refl _ _ | assumption | refine Below.drew ?_ | refine below_drewN ?_ _ | refine Below.alloc ?_ (by first | omega | (simp; done) | (simp; omega)) _ | refine Below.setCell ?_ (by first | omega | (simp; done) | (simp; omega)) _ | refine below_setRow ?_ (by first | omega | (simp; done) | (simp; omega)) _ ))⟩
      exact (((k3.u8conv fun j h0 hj => bitP_end hj).far (by simp) _).far (by simp) _).far (by simp) _

def sameI (n m : Nat) (p q : Int → Int) : Bool := decide (n = m) && allN n fun i => decide (p i = q i)
theorem sameI_iff {n m : Nat} {p q : Int → Int} : sameI n m p q = true ↔ n = m ∧ ∀ i : Int, 0 ≤ i → i < n → p i = q i := by
  simp [sameI, allN_iff]
set_option maxHeartbeats 1000000 in
theorem equalI_any (A B : Option Addr) (n m c d : Nat) (p q : Int → Int) (w : World) (hA : ArrI w w.heap.size A n p) (hB : ArrI w w.heap.size B m q) (hn : n ≤ maxLen) (hm : m ≤ maxLen) :
    Calls Try.prog 18 #[.slice A n c, .slice B m d] w fun e w' => e = .returned (.bool (sameI n m p q)) ∧ ∃ k, w' = w.drewN k := by
  unfold maxLen at hn hm
  by_cases hnm : n = m
  · subst hnm
    have HD : Hid (sameI n n p q = allN n fun i => decide (p i = q i)) := by show _ = _; simp [sameI]
    go_enter Try.func18, Try.ntmps18
    go_wp2_with fail
    go_loopw [13] (fun s wr => ∃ i : Nat, i ≤ n ∧ s = .int .i64 i ∧ (∃ k, wr = w.drewN k) ∧ ∀ j : Int, 0 ≤ j → j < i → p j = q j) (fun s _ => n - (intOf s).toNat)
    case atStart => exact ⟨0, by omega, rfl, ⟨0, rfl⟩, fun j a b => by omega⟩
    case round =>
      obtain ⟨i, hi, rfl, ⟨k, rfl⟩, hall⟩ := hrel
      have HALL := Lib.hid hall; clear hall
      by_cases hlt : i < n
      · have hi0 : (0 : Int) ≤ (i : Int) := by omega
        have hin : (i : Int) < (n : Int) := by omega
        obtain ⟨ba, oa, rfl, hba, hca⟩ := ArrI.at_ hA hi0 hin
        obtain ⟨bb, ob, rfl, hbb, hcb⟩ := ArrI.at_ hB hi0 hin
        rw [Int.toNat_natCast] at hca hcb
        by_cases e : p i = q i
        · have hb : (p i != q i) = false := by simp [e]
          have E := Lib.hid e; clear e
          go_wp2_with fail
          go_quiet (fail)
          go_wp2
          go_roundw
          case rel => exact ⟨i + 1, by omega, by go_num, ⟨_, rfl⟩, fun j a b => if e : j = i then by rw [e, E.out] else HALL.out j a (by omega)⟩
          case measure => simp [intOf]; omega
        · have hb : (p i != q i) = true := by simp [e]
          have hr : Hid (sameI n n p q = false) := by
            show _ = _
            exact Bool.eq_false_iff.2 fun h => e ((sameI_iff.1 h).2 i hi0 hin)
          have E := Lib.hid e; clear e
          go_wp2_with fail
          go_quiet (fail)
          go_wp2
          go_ret
          exact ⟨ret_bool hr.out.symm, _, World.drewN_drewN _ _ _⟩
      · obtain rfl : i = n := by omega
        have hr : Hid (sameI i i p q = true) := by show _ = _; exact sameI_iff.2 ⟨rfl, HALL.out⟩
        go_wp2
        go_ret
        exact ⟨ret_bool hr.out.symm, _, rfl⟩
  · have hr : Hid (sameI n m p q = false) := by show _ = _; simp [sameI, hnm]
    have hb : ((n : Int) != (m : Int)) = true := by simp; omega
    have HN := Lib.hid hnm; clear hnm
    go_enter Try.func18, Try.ntmps18
    go_wp2
    go_ret
    exact ⟨ret_bool hr.out.symm, 0, rfl⟩
end Go.Proofs.Ytdimlpcbbkokiaa

/- Walks of package stave and of its reference: paths and their costs. -/
namespace Go.Proofs.Ytdimlpcbbkokiaa
open Go.RowKit
set_option linter.unusedVariables false

/-- a place of a path is right -/
def stepB (H : Int) (q : Int → Int) (x : Int) : Bool := decide (0 ≤ q x) && (decide (q x < H) && (decide (x ≤ 0) || (decide (q (x - 1) - 1 ≤ q x) && decide (q x ≤ q (x - 1) + 1))))
theorem stepB_iff {H : Int} {q : Int → Int} {x : Int} : stepB H q x = true ↔ 0 ≤ q x ∧ q x < H ∧ (x ≤ 0 ∨ (q (x - 1) - 1 ≤ q x ∧ q x ≤ q (x - 1) + 1)) := by simp [stepB]
def isPathB (W H : Int) (m : Nat) (q : Int → Int) : Bool := decide (1 ≤ W ∧ 1 ≤ H ∧ (m : Int) = W) && allN m (stepB H q)
theorem isPathB_iff {W H : Int} {m : Nat} {q : Int → Int} : isPathB W H m q = true ↔ (1 ≤ W ∧ 1 ≤ H ∧ (m : Int) = W) ∧ ∀ i : Int, 0 ≤ i → i < m → stepB H q i = true := by
  unfold isPathB; rw [Bool.and_eq_true, allN_iff, decide_eq_true_iff]
/-- the cost of a pixel -/
def cst (p : Int → Int) (W : Int) : Int → Int → Int := fun x y => if p (y * W + x) = 1 then 0 else 2
theorem cst_bd (p : Int → Int) (W : Int) (x y : Int) : 0 ≤ cst p W x y ∧ cst p W x y ≤ 2 := by unfold cst; split <;> omega
theorem costP_bd {c : Int → Int → Int} (hc : ∀ x y, 0 ≤ c x y ∧ c x y ≤ 2) (l : Int → Int) (x : Nat) : 0 ≤ costP c l x ∧ costP c l x ≤ 3 * x := by
  induction x with
  | zero => simp [costP]
  | succ x ih => rw [costP]; have := hc x (l x); split <;> omega

set_option maxHeartbeats 1000000 in
theorem isPath_any (W H : Int) (A P : Option Addr) (n c m d : Nat) (q : Int → Int) (w : World) (hW : W ≤ 640) (hH : H ≤ 640) (hP : ArrI w w.heap.size P m q) (hm : m ≤ maxLen) :
    Calls Try.prog 59 #[.agg #[.int .i64 W, .int .i64 H, .slice A n c], .slice P m d] w fun e w' => e = .returned (.bool (isPathB W H m q)) ∧ Below w.heap.size w w' := by
  unfold maxLen at hm
  by_cases h1 : W < 1
  · have hr : isPathB W H m q = false := Bool.eq_false_iff.2 fun h => by have := (isPathB_iff.1 h).1; omega
    rw [hr]
    go_enter Try.func59, Try.ntmps59
    go_wp2
    go_ret
    exact ⟨rfl, by (repeat (first | exact Below.refl _ _ | assumption | refine Below.drew ?_ | refine below_drewN ?_ _ | refine Below.alloc ?_ (by first | omega | (simp; done) | (simp; omega)) _ | refine Below.setCell ?_ (by first | omega | (simp; done) | (simp; omega)) _ | refine below_setRow ?_ (by first | omega | (simp; done) | (simp; omega)) _ ))⟩
  by_cases h2 : H < 1
  · have hr : isPathB W H m q = false := Bool.eq_false_iff.2 fun h => by have := (isPathB_iff.1 h).1; omega
    rw [hr]
    go_enter Try.func59, Try.ntmps59
    go_wp2
    go_ret
    exact ⟨rfl, by (repeat (first | exact Below.refl _ _ | assumption | refine Below.drew ?_ | refine below_drewN ?_ _ | refine Below.alloc ?_ (by first | omega | (simp; done) | (simp; omega)) _ | refine Below.setCell ?_ (by first | omega | (simp; done) | (simp; omega)) _ | refine below_setRow ?_ (by first | omega | (simp; done) | (simp; omega)) _ ))⟩
  by_cases h3 : (m : Int) = W
  · have hb : ((m : Int) != W) = false := by simp [h3]
    have H3 := Lib.hid h3; clear h3
    have g1 : 1 ≤ W := by omega
    have g2 : 1 ≤ H := by omega
    clear h1 h2
    go_enter Try.func59, Try.ntmps59
    go_wp2_with fail
    go_loop [24] (fun s => ∃ i : Nat, i ≤ m ∧ s = .int .i64 i ∧ ∀ j : Int, 0 ≤ j → j < i → stepB H q j = true) (fun s => m - (intOf s).toNat)
    case atStart => exact ⟨0, by omega, rfl, fun j a b => by omega⟩
    case round =>
      obtain ⟨i, hi, rfl, hall⟩ := hrel
      have HALL := Lib.hid hall; clear hall
      by_cases hlt : i < m
      · obtain ⟨bP, off, rfl, hbP, hcell⟩ := hP.fn (by omega)
        have c1 := hcell i (by omega) (by omega)
        rw [Int.toNat_natCast] at c1
        have HC := Lib.hid hcell; clear hcell
        have hin : (i : Int) < (m : Int) := by omega
        have hi0 : (0 : Int) ≤ (i : Int) := by omega
        cases hs : stepB H q i
        · have hr : Hid (isPathB W H m q = false) := by
            show _ = _
            exact Bool.eq_false_iff.2 fun h => by have := (isPathB_iff.1 h).2 i hi0 hin; rw [hs] at this; cases this
          have hs' : ¬ (0 ≤ q i ∧ q i < H ∧ ((i : Int) ≤ 0 ∨ (q (i - 1) - 1 ≤ q i ∧ q i ≤ q (i - 1) + 1))) := fun h => by rw [stepB_iff.2 h] at hs; cases hs
          clear hs
          by_cases a1 : q i < 0
          · clear hs'
            generalize q i = y at *
            go_wp2
            go_ret
            exact ⟨ret_bool hr.out.symm, by (repeat (first | exact Below.refl _ _ | assumption | refine Below.drew ?_ | refine below_drewN ?_ _ | refine Below.alloc ?_ (by first | omega | (simp; done) | (simp; omega)) _ | refine Below.setCell ?_ (by first | omega | (simp; done) | (simp; omega)) _ | refine below_setRow ?_ (by first | omega | (simp; done) | (simp; omega)) _ ))⟩
          by_cases a2 : H ≤ q i
          · clear hs'
            generalize q i = y at *
            go_wp2
            go_ret
            exact ⟨ret_bool hr.out.symm, by (repeat (first | exact Below.refl _ _ | assumption | refine Below.drew ?_ | refine below_drewN ?_ _ | refine Below.alloc ?_ (by first | omega | (simp; done) | (simp; omega)) _ | refine Below.setCell ?_ (by first | omega | (simp; done) | (simp; omega)) _ | refine below_setRow ?_ (by first | omega | (simp; done) | (simp; omega)) _ ))⟩
          have a3 : (0 : Int) < i := by omega
          have c2 := HC.out ((i : Int) - 1) (by omega) (by omega)
          rw [show ((i : Int) - 1).toNat = i - 1 by omega] at c2
          have hq := stepB_iff.1 (HALL.out ((i : Int) - 1) (by omega) (by omega))
          obtain ⟨hq1, hq2, -⟩ := hq
          generalize q i = y at *
          generalize q ((i : Int) - 1) = z at *
          by_cases a4 : y < z - 1
          · clear hs'
            go_wp2
            go_ret
            exact ⟨ret_bool hr.out.symm, by (repeat (first | exact Below.refl _ _ | assumption | refine Below.drew ?_ | refine below_drewN ?_ _ | refine Below.alloc ?_ (by first | omega | (simp; done) | (simp; omega)) _ | refine Below.setCell ?_ (by first | omega | (simp; done) | (simp; omega)) _ | refine below_setRow ?_ (by first | omega | (simp; done) | (simp; omega)) _ ))⟩
          · have a5 : z + 1 < y := by omega
            clear hs'
            go_wp2
            go_ret
            exact ⟨ret_bool hr.out.symm, by (repeat (first | exact Below.refl _ _ | assumption | refine Below.drew ?_ | refine below_drewN ?_ _ | refine Below.alloc ?_ (by first | omega | (simp; done) | (simp; omega)) _ | refine Below.setCell ?_ (by first | omega | (simp; done) | (simp; omega)) _ | refine below_setRow ?_ (by first | omega | (simp; done) | (simp; omega)) _ ))⟩
        · obtain ⟨e1, e2, e3⟩ := stepB_iff.1 hs
          have HS := Lib.hid hs; clear hs
          by_cases hz : (i : Int) ≤ 0
          · clear e3
            generalize hy : q i = y at *
            clear hy
            go_wp2
            go_round
            case rel => exact ⟨i + 1, by omega, by go_num, fun j a b => if e : j = i then e ▸ HS.out else HALL.out j a (by omega)⟩
            case measure => simp [intOf]; omega
          · have e4 := e3.resolve_left hz
            obtain ⟨e5, e6⟩ := e4
            have c2 := HC.out ((i : Int) - 1) (by omega) (by omega)
            rw [show ((i : Int) - 1).toNat = i - 1 by omega] at c2
            have hq := stepB_iff.1 (HALL.out ((i : Int) - 1) (by omega) (by omega))
            obtain ⟨hq1, hq2, -⟩ := hq
            clear e3
            generalize hy : q i = y at *
            generalize hz2 : q ((i : Int) - 1) = z at *
            clear hy hz2
            go_wp2
            go_round
            case rel => exact ⟨i + 1, by omega, by go_num, fun j a b => if e : j = i then e ▸ HS.out else HALL.out j a (by omega)⟩
            case measure => simp [intOf]; omega
      · obtain rfl : i = m := by omega
        have hr : Hid (isPathB W H i q = true) := by show _ = _; exact isPathB_iff.2 ⟨⟨g1, g2, H3.out⟩, HALL.out⟩
        go_wp2
        go_ret
        exact ⟨ret_bool hr.out.symm, by (repeat (first | exact Below.refl _ _ | assumption | refine Below.drew ?_ | refine below_drewN ?_ _ | refine Below.alloc ?_ (by first | omega | (simp; done) | (simp; omega)) _ | refine Below.setCell ?_ (by first | omega | (simp; done) | (simp; omega)) _ | refine below_setRow ?_ (by first | omega | (simp; done) | (simp; omega)) _ ))⟩
  · have hr : isPathB W H m q = false := Bool.eq_false_iff.2 fun h => by have := (isPathB_iff.1 h).1; omega
    have hb : ((m : Int) != W) = true := by simp [h3]
    have H3 := Lib.hid h3; clear h3
    rw [hr]
    go_enter Try.func59, Try.ntmps59
    go_wp2
    go_ret
    exact ⟨rfl, by (repeat (first | exact Below.refl _ _ | assumption | refine Below.drew ?_ | refine below_drewN ?_ _ | refine Below.alloc ?_ (by first | omega | (simp; done) | (simp; omega)) _ | refine Below.setCell ?_ (by first | omega | (simp; done) | (simp; omega)) _ | refine below_setRow ?_ (by first | omega | (simp; done) | (simp; omega)) _ ))⟩

set_option maxHeartbeats 1000000 in
theorem paper_any (W H : Int) (A : Option Addr) (n c : Nat) (p : Int → Int) (x y : Int) (w : World) (hA : ArrB w w.heap.size A n p) (hB : IsB p) (hE : chk W H n p = 0) (x0 : 0 ≤ x) (x1 : x < W) (y0 : 0 ≤ y) (y1 : y < H) :
    Calls Try.prog 60 #[.agg #[.int .i64 W, .int .i64 H, .slice A n c], .int .i64 x, .int .i64 y] w fun e w' => e = .returned (.int .i64 (cst p W x y)) ∧ Below w.heap.size w w' := by
  obtain ⟨hW1, hW2, hH1, hH2, hnn, hpx⟩ := chk_ok hE
  obtain ⟨i1, i2, i3⟩ := idx_lt x0 x1 y0 y1
  rw [Int.mul_comm H W] at i2
  have i4 : y * W + x < n := by omega
  have j6 := (area_bd hW1 hW2 hH1 hH2).2
  have v1 : IntKind.i64.wrap (y * W) = y * W := IntWalk.i64_in _ (by omega)
  have v2 : IntKind.i64.wrap (y * W + x) = y * W + x := IntWalk.i64_in _ (by omega)
  obtain ⟨b', off, rfl, hbB, hcell⟩ := ArrB.at_ (hA.to (w' := w.alloc (.cells #[.int .i64 W, .int .i64 H, .slice A n c] 24)) (by (repeat (first | exact Below.refl _ _ | assumption | refine Below.drew ?_ | refine below_drewN ?_ _ | refine Below.alloc ?_ (by first | omega | (simp; done) | (simp; omega)) _ | refine Below.setCell ?_ (by first | omega | (simp; done) | (simp; omega)) _ | refine below_setRow ?_ (by first | omega | (simp; done) | (simp; omega)) _ )))) i1 i4
  have hq := hB (y * W + x)
  have hq2 := hpx _ i1 i4
  clear hpx hE hnn
  by_cases e : p (y * W + x) = 1
  · have hr : cst p W x y = 0 := by unfold cst; rw [if_pos e]
    rw [e] at hcell
    rw [hr]
    have E := Lib.hid e; clear e hr hq hq2
    go_enter Try.func60, Try.ntmps60
    go_wp2
    go_ret
    exact ⟨rfl, by (repeat (first | exact Below.refl _ _ | assumption | refine Below.drew ?_ | refine below_drewN ?_ _ | refine Below.alloc ?_ (by first | omega | (simp; done) | (simp; omega)) _ | refine Below.setCell ?_ (by first | omega | (simp; done) | (simp; omega)) _ | refine below_setRow ?_ (by first | omega | (simp; done) | (simp; omega)) _ ))⟩
  · have hr : cst p W x y = 2 := by unfold cst; rw [if_neg e]
    rw [show p (y * W + x) = 0 by omega] at hcell
    rw [hr]
    have E := Lib.hid e; clear e hr hq hq2
    go_enter Try.func60, Try.ntmps60
    go_wp2
    go_ret
    exact ⟨rfl, by (repeat (first | exact Below.refl _ _ | assumption | refine Below.drew ?_ | refine below_drewN ?_ _ | refine Below.alloc ?_ (by first | omega | (simp; done) | (simp; omega)) _ | refine Below.setCell ?_ (by first | omega | (simp; done) | (simp; omega)) _ | refine below_setRow ?_ (by first | omega | (simp; done) | (simp; omega)) _ ))⟩

/-- the error of a cost, and the cost -/
def costE (W H : Int) (n : Nat) (p : Int → Int) (m : Nat) (q : Int → Int) : Int := if chk W H n p ≠ 0 then chk W H n p else if isPathB W H m q then 0 else 1
def costV (W H : Int) (n : Nat) (p : Int → Int) (m : Nat) (q : Int → Int) : Int := if costE W H n p m q = 0 then costP (cst p W) q m else 0
theorem costE_ok {W H : Int} {n : Nat} {p : Int → Int} {m : Nat} {q : Int → Int} (h : costE W H n p m q = 0) : chk W H n p = 0 ∧ isPathB W H m q = true := by
  unfold costE at h
  by_cases a : chk W H n p = 0
  · rw [if_neg (by simp [a])] at h
    cases b : isPathB W H m q
    · rw [b] at h; simp at h
    · exact ⟨a, rfl⟩
  · rw [if_pos a] at h; exact absurd h a

set_option maxHeartbeats 1000000 in
theorem cost_ok (W H : Int) (A P : Option Addr) (n c m d : Nat) (p q : Int → Int) (w : World) (hA : ArrB w w.heap.size A n p) (hn : n ≤ maxLen) (hB : IsB p) (hP : ArrI w w.heap.size P m q) (hE : chk W H n p = 0) (hI : isPathB W H m q = true) :
    Calls Try.prog 16 #[.agg #[.int .i64 W, .int .i64 H, .slice A n c], .slice P m d] w fun e w' => e = .returned (.tuple #[.int .i64 (costP (cst p W) q m), .int .i64 0]) ∧ Below w.heap.size w w' := by
  have CK := Lib.hid fun w' hA' => check_any W H A n c p w' hA' hn
  rw [hE] at CK
  obtain ⟨⟨g1, g2, g3⟩, g4⟩ := isPathB_iff.1 hI
  obtain ⟨hW1, hW2, hH1, hH2, hnn, hpx⟩ := chk_ok hE
  have PA := Lib.hid fun x y w' hA' x0 x1 y0 y1 => paper_any W H A n c p x y w' hA' hB hE x0 x1 y0 y1
  have hm : m ≤ maxLen := by unfold maxLen; omega
  have IP := Lib.hid fun w' hP' => isPath_any W H A P n c m d q w' hW2 hH2 hP' hm
  rw [hI] at IP
  have G4 := Lib.hid g4; clear g4
  have G3 := Lib.hid g3; clear g3
  have CB := Lib.hid fun x => costP_bd (cst_bd p W) q x
  have CS : Hid (∀ x : Nat, costP (cst p W) q (x + 1) = costP (cst p W) q x + cst p W x (q x) + if 0 < x ∧ q x ≠ q ((x : Int) - 1) then 1 else 0) := by
    show ∀ _, _
    intro x; rfl
  have KB := Lib.hid (cst_bd p W)
  clear hE hI hnn hpx hm
  go_enter Try.func16, Try.ntmps16
  go_wp2_with fail
  refine (CK.out _ (hA.to (by (repeat (first | exact Below.refl _ _ | assumption | refine Below.drew ?_ | refine below_drewN ?_ _ | refine Below.alloc ?_ (by first | omega | (simp; done) | (simp; omega)) _ | refine Below.setCell ?_ (by first | omega | (simp; done) | (simp; omega)) _ | refine below_setRow ?_ (by first | omega | (simp; done) | (simp; omega)) _ ))))).mono ?_
  rintro e w1 ⟨rfl, hb1⟩
  have b1 : Below w.heap.size w w1 := below_call (by (repeat (first | exact Below.refl _ _ | assumption | refine Below.drew ?_ | refine below_drewN ?_ _ | refine Below.alloc ?_ (by first | omega | (simp; done) | (simp; omega)) _ | refine Below.setCell ?_ (by first | omega | (simp; done) | (simp; omega)) _ | refine below_setRow ?_ (by first | omega | (simp; done) | (simp; omega)) _ ))) (by simp; try omega) hb1
  have k1 : Blk w1 w.heap.size 24 #[.int .i64 W, .int .i64 H, .slice A n c] := (Blk.new _ _ _).below' hb1
  clear hb1 CK
  obtain ⟨p1, p2, p3⟩ := k1.cells3
  go_wp2_with fail
  refine (IP.out _ (hP.to b1)).mono ?_
  rintro e w2 ⟨rfl, hb2⟩
  have b2 := below_call b1 b1.size hb2
  have k2 := k1.below' hb2
  clear b1 k1 hb2 p1 p2 p3 IP
  go_wp2_with fail
  go_loopw [7, 21] (fun v s wr => ∃ i : Nat, i ≤ m ∧ s = .int .i64 i ∧ v = .int .i64 (costP (cst p W) q i) ∧ Below w.heap.size w wr ∧ Blk wr w.heap.size 24 #[.int .i64 W, .int .i64 H, .slice A n c]) (fun _ s _ => m - (intOf s).toNat)
  case atStart => exact ⟨0, by omega, rfl, rfl, b2, k2⟩
  case round =>
    obtain ⟨i, hi, rfl, rfl, b3, k3⟩ := hrel
    clear b2 k2
    obtain ⟨p1, p2, p3⟩ := k3.cells3
    obtain ⟨cb1, cb2⟩ := CB.out i
    by_cases hlt : i < m
    · have hmW : (m : Int) ≤ 640 := by have := G3.out; omega
      have hin : (i : Int) < (m : Int) := by omega
      have hi0 : (0 : Int) ≤ (i : Int) := by omega
      obtain ⟨s1, s2, s3⟩ := stepB_iff.1 (G4.out i hi0 hin)
      have hP3 := ArrI.below hP b3
      have PX := Lib.hid fun w' hA' => PA.out i (q i) w' hA' hi0 (by have := G3.out; omega) s1 s2
      obtain ⟨kb1, kb2⟩ := KB.out i (q i)
      have CSi := Lib.hid (CS.out i)
      obtain ⟨bP, off, rfl, hbP, hcell⟩ := hP3.fn (by omega)
      have c1 := hcell i hi0 hin
      rw [Int.toNat_natCast] at c1
      have HC := Lib.hid hcell; clear hcell s3
      have hP4 := Lib.hid hP
      generalize cst p W i (q i) = ci at *
      generalize costP (cst p W) q i = S at *
      go_wp2_with fail
      refine (PX.out _ ((ArrB.below hA b3).more b3.size)).mono ?_
      rintro e w4 ⟨rfl, hb4⟩
      have b4 := below_call b3 b3.size hb4
      have k4 := k3.below' hb4
      have c3 := (hb4.cell (p := ⟨bP, off + i, none⟩) (by show bP < _; have := b3.size; omega)).trans c1
      clear c1
      by_cases hz : (i : Int) ≤ 0
      · have hz' : ¬ (0 < i ∧ q i ≠ q ((i : Int) - 1)) := by omega
        rw [if_neg hz'] at CSi
        clear hz' p1 p2 p3 k3 b3
        go_wp2
        go_roundw
        case rel => exact ⟨i + 1, by omega, by go_num, (by rw [CSi.out] <;> first | done | go_num), b4, k4⟩
        case measure => simp [intOf]; omega
      · have c2 := HC.out ((i : Int) - 1) (by omega) (by omega)
        rw [show ((i : Int) - 1).toNat = i - 1 by omega] at c2
        have c4 := (hb4.cell (p := ⟨bP, off + (i - 1), none⟩) (by show bP < _; have := b3.size; omega)).trans c2
        clear c2 p1 p2 p3 k3 b3
        by_cases he : q i = q ((i : Int) - 1)
        · rw [if_neg (by simp [he])] at CSi
          have hbb : (q i != q ((i : Int) - 1)) = false := by simp [he]
          have HE := Lib.hid he; clear he
          go_wp2
          go_roundw
          case rel => exact ⟨i + 1, by omega, by go_num, (by rw [CSi.out] <;> first | done | go_num), b4, k4⟩
          case measure => simp [intOf]; omega
        · rw [if_pos ⟨by omega, he⟩] at CSi
          have hbb : (q i != q ((i : Int) - 1)) = true := by simp [he]
          have HE := Lib.hid he; clear he
          go_wp2
          go_roundw
          case rel => exact ⟨i + 1, by omega, by go_num, (by rw [CSi.out] <;> first | done | go_num), b4, k4⟩
          case measure => simp [intOf]; omega
    · obtain rfl : i = m := by omega
      go_wp2
      go_ret2
      exact ⟨rfl, b3⟩
end Go.Proofs.Ytdimlpcbbkokiaa

/- Walk: the rows next to a row, from above. -/
namespace Go.Proofs.Ytdimlpcbbkokiaa
open Go.RowKit Go.Shelf
set_option linter.unusedVariables false
attribute [local go_sem] Oper.semAt_some

/-- a row of an image of height h -/
abbrev RowIn (h : Int) := { t : Int // 0 ≤ t ∧ t < h }
/-- the first i of the rows next to y -/
def nbT (y : Int) (i : Nat) : List Int := (List.range i).map fun j => nxLo y + (j : Nat)
theorem nbT_snoc (y : Int) (i : Nat) : nbT y (i + 1) = nbT y i ++ [nxLo y + i] := by simp [nbT, List.range_succ]
theorem nbT_len (y : Int) (i : Nat) : (nbT y i).length = i := by simp [nbT]
/-- these two blocks are as they were -/
def KpB (a b : Nat) (W W' : World) : Prop := W'.heap[a]? = W.heap[a]? ∧ W'.heap[b]? = W.heap[b]?
theorem KpB.trans {a b : Nat} {A B C : World} (h : KpB a b A B) (k : KpB a b B C) : KpB a b A C := ⟨k.1.trans h.1, k.2.trans h.2⟩
theorem Blk.at0 {w : World} {g t : Nat} {v : Value} (h : Blk w g t #[v]) : w.cell? ⟨g, 0, none⟩ = some v := by rw [h.cell]; rfl

set_option maxHeartbeats 2000000 in
theorem next_stops (F : Fence) (n : Nat) (h6 : F.fn 121) (hro : F.round = none) (hn : 1 ≤ n) (y h : Int) (By Bh : Nat) (w : World) (ky : Blk w By 3 #[.int .i64 y]) (kh : Blk w Bh 3 #[.int .i64 h]) (y0 : 0 ≤ y) (y1 : y < h) (h1 : h ≤ 640) :
    SeqStopsK F n Try.prog 121 #[.pointer (some ⟨By, 0, none⟩), .pointer (some ⟨Bh, 0, none⟩)] (fun v : RowIn h => #[Value.int .i64 v.1]) (KpB By Bh) (fun xs => xs.map Subtype.val = nbT y (nxN h y)) (fun xs => ∃ j, j ≤ nxN h y ∧ xs.map Subtype.val = nbT y j) 4 w := fun l J Jx W hW _ _ hY h0 => by
  refine callsIn_of_wp Try.func121 rfl h6 ?_ hro
  simp only [Try.ntmps121, List.size_toArray, List.length_cons, List.length_nil, Nat.reduceAdd, Nat.reduceSub, Array.replicate_succ, Array.replicate_zero, List.push_toArray, List.append_toArray, List.nil_append, List.cons_append]
  have HY := Lib.hid hY; clear hY
  have ky1 := (ky.below' hW).at0
  have kh1 := (kh.below' hW).at0
  have NI := Lib.hid (fun i => nx_in y0 y1 i)
  have n3 : nxN h y ≤ 3 := by
    have := mt (nx_in y0 y1 3).1 (by unfold nxLo; split <;> omega)
    omega
  have lo1 : 0 ≤ nxLo y ∧ nxLo y ≤ y := by unfold nxLo; split <;> omega
  obtain ⟨lo1, lo2⟩ := lo1
  by_cases hm : 0 ≤ y - 1
  · have LS : Hid (nxLo y = y - 1) := by show _ = _; unfold nxLo; rw [if_neg (by omega)]
    by_cases hp : y + 1 ≤ h - 1
    · gi_wp2_with (refine wpListIn_skip rfl rfl ?_; simp only [Act.put, List.setIfInBounds_toArray, List.set_cons_succ, List.set_cons_zero])
      gi_loopw [4] (fun s wr => ∃ (i : Nat) (pre : List (RowIn h)), i ≤ nxN h y ∧ s = .int .i64 (nxLo y + i) ∧ pre.map Subtype.val = nbT y i ∧ J pre wr ∧ Blk wr By 3 #[.int .i64 y] ∧ Blk wr Bh 3 #[.int .i64 h]) (fun s _ => (nxLo y + nxN h y - intOf s).toNat)
      case atStart => exact ⟨0, [], by omega, (by rw [LS.out]; simp), rfl, h0, ky.below' hW, kh.below' hW⟩
      case round =>
        obtain ⟨i, pre, hi, rfl, hpre, hJ, byr, bhr⟩ := hrel
        have PL : pre.length = i := by have := congrArg List.length hpre; rw [List.length_map, nbT_len] at this; exact this
        have HPL := Lib.hid PL; have HPRE := Lib.hid hpre; clear PL hpre
        clear ky1 kh1
        have ky1 := byr.at0
        have kh1 := bhr.at0
        by_cases hlt : i < nxN h y
        · obtain ⟨t1, t2⟩ := (NI.out i).1 hlt
          have HL := Lib.hid hlt
          obtain ⟨f1, g1, a1, c1, hy1, hR1⟩ := HY.out pre ⟨nxLo y + i, by omega, t1⟩ wr hJ (by have := HPL.out; omega)
          gi_wp2_with (refine wpListIn_skip rfl rfl ?_; simp only [Act.put, List.setIfInBounds_toArray, List.set_cons_succ, List.set_cons_zero])
          refine hR1.mono ?_
          rintro e W1 (⟨rfl, hJ1, hk⟩ | ⟨rfl, hx1⟩)
          · gi_wp2_with (refine wpListIn_skip rfl rfl ?_; simp only [Act.put, List.setIfInBounds_toArray, List.set_cons_succ, List.set_cons_zero])
            go_roundw
            case rel => exact ⟨i + 1, pre ++ [⟨nxLo y + i, by omega, t1⟩], by omega, by go_num, (by rw [List.map_append, HPRE.out, nbT_snoc]; rfl), hJ1, byr.move hk.1, bhr.move hk.2⟩
            case measure => simp [intOf]; omega
          · gi_wp2_with (refine wpListIn_skip rfl rfl ?_; simp only [Act.put, List.setIfInBounds_toArray, List.set_cons_succ, List.set_cons_zero])
            refine bodyPost_ret (results_none rfl _ _ _) rfl ?_
            exact ⟨⟨_, rfl⟩, .inr ⟨_, ⟨i + 1, by have := HL.out; omega, (by rw [List.map_append, HPRE.out, nbT_snoc]; rfl)⟩, hx1⟩⟩
        · have t3 : ¬ (nxLo y + i < h ∧ nxLo y + i ≤ y + 1) := fun hh => hlt ((NI.out i).2 hh)
          have t4 : h ≤ nxLo y + i ∨ y + 1 < nxLo y + i := by omega
          have ei : i = nxN h y := by omega
          have EI := Lib.hid ei; clear ei t3 hlt
          have t5 : y + 1 < nxLo y + i := by omega
          clear t4
          gi_wp2_with (refine wpListIn_skip rfl rfl ?_; simp only [Act.put, List.setIfInBounds_toArray, List.set_cons_succ, List.set_cons_zero])
          go_end0
          exact ⟨⟨_, rfl⟩, .inl ⟨pre, by rw [← EI.out]; exact HPRE.out, hJ⟩⟩
    · have hp' : h - 1 < y + 1 := by omega
      clear hp
      gi_wp2_with (refine wpListIn_skip rfl rfl ?_; simp only [Act.put, List.setIfInBounds_toArray, List.set_cons_succ, List.set_cons_zero])
      gi_loopw [4] (fun s wr => ∃ (i : Nat) (pre : List (RowIn h)), i ≤ nxN h y ∧ s = .int .i64 (nxLo y + i) ∧ pre.map Subtype.val = nbT y i ∧ J pre wr ∧ Blk wr By 3 #[.int .i64 y] ∧ Blk wr Bh 3 #[.int .i64 h]) (fun s _ => (nxLo y + nxN h y - intOf s).toNat)
      case atStart => exact ⟨0, [], by omega, (by rw [LS.out]; simp), rfl, h0, ky.below' hW, kh.below' hW⟩
      case round =>
        obtain ⟨i, pre, hi, rfl, hpre, hJ, byr, bhr⟩ := hrel
        have PL : pre.length = i := by have := congrArg List.length hpre; rw [List.length_map, nbT_len] at this; exact this
        have HPL := Lib.hid PL; have HPRE := Lib.hid hpre; clear PL hpre
        clear ky1 kh1
        have ky1 := byr.at0
        have kh1 := bhr.at0
        by_cases hlt : i < nxN h y
        · obtain ⟨t1, t2⟩ := (NI.out i).1 hlt
          have HL := Lib.hid hlt
          obtain ⟨f1, g1, a1, c1, hy1, hR1⟩ := HY.out pre ⟨nxLo y + i, by omega, t1⟩ wr hJ (by have := HPL.out; omega)
          gi_wp2_with (refine wpListIn_skip rfl rfl ?_; simp only [Act.put, List.setIfInBounds_toArray, List.set_cons_succ, List.set_cons_zero])
          refine hR1.mono ?_
          rintro e W1 (⟨rfl, hJ1, hk⟩ | ⟨rfl, hx1⟩)
          · gi_wp2_with (refine wpListIn_skip rfl rfl ?_; simp only [Act.put, List.setIfInBounds_toArray, List.set_cons_succ, List.set_cons_zero])
            go_roundw
            case rel => exact ⟨i + 1, pre ++ [⟨nxLo y + i, by omega, t1⟩], by omega, by go_num, (by rw [List.map_append, HPRE.out, nbT_snoc]; rfl), hJ1, byr.move hk.1, bhr.move hk.2⟩
            case measure => simp [intOf]; omega
          · gi_wp2_with (refine wpListIn_skip rfl rfl ?_; simp only [Act.put, List.setIfInBounds_toArray, List.set_cons_succ, List.set_cons_zero])
            refine bodyPost_ret (results_none rfl _ _ _) rfl ?_
            exact ⟨⟨_, rfl⟩, .inr ⟨_, ⟨i + 1, by have := HL.out; omega, (by rw [List.map_append, HPRE.out, nbT_snoc]; rfl)⟩, hx1⟩⟩
        · have t3 : ¬ (nxLo y + i < h ∧ nxLo y + i ≤ y + 1) := fun hh => hlt ((NI.out i).2 hh)
          have t4 : h ≤ nxLo y + i ∨ y + 1 < nxLo y + i := by omega
          have ei : i = nxN h y := by omega
          have EI := Lib.hid ei; clear ei t3 hlt
          have t5 : h - 1 < nxLo y + i := by omega
          clear t4
          gi_wp2_with (refine wpListIn_skip rfl rfl ?_; simp only [Act.put, List.setIfInBounds_toArray, List.set_cons_succ, List.set_cons_zero])
          go_end0
          exact ⟨⟨_, rfl⟩, .inl ⟨pre, by rw [← EI.out]; exact HPRE.out, hJ⟩⟩
  · have LS : Hid (nxLo y = 0) := by show _ = _; unfold nxLo; rw [if_pos (by omega)]
    by_cases hp : y + 1 ≤ h - 1
    · gi_wp2_with (refine wpListIn_skip rfl rfl ?_; simp only [Act.put, List.setIfInBounds_toArray, List.set_cons_succ, List.set_cons_zero])
      gi_loopw [4] (fun s wr => ∃ (i : Nat) (pre : List (RowIn h)), i ≤ nxN h y ∧ s = .int .i64 (nxLo y + i) ∧ pre.map Subtype.val = nbT y i ∧ J pre wr ∧ Blk wr By 3 #[.int .i64 y] ∧ Blk wr Bh 3 #[.int .i64 h]) (fun s _ => (nxLo y + nxN h y - intOf s).toNat)
      case atStart => exact ⟨0, [], by omega, (by rw [LS.out]; simp), rfl, h0, ky.below' hW, kh.below' hW⟩
      case round =>
        obtain ⟨i, pre, hi, rfl, hpre, hJ, byr, bhr⟩ := hrel
        have PL : pre.length = i := by have := congrArg List.length hpre; rw [List.length_map, nbT_len] at this; exact this
        have HPL := Lib.hid PL; have HPRE := Lib.hid hpre; clear PL hpre
        clear ky1 kh1
        have ky1 := byr.at0
        have kh1 := bhr.at0
        by_cases hlt : i < nxN h y
        · obtain ⟨t1, t2⟩ := (NI.out i).1 hlt
          have HL := Lib.hid hlt
          obtain ⟨f1, g1, a1, c1, hy1, hR1⟩ := HY.out pre ⟨nxLo y + i, by omega, t1⟩ wr hJ (by have := HPL.out; omega)
          gi_wp2_with (refine wpListIn_skip rfl rfl ?_; simp only [Act.put, List.setIfInBounds_toArray, List.set_cons_succ, List.set_cons_zero])
          refine hR1.mono ?_
          rintro e W1 (⟨rfl, hJ1, hk⟩ | ⟨rfl, hx1⟩)
          · gi_wp2_with (refine wpListIn_skip rfl rfl ?_; simp only [Act.put, List.setIfInBounds_toArray, List.set_cons_succ, List.set_cons_zero])
            go_roundw
            case rel => exact ⟨i + 1, pre ++ [⟨nxLo y + i, by omega, t1⟩], by omega, by go_num, (by rw [List.map_append, HPRE.out, nbT_snoc]; rfl), hJ1, byr.move hk.1, bhr.move hk.2⟩
            case measure => simp [intOf]; omega
          · gi_wp2_with (refine wpListIn_skip rfl rfl ?_; simp only [Act.put, List.setIfInBounds_toArray, List.set_cons_succ, List.set_cons_zero])
            refine bodyPost_ret (results_none rfl _ _ _) rfl ?_
            exact ⟨⟨_, rfl⟩, .inr ⟨_, ⟨i + 1, by have := HL.out; omega, (by rw [List.map_append, HPRE.out, nbT_snoc]; rfl)⟩, hx1⟩⟩
        · have t3 : ¬ (nxLo y + i < h ∧ nxLo y + i ≤ y + 1) := fun hh => hlt ((NI.out i).2 hh)
          have t4 : h ≤ nxLo y + i ∨ y + 1 < nxLo y + i := by omega
          have ei : i = nxN h y := by omega
          have EI := Lib.hid ei; clear ei t3 hlt
          have t5 : y + 1 < nxLo y + i := by omega
          clear t4
          gi_wp2_with (refine wpListIn_skip rfl rfl ?_; simp only [Act.put, List.setIfInBounds_toArray, List.set_cons_succ, List.set_cons_zero])
          go_end0
          exact ⟨⟨_, rfl⟩, .inl ⟨pre, by rw [← EI.out]; exact HPRE.out, hJ⟩⟩
    · have hp' : h - 1 < y + 1 := by omega
      clear hp
      gi_wp2_with (refine wpListIn_skip rfl rfl ?_; simp only [Act.put, List.setIfInBounds_toArray, List.set_cons_succ, List.set_cons_zero])
      gi_loopw [4] (fun s wr => ∃ (i : Nat) (pre : List (RowIn h)), i ≤ nxN h y ∧ s = .int .i64 (nxLo y + i) ∧ pre.map Subtype.val = nbT y i ∧ J pre wr ∧ Blk wr By 3 #[.int .i64 y] ∧ Blk wr Bh 3 #[.int .i64 h]) (fun s _ => (nxLo y + nxN h y - intOf s).toNat)
      case atStart => exact ⟨0, [], by omega, (by rw [LS.out]; simp), rfl, h0, ky.below' hW, kh.below' hW⟩
      case round =>
        obtain ⟨i, pre, hi, rfl, hpre, hJ, byr, bhr⟩ := hrel
        have PL : pre.length = i := by have := congrArg List.length hpre; rw [List.length_map, nbT_len] at this; exact this
        have HPL := Lib.hid PL; have HPRE := Lib.hid hpre; clear PL hpre
        clear ky1 kh1
        have ky1 := byr.at0
        have kh1 := bhr.at0
        by_cases hlt : i < nxN h y
        · obtain ⟨t1, t2⟩ := (NI.out i).1 hlt
          have HL := Lib.hid hlt
          obtain ⟨f1, g1, a1, c1, hy1, hR1⟩ := HY.out pre ⟨nxLo y + i, by omega, t1⟩ wr hJ (by have := HPL.out; omega)
          gi_wp2_with (refine wpListIn_skip rfl rfl ?_; simp only [Act.put, List.setIfInBounds_toArray, List.set_cons_succ, List.set_cons_zero])
          refine hR1.mono ?_
          rintro e W1 (⟨rfl, hJ1, hk⟩ | ⟨rfl, hx1⟩)
          · gi_wp2_with (refine wpListIn_skip rfl rfl ?_; simp only [Act.put, List.setIfInBounds_toArray, List.set_cons_succ, List.set_cons_zero])
            go_roundw
            case rel => exact ⟨i + 1, pre ++ [⟨nxLo y + i, by omega, t1⟩], by omega, by go_num, (by rw [List.map_append, HPRE.out, nbT_snoc]; rfl), hJ1, byr.move hk.1, bhr.move hk.2⟩
            case measure => simp [intOf]; omega
          · gi_wp2_with (refine wpListIn_skip rfl rfl ?_; simp only [Act.put, List.setIfInBounds_toArray, List.set_cons_succ, List.set_cons_zero])
            refine bodyPost_ret (results_none rfl _ _ _) rfl ?_
            exact ⟨⟨_, rfl⟩, .inr ⟨_, ⟨i + 1, by have := HL.out; omega, (by rw [List.map_append, HPRE.out, nbT_snoc]; rfl)⟩, hx1⟩⟩
        · have t3 : ¬ (nxLo y + i < h ∧ nxLo y + i ≤ y + 1) := fun hh => hlt ((NI.out i).2 hh)
          have t4 : h ≤ nxLo y + i ∨ y + 1 < nxLo y + i := by omega
          have ei : i = nxN h y := by omega
          have EI := Lib.hid ei; clear ei t3 hlt
          have t5 : h - 1 < nxLo y + i := by omega
          clear t4
          gi_wp2_with (refine wpListIn_skip rfl rfl ?_; simp only [Act.put, List.setIfInBounds_toArray, List.set_cons_succ, List.set_cons_zero])
          go_end0
          exact ⟨⟨_, rfl⟩, .inl ⟨pre, by rw [← EI.out]; exact HPRE.out, hJ⟩⟩

theorem next_any (y h : Int) (w : World) : Calls Try.prog 104 #[.int .i64 y, .int .i64 h] w
    (New w fun v w' => v = .func (.func 121) #[] #[.pointer (some ⟨w.heap.size, 0, none⟩), .pointer (some ⟨w.heap.size + 1, 0, none⟩)] ∧ Blk w' w.heap.size 3 #[.int .i64 y] ∧ Blk w' (w.heap.size + 1) 3 #[.int .i64 h]) := by
  go_enter Try.func104, Try.ntmps104
  go_wp2
  go_ret
  exact ⟨_, rfl, ⟨rfl, (Blk.new _ _ _).alloc _, Blk.new' (by simp) _ _⟩, by (repeat (first | exact Below.refl _ _ | assumption | refine Below.drew ?_ | refine below_drewN ?_ _ | refine Below.alloc ?_ (by first | omega | (simp; done) | (simp; omega)) _ | refine Below.setCell ?_ (by first | omega | (simp; done) | (simp; omega)) _ | refine below_setRow ?_ (by first | omega | (simp; done) | (simp; omega)) _ ))⟩
end Go.Proofs.Ytdimlpcbbkokiaa

/- Walks: the reference's paths and their costs; costs with their errors. -/
namespace Go.Proofs.Ytdimlpcbbkokiaa
open Go.RowKit
set_option linter.unusedVariables false

theorem inkB_in {W H : Int} {p : Int → Int} {x y : Int} (h1 : 0 ≤ x) (h2 : x < W) (h3 : 0 ≤ y) (h4 : y < H) : inkB W H p x y = decide (p (y * W + x) = 1) := by
  unfold inkB; simp [h1, h2, h3, h4]
set_option maxHeartbeats 1000000 in
theorem pixel_any (W H : Int) (A : Option Addr) (n c : Nat) (p : Int → Int) (x y : Int) (w : World) (hA : ArrB w w.heap.size A n p) (hE : chk W H n p = 0) (x0 : 0 ≤ x) (x1 : x < W) (y0 : 0 ≤ y) (y1 : y < H) :
    Calls Try.prog 102 #[.agg #[.int .i64 W, .int .i64 H, .slice A n c], .int .i64 x, .int .i64 y] w fun e w' => e = .returned (.int .i64 (cst p W x y)) ∧ Below w.heap.size w w' := by
  obtain ⟨hW1, hW2, hH1, hH2, hnn, -⟩ := chk_ok hE
  have IK := Lib.hid fun w' hA' => rink_any W H A n c p x y w' hA' hW2 hH2 hnn
  rw [inkB_in x0 x1 y0 y1] at IK
  clear hE hnn
  by_cases e : p (y * W + x) = 1
  · have hr : cst p W x y = 0 := by unfold cst; rw [if_pos e]
    rw [hr]
    rw [decide_eq_true e] at IK
    clear hr e
    go_enter Try.func102, Try.ntmps102
    go_wp2_with fail
    refine (IK.out _ (hA.to (by (repeat (first | exact Below.refl _ _ | assumption | refine Below.drew ?_ | refine below_drewN ?_ _ | refine Below.alloc ?_ (by first | omega | (simp; done) | (simp; omega)) _ | refine Below.setCell ?_ (by first | omega | (simp; done) | (simp; omega)) _ | refine below_setRow ?_ (by first | omega | (simp; done) | (simp; omega)) _ ))))).mono ?_
    rintro e w1 ⟨rfl, hb1⟩
    have b1 : Below w.heap.size w w1 := below_call (by (repeat (first | exact Below.refl _ _ | assumption | refine Below.drew ?_ | refine below_drewN ?_ _ | refine Below.alloc ?_ (by first | omega | (simp; done) | (simp; omega)) _ | refine Below.setCell ?_ (by first | omega | (simp; done) | (simp; omega)) _ | refine below_setRow ?_ (by first | omega | (simp; done) | (simp; omega)) _ ))) (by simp; try omega) hb1
    go_wp2
    go_ret
    exact ⟨rfl, b1⟩
  · have hr : cst p W x y = 2 := by unfold cst; rw [if_neg e]
    rw [hr]
    rw [decide_eq_false e] at IK
    clear hr e
    go_enter Try.func102, Try.ntmps102
    go_wp2_with fail
    refine (IK.out _ (hA.to (by (repeat (first | exact Below.refl _ _ | assumption | refine Below.drew ?_ | refine below_drewN ?_ _ | refine Below.alloc ?_ (by first | omega | (simp; done) | (simp; omega)) _ | refine Below.setCell ?_ (by first | omega | (simp; done) | (simp; omega)) _ | refine below_setRow ?_ (by first | omega | (simp; done) | (simp; omega)) _ ))))).mono ?_
    rintro e w1 ⟨rfl, hb1⟩
    have b1 : Below w.heap.size w w1 := below_call (by (repeat (first | exact Below.refl _ _ | assumption | refine Below.drew ?_ | refine below_drewN ?_ _ | refine Below.alloc ?_ (by first | omega | (simp; done) | (simp; omega)) _ | refine Below.setCell ?_ (by first | omega | (simp; done) | (simp; omega)) _ | refine below_setRow ?_ (by first | omega | (simp; done) | (simp; omega)) _ ))) (by simp; try omega) hb1
    go_wp2
    go_ret
    exact ⟨rfl, b1⟩

set_option maxHeartbeats 2000000 in
theorem rcostOf_any (W H : Int) (A P : Option Addr) (n c m d : Nat) (p q : Int → Int) (w : World) (hA : ArrB w w.heap.size A n p) (hP : ArrI w w.heap.size P m q) (hE : chk W H n p = 0) (hI : isPathB W H m q = true) :
    Calls Try.prog 62 #[.agg #[.int .i64 W, .int .i64 H, .slice A n c], .slice P m d] w fun e w' => e = .returned (.int .i64 (costP (cst p W) q m)) ∧ Below w.heap.size w w' := by
  obtain ⟨⟨g1, g2, g3⟩, g4⟩ := isPathB_iff.1 hI
  obtain ⟨hW1, hW2, hH1, hH2, hnn, hpx⟩ := chk_ok hE
  have PA := Lib.hid fun x y w' hA' x0 x1 y0 y1 => pixel_any W H A n c p x y w' hA' hE x0 x1 y0 y1
  have G4 := Lib.hid g4; clear g4
  have G3 := Lib.hid g3; clear g3
  have CB := Lib.hid fun x => costP_bd (cst_bd p W) q x
  have CS : Hid (∀ x : Nat, costP (cst p W) q (x + 1) = costP (cst p W) q x + cst p W x (q x) + if 0 < x ∧ q x ≠ q ((x : Int) - 1) then 1 else 0) := by
    show ∀ _, _
    intro x; rfl
  have KB := Lib.hid (cst_bd p W)
  clear hE hI hnn hpx
  go_enter Try.func62, Try.ntmps62
  go_wp2_with fail
  go_loopw [5, 6] (fun v s wr => ∃ i : Nat, i ≤ m ∧ s = .int .i64 i ∧ v = .int .i64 (costP (cst p W) q i) ∧ Below w.heap.size w wr ∧ Blk wr w.heap.size 24 #[.int .i64 W, .int .i64 H, .slice A n c]) (fun _ s _ => m - (intOf s).toNat)
  case atStart => exact ⟨0, by omega, rfl, rfl, by (repeat (first | exact Below.refl _ _ | assumption | refine Below.drew ?_ | refine below_drewN ?_ _ | refine Below.alloc ?_ (by first | omega | (simp; done) | (simp; omega)) _ | refine Below.setCell ?_ (by first | omega | (simp; done) | (simp; omega)) _ | refine below_setRow ?_ (by first | omega | (simp; done) | (simp; omega)) _ )), Blk.new _ _ _⟩
  case round =>
    obtain ⟨i, hi, rfl, rfl, b3, k3⟩ := hrel
    obtain ⟨p1, p2, p3⟩ := k3.cells3
    obtain ⟨cb1, cb2⟩ := CB.out i
    by_cases hlt : i < m
    · have hmW : (m : Int) ≤ 640 := by have := G3.out; omega
      have hin : (i : Int) < (m : Int) := by omega
      have hi0 : (0 : Int) ≤ (i : Int) := by omega
      obtain ⟨s1, s2, s3⟩ := stepB_iff.1 (G4.out i hi0 hin)
      have hP3 := ArrI.below hP b3
      have PX := Lib.hid fun w' hA' => PA.out i (q i) w' hA' hi0 (by have := G3.out; omega) s1 s2
      obtain ⟨kb1, kb2⟩ := KB.out i (q i)
      have CSi := Lib.hid (CS.out i)
      obtain ⟨bP, off, rfl, hbP, hcell⟩ := hP3.fn (by omega)
      have c1 := hcell i hi0 hin
      rw [Int.toNat_natCast] at c1
      have HC := Lib.hid hcell; clear hcell s3
      generalize cst p W i (q i) = ci at *
      generalize costP (cst p W) q i = S at *
      have v1 : IntKind.i64.wrap (S + ci) = S + ci := IntWalk.i64_in _ (by omega)
      have B3 := Lib.hid b3; have K3 := Lib.hid k3
      go_wp2_with fail
      go_region_held3 (fun w' => w'.cell? ⟨w.heap.size, 0, none⟩ = some (.int .i64 W) ∧ w'.cell? ⟨w.heap.size, 1, none⟩ = some (.int .i64 H) ∧ w'.cell? ⟨w.heap.size, 2, none⟩ = some (.slice A n c) ∧ w'.cell? ⟨bP, off + i, none⟩ = some (.int .i64 (q i)))
        (simp [go_sem, *])
        ((go_at_call 102
          refine (PX.out _ ((ArrB.below hA B3.out.drew).more B3.out.drew.size)).mono ?_
          rintro e w4 ⟨rfl, hb4⟩
          have b4 := below_call B3.out.drew B3.out.drew.size hb4
          have k4 := K3.out.drew.below' hb4
          obtain ⟨x1, x2, x3⟩ := k4.cells3
          have c3 : w4.cell? ⟨bP, off + i, none⟩ = some (.int .i64 (q i)) := (hb4.cell (p := ⟨bP, off + i, none⟩) (by show bP < _; have := B3.out.drew.size; omega)).trans c1))
      clear v1 c1 p1 p2 p3 b3 k3
      by_cases hz : (i : Int) ≤ 0
      · have hz' : ¬ (0 < i ∧ q i ≠ q ((i : Int) - 1)) := by omega
        rw [if_neg hz'] at CSi
        clear hz'
        have hd : decide (0 < (i : Int)) = false := by simp; omega
        have hdn : decide (0 < i) = false := by simp; omega
        go_wp2_with fail
        go_quiet (fail)
        go_wp2
        go_roundw
        case rel => exact ⟨i + 1, by omega, by go_num, (by rw [CSi.out] <;> first | done | go_num), below_drewN b4 _, k4.drewN _⟩
        case measure => simp [intOf]; omega
      · have c2 := HC.out ((i : Int) - 1) (by omega) (by omega)
        rw [show ((i : Int) - 1).toNat = i - 1 by omega] at c2
        have c4 := (hb4.cell (p := ⟨bP, off + (i - 1), none⟩) (by show bP < _; have := B3.out.drew.size; omega)).trans c2
        have c5 : w4.cell? ⟨bP, off + (i - 1), none⟩ = some (.int .i64 (q ((i : Int) - 1))) := c4
        clear c2 c4
        have hd : decide (0 < (i : Int)) = true := by simp; omega
        have hdn : decide (0 < i) = true := by simp; omega
        have hdp : 0 < i := by omega
        have v2 : IntKind.i64.wrap ((i : Int) - 1) = (i : Int) - 1 := IntWalk.i64_in _ (by omega)
        have d1 : (0 : Int) ≤ (i : Int) - 1 := by omega
        have d2 : (i : Int) - 1 < (m : Int) := by omega
        have d3 : ((i : Int) - 1).toNat = i - 1 := by omega
        by_cases he : q i = q ((i : Int) - 1)
        · rw [if_neg (by simp [he])] at CSi
          have hbb : (q i != q ((i : Int) - 1)) = false := by simp [he]
          have HE := Lib.hid he; clear he
          go_wp2_with fail
          go_quiet (fail)
          clear v2 d3 hd hdn
          go_wp2
          go_roundw
          case rel => exact ⟨i + 1, by omega, by go_num, (by rw [CSi.out] <;> first | done | go_num), below_drewN b4 _, k4.drewN _⟩
          case measure => simp [intOf]; omega
        · rw [if_pos ⟨by omega, he⟩] at CSi
          have hbb : (q i != q ((i : Int) - 1)) = true := by simp [he]
          have HE := Lib.hid he; clear he
          go_wp2_with fail
          go_quiet (fail)
          clear v2 d3 hd hdn
          go_wp2
          go_roundw
          case rel => exact ⟨i + 1, by omega, by go_num, (by rw [CSi.out] <;> first | done | go_num), below_drewN b4 _, k4.drewN _⟩
          case measure => simp [intOf]; omega
    · obtain rfl : i = m := by omega
      go_wp2
      go_ret
      exact ⟨rfl, b3⟩
set_option maxHeartbeats 2000000 in
theorem risPath_any (W H : Int) (A P : Option Addr) (n c m d : Nat) (q : Int → Int) (w : World) (hW0 : 0 ≤ W) (hH0 : 0 ≤ H) (hW : W ≤ 640) (hH : H ≤ 640) (hP : ArrI w w.heap.size P m q) (hm : m ≤ maxLen) :
    Calls Try.prog 61 #[.agg #[.int .i64 W, .int .i64 H, .slice A n c], .slice P m d] w fun e w' => e = .returned (.bool (isPathB W H m q)) ∧ Below w.heap.size w w' := by
  unfold maxLen at hm
  by_cases h1 : W = 0
  · have hr : isPathB W H m q = false := Bool.eq_false_iff.2 fun h => by have := (isPathB_iff.1 h).1; omega
    rw [hr]
    have hb : (W == 0) = true := by simp [h1]
    have H1 := Lib.hid h1; clear h1 hr
    go_enter Try.func61, Try.ntmps61
    go_wp2
    go_ret
    exact ⟨rfl, by (repeat (first | exact Below.refl _ _ | assumption | refine Below.drew ?_ | refine below_drewN ?_ _ | refine Below.alloc ?_ (by first | omega | (simp; done) | (simp; omega)) _ | refine Below.setCell ?_ (by first | omega | (simp; done) | (simp; omega)) _ | refine below_setRow ?_ (by first | omega | (simp; done) | (simp; omega)) _ ))⟩
  have hb1 : (W == 0) = false := by simp [h1]
  by_cases h2 : H = 0
  · have hr : isPathB W H m q = false := Bool.eq_false_iff.2 fun h => by have := (isPathB_iff.1 h).1; omega
    rw [hr]
    have hb : (H == 0) = true := by simp [h2]
    have H2 := Lib.hid h2; clear h2 hr
    go_enter Try.func61, Try.ntmps61
    go_wp2
    go_ret
    exact ⟨rfl, by (repeat (first | exact Below.refl _ _ | assumption | refine Below.drew ?_ | refine below_drewN ?_ _ | refine Below.alloc ?_ (by first | omega | (simp; done) | (simp; omega)) _ | refine Below.setCell ?_ (by first | omega | (simp; done) | (simp; omega)) _ | refine below_setRow ?_ (by first | omega | (simp; done) | (simp; omega)) _ ))⟩
  have hb2 : (H == 0) = false := by simp [h2]
  by_cases h3 : (m : Int) = W
  · have hb : ((m : Int) != W) = false := by simp [h3]
    have H3 := Lib.hid h3; clear h3
    have g1 : 1 ≤ W := by omega
    have g2 : 1 ≤ H := by omega
    clear h1 h2
    go_enter Try.func61, Try.ntmps61
    go_wp2_with fail
    clear hb hb1 hb2
    go_loopw [5] (fun s wr => ∃ i : Nat, i ≤ m ∧ s = .int .i64 i ∧ (∀ j : Int, 0 ≤ j → j < i → stepB H q j = true) ∧ Below w.heap.size w wr ∧ Blk wr w.heap.size 24 #[.int .i64 W, .int .i64 H, .slice A n c]) (fun s _ => m - (intOf s).toNat)
    case atStart => exact ⟨0, by omega, rfl, fun j a b => by omega, by (repeat (first | exact Below.refl _ _ | assumption | refine Below.drew ?_ | refine below_drewN ?_ _ | refine Below.alloc ?_ (by first | omega | (simp; done) | (simp; omega)) _ | refine Below.setCell ?_ (by first | omega | (simp; done) | (simp; omega)) _ | refine below_setRow ?_ (by first | omega | (simp; done) | (simp; omega)) _ )), Blk.new _ _ _⟩
    case round =>
      obtain ⟨i, hi, rfl, hall, b3, k3⟩ := hrel
      have HALL := Lib.hid hall; clear hall
      obtain ⟨p1, p2, p3⟩ := k3.cells3
      by_cases hlt : i < m
      · obtain ⟨bP, off, rfl, hbP, hcell⟩ := (ArrI.below hP b3).fn (by omega)
        have c1 := hcell i (by omega) (by omega)
        rw [Int.toNat_natCast] at c1
        have HC := Lib.hid hcell; clear hcell
        have hin : (i : Int) < (m : Int) := by omega
        have hi0 : (0 : Int) ≤ (i : Int) := by omega
        cases hs : stepB H q i
        · have hr : Hid (isPathB W H m q = false) := by
            show _ = _
            exact Bool.eq_false_iff.2 fun h => by have := (isPathB_iff.1 h).2 i hi0 hin; rw [hs] at this; cases this
          have hs' : ¬ (0 ≤ q i ∧ q i < H ∧ ((i : Int) ≤ 0 ∨ (q (i - 1) - 1 ≤ q i ∧ q i ≤ q (i - 1) + 1))) := fun h => by rw [stepB_iff.2 h] at hs; cases hs
          clear hs
          by_cases a1 : q i < 0
          · clear hs'
            generalize q i = y at *
            have e1 : decide (y < 0) = true := by simp; omega
            go_wp2_with fail
            go_quiet (fail)
            go_wp2
            go_ret
            exact ⟨ret_bool hr.out.symm, below_drewN b3 _⟩
          by_cases a2 : H ≤ q i
          · clear hs'
            generalize q i = y at *
            have e1 : decide (y < 0) = false := by simp; omega
            have e2 : decide (H ≤ y) = true := by simp; omega
            go_wp2_with fail
            go_quiet (fail)
            go_wp2
            go_ret
            exact ⟨ret_bool hr.out.symm, below_drewN b3 _⟩
          have a3 : (0 : Int) < i := by omega
          have c2 := HC.out ((i : Int) - 1) (by omega) (by omega)
          rw [show ((i : Int) - 1).toNat = i - 1 by omega] at c2
          have hq := stepB_iff.1 (HALL.out ((i : Int) - 1) (by omega) (by omega))
          obtain ⟨hq1, hq2, -⟩ := hq
          have d1 : (0 : Int) ≤ (i : Int) - 1 := by omega
          have d2 : (i : Int) - 1 < (m : Int) := by omega
          have d3 : ((i : Int) - 1).toNat = i - 1 := by omega
          generalize q i = y at *
          generalize q ((i : Int) - 1) = z at *
          have v2 : IntKind.i64.wrap ((i : Int) - 1) = (i : Int) - 1 := IntWalk.i64_in _ (by omega)
          have v3 : IntKind.i64.wrap (y - z) = y - z := IntWalk.i64_in _ (by omega)
          have v4 : IntKind.i64.wrap (z - y) = z - y := IntWalk.i64_in _ (by omega)
          have e1 : decide (y < 0) = false := by simp; omega
          have e2 : decide (H ≤ y) = false := by simp; omega
          have hdn : decide (0 < i) = true := by simp; omega
          have hdp : 0 < i := by omega
          by_cases a4 : 1 < y - z
          · have e3 : decide (1 < y - z) = true := by simp; omega
            clear hs'
            go_wp2_with fail
            go_quiet (fail)
            go_wp2_with fail
            go_quiet (fail)
            clear v2 v3 v4 d3
            go_wp2
            go_ret
            exact ⟨ret_bool hr.out.symm, by (repeat (first | exact Below.refl _ _ | assumption | refine Below.drew ?_ | refine below_drewN ?_ _ | refine Below.alloc ?_ (by first | omega | (simp; done) | (simp; omega)) _ | refine Below.setCell ?_ (by first | omega | (simp; done) | (simp; omega)) _ | refine below_setRow ?_ (by first | omega | (simp; done) | (simp; omega)) _ ))⟩
          · have a5 : 1 < z - y := by omega
            have e3 : decide (1 < y - z) = false := by simp; omega
            have e4 : decide (1 < z - y) = true := by simp; omega
            clear hs'
            go_wp2_with fail
            go_quiet (fail)
            go_wp2_with fail
            go_quiet (fail)
            clear v2 v3 v4 d3
            go_wp2
            go_ret
            exact ⟨ret_bool hr.out.symm, by (repeat (first | exact Below.refl _ _ | assumption | refine Below.drew ?_ | refine below_drewN ?_ _ | refine Below.alloc ?_ (by first | omega | (simp; done) | (simp; omega)) _ | refine Below.setCell ?_ (by first | omega | (simp; done) | (simp; omega)) _ | refine below_setRow ?_ (by first | omega | (simp; done) | (simp; omega)) _ ))⟩
        · obtain ⟨f1, f2, f3⟩ := stepB_iff.1 hs
          have HS := Lib.hid hs; clear hs
          by_cases hz : (i : Int) ≤ 0
          · clear f3
            generalize hy : q i = y at *
            clear hy
            have e1 : decide (y < 0) = false := by simp; omega
            have e2 : decide (H ≤ y) = false := by simp; omega
            have hdn : decide (0 < i) = false := by simp; omega
            go_wp2_with fail
            go_quiet (fail)
            go_wp2_with fail
            go_quiet (fail)
            clear e1 e2 hdn
            go_wp2
            go_roundw
            case rel => exact ⟨i + 1, by omega, by go_num, fun j a b => if e : j = i then e ▸ HS.out else HALL.out j a (by omega), by (repeat (first | exact Below.refl _ _ | assumption | refine Below.drew ?_ | refine below_drewN ?_ _ | refine Below.alloc ?_ (by first | omega | (simp; done) | (simp; omega)) _ | refine Below.setCell ?_ (by first | omega | (simp; done) | (simp; omega)) _ | refine below_setRow ?_ (by first | omega | (simp; done) | (simp; omega)) _ )), k3⟩
            case measure => simp [intOf]; omega
          · have f4 := f3.resolve_left hz
            obtain ⟨f5, f6⟩ := f4
            have c2 := HC.out ((i : Int) - 1) (by omega) (by omega)
            rw [show ((i : Int) - 1).toNat = i - 1 by omega] at c2
            have hq := stepB_iff.1 (HALL.out ((i : Int) - 1) (by omega) (by omega))
            obtain ⟨hq1, hq2, -⟩ := hq
            have d1 : (0 : Int) ≤ (i : Int) - 1 := by omega
            have d2 : (i : Int) - 1 < (m : Int) := by omega
            have d3 : ((i : Int) - 1).toNat = i - 1 := by omega
            clear f3
            generalize hy : q i = y at *
            generalize hz2 : q ((i : Int) - 1) = z at *
            clear hy hz2
            have v2 : IntKind.i64.wrap ((i : Int) - 1) = (i : Int) - 1 := IntWalk.i64_in _ (by omega)
            have v3 : IntKind.i64.wrap (y - z) = y - z := IntWalk.i64_in _ (by omega)
            have v4 : IntKind.i64.wrap (z - y) = z - y := IntWalk.i64_in _ (by omega)
            have e1 : decide (y < 0) = false := by simp; omega
            have e2 : decide (H ≤ y) = false := by simp; omega
            have e3 : decide (1 < y - z) = false := by simp; omega
            have e4 : decide (1 < z - y) = false := by simp; omega
            have hdn : decide (0 < i) = true := by simp; omega
            have hdp : 0 < i := by omega
            go_wp2_with fail
            go_quiet (fail)
            go_wp2_with fail
            go_quiet (fail)
            clear v2 v3 v4 d3 e1 e2 e3 e4 hdn
            go_wp2
            go_roundw
            case rel => exact ⟨i + 1, by omega, by go_num, fun j a b => if e : j = i then e ▸ HS.out else HALL.out j a (by omega), by (repeat (first | exact Below.refl _ _ | assumption | refine Below.drew ?_ | refine below_drewN ?_ _ | refine Below.alloc ?_ (by first | omega | (simp; done) | (simp; omega)) _ | refine Below.setCell ?_ (by first | omega | (simp; done) | (simp; omega)) _ | refine below_setRow ?_ (by first | omega | (simp; done) | (simp; omega)) _ )), k3⟩
            case measure => simp [intOf]; omega
      · obtain rfl : i = m := by omega
        have hr : Hid (isPathB W H i q = true) := by show _ = _; exact isPathB_iff.2 ⟨⟨g1, g2, H3.out⟩, HALL.out⟩
        go_wp2
        go_ret
        exact ⟨ret_bool hr.out.symm, b3⟩
  · have hr : isPathB W H m q = false := Bool.eq_false_iff.2 fun h => by have := (isPathB_iff.1 h).1; omega
    have hb : ((m : Int) != W) = true := by simp [h3]
    have H3 := Lib.hid h3; clear h3
    have HR := Lib.hid hr
    rw [hr]
    clear hr h1 h2
    go_enter Try.func61, Try.ntmps61
    go_wp2
    go_ret
    exact ⟨rfl, by (repeat (first | exact Below.refl _ _ | assumption | refine Below.drew ?_ | refine below_drewN ?_ _ | refine Below.alloc ?_ (by first | omega | (simp; done) | (simp; omega)) _ | refine Below.setCell ?_ (by first | omega | (simp; done) | (simp; omega)) _ | refine below_setRow ?_ (by first | omega | (simp; done) | (simp; omega)) _ ))⟩
end Go.Proofs.Ytdimlpcbbkokiaa

/- Walks: costs with their errors, the program's and the reference's. -/
namespace Go.Proofs.Ytdimlpcbbkokiaa
open Go.RowKit
set_option linter.unusedVariables false

set_option maxHeartbeats 1000000 in
theorem cost_all (W H : Int) (A P : Option Addr) (n c m d : Nat) (p q : Int → Int) (E V : Int) (w : World) (hA : ArrB w w.heap.size A n p) (hn : n ≤ maxLen) (hB : IsB p) (hP : ArrI w w.heap.size P m q) (hm : m ≤ maxLen) (hE : costE W H n p m q = E) (hV : costV W H n p m q = V) :
    Calls Try.prog 16 #[.agg #[.int .i64 W, .int .i64 H, .slice A n c], .slice P m d] w fun e w' => e = .returned (.tuple #[.int .i64 V, .int .i64 E]) ∧ Below w.heap.size w w' := by
  by_cases e : E = 0
  · subst e
    obtain ⟨e1, e2⟩ := costE_ok hE
    have : V = costP (cst p W) q m := by rw [← hV]; unfold costV; rw [if_pos hE]
    subst this
    exact cost_ok W H A P n c m d p q w hA hn hB hP e1 e2
  · have : V = 0 := by rw [← hV]; unfold costV; rw [if_neg (by rw [hE]; exact e)]
    subst this
    clear hV
    have CK := Lib.hid fun w' hA' => check_any W H A n c p w' hA' hn
    by_cases hc : chk W H n p = 0
    · have hI : isPathB W H m q = false := by
        cases h : isPathB W H m q
        · rfl
        · exfalso; apply e; rw [← hE]; unfold costE; rw [if_neg (by simp [hc]), h]; rfl
      have hE1 : E = 1 := by rw [← hE]; unfold costE; rw [if_neg (by simp [hc]), hI]; rfl
      subst hE1
      rw [hc] at CK
      obtain ⟨hW1, hW2, hH1, hH2, hnn, hpx⟩ := chk_ok hc
      have IP := Lib.hid fun w' hP' => isPath_any W H A P n c m d q w' hW2 hH2 hP' hm
      rw [hI] at IP
      clear hc hI hE hnn hpx e
      go_enter Try.func16, Try.ntmps16
      go_wp2_with fail
      refine (CK.out _ (hA.to (by (repeat (first | exact Below.refl _ _ | assumption | refine Below.drew ?_ | refine below_drewN ?_ _ | refine Below.alloc ?_ (by first | omega | (simp; done) | (simp; omega)) _ | refine Below.setCell ?_ (by first | omega | (simp; done) | (simp; omega)) _ | refine below_setRow ?_ (by first | omega | (simp; done) | (simp; omega)) _ ))))).mono ?_
      rintro e w1 ⟨rfl, hb1⟩
      have b1 : Below w.heap.size w w1 := below_call (by (repeat (first | exact Below.refl _ _ | assumption | refine Below.drew ?_ | refine below_drewN ?_ _ | refine Below.alloc ?_ (by first | omega | (simp; done) | (simp; omega)) _ | refine Below.setCell ?_ (by first | omega | (simp; done) | (simp; omega)) _ | refine below_setRow ?_ (by first | omega | (simp; done) | (simp; omega)) _ ))) (by simp; try omega) hb1
      have k1 : Blk w1 w.heap.size 24 #[.int .i64 W, .int .i64 H, .slice A n c] := (Blk.new _ _ _).below' hb1
      clear hb1 CK
      obtain ⟨p1, p2, p3⟩ := k1.cells3
      go_wp2_with fail
      refine (IP.out _ (hP.to b1)).mono ?_
      rintro e w2 ⟨rfl, hb2⟩
      have b2 := below_call b1 b1.size hb2
      go_wp2
      go_ret2
      exact ⟨rfl, b2⟩
    · have hz : chk W H n p = E := by rw [← hE]; unfold costE; rw [if_pos hc]
      rw [hz] at CK
      have hb : (E != 0) = true := by simp [e]
      have HE := Lib.hid e; clear e hc hz hE
      go_enter Try.func16, Try.ntmps16
      go_wp2_with fail
      refine (CK.out _ (hA.to (by (repeat (first | exact Below.refl _ _ | assumption | refine Below.drew ?_ | refine below_drewN ?_ _ | refine Below.alloc ?_ (by first | omega | (simp; done) | (simp; omega)) _ | refine Below.setCell ?_ (by first | omega | (simp; done) | (simp; omega)) _ | refine below_setRow ?_ (by first | omega | (simp; done) | (simp; omega)) _ ))))).mono ?_
      rintro e w1 ⟨rfl, hb1⟩
      have b1 : Below w.heap.size w w1 := below_call (by (repeat (first | exact Below.refl _ _ | assumption | refine Below.drew ?_ | refine below_drewN ?_ _ | refine Below.alloc ?_ (by first | omega | (simp; done) | (simp; omega)) _ | refine Below.setCell ?_ (by first | omega | (simp; done) | (simp; omega)) _ | refine below_setRow ?_ (by first | omega | (simp; done) | (simp; omega)) _ ))) (by simp; try omega) hb1
      go_wp2
      go_ret2
      exact ⟨rfl, b1⟩

set_option maxHeartbeats 1000000 in
theorem rcost_all (W H : Int) (A P : Option Addr) (n c m d : Nat) (p q : Int → Int) (E V : Int) (w : World) (hA : ArrB w w.heap.size A n p) (hn : n ≤ maxLen) (hB : IsB p) (hP : ArrI w w.heap.size P m q) (hm : m ≤ maxLen) (hE : costE W H n p m q = E) (hV : costV W H n p m q = V) :
    Calls Try.prog 17 #[.agg #[.int .i64 W, .int .i64 H, .slice A n c], .slice P m d] w fun e w' => e = .returned (.tuple #[.int .i64 V, .int .i64 E]) ∧ Below w.heap.size w w' := by
  have CK := Lib.hid fun w' hA' => rcheck_any W H A n c p w' hA' hn hB
  by_cases hc : chk W H n p = 0
  · obtain ⟨hW1, hW2, hH1, hH2, hnn, hpx⟩ := chk_ok hc
    have IP := Lib.hid fun w' hP' => risPath_any W H A P n c m d q w' hW1 hH1 hW2 hH2 hP' hm
    have CO := Lib.hid fun w' hA' hP' hI => rcostOf_any W H A P n c m d p q w' hA' hP' hc hI
    rw [hc] at CK
    cases hI : isPathB W H m q
    · have hE1 : E = 1 := by rw [← hE]; unfold costE; rw [if_neg (by simp [hc]), hI]; rfl
      have hV1 : V = 0 := by rw [← hV]; unfold costV; rw [if_neg (by rw [hE, hE1]; decide)]
      subst hE1; subst hV1
      rw [hI] at IP
      clear hc hI hE hV hnn hpx CO
      go_enter Try.func17, Try.ntmps17
      go_wp2_with fail
      refine (CK.out _ (hA.to (by (repeat (first | exact Below.refl _ _ | assumption | refine Below.drew ?_ | refine below_drewN ?_ _ | refine Below.alloc ?_ (by first | omega | (simp; done) | (simp; omega)) _ | refine Below.setCell ?_ (by first | omega | (simp; done) | (simp; omega)) _ | refine below_setRow ?_ (by first | omega | (simp; done) | (simp; omega)) _ ))))).mono ?_
      rintro e w1 ⟨rfl, hb1⟩
      have b1 : Below w.heap.size w w1 := below_call (by (repeat (first | exact Below.refl _ _ | assumption | refine Below.drew ?_ | refine below_drewN ?_ _ | refine Below.alloc ?_ (by first | omega | (simp; done) | (simp; omega)) _ | refine Below.setCell ?_ (by first | omega | (simp; done) | (simp; omega)) _ | refine below_setRow ?_ (by first | omega | (simp; done) | (simp; omega)) _ ))) (by simp; try omega) hb1
      have k1 : Blk w1 w.heap.size 24 #[.int .i64 W, .int .i64 H, .slice A n c] := (Blk.new _ _ _).below' hb1
      clear hb1 CK
      obtain ⟨p1, p2, p3⟩ := k1.cells3
      go_wp2_with fail
      refine (IP.out _ (hP.to b1)).mono ?_
      rintro e w2 ⟨rfl, hb2⟩
      have b2 := below_call b1 b1.size hb2
      go_wp2
      go_ret2
      exact ⟨rfl, b2⟩
    · have hE1 : E = 0 := by rw [← hE]; unfold costE; rw [if_neg (by simp [hc]), hI]; rfl
      have hV1 : V = costP (cst p W) q m := by rw [← hV]; unfold costV; rw [if_pos (by rw [hE, hE1])]
      subst hE1; subst hV1
      have CO := Lib.hid fun w' hA' hP' => CO.out w' hA' hP' hI
      rw [hI] at IP
      clear hc hI hE hV hnn hpx
      generalize costP (cst p W) q m = V at *
      go_enter Try.func17, Try.ntmps17
      go_wp2_with fail
      refine (CK.out _ (hA.to (by (repeat (first | exact Below.refl _ _ | assumption | refine Below.drew ?_ | refine below_drewN ?_ _ | refine Below.alloc ?_ (by first | omega | (simp; done) | (simp; omega)) _ | refine Below.setCell ?_ (by first | omega | (simp; done) | (simp; omega)) _ | refine below_setRow ?_ (by first | omega | (simp; done) | (simp; omega)) _ ))))).mono ?_
      rintro e w1 ⟨rfl, hb1⟩
      have b1 : Below w.heap.size w w1 := below_call (by (repeat (first | exact Below.refl _ _ | assumption | refine Below.drew ?_ | refine below_drewN ?_ _ | refine Below.alloc ?_ (by first | omega | (simp; done) | (simp; omega)) _ | refine Below.setCell ?_ (by first | omega | (simp; done) | (simp; omega)) _ | refine below_setRow ?_ (by first | omega | (simp; done) | (simp; omega)) _ ))) (by simp; try omega) hb1
      have k1 : Blk w1 w.heap.size 24 #[.int .i64 W, .int .i64 H, .slice A n c] := (Blk.new _ _ _).below' hb1
      clear hb1 CK
      obtain ⟨p1, p2, p3⟩ := k1.cells3
      go_wp2_with fail
      refine (IP.out _ (hP.to b1)).mono ?_
      rintro e w2 ⟨rfl, hb2⟩
      have b2 := below_call b1 b1.size hb2
      have k2 := k1.below' hb2
      clear b1 k1 hb2 p1 p2 p3
      obtain ⟨p1, p2, p3⟩ := k2.cells3
      go_wp2_with fail
      refine (CO.out _ (hA.to b2) (hP.to b2)).mono ?_
      rintro e w3 ⟨rfl, hb3⟩
      have b3 := below_call b2 b2.size hb3
      go_wp2
      go_ret2
      exact ⟨rfl, b3⟩
  · have hz : chk W H n p = E := by rw [← hE]; unfold costE; rw [if_pos hc]
    have e : E ≠ 0 := by rw [← hz]; exact hc
    have hV1 : V = 0 := by rw [← hV]; unfold costV; rw [if_neg (by rw [hE]; exact e)]
    subst hV1
    rw [hz] at CK
    have hb : (E != 0) = true := by simp [e]
    have HE := Lib.hid e; clear e hc hz hE hV
    go_enter Try.func17, Try.ntmps17
    go_wp2_with fail
    refine (CK.out _ (hA.to (by (repeat (first | exact Below.refl _ _ | assumption | refine Below.drew ?_ | refine below_drewN ?_ _ | refine Below.alloc ?_ (by first | omega | (simp; done) | (simp; omega)) _ | refine Below.setCell ?_ (by first | omega | (simp; done) | (simp; omega)) _ | refine below_setRow ?_ (by first | omega | (simp; done) | (simp; omega)) _ ))))).mono ?_
    rintro e w1 ⟨rfl, hb1⟩
    have b1 : Below w.heap.size w w1 := below_call (by (repeat (first | exact Below.refl _ _ | assumption | refine Below.drew ?_ | refine below_drewN ?_ _ | refine Below.alloc ?_ (by first | omega | (simp; done) | (simp; omega)) _ | refine Below.setCell ?_ (by first | omega | (simp; done) | (simp; omega)) _ | refine below_setRow ?_ (by first | omega | (simp; done) | (simp; omega)) _ ))) (by simp; try omega) hb1
    go_wp2
    go_ret2
    exact ⟨rfl, b1⟩
end Go.Proofs.Ytdimlpcbbkokiaa

/- Walk: the least cost from a pixel to the last column (the closure of best). -/
namespace Go.Proofs.Ytdimlpcbbkokiaa
open Go.RowKit Go.Shelf
set_option linter.unusedVariables false
attribute [local go_sem] Oper.semAt_some

/-- what the closure best$1 has captured, and reads -/
structure BestK (w : World) (W H : Int) (Bf Bw Bh Br Bi gr N : Nat) (Fa A : Option Addr) (fc n c : Nat) (fb : Int → Bool) (R p : Int → Int) : Prop where
  kf : Blk w Bf 67 #[.slice Fa N fc]
  kw : Blk w Bw 3 #[.int .i64 W]
  kh : Blk w Bh 3 #[.int .i64 H]
  kr : Blk w Br 25 #[.slice (some ⟨gr, 0, none⟩) N N]
  kR : Blk w gr 3 (i64s N R)
  ki : Blk w Bi 24 #[.int .i64 W, .int .i64 H, .slice A n c]
  aF : Arr w w.heap.size Fa N (fun i => .bool (fb i))
  aA : ArrB w w.heap.size A n p
theorem BestK.below {w w' : World} {W H : Int} {Bf Bw Bh Br Bi gr N : Nat} {Fa A : Option Addr} {fc n c : Nat} {fb : Int → Bool} {R p : Int → Int} (k : BestK w W H Bf Bw Bh Br Bi gr N Fa A fc n c fb R p) (hb : Below w.heap.size w w') : BestK w' W H Bf Bw Bh Br Bi gr N Fa A fc n c fb R p :=
  ⟨k.kf.below' hb, k.kw.below' hb, k.kh.below' hb, k.kr.below' hb, k.kR.below' hb, k.ki.below' hb, (k.aF.below hb).more hb.size, k.aA.to hb⟩

/-- the same below a fixed number of blocks -/
structure BestB (B : Nat) (w : World) (W H : Int) (Bf Bw Bh Br Bi gr N : Nat) (Fa A : Option Addr) (fc n c : Nat) (fb : Int → Bool) (R p : Int → Int) : Prop where
  kf : Blk w Bf 67 #[.slice Fa N fc] ∧ Bf < B
  kw : Blk w Bw 3 #[.int .i64 W] ∧ Bw < B
  kh : Blk w Bh 3 #[.int .i64 H] ∧ Bh < B
  kr : Blk w Br 25 #[.slice (some ⟨gr, 0, none⟩) N N] ∧ Br < B
  kR : Blk w gr 3 (i64s N R) ∧ gr < B
  ki : Blk w Bi 24 #[.int .i64 W, .int .i64 H, .slice A n c] ∧ Bi < B
  aF : Arr w B Fa N (fun i => .bool (fb i))
  aA : ArrB w B A n p
section
variable {B : Nat} {w w' : World} {W H : Int} {Bf Bw Bh Br Bi gr N : Nat} {Fa A : Option Addr} {fc n c : Nat} {fb : Int → Bool} {R p : Int → Int}
theorem BestK.toB (k : BestK w W H Bf Bw Bh Br Bi gr N Fa A fc n c fb R p) : BestB w.heap.size w W H Bf Bw Bh Br Bi gr N Fa A fc n c fb R p :=
  ⟨⟨k.kf, k.kf.lt⟩, ⟨k.kw, k.kw.lt⟩, ⟨k.kh, k.kh.lt⟩, ⟨k.kr, k.kr.lt⟩, ⟨k.kR, k.kR.lt⟩, ⟨k.ki, k.ki.lt⟩, k.aF, k.aA⟩
theorem BestB.below (k : BestB B w W H Bf Bw Bh Br Bi gr N Fa A fc n c fb R p) (hb : Below B w w') : BestB B w' W H Bf Bw Bh Br Bi gr N Fa A fc n c fb R p :=
  ⟨⟨k.kf.1.below hb k.kf.2, k.kf.2⟩, ⟨k.kw.1.below hb k.kw.2, k.kw.2⟩, ⟨k.kh.1.below hb k.kh.2, k.kh.2⟩, ⟨k.kr.1.below hb k.kr.2, k.kr.2⟩, ⟨k.kR.1.below hb k.kR.2, k.kR.2⟩, ⟨k.ki.1.below hb k.ki.2, k.ki.2⟩, k.aF.below hb, k.aA.below hb⟩
end
/-- the state of the loop over the next rows -/
structure StepI (w : World) (W H x y : Int) (Bf Bw Bh Br Bi gr N : Nat) (Fa A : Option Addr) (fc n c : Nat) (fb : Int → Bool) (R p : Int → Int) (m : Int) (S : Nat) (w' : World) : Prop where
  bl : Below w.heap.size w w'
  k : BestB w.heap.size w' W H Bf Bw Bh Br Bi gr N Fa A fc n c fb R p
  bx : Blk w' w.heap.size 3 #[.int .i64 x]
  by' : Blk w' (w.heap.size + 1) 3 #[.int .i64 y]
  bn : Blk w' (w.heap.size + 1 + 1) 3 #[.int .i64 m]
  sz : S ≤ w'.heap.size

set_option maxRecDepth 100000 in
set_option maxHeartbeats 2000000 in
theorem from_never (W H x y : Int) (Bf Bw Bh Br Bi gr N : Nat) (Fa A : Option Addr) (fc n c : Nat) (fb : Int → Bool) (R p : Int → Int) (w : World) (k : BestK w W H Bf Bw Bh Br Bi gr N Fa A fc n c fb R p)
    (hE : chk W H n p = 0) (hN : (N : Int) = W * H) (x0 : 0 ≤ x) (x1 : x < W) (y0 : 0 ≤ y) (y1 : y < H) (hf : fb (y * W + x) = true) :
    Calls Try.prog 103 #[.int .i64 x, .int .i64 y, .pointer (some ⟨Bf, 0, none⟩), .pointer (some ⟨Bw, 0, none⟩), .pointer (some ⟨Bh, 0, none⟩), .pointer (some ⟨Br, 0, none⟩), .pointer (some ⟨Bi, 0, none⟩)] w
      fun e w' => e = .returned (.int .i64 1073741824) ∧ Below w.heap.size w w' := by
  obtain ⟨hW1, hW2, hH1, hH2, hnn, -⟩ := chk_ok hE
  obtain ⟨i1, i2, i3⟩ := idx_lt x0 x1 y0 y1
  rw [Int.mul_comm H W] at i2
  have i4 : y * W + x < N := by omega
  have j6 := (area_bd hW1 hW2 hH1 hH2).2
  have v1 : IntKind.i64.wrap (y * W) = y * W := IntWalk.i64_in _ (by omega)
  have v2 : IntKind.i64.wrap (y * W + x) = y * W + x := IntWalk.i64_in _ (by omega)
  have k2 := k.below (w' := (w.alloc (.cells #[.int .i64 x] 3)).alloc (.cells #[.int .i64 y] 3)) (by (repeat (first | exact Below.refl _ _ | assumption | refine Below.drew ?_ | refine below_drewN ?_ _ | refine Below.alloc ?_ (by first | omega | (simp; done) | (simp; omega)) _ | refine Below.setCell ?_ (by first | omega | (simp; done) | (simp; omega)) _ | refine below_setRow ?_ (by first | omega | (simp; done) | (simp; omega)) _ )))
  obtain ⟨b', off, rfl, hbB, hcell⟩ := k2.aF.at_ i1 i4
  rw [hf] at hcell
  have q1 := k2.kf.at0; have q2 := k2.kw.at0
  have z1 := k.kf.lt; have z2 := k.kw.lt
  clear k2 hE hN hnn hf
  go_enter Try.func103, Try.ntmps103
  go_wp2
  go_ret
  exact ⟨rfl, by (repeat (first | exact Below.refl _ _ | assumption | refine Below.drew ?_ | refine below_drewN ?_ _ | refine Below.alloc ?_ (by first | omega | (simp; done) | (simp; omega)) _ | refine Below.setCell ?_ (by first | omega | (simp; done) | (simp; omega)) _ | refine below_setRow ?_ (by first | omega | (simp; done) | (simp; omega)) _ ))⟩

set_option maxRecDepth 100000 in
set_option maxHeartbeats 2000000 in
theorem from_last (W H x y : Int) (Bf Bw Bh Br Bi gr N : Nat) (Fa A : Option Addr) (fc n c : Nat) (fb : Int → Bool) (R p : Int → Int) (w : World) (k : BestK w W H Bf Bw Bh Br Bi gr N Fa A fc n c fb R p)
    (hE : chk W H n p = 0) (hB : IsB p) (hN : (N : Int) = W * H) (x0 : 0 ≤ x) (x1 : x < W) (xl : ¬ x < W - 1) (y0 : 0 ≤ y) (y1 : y < H) (hf : fb (y * W + x) = false) :
    Calls Try.prog 103 #[.int .i64 x, .int .i64 y, .pointer (some ⟨Bf, 0, none⟩), .pointer (some ⟨Bw, 0, none⟩), .pointer (some ⟨Bh, 0, none⟩), .pointer (some ⟨Br, 0, none⟩), .pointer (some ⟨Bi, 0, none⟩)] w
      fun e w' => e = .returned (.int .i64 (min (cst p W x y) 1073741824)) ∧ Below w.heap.size w w' := by
  obtain ⟨hW1, hW2, hH1, hH2, hnn, -⟩ := chk_ok hE
  obtain ⟨i1, i2, i3⟩ := idx_lt x0 x1 y0 y1
  rw [Int.mul_comm H W] at i2
  have i4 : y * W + x < N := by omega
  have j6 := (area_bd hW1 hW2 hH1 hH2).2
  have v1 : IntKind.i64.wrap (y * W) = y * W := IntWalk.i64_in _ (by omega)
  have v2 : IntKind.i64.wrap (y * W + x) = y * W + x := IntWalk.i64_in _ (by omega)
  have k2 := k.below (w' := (w.alloc (.cells #[.int .i64 x] 3)).alloc (.cells #[.int .i64 y] 3)) (by (repeat (first | exact Below.refl _ _ | assumption | refine Below.drew ?_ | refine below_drewN ?_ _ | refine Below.alloc ?_ (by first | omega | (simp; done) | (simp; omega)) _ | refine Below.setCell ?_ (by first | omega | (simp; done) | (simp; omega)) _ | refine below_setRow ?_ (by first | omega | (simp; done) | (simp; omega)) _ )))
  have PX := Lib.hid fun w' hA' => paper_any W H A n c p x y w' hA' hB hE x0 x1 y0 y1
  obtain ⟨b', off, rfl, hbB, hcell⟩ := k2.aF.at_ i1 i4
  rw [hf] at hcell
  have q1 := k2.kf.at0; have q2 := k2.kw.at0
  have z1 := k.kf.lt; have z2 := k.kw.lt
  have cb := cst_bd p W x y
  obtain ⟨cb1, cb2⟩ := cb
  have k3 := k.below (w' := ((w.alloc (.cells #[.int .i64 x] 3)).alloc (.cells #[.int .i64 y] 3)).alloc (.cells #[.int .i64 0] 3)) (by (repeat (first | exact Below.refl _ _ | assumption | refine Below.drew ?_ | refine below_drewN ?_ _ | refine Below.alloc ?_ (by first | omega | (simp; done) | (simp; omega)) _ | refine Below.setCell ?_ (by first | omega | (simp; done) | (simp; omega)) _ | refine below_setRow ?_ (by first | omega | (simp; done) | (simp; omega)) _ )))
  have q3 := k3.kw.at0
  have BX : Blk (((w.alloc (.cells #[.int .i64 x] 3)).alloc (.cells #[.int .i64 y] 3)).alloc (.cells #[.int .i64 0] 3)) w.heap.size 3 #[.int .i64 x] := ((Blk.new _ _ _).alloc _).alloc _
  have BY : Blk (((w.alloc (.cells #[.int .i64 x] 3)).alloc (.cells #[.int .i64 y] 3)).alloc (.cells #[.int .i64 0] 3)) (w.heap.size + 1) 3 #[.int .i64 y] := (Blk.new' (by simp) _ _).alloc _
  have BN : Blk (((w.alloc (.cells #[.int .i64 x] 3)).alloc (.cells #[.int .i64 y] 3)).alloc (.cells #[.int .i64 0] 3)) (w.heap.size + 1 + 1) 3 #[.int .i64 0] := Blk.new' (by simp) _ _
  have b3 : Below w.heap.size w (((w.alloc (.cells #[.int .i64 x] 3)).alloc (.cells #[.int .i64 y] 3)).alloc (.cells #[.int .i64 0] 3)) := by (repeat (first | exact Below.refl _ _ | assumption | refine Below.drew ?_ | refine below_drewN ?_ _ | refine Below.alloc ?_ (by first | omega | (simp; done) | (simp; omega)) _ | refine Below.setCell ?_ (by first | omega | (simp; done) | (simp; omega)) _ | refine below_setRow ?_ (by first | omega | (simp; done) | (simp; omega)) _ ))
  have BX := Lib.hid BX; have BY := Lib.hid BY; have BN := Lib.hid BN; have B3 := Lib.hid b3; have K3 := Lib.hid k3
  generalize cst p W x y = ci at *
  have v3 : IntKind.i64.wrap ci = ci := IntWalk.i64_in _ (by omega)
  clear k2 hE hN hnn hf k k3 b3
  go_enter Try.func103, Try.ntmps103
  go_wp2_with fail
  generalize ((w.alloc (.cells #[.int .i64 x] 3)).alloc (.cells #[.int .i64 y] 3)).alloc (.cells #[.int .i64 0] 3) = w3 at *
  clear q1 q2 q3 hcell
  have q4 := BX.out.at0; have q5 := BY.out.at0; have q6 := BN.out.at0
  obtain ⟨q7, q8, q9⟩ := K3.out.ki.cells3
  go_region_held3 (fun w' => w'.cell? ⟨w.heap.size, 0, none⟩ = some (.int .i64 x) ∧ w'.cell? ⟨w.heap.size + 1, 0, none⟩ = some (.int .i64 y) ∧ w'.cell? ⟨w.heap.size + 1 + 1, 0, none⟩ = some (.int .i64 0) ∧ w'.cell? ⟨Bi, 0, none⟩ = some (.int .i64 W) ∧ w'.cell? ⟨Bi, 1, none⟩ = some (.int .i64 H) ∧ w'.cell? ⟨Bi, 2, none⟩ = some (.slice A n c))
    (simp [go_sem, *])
    ((go_at_call 60
      refine (PX.out _ K3.out.aA.drew1).mono ?_
      rintro e w4 ⟨rfl, hb4⟩
      have x1 := (BX.out.drew.below' hb4).at0
      have x2 := (BY.out.drew.below' hb4).at0
      have x3 := (BN.out.drew.below' hb4).at0
      obtain ⟨x4, x5, x6⟩ := (K3.out.ki.drew.below' hb4).cells3
      have b4 := below_call B3.out.drew B3.out.drew.size hb4))
  all_goals
    go_wp2
    go_ret
    exact ⟨ret_int (by first | rfl | (simp; done) | omega), b4⟩

/-- the least of N and of what going on to the rows of a list costs -/
def minL (N : Int) (D : Int → Int) (y : Int) (l : List Int) : Int := l.foldl (fun n t => min n (goTo D y t)) N
theorem minL_snoc (N : Int) (D : Int → Int) (y t : Int) (l : List Int) : minL N D y (l ++ [t]) = min (minL N D y l) (goTo D y t) := by simp [minL]
theorem minL_nb (N : Int) (D : Int → Int) (y : Int) (j : Nat) : minL N D y (nbT y j) = mfold N (goTo D y) (nxLo y) j := by
  induction j with
  | zero => rfl
  | succ j ih => rw [nbT_snoc, minL_snoc, ih, mfold]
theorem minL_bd {N H : Int} {D : Int → Int} {y : Int} (hN : 0 ≤ N) (hD : ∀ t, 0 ≤ t → t < H → 0 ≤ D t) (l : List (RowIn H)) : 0 ≤ minL N D y (l.map Subtype.val) ∧ minL N D y (l.map Subtype.val) ≤ N := by
  have : ∀ (l : List (RowIn H)) (m : Int), 0 ≤ m → m ≤ N → 0 ≤ minL m D y (l.map Subtype.val) ∧ minL m D y (l.map Subtype.val) ≤ N := by
    intro l
    induction l with
    | nil => intro m h0 h1; exact ⟨h0, h1⟩
    | cons t l ih =>
      intro m h0 h1
      have := hD t.1 t.2.1 t.2.2
      exact ih (min m (goTo D y t.1)) (by unfold goTo; split <;> omega) (by omega)
  exact this l N hN (Int.le_refl _)

set_option maxRecDepth 100000 in
set_option maxHeartbeats 4000000 in
theorem from_step (W H x y : Int) (Bf Bw Bh Br Bi gr N : Nat) (Fa A : Option Addr) (fc n c : Nat) (fb : Int → Bool) (R p D : Int → Int) (w : World) (k : BestK w W H Bf Bw Bh Br Bi gr N Fa A fc n c fb R p)
    (hE : chk W H n p = 0) (hB : IsB p) (hN : (N : Int) = W * H) (x0 : 0 ≤ x) (x1 : x < W - 1) (y0 : 0 ≤ y) (y1 : y < H) (hf : fb (y * W + x) = false)
    (hD : ∀ t, 0 ≤ t → t < H → R (t * W + (x + 1)) = D t) (hD0 : ∀ t, 0 ≤ t → t < H → 0 ≤ D t ∧ D t ≤ 1073741824) :
    Calls Try.prog 103 #[.int .i64 x, .int .i64 y, .pointer (some ⟨Bf, 0, none⟩), .pointer (some ⟨Bw, 0, none⟩), .pointer (some ⟨Bh, 0, none⟩), .pointer (some ⟨Br, 0, none⟩), .pointer (some ⟨Bi, 0, none⟩)] w
      fun e w' => e = .returned (.int .i64 (min (mfold 1073741824 (goTo D y) (nxLo y) (nxN H y) + cst p W x y) 1073741824)) ∧ Below w.heap.size w w' := by
  obtain ⟨hW1, hW2, hH1, hH2, hnn, -⟩ := chk_ok hE
  obtain ⟨i1, i2, i3⟩ := idx_lt x0 (by omega : x < W) y0 y1
  rw [Int.mul_comm H W] at i2
  have i4 : y * W + x < N := by omega
  have j6 := (area_bd hW1 hW2 hH1 hH2).2
  have v1 : IntKind.i64.wrap (y * W) = y * W := IntWalk.i64_in _ (by omega)
  have v2 : IntKind.i64.wrap (y * W + x) = y * W + x := IntWalk.i64_in _ (by omega)
  have k2 := k.below (w' := (w.alloc (.cells #[.int .i64 x] 3)).alloc (.cells #[.int .i64 y] 3)) (by (repeat (first | exact Below.refl _ _ | assumption | refine Below.drew ?_ | refine below_drewN ?_ _ | refine Below.alloc ?_ (by first | omega | (simp; done) | (simp; omega)) _ | refine Below.setCell ?_ (by first | omega | (simp; done) | (simp; omega)) _ | refine below_setRow ?_ (by first | omega | (simp; done) | (simp; omega)) _ )))
  have PX := Lib.hid fun w' hA' => paper_any W H A n c p x y w' hA' hB hE x0 (by omega) y0 y1
  have ML := Lib.hid (minL_nb 1073741824 D y (nxN H y))
  obtain ⟨b', off, rfl, hbB, hcell⟩ := k2.aF.at_ i1 i4
  rw [hf] at hcell
  have q1 := k2.kf.at0; have q2 := k2.kw.at0
  have z1 := k.kf.lt; have z2 := k.kw.lt
  have k3 := k.below (w' := ((w.alloc (.cells #[.int .i64 x] 3)).alloc (.cells #[.int .i64 y] 3)).alloc (.cells #[.int .i64 0] 3)) (by (repeat (first | exact Below.refl _ _ | assumption | refine Below.drew ?_ | refine below_drewN ?_ _ | refine Below.alloc ?_ (by first | omega | (simp; done) | (simp; omega)) _ | refine Below.setCell ?_ (by first | omega | (simp; done) | (simp; omega)) _ | refine below_setRow ?_ (by first | omega | (simp; done) | (simp; omega)) _ )))
  have q3 := k3.kw.at0
  have k4 := k.below (w' := ((w.alloc (.cells #[.int .i64 x] 3)).alloc (.cells #[.int .i64 y] 3)).alloc (.cells #[.int .i64 1073741824] 3)) (by (repeat (first | exact Below.refl _ _ | assumption | refine Below.drew ?_ | refine below_drewN ?_ _ | refine Below.alloc ?_ (by first | omega | (simp; done) | (simp; omega)) _ | refine Below.setCell ?_ (by first | omega | (simp; done) | (simp; omega)) _ | refine below_setRow ?_ (by first | omega | (simp; done) | (simp; omega)) _ )))
  have q4 := k4.kh.at0
  have BX : Blk (((w.alloc (.cells #[.int .i64 x] 3)).alloc (.cells #[.int .i64 y] 3)).alloc (.cells #[.int .i64 1073741824] 3)) w.heap.size 3 #[.int .i64 x] := ((Blk.new _ _ _).alloc _).alloc _
  have BY : Blk (((w.alloc (.cells #[.int .i64 x] 3)).alloc (.cells #[.int .i64 y] 3)).alloc (.cells #[.int .i64 1073741824] 3)) (w.heap.size + 1) 3 #[.int .i64 y] := (Blk.new' (by simp) _ _).alloc _
  have BN : Blk (((w.alloc (.cells #[.int .i64 x] 3)).alloc (.cells #[.int .i64 y] 3)).alloc (.cells #[.int .i64 1073741824] 3)) (w.heap.size + 1 + 1) 3 #[.int .i64 1073741824] := Blk.new' (by simp) _ _
  have b4 : Below w.heap.size w (((w.alloc (.cells #[.int .i64 x] 3)).alloc (.cells #[.int .i64 y] 3)).alloc (.cells #[.int .i64 1073741824] 3)) := by (repeat (first | exact Below.refl _ _ | assumption | refine Below.drew ?_ | refine below_drewN ?_ _ | refine Below.alloc ?_ (by first | omega | (simp; done) | (simp; omega)) _ | refine Below.setCell ?_ (by first | omega | (simp; done) | (simp; omega)) _ | refine below_setRow ?_ (by first | omega | (simp; done) | (simp; omega)) _ ))
  have KB : BestB w.heap.size (((w.alloc (.cells #[.int .i64 x] 3)).alloc (.cells #[.int .i64 y] 3)).alloc (.cells #[.int .i64 1073741824] 3)) W H Bf Bw Bh Br Bi gr N (some ⟨b', off, none⟩) A fc n c fb R p := k.toB.below (by (repeat (first | exact Below.refl _ _ | assumption | refine Below.drew ?_ | refine below_drewN ?_ _ | refine Below.alloc ?_ (by first | omega | (simp; done) | (simp; omega)) _ | refine Below.setCell ?_ (by first | omega | (simp; done) | (simp; omega)) _ | refine below_setRow ?_ (by first | omega | (simp; done) | (simp; omega)) _ )))
  have M4 : StepI w W H x y Bf Bw Bh Br Bi gr N (some ⟨b', off, none⟩) A fc n c fb R p 1073741824 w.heap.size (((w.alloc (.cells #[.int .i64 x] 3)).alloc (.cells #[.int .i64 y] 3)).alloc (.cells #[.int .i64 1073741824] 3)) := ⟨b4, KB, BX, BY, BN, b4.size⟩
  clear BX BY BN KB
  have HD := Lib.hid hD; have HD0 := Lib.hid hD0; have HNN := Lib.hid hN
  clear k2 hE hN hnn hf k k3 b4 k4 hD hD0
  refine (callsIn_wide (n := 5)).1 ?_
  refine callsIn_of_wp_marks Try.func103 rfl trivial ?_ rfl
  simp only [Try.ntmps103, List.size_toArray, List.length_cons, List.length_nil, Nat.reduceAdd, Nat.reduceSub, Array.replicate_succ, Array.replicate_zero, List.push_toArray, List.append_toArray, List.nil_append, List.cons_append]
  gi_wp2_with fail
  generalize ((w.alloc (.cells #[.int .i64 x] 3)).alloc (.cells #[.int .i64 y] 3)).alloc (.cells #[.int .i64 1073741824] 3) = w4 at *
  refine ⟨trivial, ?_⟩
  refine (callsIn_wide.2 (next_any y H _)).mono ?_
  rintro e w5 ⟨_, rfl, ⟨rfl, ky, kh⟩, hb5⟩
  have z4 : w.heap.size + 1 + 1 < w4.heap.size := M4.bn.lt
  have M5 : StepI w W H x y Bf Bw Bh Br Bi gr N (some ⟨b', off, none⟩) A fc n c fb R p 1073741824 w5.heap.size w5 :=
    ⟨below_call M4.bl M4.bl.size hb5, M4.k.below (hb5.mono M4.bl.size), M4.bx.below' hb5, M4.by'.below' hb5, M4.bn.below' hb5, Nat.le_refl _⟩
  have z5 : w4.heap.size + 1 < w5.heap.size := kh.lt
  clear hb5 M4 q1 q2 q3 q4 hcell
  generalize hb4 : w4.heap.size = b4 at *
  clear hb4
  gi_wp2_with fail
  refine wpIn_rangeFunc_ownF (F := Fence.wide) (n := 5) rfl (by omega) (gf := 121) (lb := #[.pointer (some ⟨b4, 0, none⟩), .pointer (some ⟨b4 + 1, 0, none⟩)]) rfl trivial (enters_of Try.func121 (by kernel_rfl) rfl) (next_stops Fence.wide 4 trivial rfl (by omega) y H b4 (b4 + 1) w5 ky kh y0 y1 hH2)
    (fun h k => KpB.trans h k) (fun W' l o o' hl ho _ _ => by
      have hlt := (Array.getElem?_eq_some_iff.1 ho).1
      exact ⟨(grownBy_putObj' W' l o').block b4 (by omega) (by intro e; cases e; omega), (grownBy_putObj' W' l o').block (b4 + 1) (by omega) (by intro e; cases e; omega)⟩) (Below.refl _ _) (fun _ => rfl)
    (fun pre W' => StepI w W H x y Bf Bw Bh Br Bi gr N (some ⟨b', off, none⟩) A fc n c fb R p (minL 1073741824 D y (pre.map Subtype.val)) w5.heap.size W') (fun _ _ _ => False)
    (ownFrom_of_below (fun s X Y hs hXY => ⟨hs.bl.trans (hXY.mono (by omega)), hs.k.below (hXY.mono (by omega)), hs.bx.below hXY (by omega), hs.by'.below hXY (by omega), hs.bn.below hXY (by omega), Nat.le_trans hs.sz hXY.size⟩) (fun s X hs => hs.sz))
    (fun _ _ _ _ _ hs _ _ => hs) M5
    (fun t => { tmps := #[.int .i64 x, .int .i64 y, .pointer (some ⟨Bf, 0, none⟩), .pointer (some ⟨Bw, 0, none⟩), .pointer (some ⟨Bh, 0, none⟩), .pointer (some ⟨Br, 0, none⟩), .pointer (some ⟨Bi, 0, none⟩), .pointer (some ⟨w.heap.size, 0, none⟩), .pointer (some ⟨w.heap.size + 1, 0, none⟩), .int .i64 0, .pointer (some ⟨w.heap.size + 1 + 1, 0, none⟩),
      .int .i64 t.1, undef, .slice (some ⟨b', off, none⟩) N fc, .int .i64 y, .int .i64 W, .int .i64 (y * W), .int .i64 x, .int .i64 (y * W + x), .pointer (some ⟨b', off + (y * W + x).toNat, none⟩), .bool false, .int .i64 x, .int .i64 W, .int .i64 (W - 1), .bool true, .int .i64 y, .int .i64 H,
      .func (.func 121) #[] #[.pointer (some ⟨b4, 0, none⟩), .pointer (some ⟨b4 + 1, 0, none⟩)], .int .i64 t.1, undef, undef, undef, undef, undef, undef, undef, undef, undef, undef, undef, undef, undef, undef, undef, undef, undef, undef, undef, undef, undef, undef, undef, undef], defers := [] }) ?assign ?body ?done ?stop
  case assign =>
    intro l t W' K hK
    gi_wp2
    exact hK
  case body =>
    rintro l pre ⟨t, t0, t1⟩ W' m _
    have r1 := m.k.kr.1.at0; have r2 := m.k.kw.1.at0; have r3 := m.bx.at0; have r4 := m.by'.at0; have r5 := m.bn.at0; have r6 := m.bn.frozen 0
    obtain ⟨l1, l2, l3⟩ := idx_lt (x := x + 1) (y := t) (W := W) (H := H) (by omega) (by omega) t0 t1
    rw [Int.mul_comm H W] at l2
    have hr := m.k.kR.1.i64at (i := t * W + x + 1) (by omega) (by have := HNN.out; omega)
    rw [show R (t * W + x + 1) = D t by rw [show t * W + x + 1 = t * W + (x + 1) by omega]; exact HD.out t t0 t1] at hr
    have l4 : t * W + x + 1 < (N : Int) := by have := HNN.out; omega
    have l5 : 0 ≤ t * W + x + 1 := by omega
    obtain ⟨d1, d2⟩ := HD0.out t t0 t1
    obtain ⟨m1, m2⟩ := minL_bd (N := 1073741824) (H := H) (D := D) (y := y) (by omega) (fun t a b => (HD0.out t a b).1) pre
    have SN : Hid (minL 1073741824 D y ((pre ++ [(⟨t, t0, t1⟩ : RowIn H)]).map Subtype.val) = min (minL 1073741824 D y (pre.map Subtype.val)) (D t + if t = y then 0 else 1)) := by
      show _ = _; rw [List.map_append]; exact minL_snoc _ _ _ _ _
    have MM := Lib.hid m
    clear m
    generalize minL 1073741824 D y (pre.map Subtype.val) = M at *
    generalize D t = Dt at *
    have FIN : ∀ v, v = minL 1073741824 D y ((pre ++ [(⟨t, t0, t1⟩ : RowIn H)]).map Subtype.val) → KeepsOthers W' (W'.setCell ⟨w.heap.size + 1 + 1, 0, none⟩ (.int .i64 v)) ∧ KpB b4 (b4 + 1) W' (W'.setCell ⟨w.heap.size + 1 + 1, 0, none⟩ (.int .i64 v)) ∧
        StepI w W H x y Bf Bw Bh Br Bi gr N (some ⟨b', off, none⟩) A fc n c fb R p (minL 1073741824 D y ((pre ++ [(⟨t, t0, t1⟩ : RowIn H)]).map Subtype.val)) w5.heap.size (W'.setCell ⟨w.heap.size + 1 + 1, 0, none⟩ (.int .i64 v)) := by
      rintro v rfl
      have m := MM.out
      exact ⟨KeepsOthers.setCell _ _ _, ⟨heap_setCell_other _ _ _ _ (by simp; omega), heap_setCell_other _ _ _ _ (by simp; omega)⟩,
        ⟨m.bl.setCell (by simp; omega) _, m.k.below ((Below.refl _ _).setCell (by simp; omega) _), m.bx.far (by simp; omega) _, m.by'.far (by simp) _, m.bn.set_ 0 _, by simpa using m.sz⟩⟩
    have FIN := Lib.hid FIN
    by_cases e : t = y
    · rw [if_pos e] at SN
      have hb : (t != y) = false := by simp [e]
      have E := Lib.hid e; clear e
      by_cases hm : Dt < M
      · gi_wp2
        exact FIN.out _ (by rw [SN.out]; omega)
      · gi_wp2
        exact FIN.out _ (by rw [SN.out]; omega)
    · rw [if_neg e] at SN
      have hb : (t != y) = true := by simp [e]
      have E := Lib.hid e; clear e
      by_cases hm : Dt + 1 < M
      · gi_wp2
        exact FIN.out _ (by rw [SN.out]; omega)
      · gi_wp2
        exact FIN.out _ (by rw [SN.out]; omega)
  case done =>
    rintro D' xs W' hD hS m hK
    rw [hS, ML.out] at m
    generalize hMM : mfold 1073741824 (goTo D y) (nxLo y) (nxN H y) = M at *
    have HMM := Lib.hid hMM; clear hMM
    have r3 := m.bx.at0; have r4 := m.by'.at0; have r5 := m.bn.at0
    obtain ⟨r7, r8, r9⟩ := m.k.ki.1.cells3
    have cb := cst_bd p W x y
    obtain ⟨cb1, cb2⟩ := cb
    have mb : 0 ≤ M ∧ M ≤ 1073741824 := by rw [← ML.out, ← hS]; exact minL_bd (by omega) (fun t a b => (HD0.out t a b).1) xs
    obtain ⟨mb1, mb2⟩ := mb
    generalize hci : cst p W x y = ci at *
    have HCI := Lib.hid hci; clear hci
    have v3 : IntKind.i64.wrap (M + ci) = M + ci := IntWalk.i64_in _ (by omega)
    have hK0 := (Array.getElem?_eq_some_iff.1 hK).1
    have M6 := Lib.hid m
    have HS := Lib.hid hS
    have HK := Lib.hid hK
    clear hS m hK
    gi_wp2_with fail
    refine wpIn_wide.2 ?_
    go_region_held3 (fun w' => w'.cell? ⟨w.heap.size, 0, none⟩ = some (.int .i64 x) ∧ w'.cell? ⟨w.heap.size + 1, 0, none⟩ = some (.int .i64 y) ∧ w'.cell? ⟨w.heap.size + 1 + 1, 0, none⟩ = some (.int .i64 M) ∧ w'.cell? ⟨Bi, 0, none⟩ = some (.int .i64 W) ∧ w'.cell? ⟨Bi, 1, none⟩ = some (.int .i64 H) ∧ w'.cell? ⟨Bi, 2, none⟩ = some (.slice A n c))
      (simp [go_sem, *])
      ((go_at_call 60
        refine (PX.out _ ((M6.out.k.aA.more M6.out.bl.size).drew1)).mono ?_
        rintro e w6 ⟨rfl, hb6⟩
        have x1 := (M6.out.bx.drew.below' hb6).at0
        have x2 := (M6.out.by'.drew.below' hb6).at0
        have x3 := (M6.out.bn.drew.below' hb6).at0
        obtain ⟨x4, x5, x6⟩ := (M6.out.k.ki.1.drew.below' hb6).cells3
        have hK6 : w6.heap[D']? = some (.deferred (some [])) := (hb6.block D' hK0).trans HK.out
        have b6 := below_call M6.out.bl.drew M6.out.bl.drew.size hb6))
    go_wp2
    all_goals
      gi_wp2
      refine ⟨by simp, .inl ⟨_, _, rfl, run_takeDeferred hK6, ?_⟩⟩
      refine ⟨_, results_tmp rfl _ _ _, ?_, b6.trans (belowK_b (w := w) (Nat.le_refl _) w6 D' _ _ (by have := M6.out.bl.size; omega) hK6 rfl rfl)⟩
      rw [HMM.out, HCI.out]
      first
        | (show Ending.returned (.int .i64 1073741824) = _; exact ret_int (by omega))
        | (show Ending.returned (.int .i64 (M + ci)) = _; exact ret_int (by omega))
  case stop =>
    rintro D c pre W' _ _ h _
    exact h.elim
end Go.Proofs.Ytdimlpcbbkokiaa

/- Walk: the closure of best in one piece; the table of least costs while it is filled. -/
namespace Go.Proofs.Ytdimlpcbbkokiaa
open Go.RowKit
set_option linter.unusedVariables false

def NV : Int := 1073741824
theorem from_all (W H x y : Int) (Bf Bw Bh Br Bi gr N : Nat) (Fa A : Option Addr) (fc n c : Nat) (fb : Int → Bool) (R p : Int → Int) (w : World) (k : BestK w W H Bf Bw Bh Br Bi gr N Fa A fc n c fb R p)
    (hE : chk W H n p = 0) (hB : IsB p) (hN : (N : Int) = W * H) (x0 : 0 ≤ x) (x1 : x < W) (y0 : 0 ≤ y) (y1 : y < H)
    (hR : x < W - 1 → ∀ t, 0 ≤ t → t < H → R (t * W + (x + 1)) = gAt 1073741824 W H (cst p W) (fun x y => fb (y * W + x)) (x + 1) t) :
    Calls Try.prog 103 #[.int .i64 x, .int .i64 y, .pointer (some ⟨Bf, 0, none⟩), .pointer (some ⟨Bw, 0, none⟩), .pointer (some ⟨Bh, 0, none⟩), .pointer (some ⟨Br, 0, none⟩), .pointer (some ⟨Bi, 0, none⟩)] w
      fun e w' => e = .returned (.int .i64 (gAt 1073741824 W H (cst p W) (fun x y => fb (y * W + x)) x y)) ∧ Below w.heap.size w w' := by
  obtain ⟨hW1, hW2, hH1, hH2, -, -⟩ := chk_ok hE
  cases hf : fb (y * W + x)
  · by_cases hx : x < W - 1
    · rw [gAt_step x0 hx, if_neg (by simp [hf])]
      exact from_step W H x y Bf Bw Bh Br Bi gr N Fa A fc n c fb R p _ w k hE hB hN x0 hx y0 y1 hf (hR hx) (fun t a b => by
        have := gAt_bd (N := 1073741824) (W := W) (H := H) (F := fun x y => fb (y * W + x)) (cst_bd p W) (by omega) (x := x + 1) (by omega) (by omega) a b
        omega)
    · obtain rfl : x = W - 1 := by omega
      rw [gAt_last, if_neg (by simp [hf])]
      exact from_last W H (W - 1) y Bf Bw Bh Br Bi gr N Fa A fc n c fb R p w k hE hB hN x0 x1 hx y0 y1 hf
  · have e : gAt 1073741824 W H (cst p W) (fun x y => fb (y * W + x)) x y = 1073741824 := by
      by_cases hx : x < W - 1
      · rw [gAt_step x0 hx, if_pos hf]
      · obtain rfl : x = W - 1 := by omega
        rw [gAt_last, if_pos hf]
    rw [e]
    exact from_never W H x y Bf Bw Bh Br Bi gr N Fa A fc n c fb R p w k hE hN x0 x1 y0 y1 hf

/-- the table of least costs: the columns behind x are done, and the first y rows of column x -/
def restR (W : Int) (G : Int → Int → Int) (x y : Int) : Int → Int := fun i => if x < i % W ∨ (i % W = x ∧ i / W < y) then G (i % W) (i / W) else 0
theorem restR_start {W : Int} {G : Int → Int → Int} {i : Int} (hW : 0 < W) (h0 : 0 ≤ i) : restR W G (W - 1) 0 i = 0 := by
  have h1 : i % W < W := Int.emod_lt_of_pos _ hW
  have h2 : 0 ≤ i / W := Int.ediv_nonneg h0 (by omega)
  unfold restR; rw [if_neg (by omega)]
theorem restR_set {W : Int} {G : Int → Int → Int} {x y : Int} (hx0 : 0 ≤ x) (hx : x < W) (i : Int) : upd (restR W G x y) (y * W + x) (G x y) i = restR W G x (y + 1) i := by
  have a := idx_mod (y := y) hx0 hx
  have b := idx_div (y := y) hx0 hx
  show (if i = y * W + x then G x y else restR W G x y i) = _
  by_cases e : i = y * W + x
  · rw [if_pos e]; subst e
    unfold restR
    rw [a, b, if_pos (by omega)]
  · rw [if_neg e]
    unfold restR
    have : ¬ (i / W = y ∧ i % W = x) := fun ⟨h1, h2⟩ => e (by
      have := Int.emod_add_mul_ediv i W
      rw [h1, h2, Int.mul_comm] at this; omega)
    by_cases e2 : x < i % W ∨ (i % W = x ∧ i / W < y)
    · rw [if_pos e2, if_pos (by omega)]
    · rw [if_neg e2, if_neg (by omega)]
theorem restR_col {W H : Int} {G : Int → Int → Int} {x i : Int} (hW : 0 < W) (h0 : 0 ≤ i) (hi : i < W * H) : restR W G x H i = restR W G (x - 1) 0 i := by
  have h1 : i / W < H := Int.ediv_lt_of_lt_mul hW (by rw [Int.mul_comm]; exact hi)
  have h2 : 0 ≤ i / W := Int.ediv_nonneg h0 (by omega)
  unfold restR
  by_cases e : x < i % W ∨ (i % W = x ∧ i / W < H)
  · rw [if_pos e, if_pos (by omega)]
  · rw [if_neg e, if_neg (by omega)]
theorem restR_at {W : Int} {G : Int → Int → Int} {x y t u : Int} (hu0 : 0 ≤ u) (hu : u < W) (h : x < u) : restR W G x y (t * W + u) = G u t := by
  unfold restR
  rw [idx_mod hu0 hu, idx_div hu0 hu, if_pos (by omega)]
end Go.Proofs.Ytdimlpcbbkokiaa
