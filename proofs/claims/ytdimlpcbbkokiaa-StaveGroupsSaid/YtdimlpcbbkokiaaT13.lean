/- Walks: an image with one row of ink (custoslaw03.row), flat lines (custoslaw03.flat), slices.Clone of numbers. -/
import Derived.Test.YtdimlpcbbkokiaaT12
import Derived.Test.YtdimlpcbbkokiaaS6
namespace Go.Proofs.Ytdimlpcbbkokiaa
open Go.RowKit Go.Shelf
set_option linter.unusedVariables false
attribute [local go_sem] Oper.semAt_some

set_option maxHeartbeats 1000000 in
theorem row_any (hole : Int) (w : World) (h0 : 0 ≤ hole) (h1 : hole < 16) : Calls Try.prog 55 #[.int .i64 hole] w (New w fun v w' => OutN w w' 16 5 80 (rowQ hole) v) := by
  have hmk := makeB 80 (by omega) (by omega)
  rw [show (80 : Int).toNat = 80 from rfl] at hmk
  go_enter Try.func55, Try.ntmps55
  go_wp2
  go_loopw [7] (fun s wr => ∃ i : Nat, i ≤ 16 ∧ s = .int .i64 i ∧ Below w.heap.size w wr ∧ Blk wr w.heap.size 24 #[.int .i64 0, .int .i64 0, .slice none 0 0] ∧
     Blk wr (w.heap.size + 2) 24 #[.int .i64 16, .int .i64 5, .slice (some ⟨w.heap.size + 1, 0, none⟩) 80 80] ∧ Blk wr (w.heap.size + 1) 5 (u8s 80 (fun j => if j < 32 + i then rowQ hole j else 0))) (fun s _ => 16 - (intOf s).toNat)
  case atStart =>
    refine ⟨0, by omega, rfl, by (repeat (first | exact Below.refl _ _ | assumption | refine Below.drew ?_ | refine below_drewN ?_ _ | refine Below.alloc ?_ (by first | omega | (simp; done) | (simp; omega)) _ | refine Below.setCell ?_ (by first | omega | (simp; done) | (simp; omega)) _ | refine below_setRow ?_ (by first | omega | (simp; done) | (simp; omega)) _ )), ?_, ?_, ?_⟩
    · exact ((Blk.new _ _ _).alloc _).alloc _
    · exact Blk.new' (by simp) _ _
    · exact ((Blk.new' (by simp) _ _).alloc _).u8conv fun j h _ => by unfold rowQ; split <;> omega
  case round =>
    obtain ⟨i, hi, rfl, b1, k0, k2, kg⟩ := hrel
    obtain ⟨p1, p2, p3⟩ := k2.cells3
    by_cases hlt : i < 16
    · obtain ⟨J, hJ⟩ : ∃ J : Int, J = 32 + i := ⟨_, rfl⟩
      have v1 : IntKind.i64.wrap (32 + (i : Int)) = J := by rw [hJ]; exact IntWalk.i64_in _ (by omega)
      have J0 : 0 ≤ J := by omega
      have J1 : J < 80 := by omega
      have hr := kg.u8at (i := J) J0 J1
      have hf := kg.frozen J.toNat
      have KS := Lib.hid (kg.u8set J J0 1)
      have HJ := Lib.hid hJ
      clear hJ
      have KG := Lib.hid kg
      clear kg
      have hlt' : (i : Int) < 16 := by omega
      by_cases e : (i : Int) = hole
      · have E := Lib.hid e
        have e' : ((i : Int) != hole) = false := by simp [e]
        clear e
        go_wp2
        go_roundw
        case rel =>
          refine ⟨i + 1, by omega, by go_num, b1, k0, k2, KG.out.u8conv fun j _ _ => ?_⟩
          have := E.out
          by_cases e1 : j < 32 + i
          · rw [if_pos e1, if_pos (by omega)]
          · rw [if_neg e1]
            split
            · unfold rowQ; rw [if_neg (by omega)]
            · rfl
        case measure => simp [intOf]; omega
      · have E := Lib.hid e
        have e' : ((i : Int) != hole) = true := by simp [e]
        clear e
        go_wp2
        go_roundw
        case rel =>
          refine ⟨i + 1, by omega, by go_num, by (repeat (first | exact Below.refl _ _ | assumption | refine Below.drew ?_ | refine below_drewN ?_ _ | refine Below.alloc ?_ (by first | omega | (simp; done) | (simp; omega)) _ | refine Below.setCell ?_ (by first | omega | (simp; done) | (simp; omega)) _ | refine below_setRow ?_ (by first | omega | (simp; done) | (simp; omega)) _ )), k0.far (by simp) _, k2.far (by simp) _, KS.out.u8conv fun j _ _ => ?_⟩
          have := E.out
          have hJ := HJ.out
          show (if j = J then (1 : Int) else if j < 32 + i then rowQ hole j else 0) = _
          by_cases e : j = J
          · rw [if_pos e, if_pos (by omega)]
            unfold rowQ; rw [if_pos (by omega)]
          · rw [if_neg e]
            by_cases e' : j < 32 + i
            · rw [if_pos e', if_pos (by omega)]
            · rw [if_neg e', if_neg (by omega)]
        case measure => simp [intOf]; omega
    · obtain rfl : i = 16 := by omega
      obtain ⟨r1, r2, r3⟩ := k0.cells3
      obtain ⟨f1, f2, f3⟩ := k0.frozen3
      go_wp2
      refine bodyPost_ret (v := .agg #[.int .i64 16, .int .i64 5, .slice (some ⟨w.heap.size + 1, 0, none⟩) 80 80]) (by simp [results, Try.results55, go_sem, r1, r2, r3]) rfl ?_
      exact ⟨_, rfl, OutN.mk (by omega) ((((kg.u8conv fun j _ h => by (split; rfl; unfold rowQ; rw [if_neg (by omega)])).far (by simp) _).far (by simp) _).far (by simp) _), by (repeat (first | exact Below.refl _ _ | assumption | refine Below.drew ?_ | refine below_drewN ?_ _ | refine Below.alloc ?_ (by first | omega | (simp; done) | (simp; omega)) _ | refine Below.setCell ?_ (by first | omega | (simp; done) | (simp; omega)) _ | refine below_setRow ?_ (by first | omega | (simp; done) | (simp; omega)) _ ))⟩

theorem own_i64s {w : World} {g m base : Nat} {q : Int → Int} (h : Blk w g 3 (i64s m q)) (hb : base ≤ g) (hm : m ≤ maxLen) : w.ownsRow base 3 1 (.slice (some ⟨g, 0, none⟩) m m) m ((List.range m).map fun (j : Nat) => Value.int .i64 (q j)) := by
  refine ⟨by simp, .inr ⟨g, m, i64s m q, rfl, hb, h, Nat.le_refl _, hm, by rw [i64s_size, Nat.mul_one], ?_⟩⟩
  rw [Nat.mul_one]
  exact List.take_of_length_le (by simp [i64s, cellsF])
theorem Found.snoc {B m k : Nat} {w w' : World} {ln : Nat → Nat → Int} {vo v' : Value} {v : Nat → Value} {u : Value} (h : Found B w m ln k vo v) (hu : w.ownsRow B 3 1 u m ((List.range m).map fun j => Value.int .i64 (ln k j)))
    (hg : w.grownBy w' vo.ownBlock) (hr : w'.ownsRow B 25 1 v' (k + 1) ((List.range k).map v ++ [u])) : Found B w' m ln (k + 1) v' (fun i => if i = k then u else v i) := by
  refine ⟨?_, fun i hi => ?_⟩
  · rw [range_snoc]
    simp only [if_true]
    rw [show (List.range k).map (fun i => if i = k then u else v i) = (List.range k).map v from List.map_congr_left fun i hi => by rw [if_neg]; have := List.mem_range.1 hi; omega]
    exact hr
  · show World.ownsRow _ _ _ _ (if i = k then _ else v i) _ _
    by_cases e : i = k
    · subst e
      rw [if_pos rfl]
      exact own_grown hu h.row (by decide) hg
    · rw [if_neg e]
      exact own_grown (h.lines i (by omega)) h.row (by decide) hg

set_option maxRecDepth 100000 in
set_option maxHeartbeats 2000000 in
theorem flat_any (m K d : Nat) (R : Option Addr) (r : Int → Int) (w : World) (hR : ArrI w w.heap.size R K r) (hm : m ≤ 1000) (hK : K ≤ 1000) :
    Calls Try.prog 56 #[.int .i64 m, .slice R K d] w (New w fun v w' => ∃ vs, Found w.heap.size w' m (fun i _ => r i) K v vs) := by
  have hmk := makeI (m : Int) (by omega) (by omega)
  rw [Int.toNat_natCast] at hmk
  obtain ⟨i0, hi0, hz0, hz1, hz2⟩ := info_parts infoInts
  go_enter Try.func56, Try.ntmps56
  go_wp2
  go_loopw [5, 12] (fun vo s wr => ∃ (k : Nat) (v : Nat → Value), k ≤ K ∧ s = .int .i64 k ∧ Found w.heap.size wr m (fun i _ => r i) k vo v ∧ Below w.heap.size w wr) (fun _ s _ => K - (intOf s).toNat)
  case atStart => exact ⟨0, fun _ => .slice none 0 0, by omega, rfl, ⟨World.ownsRow_nil _ _ _ _, fun i hi => by omega⟩, Below.refl _ _⟩
  case round =>
    obtain ⟨k, v, hk, rfl, hF, b1⟩ := hrel
    by_cases hlt : (k : Int) < K
    · obtain ⟨b, off, rfl, hb, hc⟩ := ArrI.at_ (ArrI.below hR b1) (i := (k : Int)) (by omega) (by omega)
      rw [Int.toNat_natCast] at hc
      have kl := Blk.new wr 3 (i64s m (fun _ => 0))
      have b2 : Below wr.heap.size wr (wr.alloc (.cells (i64s m (fun _ => 0)) 3)) := (Below.refl _ _).alloc (Nat.le_refl _) _
      have HR := Lib.hid hR
      have zl := b1.size
      clear hR
      obtain ⟨w0, e0⟩ : ∃ w0 : World, w0 = wr := ⟨_, rfl⟩
      subst e0
      go_wp2
      clear hc
      go_loopw [20] (fun s w9 => ∃ x : Nat, x ≤ m ∧ s = .int .i64 x ∧ Below w0.heap.size w0 w9 ∧ Blk w9 w0.heap.size 3 (i64s m (fun j => if j < x then r k else 0))) (fun s _ => m - (intOf s).toNat)
      case atStart => exact ⟨0, by omega, rfl, b2, kl.i64conv fun j h _ => by rw [if_neg (by omega)]⟩
      case round =>
        obtain ⟨x, xm, rfl, b3, kl3⟩ := hrel
        clear b2 kl
        by_cases xl : (x : Int) < m
        · have c1 := kl3.i64at (i := (x : Int)) (by omega) (by omega)
          have f1 := kl3.frozen x
          rw [Int.toNat_natCast] at c1
          have KS := kl3.i64set (x : Int) (by omega) (r k)
          rw [Int.toNat_natCast] at KS
          have KS := Lib.hid KS
          go_wp2
          go_roundw
          case rel =>
            refine ⟨x + 1, by omega, by go_num, by (repeat (first | exact Below.refl _ _ | assumption | refine Below.drew ?_ | refine below_drewN ?_ _ | refine Below.alloc ?_ (by first | omega | (simp; done) | (simp; omega)) _ | refine Below.setCell ?_ (by first | omega | (simp; done) | (simp; omega)) _ | refine below_setRow ?_ (by first | omega | (simp; done) | (simp; omega)) _ )), KS.out.i64conv fun j _ _ => ?_⟩
            show (if j = x then r k else if j < x then r k else 0) = _
            split
            · rw [if_pos (by omega)]
            · by_cases e : j < x
              · rw [if_pos e, if_pos (by omega)]
              · rw [if_neg e, if_neg (by omega)]
          case measure => simp [intOf]; omega
        · obtain rfl : x = m := by omega
          have kl4 := kl3.i64conv (r := fun _ => r k) fun j _ h => by rw [if_pos h]
          clear kl3
          have F2 := hF.below b3
          have b4 := below_call b1 b1.size b3
          have z4 := b4.size
          go_wp2_with (at_builtin; refine wpList_append_own _ rfl (.tmp 28) (.tmp 30) 34 rfl w.heap.size 25 i0 (.slice none 0 0) 1 24 Try.underlying34 hi0 hz0 hz1 hz2 rfl (by decide) _ _ _ rfl (F2.row.alloc _) ⟨wr.heap.size, 0, none⟩ 1 1 [.slice (some ⟨w0.heap.size, 0, none⟩) x x] rfl rfl ?c1 ?c2 ?c3 ?c4 ?c5 ?_)
          try case c1 => exact cell_one_new _ _ _
          case c2 => simp [Value.oneCell']
          case c3 => unfold maxLen; omega
          case c4 => omega
          case c5 => first | omega | (simp; omega)
          intro v' w7 own7 hg7 _
          have F7 := (F2.below ((Below.refl _ _).alloc (Nat.le_refl _) _)).snoc (own_i64s (kl4.alloc _) zl (by unfold maxLen; omega)) hg7 own7
          have b7 : Below w.heap.size w w7 := (show Below w.heap.size w (wr.alloc (.cells #[.slice (some ⟨w0.heap.size, 0, none⟩) x x] 25)) by (repeat (first | exact Below.refl _ _ | assumption | refine Below.drew ?_ | refine below_drewN ?_ _ | refine Below.alloc ?_ (by first | omega | (simp; done) | (simp; omega)) _ | refine Below.setCell ?_ (by first | omega | (simp; done) | (simp; omega)) _ | refine below_setRow ?_ (by first | omega | (simp; done) | (simp; omega)) _ ))).grown hg7 (by simp; omega) (fun j hj => (own_ge F2.row hj).1)
          clear own7 hg7 F2 b3 kl4 b1 hF b4
          go_wp2
          go_roundw
          case rel => exact ⟨k + 1, _, by omega, by go_num, F7, b7⟩
          case measure => simp [intOf]; omega
    · obtain rfl : k = K := by omega
      go_wp2
      go_ret
      exact ⟨_, rfl, ⟨_, hF⟩, b1⟩
end Go.Proofs.Ytdimlpcbbkokiaa
