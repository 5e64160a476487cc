/- Texts of mine in build order: K4, F8, F9, Open. Conditions: each theorem's own. -/
import Derived.Test.YtoonkpjddfiopaaMCleanFoundx7
import Derived.Laws.EntriesVeiled
import Derived.Test.YtoonkpjddfiopaaRows
import Derived.ProofKit
import Derived.OpenShut
import Derived.ShutString
import Derived.ChangeOld
import Derived.Lib.SmallJoins
/- Walk: clean.Clean. -/
namespace Go.Proofs.Ytoonkpjddfiopaa
open Go.RowKit
set_option linter.unusedVariables false

theorem levP_256 (c : Int → Int) (m : Nat) (hm : m ≤ 256) : (levP c m).1 ≤ 256 := by
  induction m with
  | zero => simp [levP]
  | succ m ih =>
    have h := levP_bd c m
    have := ih (by omega)
    rw [levP]
    split
    · exact this
    · split
      · simp only; omega
      · simp only; omega
theorem levelS_bd (n : Nat) (p : Int → Int) : 0 ≤ levelS n p ∧ levelS n p ≤ 256 := ⟨(levP_bd _ _).1, levP_256 _ _ (Nat.le_refl _)⟩
/-- the skew that is found can be undone -/
theorem findS_mov {W H : Int} {n : Nat} {p : Int → Int} (hc : chk W H n p = 0) : movE W H n p (findS W H n p) (-1) = 0 ∧ -3 ≤ findS W H n p ∧ findS W H n p ≤ 3 := by
  obtain ⟨a, b, c, d, _, _⟩ := chk_ok hc
  have h0 : -1 < fsN W H n p 0 := fsN_ok.2 (movE_mk hc (by omega) (by omega) (by rw [grt_0]; omega) (by rw [grt_0]; omega))
  have h := best_ok h0 (fun k => (fsN_bd W H n p k).1)
  have e : findS W H n p = (fsL (fsN W H n p) L7).1 := rfl
  rw [e]
  exact ⟨fsN_ok.1 (by rw [h.1]; exact h.2.2.1), mem_L7.1 h.2.1⟩
/-- an image, a recipe and an error, new -/
def OutC (w w' : World) (E W H : Int) (N : Nat) (q : Int → Int) (r0 r1 r2 : Int) (v : Value) : Prop := ∃ A c, v = .tuple #[.agg #[.int .i64 W, .int .i64 H, .slice A N c], .agg #[.int .i64 r0, .int .i64 r1, .int .i64 r2], .int .i64 E] ∧ (∀ a, A = some a → w.heap.size ≤ a.block) ∧ ArrB w' w'.heap.size A N q
/-- what Clean finds -/
structure CSize (W H : Int) (n : Nat) (p : Int → Int) (E Wm Hm : Int) (N : Nat) (r0 r1 r2 : Int) : Prop where
  ok : E = 0 → r0 = levelS n p ∧ r1 = findS W H n (thrQ p r0) ∧ r2 = 2 ∧ MSize W H (-grt W r1) 0 Wm Hm N
  bad : E ≠ 0 → Wm = 0 ∧ Hm = 0 ∧ N = 0 ∧ r0 = 0 ∧ r1 = 0 ∧ r2 = 0
theorem outC_bad {w w' : World} {E W H r0 r1 r2 : Int} {N : Nat} {q : Int → Int} (h : W = 0 ∧ H = 0 ∧ N = 0 ∧ r0 = 0 ∧ r1 = 0 ∧ r2 = 0) : OutC w w' E W H N q r0 r1 r2 (.tuple #[noImg, .agg #[.int .i64 0, .int .i64 0, .int .i64 0], .int .i64 E]) := by
  obtain ⟨rfl, rfl, rfl, rfl, rfl, rfl⟩ := h
  exact ⟨none, 0, rfl, (fun a h => by cases h), fun h => by omega⟩
theorem csize_ex (W H : Int) (n : Nat) (p : Int → Int) : ∃ Wm Hm N r0 r1 r2, CSize W H n p (levE W H n) Wm Hm N r0 r1 r2 := by
  by_cases e : levE W H n = 0
  · have hs := levE_ok e
    have hc := chk_thr (p := p) (lv := levelS n p) hs
    obtain ⟨f1, f2, f3⟩ := findS_mov hc
    obtain ⟨Wm, Hm, N, hm⟩ := msize_ex W H (-grt W (findS W H n (thrQ p (levelS n p)))) 0 (fun _ => by have := movE_sides f1; omega)
    exact ⟨Wm, Hm, N, _, _, 2, fun _ => ⟨rfl, rfl, rfl, hm⟩, fun h => absurd e h⟩
  · exact ⟨0, 0, 0, 0, 0, 0, fun h => absurd h e, fun _ => ⟨rfl, rfl, rfl, rfl, rfl, rfl⟩⟩
theorem heap_far3 {w : World} {g k : Nat} (h : k ≠ g) (a b c : Value) : (((w.setCell ⟨g, 0, none⟩ a).setCell ⟨g, 1, none⟩ b).setCell ⟨g, 2, none⟩ c).heap[k]? = w.heap[k]? := by
  rw [heap_setCell_other _ _ _ _ h, heap_setCell_other _ _ _ _ h, heap_setCell_other _ _ _ _ h]
theorem heap_far3d {w : World} {g k : Nat} (h : k ≠ g) (a b c : Value) : (((w.setCell ⟨g, 0, none⟩ a).setCell ⟨g, 1, none⟩ b).setCell ⟨g, 2, none⟩ c).drew.heap[k]? = w.heap[k]? := by
  rw [show ∀ v : World, v.drew.heap = v.heap from fun _ => rfl, heap_setCell_other _ _ _ _ h, heap_setCell_other _ _ _ _ h, heap_setCell_other _ _ _ _ h]
theorem heap_far6d {w : World} {g g' k : Nat} (h : k ≠ g) (h' : k ≠ g') (a b c a' b' c' : Value) : ((((((w.setCell ⟨g, 0, none⟩ a).setCell ⟨g, 1, none⟩ b).setCell ⟨g, 2, none⟩ c).setCell ⟨g', 0, none⟩ a').setCell ⟨g', 1, none⟩ b').setCell ⟨g', 2, none⟩ c').drew.heap[k]? = w.heap[k]? := by
  rw [show ∀ v : World, v.drew.heap = v.heap from fun _ => rfl, heap_setCell_other _ _ _ _ h', heap_setCell_other _ _ _ _ h', heap_setCell_other _ _ _ _ h', heap_setCell_other _ _ _ _ h, heap_setCell_other _ _ _ _ h, heap_setCell_other _ _ _ _ h]
theorem outC_mk {w w' : World} {E W H r0 r1 r2 : Int} {N c : Nat} {q : Int → Int} {A : Option Addr} (h : ∀ a, A = some a → w.heap.size ≤ a.block) (ha : ArrB w' w'.heap.size A N q) :
    OutC w w' E W H N q r0 r1 r2 (.tuple #[.agg #[.int .i64 W, .int .i64 H, .slice A N c], .agg #[.int .i64 r0, .int .i64 r1, .int .i64 r2], .int .i64 E]) := ⟨A, c, rfl, h, ha⟩

set_option maxRecDepth 100000 in
set_option maxHeartbeats 8000000 in
theorem clean_any (W H : Int) (A : Option Addr) (n c : Nat) (p : Int → Int) (E Wm Hm : Int) (N : Nat) (r0 r1 r2 : Int) (w : World) (hA : ArrB w w.heap.size A n p) (hn : n ≤ maxLen) (hB : IsB p) (hE : levE W H n = E) (hs : CSize W H n p E Wm Hm N r0 r1 r2) :
    Calls Try.prog 9 #[.agg #[.int .i64 W, .int .i64 H, .slice A n c]] w (New w fun v w' => OutC w w' E Wm Hm N (appQ W H p r0 r1 r2 N) r0 r1 r2 v) := by
  obtain ⟨⟨Wn, rfl⟩, ⟨Hn, rfl⟩, hOK⟩ : (∃ k : Nat, Wm = k) ∧ (∃ k : Nat, Hm = k) ∧ (E = 0 → sidesB W H n = true ∧ levelS n p = r0 ∧ 0 ≤ r0 ∧ r0 ≤ 256 ∧ findS W H n (thrQ p r0) = r1 ∧ movE W H n (thrQ p r0) r1 (-1) = 0 ∧ MSize W H (-grt W r1) 0 Wm Hm N ∧ r2 = 2 ∧ Wm = W ∧ Hm ≤ 640 ∧ (N : Int) = Wm * Hm) := by
    by_cases e : E = 0
    · obtain ⟨rfl, rfl, rfl, hm⟩ := hs.ok e
      have hsd := levE_ok (hE.trans e)
      have hc := chk_thr (p := p) (lv := levelS n p) hsd
      obtain ⟨f1, -, -⟩ := findS_mov hc
      obtain ⟨-, -, -, g1, g2⟩ := movE_ok f1
      obtain ⟨rfl, e2, e3⟩ := hm.ok rfl
      obtain ⟨s1, s2, -⟩ := sidesB_iff.1 hsd
      obtain ⟨l1, l2⟩ := levelS_bd n p
      exact ⟨⟨Wm.toNat, by omega⟩, ⟨Hm.toNat, by omega⟩, fun _ => ⟨hsd, rfl, l1, l2, rfl, f1, hm, rfl, rfl, by omega, by rw [e3, e2]⟩⟩
    · obtain ⟨rfl, rfl, -⟩ := hs.bad e
      exact ⟨⟨0, rfl⟩, ⟨0, rfl⟩, fun h => absurd h e⟩
  have HOK := Lib.hid hOK
  have HBD := Lib.hid hs.bad
  have HE := Lib.hid hE
  have HB := Lib.hid hB
  have HA := Lib.hid hA
  have HNN := Lib.hid hn
  clear hOK hs hE hB hA hn
  have b10 : Below w.heap.size w ((((w.alloc (.cells #[.int .i64 W, .int .i64 H, .slice A n c] 24)).alloc (.cells #[.int .i64 0, .int .i64 0, .slice none 0 0] 29)).alloc (.cells #[.int .i64 0, .int .i64 0, .int .i64 0] 26)).alloc (.cells (wkV W H (.slice A n c) 0 0 (.slice none 0 0) 0 0 0) 60)) := by (repeat (first | exact Below.refl _ _ | assumption | refine Below.drew ?_ | refine below_drewN ?_ _ | refine Below.alloc ?_ (by first | omega | (simp; done) | (simp; omega)) _ | refine Below.setCell ?_ (by first | omega | (simp; done) | (simp; omega)) _ | refine below_setRow ?_ (by first | omega | (simp; done) | (simp; omega)) _ ))
  have k20 : Blk ((((w.alloc (.cells #[.int .i64 W, .int .i64 H, .slice A n c] 24)).alloc (.cells #[.int .i64 0, .int .i64 0, .slice none 0 0] 29)).alloc (.cells #[.int .i64 0, .int .i64 0, .int .i64 0] 26)).alloc (.cells (wkV W H (.slice A n c) 0 0 (.slice none 0 0) 0 0 0) 60)) (w.heap.size + 1) 29 #[.int .i64 0, .int .i64 0, .slice none 0 0] := ((Blk.new' (by simp) _ _).alloc _).alloc _
  have k30 : Blk ((((w.alloc (.cells #[.int .i64 W, .int .i64 H, .slice A n c] 24)).alloc (.cells #[.int .i64 0, .int .i64 0, .slice none 0 0] 29)).alloc (.cells #[.int .i64 0, .int .i64 0, .int .i64 0] 26)).alloc (.cells (wkV W H (.slice A n c) 0 0 (.slice none 0 0) 0 0 0) 60)) (w.heap.size + 1 + 1) 26 #[.int .i64 0, .int .i64 0, .int .i64 0] := (Blk.new' (by simp) _ _).alloc _
  have kw0 : Blk ((((w.alloc (.cells #[.int .i64 W, .int .i64 H, .slice A n c] 24)).alloc (.cells #[.int .i64 0, .int .i64 0, .slice none 0 0] 29)).alloc (.cells #[.int .i64 0, .int .i64 0, .int .i64 0] 26)).alloc (.cells (wkV W H (.slice A n c) 0 0 (.slice none 0 0) 0 0 0) 60)) (w.heap.size + 1 + 1 + 1) 60 (wkV W H (.slice A n c) 0 0 (.slice none 0 0) 0 0 0) := Blk.new' (by simp) _ _
  unfold wkV at b10 k20 k30 kw0
  go_enter Try.func9, Try.ntmps9
  go_wp2_with fail
  generalize (((w.alloc (.cells #[.int .i64 W, .int .i64 H, .slice A n c] 24)).alloc (.cells #[.int .i64 0, .int .i64 0, .slice none 0 0] 29)).alloc (.cells #[.int .i64 0, .int .i64 0, .int .i64 0] 26)).alloc (.cells #[.int .i64 W, .int .i64 H, .slice A n c, .int .i64 0, .int .i64 0, .slice none 0 0, .int .i64 0, .int .i64 0, .int .i64 0] 60) = w1 at *
  refine (steps_any _).mono ?_
  rintro e w2 ⟨rfl, h20⟩
  have hw2 := Lib.hid h20.symm
  clear h20
  have ks0 : Blk w2 w1.heap.size 65 stV := by rw [← hw2.out]; exact Blk.new _ _ _
  have b2 := b10.alloc b10.size (.cells stV 65)
  have k2 := k20.alloc (.cells stV 65)
  have k3 := k30.alloc (.cells stV 65)
  have kw2 := kw0.alloc (.cells stV 65)
  rw [hw2.out] at b2 k2 k3 kw2
  have z1 := kw0.lt
  clear hw2 b10 k20 k30 kw0
  generalize w1.heap.size = gs at *
  generalize hgw : w.heap.size + 1 + 1 + 1 = gw at *
  have hgw2 : w.heap.size + 1 + 1 < gw := by omega
  clear hgw
  go_wp2
  go_loopw [15] (fun s wr => ∃ (i : Nat) (IW IH : Int) (IS : Value) (a0 a1 a2 : Int), i ≤ 3 ∧ s = .int .i64 i ∧ Blk wr gw 60 (wkV W H (.slice A n c) IW IH IS a0 a1 a2) ∧ Blk wr gs 65 stV ∧ Blk wr (w.heap.size + 1) 29 #[.int .i64 0, .int .i64 0, .slice none 0 0] ∧ Blk wr (w.heap.size + 1 + 1) 26 #[.int .i64 0, .int .i64 0, .int .i64 0] ∧ Below w.heap.size w wr ∧
    ((i = 0 ∧ 0 = a0 ∧ 0 = a1 ∧ 0 = a2) ∨
     (i = 1 ∧ E = 0 ∧ r0 = a0 ∧ 0 = a1 ∧ 0 = a2 ∧ ∃ A' c', W = IW ∧ H = IH ∧ .slice A' n c' = IS ∧ (∀ a, A' = some a → gs < a.block) ∧ ArrB wr wr.heap.size A' n (thrQ p r0)) ∨
     (i = 2 ∧ E = 0 ∧ r0 = a0 ∧ r1 = a1 ∧ 0 = a2 ∧ ∃ A' c', (Wn : Int) = IW ∧ (Hn : Int) = IH ∧ .slice A' N c' = IS ∧ (∀ a, A' = some a → gs < a.block) ∧ ArrB wr wr.heap.size A' N (movQ W H (thrQ p r0) r1 (-1))) ∨
     (i = 3 ∧ E = 0 ∧ r0 = a0 ∧ r1 = a1 ∧ 2 = a2 ∧ ∃ A' c', (Wn : Int) = IW ∧ (Hn : Int) = IH ∧ .slice A' N c' = IS ∧ (∀ a, A' = some a → gs < a.block) ∧ ArrB wr wr.heap.size A' N (bgQ N Wn (movQ W H (thrQ p r0) r1 (-1)) 2)))) (fun s _ => 3 - (intOf s).toNat)
  case atStart => exact ⟨0, 0, 0, _, 0, 0, 0, by omega, rfl, kw2, ks0, k2, k3, b2, .inl ⟨rfl, rfl, rfl, rfl⟩⟩
  case round =>
    obtain ⟨i, IW, IH, IS, a0, a1, a2, hi, rfl, kw, ks, ki, kr, b4, him⟩ := hrel
    clear kw2 ks0 k2 k3 b2
    have wl := kw.lt
    have wl2 := ks.lt
    have hgg : gw < gs := z1
    rcases him with ⟨rfl, rfl, rfl, rfl⟩ | ⟨rfl, rfl, rfl, rfl, rfl, A', c', rfl, rfl, rfl, hge, ha⟩ | ⟨rfl, rfl, rfl, rfl, rfl, A', c', rfl, rfl, rfl, hge, ha⟩ | ⟨rfl, rfl, rfl, rfl, rfl, A', c', rfl, rfl, rfl, hge, ha⟩
    · by_cases hE0 : E = 0
      · subst hE0
        obtain ⟨hsd, hlv, l0, l1, -⟩ := HOK.out rfl
        have HSD := Lib.hid hsd
        have HLV := Lib.hid hlv
        have l1 : r0 ≤ 256 := l1
        clear hsd hlv
        have s0 : wr.cell? ⟨gs, 0, none⟩ = some (.func (.func 44) #[] #[]) := by rw [ks.cell]; rfl
        have s1 : wr.cell? ⟨gs, 1, none⟩ = some (.func (.func 45) #[] #[]) := by rw [ks.cell]; rfl
        have s2 : wr.cell? ⟨gs, 2, none⟩ = some (.func (.func 46) #[] #[]) := by rw [ks.cell]; rfl
        obtain ⟨gb, hgb⟩ : ∃ g, wr.heap.size = g := ⟨_, rfl⟩
        have hgsb : gs < gb := by omega
        have kb5 : Blk (wr.alloc (.cells #[.func (.func 44) #[] #[], .func (.func 45) #[] #[], .func (.func 46) #[] #[]] 65)) gb 65 #[.func (.func 44) #[] #[], .func (.func 45) #[] #[], .func (.func 46) #[] #[]] := Blk.new' hgb _ _
        have nb5 : Blk (wr.alloc (.cells #[.nilFunc, .nilFunc, .nilFunc] 65)) gb 65 #[.nilFunc, .nilFunc, .nilFunc] := Blk.new' hgb _ _
        have kw5 := kw.alloc (.cells #[.func (.func 44) #[] #[], .func (.func 45) #[] #[], .func (.func 46) #[] #[]] 65)
        have ks5 := ks.alloc (.cells #[.func (.func 44) #[] #[], .func (.func 45) #[] #[], .func (.func 46) #[] #[]] 65)
        have ki5 := ki.alloc (.cells #[.func (.func 44) #[] #[], .func (.func 45) #[] #[], .func (.func 46) #[] #[]] 65)
        have kr5 := kr.alloc (.cells #[.func (.func 44) #[] #[], .func (.func 45) #[] #[], .func (.func 46) #[] #[]] 65)
        have b5 := b4.alloc b4.size (.cells #[.func (.func 44) #[] #[], .func (.func 45) #[] #[], .func (.func 46) #[] #[]] 65)
        obtain ⟨m1, m2, m3⟩ := Blk.cells3 kb5
        obtain ⟨n1, n2, n3⟩ := nb5.cells3
        obtain ⟨q1, q2, q3⟩ := nb5.frozen3
        clear kw ks ki kr b4 nb5
        go_wp2_with fail
        generalize wr.alloc (.cells #[.func (.func 44) #[] #[], .func (.func 45) #[] #[], .func (.func 46) #[] #[]] 65) = w5 at *
        have FD := Lib.hid (findThr_any W H IW IH 0 0 0 A n c p IS 0 r0 gw w5 kw5 (HA.out.to b5) HNN.out HB.out HE.out (by rw [HLV.out]; rfl))
        refine FD.out.mono ?_
        rintro e w6 ⟨rfl, hb6⟩
        have kb6 := kb5.below' hb6
        have kw6 := kw5.below' hb6
        have ks6 := ks5.below' hb6
        have ki6 := ki5.below' hb6
        have kr6 := kr5.below' hb6
        have b6 := below_call b5 b5.size hb6
        have hb6' := hb6
        clear FD kb5 kw5 ks5 ki5 kr5 b5 hb6
        obtain ⟨m1, m2, m3⟩ := Blk.cells3 kb6
        go_wp2_with fail
        refine (keepThr_any r0 _ (.int .i64 0) gw w6 kw6 rfl).mono ?_
        rintro e w7 ⟨rfl, h7⟩
        have hw7 := Lib.hid h7.symm
        clear h7
        have kw7 : Blk (w6.setCell ⟨gw, 6, none⟩ (.int .i64 r0)) gw 60 (wkV W H (.slice A n c) IW IH IS r0 0 0) := kw6.set_ 6 (.int .i64 r0)
        have kb7 := kb6.far (p := ⟨gw, 6, none⟩) (by simp; omega) (.int .i64 r0)
        have ks7 := ks6.far (p := ⟨gw, 6, none⟩) (by simp; omega) (.int .i64 r0)
        have ki7 := ki6.far (p := ⟨gw, 6, none⟩) (by simp; omega) (.int .i64 r0)
        have kr7 := kr6.far (p := ⟨gw, 6, none⟩) (by simp; omega) (.int .i64 r0)
        have b7 := b6.setCell (p := ⟨gw, 6, none⟩) (by simp; omega) (.int .i64 r0)
        have z7 : w7.heap.size = w6.heap.size := by rw [← hw7.out]; simp
        rw [hw7.out] at kw7 kb7 ks7 ki7 kr7 b7
        obtain ⟨m1, m2, m3⟩ := Blk.cells3 kb7
        have ST := Lib.hid (stepThr_any W H r0 IW IH r0 0 0 A n c p IS 0 W H n gw w7 kw7 (HA.out.to b7) HB.out (thrE_ok HSD.out l0 l1) ⟨fun _ => ⟨rfl, rfl, (sidesB_iff.1 HSD.out).2.2.2.2⟩, fun h => absurd rfl h⟩)
        clear kw6 kb6 ks6 ki6 kr6 b6 hw7
        go_wp2_with fail
        refine ST.out.mono ?_
        rintro e w8 ⟨_, rfl, ⟨A2, c2, rfl, hg2, ha2⟩, hb8⟩
        have KS8 := Lib.hid (ks7.below' hb8)
        have KI8 := Lib.hid (ki7.below' hb8)
        have KR8 := Lib.hid (kr7.below' hb8)
        have B8 := Lib.hid (below_call b7 b7.size hb8)
        have kw8 := kw7.below' hb8
        have ls7 := kb7.lt
        have hge2 : ∀ a, A2 = some a → gs < a.block := fun a e => by have := hg2 a e; omega
        have HA2 := Lib.hid ha2
        obtain ⟨-, ⟨i3, i4, i5⟩, -⟩ := wk_cells kw8
        have f3 := kw8.frozen 3
        have f4 := kw8.frozen 4
        have f5 := kw8.frozen 5
        clear ST kw7 kb7 ks7 ki7 kr7 b7 ha2 hb8 hg2 z7
        go_wp2_with fail
        have KS8 := Lib.hid (((KS8.out.far (p := ⟨gw, 3, none⟩) (by simp; omega) (.int .i64 W)).far (p := ⟨gw, 4, none⟩) (by simp; omega) (.int .i64 H)).far (p := ⟨gw, 5, none⟩) (by simp; omega) (.slice A2 n c2))
        have KI8 := Lib.hid (((KI8.out.far (p := ⟨gw, 3, none⟩) (by simp; omega) (.int .i64 W)).far (p := ⟨gw, 4, none⟩) (by simp; omega) (.int .i64 H)).far (p := ⟨gw, 5, none⟩) (by simp; omega) (.slice A2 n c2))
        have KR8 := Lib.hid (((KR8.out.far (p := ⟨gw, 3, none⟩) (by simp; omega) (.int .i64 W)).far (p := ⟨gw, 4, none⟩) (by simp; omega) (.int .i64 H)).far (p := ⟨gw, 5, none⟩) (by simp; omega) (.slice A2 n c2))
        have B8 := Lib.hid (((B8.out.setCell (p := ⟨gw, 3, none⟩) (by simp; omega) (.int .i64 W)).setCell (p := ⟨gw, 4, none⟩) (by simp; omega) (.int .i64 H)).setCell (p := ⟨gw, 5, none⟩) (by simp; omega) (.slice A2 n c2))
        have HA2 := Lib.hid (((HA2.out.far1 (p := ⟨gw, 3, none⟩) (fun a e => by have := hge2 a e; simp; omega) (.int .i64 W)).far1 (p := ⟨gw, 4, none⟩) (fun a e => by have := hge2 a e; simp; omega) (.int .i64 H)).far1 (p := ⟨gw, 5, none⟩) (fun a e => by have := hge2 a e; simp; omega) (.slice A2 n c2))
        go_roundw
        case rel => exact ⟨1, _, _, _, _, _, _, by omega, by go_num, wk_img kw8 W H (.slice A2 n c2), KS8.out, KI8.out, KR8.out, B8.out, .inr (.inl ⟨rfl, by trivial, rfl, rfl, rfl, A2, c2, rfl, rfl, rfl, hge2, HA2.out.more (by simp)⟩)⟩
        case measure => simp [intOf]
      · have hz' : (E != 0) = true := by simp [hE0]
        obtain ⟨hb1, hb2, hb3, hb4, hb5, hb6⟩ := HBD.out hE0
        have HZ := Lib.hid (HBD.out hE0)
        have HV : Hid (r0 = if E = 0 then levelS n p else 0) := by show _ = _; rw [if_neg hE0, hb4]
        have HE0 := Lib.hid hE0
        clear hb1 hb2 hb3 hb4 hb5 hb6 hE0 HBD
        have s0 : wr.cell? ⟨gs, 0, none⟩ = some (.func (.func 44) #[] #[]) := by rw [ks.cell]; rfl
        have s1 : wr.cell? ⟨gs, 1, none⟩ = some (.func (.func 45) #[] #[]) := by rw [ks.cell]; rfl
        have s2 : wr.cell? ⟨gs, 2, none⟩ = some (.func (.func 46) #[] #[]) := by rw [ks.cell]; rfl
        obtain ⟨gb, hgb⟩ : ∃ g, wr.heap.size = g := ⟨_, rfl⟩
        have hgsb : gs < gb := by omega
        have kb5 : Blk (wr.alloc (.cells #[.func (.func 44) #[] #[], .func (.func 45) #[] #[], .func (.func 46) #[] #[]] 65)) gb 65 #[.func (.func 44) #[] #[], .func (.func 45) #[] #[], .func (.func 46) #[] #[]] := Blk.new' hgb _ _
        have nb5 : Blk (wr.alloc (.cells #[.nilFunc, .nilFunc, .nilFunc] 65)) gb 65 #[.nilFunc, .nilFunc, .nilFunc] := Blk.new' hgb _ _
        have kw5 := kw.alloc (.cells #[.func (.func 44) #[] #[], .func (.func 45) #[] #[], .func (.func 46) #[] #[]] 65)
        have ks5 := ks.alloc (.cells #[.func (.func 44) #[] #[], .func (.func 45) #[] #[], .func (.func 46) #[] #[]] 65)
        have ki5 := ki.alloc (.cells #[.func (.func 44) #[] #[], .func (.func 45) #[] #[], .func (.func 46) #[] #[]] 65)
        have kr5 := kr.alloc (.cells #[.func (.func 44) #[] #[], .func (.func 45) #[] #[], .func (.func 46) #[] #[]] 65)
        have b5 := b4.alloc b4.size (.cells #[.func (.func 44) #[] #[], .func (.func 45) #[] #[], .func (.func 46) #[] #[]] 65)
        obtain ⟨m1, m2, m3⟩ := Blk.cells3 kb5
        obtain ⟨n1, n2, n3⟩ := nb5.cells3
        obtain ⟨q1, q2, q3⟩ := nb5.frozen3
        clear kw ks ki kr b4 nb5
        go_wp2_with fail
        generalize wr.alloc (.cells #[.func (.func 44) #[] #[], .func (.func 45) #[] #[], .func (.func 46) #[] #[]] 65) = w5 at *
        have FD := Lib.hid (findThr_any W H IW IH 0 0 0 A n c p IS E r0 gw w5 kw5 (HA.out.to b5) HNN.out HB.out HE.out HV.out)
        refine FD.out.mono ?_
        rintro e w6 ⟨rfl, hb6⟩
        have kb6 := kb5.below' hb6
        have kw6 := kw5.below' hb6
        have ks6 := ks5.below' hb6
        have ki6 := ki5.below' hb6
        have kr6 := kr5.below' hb6
        have b6 := below_call b5 b5.size hb6
        have hb6' := hb6
        clear FD kb5 kw5 ks5 ki5 kr5 b5 hb6
        obtain ⟨m1, m2, m3⟩ := Blk.cells3 kb6
        obtain ⟨f1, f2, f3⟩ := ki6.frozen3
        obtain ⟨g1, g2, g3⟩ := kr6.frozen3
        obtain ⟨t1, t2, t3⟩ := ki6.cells3
        obtain ⟨v1, v2, v3⟩ := kr6.cells3
        have k9 := ((ki6.set_ 0 (.int .i64 0)).set_ 1 (.int .i64 0)).set_ 2 (.slice none 0 0)
        have k8 := ((ki6.set_ 0 (.int .i64 0)).set_ 1 (.int .i64 0)).set_ 2 (.slice none 0 0)
        have r9 := (((((kr6.far (p := ⟨w.heap.size + 1, 0, none⟩) (by simp) (.int .i64 0)).far (p := ⟨w.heap.size + 1, 1, none⟩) (by simp) (.int .i64 0)).far (p := ⟨w.heap.size + 1, 2, none⟩) (by simp) (.slice none 0 0)).set_ 0 (.int .i64 0)).set_ 1 (.int .i64 0)).set_ 2 (.int .i64 0)
        have i9 := ((k9.far (p := ⟨w.heap.size + 1 + 1, 0, none⟩) (by simp) (.int .i64 0)).far (p := ⟨w.heap.size + 1 + 1, 1, none⟩) (by simp) (.int .i64 0)).far (p := ⟨w.heap.size + 1 + 1, 2, none⟩) (by simp) (.int .i64 0)
        have B9 := Lib.hid ((((((b6.setCell (p := ⟨w.heap.size + 1, 0, none⟩) (by simp) (.int .i64 0)).setCell (p := ⟨w.heap.size + 1, 1, none⟩) (by simp) (.int .i64 0)).setCell (p := ⟨w.heap.size + 1, 2, none⟩) (by simp) (.slice none 0 0)).setCell (p := ⟨w.heap.size + 1 + 1, 0, none⟩) (by simp; omega) (.int .i64 0)).setCell (p := ⟨w.heap.size + 1 + 1, 1, none⟩) (by simp; omega) (.int .i64 0)).setCell (p := ⟨w.heap.size + 1 + 1, 2, none⟩) (by simp; omega) (.int .i64 0))
        obtain ⟨s1, s2, s3⟩ := Blk.cells3 (a := .int .i64 0) (b := .int .i64 0) (c := .slice none 0 0) i9
        obtain ⟨u1, u2, u3⟩ := Blk.cells3 (a := .int .i64 0) (b := .int .i64 0) (c := .int .i64 0) r9
        clear b6 HOK kw6 kb6 ks6 ki6 kr6 k9 k8 r9 i9
        go_wp2_with fail
        refine bodyPost_ret (v := .tuple #[noImg, .agg #[.int .i64 0, .int .i64 0, .int .i64 0], .int .i64 E]) (by simp [results, Try.results9, go_sem, noImg, s1, s2, s3, u1, u2, u3]) rfl ?_
        exact ⟨_, rfl, outC_bad HZ.out, B9.out⟩
    · obtain ⟨hsd, hlv, l0, l1, hf, hm, hms, -⟩ := HOK.out (by trivial)
      have HSD := Lib.hid hsd
      have HF := Lib.hid hf
      have HM := Lib.hid hm
      have HMS := Lib.hid hms
      clear hsd hlv hf hm hms l0 l1
      have s0 : wr.cell? ⟨gs, 3, none⟩ = some (.func (.func 48) #[] #[]) := by rw [ks.cell]; rfl
      have s1 : wr.cell? ⟨gs, 3 + 1, none⟩ = some (.func (.func 49) #[] #[]) := by rw [ks.cell]; rfl
      have s2 : wr.cell? ⟨gs, 3 + 2, none⟩ = some (.func (.func 50) #[] #[]) := by rw [ks.cell]; rfl
      obtain ⟨gb, hgb⟩ : ∃ g, wr.heap.size = g := ⟨_, rfl⟩
      have hgsb : gs < gb := by omega
      have kb5 : Blk (wr.alloc (.cells #[.func (.func 48) #[] #[], .func (.func 49) #[] #[], .func (.func 50) #[] #[]] 65)) gb 65 #[.func (.func 48) #[] #[], .func (.func 49) #[] #[], .func (.func 50) #[] #[]] := Blk.new' hgb _ _
      have nb5 : Blk (wr.alloc (.cells #[.nilFunc, .nilFunc, .nilFunc] 65)) gb 65 #[.nilFunc, .nilFunc, .nilFunc] := Blk.new' hgb _ _
      have kw5 := kw.alloc (.cells #[.func (.func 48) #[] #[], .func (.func 49) #[] #[], .func (.func 50) #[] #[]] 65)
      have ks5 := ks.alloc (.cells #[.func (.func 48) #[] #[], .func (.func 49) #[] #[], .func (.func 50) #[] #[]] 65)
      have ki5 := ki.alloc (.cells #[.func (.func 48) #[] #[], .func (.func 49) #[] #[], .func (.func 50) #[] #[]] 65)
      have kr5 := kr.alloc (.cells #[.func (.func 48) #[] #[], .func (.func 49) #[] #[], .func (.func 50) #[] #[]] 65)
      have b5 := b4.alloc b4.size (.cells #[.func (.func 48) #[] #[], .func (.func 49) #[] #[], .func (.func 50) #[] #[]] 65)
      have ha5 : ArrB (wr.alloc (.cells #[.func (.func 48) #[] #[], .func (.func 49) #[] #[], .func (.func 50) #[] #[]] 65)) (wr.alloc (.cells #[.func (.func 48) #[] #[], .func (.func 49) #[] #[], .func (.func 50) #[] #[]] 65)).heap.size A' _ _ := ha.to ((Below.refl wr.heap.size wr).alloc (Nat.le_refl _) (.cells #[.func (.func 48) #[] #[], .func (.func 49) #[] #[], .func (.func 50) #[] #[]] 65))
      clear ha
      obtain ⟨m1, m2, m3⟩ := Blk.cells3 kb5
      obtain ⟨n1, n2, n3⟩ := nb5.cells3
      obtain ⟨q1, q2, q3⟩ := nb5.frozen3
      clear kw ks ki kr b4 nb5
      go_wp2_with fail
      generalize wr.alloc (.cells #[.func (.func 48) #[] #[], .func (.func 49) #[] #[], .func (.func 50) #[] #[]] 65) = w5 at *
      have FD := Lib.hid (findSkw_any W H W H r0 0 0 A' n c' (thrQ p r0) (.slice A n c) 0 r1 gw w5 kw5 ha5 HNN.out (isB_thr _ _) (chk_thr HSD.out) (by rw [HF.out]; rfl))
      refine FD.out.mono ?_
      rintro e w6 ⟨rfl, hb6⟩
      have kb6 := kb5.below' hb6
      have kw6 := kw5.below' hb6
      have ks6 := ks5.below' hb6
      have ki6 := ki5.below' hb6
      have kr6 := kr5.below' hb6
      have b6 := below_call b5 b5.size hb6
      have hb6' := hb6
      clear FD kb5 kw5 ks5 ki5 kr5 b5 hb6
      obtain ⟨m1, m2, m3⟩ := Blk.cells3 kb6
      go_wp2_with fail
      have HA6 := Lib.hid (ha5.to hb6')
      refine (keepSkew_any r1 _ (.int .i64 0) gw w6 kw6 rfl).mono ?_
      rintro e w7 ⟨rfl, h7⟩
      have hw7 := Lib.hid h7.symm
      clear h7
      have kw7 : Blk (w6.setCell ⟨gw, 7, none⟩ (.int .i64 r1)) gw 60 (wkV W H (.slice A n c) W H (.slice A' n c') r0 r1 0) := kw6.set_ 7 (.int .i64 r1)
      have kb7 := kb6.far (p := ⟨gw, 7, none⟩) (by simp; omega) (.int .i64 r1)
      have ks7 := ks6.far (p := ⟨gw, 7, none⟩) (by simp; omega) (.int .i64 r1)
      have ki7 := ki6.far (p := ⟨gw, 7, none⟩) (by simp; omega) (.int .i64 r1)
      have kr7 := kr6.far (p := ⟨gw, 7, none⟩) (by simp; omega) (.int .i64 r1)
      have b7 := b6.setCell (p := ⟨gw, 7, none⟩) (by simp; omega) (.int .i64 r1)
      have z7 : w7.heap.size = w6.heap.size := by rw [← hw7.out]; simp
      rw [hw7.out] at kw7 kb7 ks7 ki7 kr7 b7
      obtain ⟨m1, m2, m3⟩ := Blk.cells3 kb7
      have ha7 := HA6.out.far1 (p := ⟨gw, 7, none⟩) (fun a e => by have := hge a e; simp; omega) (.int .i64 r1)
      rw [hw7.out] at ha7
      rw [← z7] at ha7
      have ST := Lib.hid (stepMov_any W H r1 W H r0 r1 0 A' n c' (thrQ p r0) (.slice A n c) 0 Wn Hn N gw w7 kw7 ha7 HNN.out (isB_thr _ _) HM.out HMS.out)
      clear kw6 kb6 ks6 ki6 kr6 b6 hw7
      go_wp2_with fail
      refine ST.out.mono ?_
      rintro e w8 ⟨_, rfl, ⟨A2, c2, rfl, hg2, ha2⟩, hb8⟩
      have KS8 := Lib.hid (ks7.below' hb8)
      have KI8 := Lib.hid (ki7.below' hb8)
      have KR8 := Lib.hid (kr7.below' hb8)
      have B8 := Lib.hid (below_call b7 b7.size hb8)
      have kw8 := kw7.below' hb8
      have ls7 := kb7.lt
      have hge2 : ∀ a, A2 = some a → gs < a.block := fun a e => by have := hg2 a e; omega
      have HA2 := Lib.hid ha2
      obtain ⟨-, ⟨i3, i4, i5⟩, -⟩ := wk_cells kw8
      have f3 := kw8.frozen 3
      have f4 := kw8.frozen 4
      have f5 := kw8.frozen 5
      clear ST kw7 kb7 ks7 ki7 kr7 b7 ha2 hb8 hg2 z7
      go_wp2_with fail
      have KS8 := Lib.hid (((KS8.out.far (p := ⟨gw, 3, none⟩) (by simp; omega) (.int .i64 Wn)).far (p := ⟨gw, 4, none⟩) (by simp; omega) (.int .i64 Hn)).far (p := ⟨gw, 5, none⟩) (by simp; omega) (.slice A2 N c2))
      have KI8 := Lib.hid (((KI8.out.far (p := ⟨gw, 3, none⟩) (by simp; omega) (.int .i64 Wn)).far (p := ⟨gw, 4, none⟩) (by simp; omega) (.int .i64 Hn)).far (p := ⟨gw, 5, none⟩) (by simp; omega) (.slice A2 N c2))
      have KR8 := Lib.hid (((KR8.out.far (p := ⟨gw, 3, none⟩) (by simp; omega) (.int .i64 Wn)).far (p := ⟨gw, 4, none⟩) (by simp; omega) (.int .i64 Hn)).far (p := ⟨gw, 5, none⟩) (by simp; omega) (.slice A2 N c2))
      have B8 := Lib.hid (((B8.out.setCell (p := ⟨gw, 3, none⟩) (by simp; omega) (.int .i64 Wn)).setCell (p := ⟨gw, 4, none⟩) (by simp; omega) (.int .i64 Hn)).setCell (p := ⟨gw, 5, none⟩) (by simp; omega) (.slice A2 N c2))
      have HA2 := Lib.hid (((HA2.out.far1 (p := ⟨gw, 3, none⟩) (fun a e => by have := hge2 a e; simp; omega) (.int .i64 Wn)).far1 (p := ⟨gw, 4, none⟩) (fun a e => by have := hge2 a e; simp; omega) (.int .i64 Hn)).far1 (p := ⟨gw, 5, none⟩) (fun a e => by have := hge2 a e; simp; omega) (.slice A2 N c2))
      go_roundw
      case rel => exact ⟨2, _, _, _, _, _, _, by omega, by go_num, wk_img kw8 Wn Hn (.slice A2 N c2), KS8.out, KI8.out, KR8.out, B8.out, .inr (.inr (.inl ⟨rfl, by trivial, rfl, rfl, rfl, A2, c2, rfl, rfl, rfl, hge2, HA2.out.more (by simp)⟩))⟩
      case measure => simp [intOf]
    · obtain ⟨hsd, hlv, l0, l1, hf, hm, hms, hr2, e1, e2, e3⟩ := HOK.out (by trivial)
      have HX := Lib.hid (And.intro e1 (And.intro e2 e3))
      have HSD := Lib.hid hsd
      clear hsd hlv hf hm hms l0 l1 hr2 e1 e2 e3
      have s0 : wr.cell? ⟨gs, 6, none⟩ = some (.func (.func 51) #[] #[]) := by rw [ks.cell]; rfl
      have s1 : wr.cell? ⟨gs, 6 + 1, none⟩ = some (.func (.func 52) #[] #[]) := by rw [ks.cell]; rfl
      have s2 : wr.cell? ⟨gs, 6 + 2, none⟩ = some (.func (.func 53) #[] #[]) := by rw [ks.cell]; rfl
      obtain ⟨gb, hgb⟩ : ∃ g, wr.heap.size = g := ⟨_, rfl⟩
      have hgsb : gs < gb := by omega
      have kb5 : Blk (wr.alloc (.cells #[.func (.func 51) #[] #[], .func (.func 52) #[] #[], .func (.func 53) #[] #[]] 65)) gb 65 #[.func (.func 51) #[] #[], .func (.func 52) #[] #[], .func (.func 53) #[] #[]] := Blk.new' hgb _ _
      have nb5 : Blk (wr.alloc (.cells #[.nilFunc, .nilFunc, .nilFunc] 65)) gb 65 #[.nilFunc, .nilFunc, .nilFunc] := Blk.new' hgb _ _
      have kw5 := kw.alloc (.cells #[.func (.func 51) #[] #[], .func (.func 52) #[] #[], .func (.func 53) #[] #[]] 65)
      have ks5 := ks.alloc (.cells #[.func (.func 51) #[] #[], .func (.func 52) #[] #[], .func (.func 53) #[] #[]] 65)
      have ki5 := ki.alloc (.cells #[.func (.func 51) #[] #[], .func (.func 52) #[] #[], .func (.func 53) #[] #[]] 65)
      have kr5 := kr.alloc (.cells #[.func (.func 51) #[] #[], .func (.func 52) #[] #[], .func (.func 53) #[] #[]] 65)
      have b5 := b4.alloc b4.size (.cells #[.func (.func 51) #[] #[], .func (.func 52) #[] #[], .func (.func 53) #[] #[]] 65)
      have ha5 : ArrB (wr.alloc (.cells #[.func (.func 51) #[] #[], .func (.func 52) #[] #[], .func (.func 53) #[] #[]] 65)) (wr.alloc (.cells #[.func (.func 51) #[] #[], .func (.func 52) #[] #[], .func (.func 53) #[] #[]] 65)).heap.size A' _ _ := ha.to ((Below.refl wr.heap.size wr).alloc (Nat.le_refl _) (.cells #[.func (.func 51) #[] #[], .func (.func 52) #[] #[], .func (.func 53) #[] #[]] 65))
      clear ha
      obtain ⟨m1, m2, m3⟩ := Blk.cells3 kb5
      obtain ⟨n1, n2, n3⟩ := nb5.cells3
      obtain ⟨q1, q2, q3⟩ := nb5.frozen3
      clear kw ks ki kr b4 nb5
      go_wp2_with fail
      generalize wr.alloc (.cells #[.func (.func 51) #[] #[], .func (.func 52) #[] #[], .func (.func 53) #[] #[]] 65) = w5 at *
      refine (findSpk_any _ _).mono ?_
      rintro e w6 ⟨rfl, h6⟩
      have hw6 := Lib.hid h6.symm
      clear h6
      have kb6 := kb5
      have kw6 := kw5
      have ks6 := ks5
      have ki6 := ki5
      have kr6 := kr5
      have b6 := b5
      have ha6 := ha5
      rw [hw6.out] at kb6 kw6 ks6 ki6 kr6 b6 ha6
      have HA6 := Lib.hid ha6
      clear kb5 kw5 ks5 ki5 kr5 b5 ha5 ha6 hw6
      obtain ⟨m1, m2, m3⟩ := Blk.cells3 kb6
      go_wp2_with fail
      refine (keepSpeck_any 2 _ (.int .i64 0) gw w6 kw6 rfl).mono ?_
      rintro e w7 ⟨rfl, h7⟩
      have hw7 := Lib.hid h7.symm
      clear h7
      have kw7 : Blk (w6.setCell ⟨gw, 8, none⟩ (.int .i64 2)) gw 60 (wkV W H (.slice A n c) Wn Hn (.slice A' N c') r0 r1 2) := kw6.set_ 8 (.int .i64 2)
      have kb7 := kb6.far (p := ⟨gw, 8, none⟩) (by simp; omega) (.int .i64 2)
      have ks7 := ks6.far (p := ⟨gw, 8, none⟩) (by simp; omega) (.int .i64 2)
      have ki7 := ki6.far (p := ⟨gw, 8, none⟩) (by simp; omega) (.int .i64 2)
      have kr7 := kr6.far (p := ⟨gw, 8, none⟩) (by simp; omega) (.int .i64 2)
      have b7 := b6.setCell (p := ⟨gw, 8, none⟩) (by simp; omega) (.int .i64 2)
      have z7 : w7.heap.size = w6.heap.size := by rw [← hw7.out]; simp
      rw [hw7.out] at kw7 kb7 ks7 ki7 kr7 b7
      obtain ⟨m1, m2, m3⟩ := Blk.cells3 kb7
      have ha7 := HA6.out.far1 (p := ⟨gw, 8, none⟩) (fun a e => by have := hge a e; simp; omega) (.int .i64 2)
      rw [hw7.out] at ha7
      rw [← z7] at ha7
      have ST := Lib.hid (stepDsp_any W H 2 Wn Hn r0 r1 2 A' N c' (movQ W H (thrQ p r0) r1 (-1)) (.slice A n c) gw w7 kw7 ha7 (by have := HX.out.1; have := (sidesB_iff.1 HSD.out).2.1; omega) (by have := HX.out.2.1; omega) (by have := HX.out.2.2; exact_mod_cast this) (fun i _ _ => movQ_01 (thrQ_01 p r0) i))
      clear kw6 kb6 ks6 ki6 kr6 b6 hw7
      go_wp2_with fail
      refine ST.out.mono ?_
      rintro e w8 ⟨_, rfl, ⟨A2, c2, rfl, hg2, ha2⟩, hb8⟩
      have KS8 := Lib.hid (ks7.below' hb8)
      have KI8 := Lib.hid (ki7.below' hb8)
      have KR8 := Lib.hid (kr7.below' hb8)
      have B8 := Lib.hid (below_call b7 b7.size hb8)
      have kw8 := kw7.below' hb8
      have ls7 := kb7.lt
      have hge2 : ∀ a, A2 = some a → gs < a.block := fun a e => by have := hg2 a e; omega
      have HA2 := Lib.hid ha2
      obtain ⟨-, ⟨i3, i4, i5⟩, -⟩ := wk_cells kw8
      have f3 := kw8.frozen 3
      have f4 := kw8.frozen 4
      have f5 := kw8.frozen 5
      clear ST kw7 kb7 ks7 ki7 kr7 b7 ha2 hb8 hg2 z7
      go_wp2_with fail
      have KS8 := Lib.hid (((KS8.out.far (p := ⟨gw, 3, none⟩) (by simp; omega) (.int .i64 Wn)).far (p := ⟨gw, 4, none⟩) (by simp; omega) (.int .i64 Hn)).far (p := ⟨gw, 5, none⟩) (by simp; omega) (.slice A2 N c2))
      have KI8 := Lib.hid (((KI8.out.far (p := ⟨gw, 3, none⟩) (by simp; omega) (.int .i64 Wn)).far (p := ⟨gw, 4, none⟩) (by simp; omega) (.int .i64 Hn)).far (p := ⟨gw, 5, none⟩) (by simp; omega) (.slice A2 N c2))
      have KR8 := Lib.hid (((KR8.out.far (p := ⟨gw, 3, none⟩) (by simp; omega) (.int .i64 Wn)).far (p := ⟨gw, 4, none⟩) (by simp; omega) (.int .i64 Hn)).far (p := ⟨gw, 5, none⟩) (by simp; omega) (.slice A2 N c2))
      have B8 := Lib.hid (((B8.out.setCell (p := ⟨gw, 3, none⟩) (by simp; omega) (.int .i64 Wn)).setCell (p := ⟨gw, 4, none⟩) (by simp; omega) (.int .i64 Hn)).setCell (p := ⟨gw, 5, none⟩) (by simp; omega) (.slice A2 N c2))
      have HA2 := Lib.hid (((HA2.out.far1 (p := ⟨gw, 3, none⟩) (fun a e => by have := hge2 a e; simp; omega) (.int .i64 Wn)).far1 (p := ⟨gw, 4, none⟩) (fun a e => by have := hge2 a e; simp; omega) (.int .i64 Hn)).far1 (p := ⟨gw, 5, none⟩) (fun a e => by have := hge2 a e; simp; omega) (.slice A2 N c2))
      go_roundw
      case rel => exact ⟨3, _, _, _, _, _, _, by omega, by go_num, wk_img kw8 Wn Hn (.slice A2 N c2), KS8.out, KI8.out, KR8.out, B8.out, .inr (.inr (.inr ⟨rfl, by trivial, rfl, rfl, rfl, A2, c2, rfl, rfl, rfl, hge2, HA2.out.more (by simp)⟩))⟩
      case measure => simp [intOf]
    · obtain ⟨hsd, hlv, l0, l1, hf, hm, hms, hr2, e1, e2, e3⟩ := HOK.out (by trivial)
      have ki9 := ki
      have kr9 := kr
      have bb9 := b4
      have KC := Lib.hid fun (w' : World) (h : w'.heap[gw]? = wr.heap[gw]?) => (show w'.cell? ⟨gw, 3, none⟩ = some (.int .i64 Wn) ∧ w'.cell? ⟨gw, 4, none⟩ = some (.int .i64 Hn) ∧ w'.cell? ⟨gw, 5, none⟩ = some (.slice A' N c') ∧ w'.cell? ⟨gw, 6, none⟩ = some (.int .i64 r0) ∧ w'.cell? ⟨gw, 7, none⟩ = some (.int .i64 r1) ∧ w'.cell? ⟨gw, 8, none⟩ = some (.int .i64 2) from by
        obtain ⟨-, ⟨c1, c2, c3⟩, c4, c5, c6⟩ := wk_cells (kw.move h)
        exact ⟨c1, c2, c3, c4, c5, c6⟩)
      have k9 := ((ki9.set_ 0 (.int .i64 Wn)).set_ 1 (.int .i64 Hn)).set_ 2 (.slice A' N c')
      have k8 := ((ki9.set_ 0 (.int .i64 Wn)).set_ 1 (.int .i64 Hn)).set_ 2 (.slice A' N c')
      have r9 := (((((kr9.far (p := ⟨w.heap.size + 1, 0, none⟩) (by simp) (.int .i64 Wn)).far (p := ⟨w.heap.size + 1, 1, none⟩) (by simp) (.int .i64 Hn)).far (p := ⟨w.heap.size + 1, 2, none⟩) (by simp) (.slice A' N c')).set_ 0 (.int .i64 r0)).set_ 1 (.int .i64 r1)).set_ 2 (.int .i64 2)
      have i9 := ((k9.far (p := ⟨w.heap.size + 1 + 1, 0, none⟩) (by simp) (.int .i64 r0)).far (p := ⟨w.heap.size + 1 + 1, 1, none⟩) (by simp) (.int .i64 r1)).far (p := ⟨w.heap.size + 1 + 1, 2, none⟩) (by simp) (.int .i64 2)
      have B9 := Lib.hid ((((((bb9.setCell (p := ⟨w.heap.size + 1, 0, none⟩) (by simp) (.int .i64 Wn)).setCell (p := ⟨w.heap.size + 1, 1, none⟩) (by simp) (.int .i64 Hn)).setCell (p := ⟨w.heap.size + 1, 2, none⟩) (by simp) (.slice A' N c')).setCell (p := ⟨w.heap.size + 1 + 1, 0, none⟩) (by simp; omega) (.int .i64 r0)).setCell (p := ⟨w.heap.size + 1 + 1, 1, none⟩) (by simp; omega) (.int .i64 r1)).setCell (p := ⟨w.heap.size + 1 + 1, 2, none⟩) (by simp; omega) (.int .i64 2))
      obtain ⟨s1, s2, s3⟩ := Blk.cells3 (a := .int .i64 Wn) (b := .int .i64 Hn) (c := .slice A' N c') i9
      obtain ⟨u1, u2, u3⟩ := Blk.cells3 (a := .int .i64 r0) (b := .int .i64 r1) (c := .int .i64 2) r9
      have kk9 := ((kr9.far (p := ⟨w.heap.size + 1, 0, none⟩) (by simp) (.int .i64 Wn)).far (p := ⟨w.heap.size + 1, 1, none⟩) (by simp) (.int .i64 Hn)).far (p := ⟨w.heap.size + 1, 2, none⟩) (by simp) (.slice A' N c')
      obtain ⟨f1, f2, f3⟩ := ki9.frozen3
      obtain ⟨t1, t2, t3⟩ := ki9.cells3
      obtain ⟨g1, g2, g3⟩ := kk9.frozen3
      obtain ⟨v1, v2, v3⟩ := kk9.cells3
      have HAE := Lib.hid (((((((ha.far1 (p := ⟨w.heap.size + 1, 0, none⟩) (fun a e => by have := hge a e; simp; omega) (.int .i64 Wn)).far1 (p := ⟨w.heap.size + 1, 1, none⟩) (fun a e => by have := hge a e; simp; omega) (.int .i64 Hn)).far1 (p := ⟨w.heap.size + 1, 2, none⟩) (fun a e => by have := hge a e; simp; omega) (.slice A' N c')).far1 (p := ⟨w.heap.size + 1 + 1, 0, none⟩) (fun a e => by have := hge a e; simp; omega) (.int .i64 r0)).far1 (p := ⟨w.heap.size + 1 + 1, 1, none⟩) (fun a e => by have := hge a e; simp; omega) (.int .i64 r1)).far1 (p := ⟨w.heap.size + 1 + 1, 2, none⟩) (fun a e => by have := hge a e; simp; omega) (.int .i64 2)))
      have HW1 := Lib.hid e1
      have HR2 := Lib.hid hr2
      have nn1 : gw ≠ w.heap.size + 1 := by omega
      have nn2 : gw ≠ w.heap.size + 1 + 1 := by omega
      have S1 := Lib.hid (KC.out _ (heap_far3d (w := wr) nn1 (.int .i64 Wn) (.int .i64 Hn) (.slice A' N c')))
      have S2 := Lib.hid (KC.out _ (heap_far6d (w := wr) nn1 nn2 (.int .i64 Wn) (.int .i64 Hn) (.slice A' N c') (.int .i64 r0) (.int .i64 r1) (.int .i64 2)))
      clear hsd hlv l0 l1 hf hm hms hr2 e1 e2 e3 ha HOK HBD ki kr kw ks k9 k8 r9 i9 ki9 kr9 kk9 b4 bb9
      go_upto_region 13 with fail
      refine wp_region_held_drew (S := fun w' => w'.cell? ⟨gw, 3, none⟩ = some (.int .i64 Wn) ∧ w'.cell? ⟨gw, 4, none⟩ = some (.int .i64 Hn) ∧ w'.cell? ⟨gw, 5, none⟩ = some (.slice A' N c') ∧ w'.cell? ⟨gw, 6, none⟩ = some (.int .i64 r0) ∧ w'.cell? ⟨gw, 7, none⟩ = some (.int .i64 r1) ∧ w'.cell? ⟨gw, 8, none⟩ = some (.int .i64 2)) (by kernel_rfl) (KC.out _ rfl) (fun hHeld => ?_)
      refine wpAnyH_take (i := 0) (oi := _) (v := ?_) (by simp only [List.getElem?_toArray, List.getElem?_cons_zero]; exact rfl) (by kernel_rfl) (by kernel_rfl) (by kernel_rfl) (by exact fun _ _ _ h => h) (Or.inl ⟨by rfl, ?_⟩) (by assumption) ?_
      rotate_left 1
      · intro w hSw
        (try dsimp only at hSw)
        go_simp
        try with_reducible rfl
      try simp only [Act.put, List.setIfInBounds_toArray, List.set_cons_zero, List.set_cons_succ]
      refine wpAnyH_take (i := 1) (oi := _) (v := ?_) (by simp only [List.getElem?_toArray, List.getElem?_cons_zero, List.getElem?_cons_succ]; exact rfl) (by kernel_rfl) (by kernel_rfl) (by kernel_rfl) (by exact fun _ _ _ h => h) (Or.inl ⟨by rfl, ?_⟩) (by assumption) ?_
      rotate_left 1
      · intro w hSw
        (try dsimp only at hSw)
        go_simp
        try with_reducible rfl
      try simp only [Act.put, List.setIfInBounds_toArray, List.set_cons_zero, List.set_cons_succ]
      refine wpAnyH_take (i := 2) (oi := _) (v := ?_) (by simp only [List.getElem?_toArray, List.getElem?_cons_zero, List.getElem?_cons_succ]; exact rfl) (by kernel_rfl) (by kernel_rfl) (by kernel_rfl) (by exact fun _ _ _ h => h) (Or.inl ⟨by rfl, ?_⟩) (by assumption) ?_
      rotate_left 1
      · intro w hSw
        (try dsimp only at hSw)
        go_simp
        try with_reducible rfl
      try simp only [Act.put, List.setIfInBounds_toArray, List.set_cons_zero, List.set_cons_succ]
      refine wpAnyH_take (i := 3) (oi := _) (v := ?_) (by simp only [List.getElem?_toArray, List.getElem?_cons_zero, List.getElem?_cons_succ]; exact rfl) (by kernel_rfl) (by kernel_rfl) (by kernel_rfl) (by exact fun _ _ _ h => h) (Or.inl ⟨by rfl, ?_⟩) (by assumption) ?_
      rotate_left 1
      · intro w hSw
        (try dsimp only at hSw)
        go_simp
        try with_reducible rfl
      try simp only [Act.put, List.setIfInBounds_toArray, List.set_cons_zero, List.set_cons_succ]
      refine wpAnyH_take (i := 4) (oi := _) (v := ?_) (by simp only [List.getElem?_toArray, List.getElem?_cons_zero, List.getElem?_cons_succ]; exact rfl) (by kernel_rfl) (by kernel_rfl) (by kernel_rfl) (by exact fun _ _ _ h => h) (Or.inl ⟨by rfl, ?_⟩) (by assumption) ?_
      rotate_left 1
      · intro w hSw
        (try dsimp only at hSw)
        go_simp
        try with_reducible rfl
      try simp only [Act.put, List.setIfInBounds_toArray, List.set_cons_zero, List.set_cons_succ]
      refine wpAnyH_take (i := 5) (oi := _) (v := ?_) (by simp only [List.getElem?_toArray, List.getElem?_cons_zero, List.getElem?_cons_succ]; exact rfl) (by kernel_rfl) (by kernel_rfl) (by kernel_rfl) (by exact fun _ _ _ h => h) (Or.inl ⟨by rfl, ?_⟩) (by assumption) ?_
      rotate_left 1
      · intro w hSw
        (try dsimp only at hSw)
        go_simp
        try with_reducible rfl
      try simp only [Act.put, List.setIfInBounds_toArray, List.set_cons_zero, List.set_cons_succ]
      refine wpAnyH_take (i := 6) (oi := _) (v := ?_) (by simp only [List.getElem?_toArray, List.getElem?_cons_zero, List.getElem?_cons_succ]; exact rfl) (by kernel_rfl) (by kernel_rfl) (by kernel_rfl) (by exact fun _ _ _ h => h) (Or.inl ⟨by rfl, ?_⟩) (by assumption) ?_
      rotate_left 1
      · intro w hSw
        (try dsimp only at hSw)
        go_simp
        try with_reducible rfl
      try simp only [Act.put, List.setIfInBounds_toArray, List.set_cons_zero, List.set_cons_succ]
      refine wpAnyH_take (i := 7) (oi := _) (v := ?_) (by simp only [List.getElem?_toArray, List.getElem?_cons_zero, List.getElem?_cons_succ]; exact rfl) (by kernel_rfl) (by kernel_rfl) (by kernel_rfl) (by exact fun _ _ _ h => h) (Or.inl ⟨by rfl, ?_⟩) (by assumption) ?_
      rotate_left 1
      · intro w hSw
        (try dsimp only at hSw)
        go_simp
        try with_reducible rfl
      try simp only [Act.put, List.setIfInBounds_toArray, List.set_cons_zero, List.set_cons_succ]
      refine wpAnyH_ready (rs := [8]) (by kernel_rfl) (by simp) ?_
      refine AllReadyH.cons (o := _) (by simp only [List.getElem?_toArray, List.getElem?_cons_zero, List.getElem?_cons_succ]; exact rfl) (fun K' hK => ?_) AllReadyH.nil
      go_simp
      refine hK.out _ _ S1.out (fun hHeld => ?_)
      clear hK K'
      try simp only [Act.put, List.setIfInBounds_toArray, List.set_cons_zero, List.set_cons_succ]
      refine wpAnyH_ready (rs := [9]) (by kernel_rfl) (by simp) ?_
      refine AllReadyH.cons (o := _) (by simp only [List.getElem?_toArray, List.getElem?_cons_zero, List.getElem?_cons_succ]; exact rfl) (fun K' hK => ?_) AllReadyH.nil
      go_simp
      refine hK.out _ _ S2.out (fun hHeld => ?_)
      clear hK K'
      try simp only [Act.put, List.setIfInBounds_toArray, List.set_cons_zero, List.set_cons_succ]
      refine wpAnyH_take (i := 10) (oi := _) (v := ?_) (by simp only [List.getElem?_toArray, List.getElem?_cons_zero, List.getElem?_cons_succ]; exact rfl) (by kernel_rfl) (by kernel_rfl) (by kernel_rfl) (by exact fun _ _ _ h => h) (Or.inl ⟨by rfl, ?_⟩) (by assumption) ?_
      rotate_left 1
      · intro w hSw
        (try dsimp only at hSw)
        go_simp
        try with_reducible rfl
      try simp only [Act.put, List.setIfInBounds_toArray, List.set_cons_zero, List.set_cons_succ]
      refine wpAnyH_done (by kernel_rfl) ?_ _
      go_wp2_with fail
      obtain rfl : r2 = 2 := HR2.out
      refine bodyPost_ret (v := .tuple #[.agg #[.int .i64 Wn, .int .i64 Hn, .slice A' N c'], .agg #[.int .i64 r0, .int .i64 r1, .int .i64 2], .int .i64 0]) (by simp [results, Try.results9, go_sem, s1, s2, s3, u1, u2, u3]) rfl ?_
      refine ⟨_, rfl, outC_mk (fun a e => by have := hge a e; omega) ?_, B9.out.drew⟩
      have ew : W.toNat = Wn := by have := HW1.out; omega
      unfold appQ
      rw [ew]
      exact (HAE.out.more (by simp)).drew1
end Go.Proofs.Ytoonkpjddfiopaa

/- Plain laws for CleanFound: all that is found. No program in sight. -/
namespace Go.Proofs.Ytoonkpjddfiopaa
open Go.RowKit
set_option linter.unusedVariables false

theorem inkN_congr {N : Nat} {p q : Int → Int} (h : ∀ i : Int, 0 ≤ i → i < N → p i = q i) : InkN N p = InkN N q := by
  funext i
  unfold InkN
  exact propext ⟨fun ⟨a, b⟩ => ⟨a, by rw [← h i (by omega) (by omega)]; exact b⟩, fun ⟨a, b⟩ => ⟨a, by rw [h i (by omega) (by omega)]; exact b⟩⟩
theorem bgQ_congr {N W : Nat} {p q : Int → Int} {m : Int} (h : ∀ i : Int, 0 ≤ i → i < N → p i = q i) : bgQ N W p m = bgQ N W q m := by
  unfold bgQ; rw [inkN_congr h]
/-- all that CleanFound says of the numbers -/
structure FoundQ (W H k h : Int) (N n2 : Nat) (M : List Int) (g : Int → Int) (r0 : Int) : Prop where
  lv : r0 = levelS n2 g
  lo : 60 < r0
  hi : r0 ≤ 195
  lev : levE W h n2 = 0
  cs : CSize W h n2 g 0 W H N r0 k 2
  app : appE W h n2 g r0 k 2 = 0
  ms : MSize W h (-grt W k) 0 W H N
  eq : ∀ i : Int, 0 ≤ i → i < N → appQ W h g r0 k 2 N i = ruQ W M i
theorem found_q {W H k h : Int} {N n2 : Nat} {M : List Int} {p L : Int → Int} {m : Nat} (w1 : 65 ≤ W) (w2 : W ≤ 160) (h1 : 0 < H) (h2 : H ≤ 84) (hs : SpkQ W H M p) (hg : GapM M) (h3 : -3 ≤ k) (h4 : k ≤ 3) (hN : (N : Int) = W * H) (hh : h = H + grt W k) (hn : (n2 : Int) = W * h)
    {y0 y1 : Int} (a0 : 0 ≤ y0) (a1 : y0 < H) (am : y0 ∈ M) (b0 : 0 ≤ y1) (b1 : y1 < H) (bm : y1 ∉ M) : FoundQ W H k h N n2 M (dirQ (movQ W H p k 1) L m) (levelS n2 (dirQ (movQ W H p k 1) L m)) := by
  obtain ⟨gb1, gb2⟩ := grt_bd (W := W) (by omega) (by omega) h3 h4
  have hsd : sidesB W h n2 = true := sidesB_iff.2 ⟨by omega, by omega, by omega, by omega, hn⟩
  have hcol : ∀ x y : Int, 0 ≤ x → x < W → 0 ≤ y → y < H → 0 ≤ (y + dropI W k x) * W + x ∧ (y + dropI W k x) * W + x < n2 ∧ movQ W H p k 1 ((y + dropI W k x) * W + x) = p (y * W + x) := by
    intro x y x0 x1 y0 y1
    have d1 := drop_le_grt (W := W) h3 h4 x0 x1
    obtain ⟨d2, _⟩ := drop_bd (W := W) (by omega) h3 h4 x0 x1
    obtain ⟨j1, j2, _⟩ := idx_lt (H := h) x0 x1 (show 0 ≤ y + dropI W k x by omega) (by omega)
    refine ⟨j1, by rw [hn, Int.mul_comm W h]; exact j2, ?_⟩
    rw [mov_at (h := 0) x0 x1, Int.one_mul, show y + dropI W k x - dropI W k x = y by omega, if_pos ⟨y0, y1⟩]
  have h01 : ∀ i : Int, 0 ≤ i → i < n2 → movQ W H p k 1 i = 0 ∨ movQ W H p k 1 i = 1 := by
    intro i i0 i1
    obtain ⟨x, y, x0, x1, y0, y1, rfl, _, _⟩ := idx_of (H := h) i0 (show 0 < W by omega) (by rw [Int.mul_comm]; omega)
    rw [mov_at (h := 0) x0 x1, Int.one_mul]
    split
    · rename_i hb
      exact hs.bit x _ x0 x1 hb.1 hb.2
    · exact .inl rfl
  have s1 : ∃ i : Int, 0 ≤ i ∧ i < n2 ∧ movQ W H p k 1 i = 1 := by
    obtain ⟨j1, j2, j3⟩ := hcol 0 y0 (by omega) (by omega) a0 a1
    exact ⟨_, j1, j2, by rw [j3]; exact hs.row 0 y0 (by omega) (by omega) a0 a1 am⟩
  have s0 : ∃ i : Int, 0 ≤ i ∧ i < n2 ∧ movQ W H p k 1 i = 0 := by
    have : ∃ x, 0 ≤ x ∧ x < W ∧ p (y1 * W + x) = 0 := by
      rcases hs.bit 0 y1 (by omega) (by omega) b0 b1 with e | e
      · exact ⟨0, by omega, by omega, e⟩
      · rcases hs.bit 1 y1 (by omega) (by omega) b0 b1 with e' | e'
        · exact ⟨1, by omega, by omega, e'⟩
        · exact absurd (hs.pair (x := 0) (by omega) (by omega) b0 b1 e (by rw [Int.zero_add]; exact e')) bm
    obtain ⟨x, x0, x1, e⟩ := this
    obtain ⟨j1, j2, j3⟩ := hcol x y1 x0 x1 b0 b1
    exact ⟨_, j1, j2, by rw [j3]; exact e⟩
  have hG := grey_dir (L := L) (m := m) h01 s1 s0
  have hl := hG.level
  generalize hg' : dirQ (movQ W H p k 1) L m = g at *
  have ht : TiltQ W H k h n2 p (thrQ g (levelS n2 g)) := ⟨hh, hn, chk_thr hsd, isB_thr _ _, fun i i0 i1 => hG.thr i0 i1⟩
  have hf := ht.find hs hg w1 h3 h4 a0 a1 am
  have hm : movE W h n2 (thrQ g (levelS n2 g)) k (-1) = 0 := movE_mk ht.ok h3 h4 (by omega) (by omega)
  have hle : levE W h n2 = 0 := by unfold levE; rw [if_pos hsd]
  have hms : MSize W h (-grt W k) 0 W H N := ⟨fun _ => ⟨rfl, by omega, by rw [hN, show h + -grt W k = H by omega]⟩, fun h => absurd rfl h⟩
  refine ⟨rfl, by omega, by omega, hle, ⟨fun _ => ⟨rfl, hf.symm, rfl, hms⟩, fun h => absurd rfl h⟩, ?_, hms, ?_⟩
  · unfold appE
    rw [if_neg (by omega), if_neg (by omega)]
    exact hm
  · intro i i0 i1
    obtain ⟨Wn, rfl⟩ : ∃ Wn : Nat, W = Wn := ⟨W.toNat, by omega⟩
    obtain ⟨Hn, rfl⟩ : ∃ Hn : Nat, H = Hn := ⟨H.toNat, by omega⟩
    unfold appQ
    rw [Int.toNat_natCast, bgQ_congr (q := p) fun j j0 j1 => ht.back h3 h4 j0 (by omega) (by omega)]
    exact bg_spk hs (by omega) (by rw [← Int.natCast_mul] at hN; omega) i0 i1
theorem ruM_paper {r : Int → Int} (hr : IsB r) (m : Nat) {H : Int} (h : ruYe r m + 2 ≤ H) : H - 1 ∉ ruM r m := fun hm => by
  have := ruM_bd hr _ hm; omega
end Go.Proofs.Ytoonkpjddfiopaa

/- Walk of the law CleanFound. -/
namespace Go.Proofs.Ytoonkpjddfiopaa
open Go.RowKit
set_option linter.unusedVariables false

theorem isB_dir {t L : Int → Int} {m : Nat} : IsB (dirQ t L m) := fun i => by
  have := dirV_bd L m i
  unfold dirQ; split <;> omega
theorem ruQ01 (W : Int) (M : List Int) (i : Int) : ruQ W M i = 0 ∨ ruQ W M i = 1 := by unfold ruQ; split <;> simp
set_option maxRecDepth 100000 in
set_option maxHeartbeats 4000000 in
theorem cleanFound_any (wide skew : Int) (A C D : Option Addr) (n c m d l f : Nat) (r ch L : Int → Int) (w : World) (hA : ArrB w w.heap.size A n r) (hn : n ≤ maxLen) (hnc : n ≤ c) (hr : IsB r) (hw : 0 ≤ wide ∧ wide ≤ 255)
    (hC : ArrU w w.heap.size C m ch) (hm : m ≤ maxLen) (hmd : m ≤ d) (hch : ∀ i, 0 ≤ ch i ∧ ch i ≤ 65535) (hs : 0 ≤ skew ∧ skew ≤ 255) (hD : ArrB w w.heap.size D l L) (hl : l ≤ maxLen) (hL : IsB L) :
    Calls Try.prog 4 #[.int .u8 wide, .slice A n c, .slice C m d, .int .u8 skew, .slice D l f] w fun e w' => e = .returned (.bool true) ∧ Below w.heap.size w w' := by
  obtain ⟨hw1, hw2⟩ := hw
  obtain ⟨hs1, hs2⟩ := hs
  have yb := ruYe_bd hr (m := min n 12) (by omega)
  have RU := fun w' hA' => ruled_any wide A n c r w' hA' hn hnc hr ⟨hw1, hw2⟩
  have hgap := ruM_gap hr (min n 12)
  obtain ⟨y0, hy0⟩ := ruM_some (r := r) (min n 12)
  have hyb := ruM_bd hr y0 hy0
  have hpap := fun H h => ruM_paper (H := H) hr (min n 12) h
  obtain ⟨W, hW⟩ : ∃ W, 65 + wide % 96 = W := ⟨_, rfl⟩
  obtain ⟨H, hH⟩ : ∃ H, ruYe r (min n 12) + 2 + wide % 6 = H := ⟨_, rfl⟩
  rw [hW, hH] at RU
  have hpap := hpap H (by omega)
  generalize ruM r (min n 12) = M at *
  obtain ⟨k, hk⟩ : ∃ k, skew % 7 - 3 = k := ⟨_, rfl⟩
  have h3 : -3 ≤ k := by omega
  have h4 : k ≤ 3 := by omega
  have W1 : 65 ≤ W := by omega
  have W2 : W ≤ 160 := by omega
  have H1 : 2 ≤ H := by omega
  have H2 : H ≤ 84 := by omega
  obtain ⟨gb1, gb2⟩ := grt_bd (W := W) (by omega) (by omega) h3 h4
  obtain ⟨h, hh⟩ : ∃ h, h = H + grt W k := ⟨_, rfl⟩
  have A1 := area_bd (W := W) (H := H) (by omega) (by omega) (by omega) (by omega)
  have A2 := area_bd (W := W) (H := h) (by omega) (by omega) (by omega) (by omega)
  obtain ⟨N, hN⟩ : ∃ N : Nat, (N : Int) = W * H := ⟨(W * H).toNat, by omega⟩
  obtain ⟨n2, hn2⟩ : ∃ N : Nat, (N : Int) = W * h := ⟨(W * h).toNat, by omega⟩
  have hN9 : N ≤ 409600 := by omega
  have hn9 : n2 ≤ 409600 := by omega
  have hSP := (spk_ruled (H := H) (show 0 < W by omega) M).list (by omega) (by omega) ch (min m 40)
  have hS1 := spkL_01 (W := W) (H := H) (ruQ01 W M) ch (min m 40)
  have FQ := found_q (L := L) (m := l) (by omega) (by omega) (by omega) (by omega) hSP hgap h3 h4 hN hh hn2 hyb.1 (by omega) hy0 (by omega) (by omega) hpap
  have RU2 : Hid (∀ w', ArrB w' w'.heap.size A n r → Calls Try.prog 14 #[.int .u8 wide, .slice A n c] w' (New w' fun v w'' => OutN w' w'' W H N (ruQ W M) v)) := by
    show ∀ w', _ → _
    intro w' h'
    refine (RU w' h').mono ?_
    rintro e w'' ⟨v, he, ho, hb⟩
    exact ⟨v, he, ho.outN hN, hb⟩
  have SP := Lib.hid fun ad w' hA' hC' => specked_any W H ad N N (ruQ W M) C m d ch w' hA' (by omega) (by omega) (by omega) (by omega) hN (ruQ01 W M) hC' hm hmd hch
  generalize hq1 : spkL W H ch (ruQ W M) (min m 40) = q1 at *
  have hc1 : chk W H N q1 = 0 := chk_mk (by omega) (by omega) (by omega) (by omega) hN fun i _ _ => by rcases hS1 i with e | e <;> omega
  have SK := Lib.hid fun A' c' w' hA' => skew_all W H W h 0 n2 A' N c' q1 k w' hA' (by unfold maxLen; omega) (isB_01 hS1) (movE_mk hc1 h3 h4 (by omega) (by omega)) ⟨fun _ => ⟨rfl, by omega, by rw [hn2, hh]⟩, fun h => absurd rfl h⟩
  have DI := Lib.hid fun A' c' w' hA' hD' => dirty_any W h A' n2 c' (movQ W H q1 k 1) D l f L w' hA' hn9 (isB_mov (isB_01 hS1)) hD' hl hL
  generalize hq3 : dirQ (movQ W H q1 k 1) L l = q3 at *
  have hB3 : IsB q3 := by rw [← hq3]; exact isB_dir
  generalize levelS n2 q3 = r0 at *
  have CL := Lib.hid fun A' c' w' hA' => clean_any W h A' n2 c' q3 0 W H N r0 k 2 w' hA' (by unfold maxLen; omega) hB3 FQ.lev FQ.cs
  have AP := Lib.hid fun A' c' w' hA' => apply_any W h r0 k 2 A' n2 c' q3 0 W H N w' hA' (by unfold maxLen; omega) hB3 FQ.app FQ.ms
  have EQ := Lib.hid FQ.eq
  have lo := FQ.lo
  have hi := FQ.hi
  generalize appQ W h q3 r0 k 2 N = q4 at *
  generalize movQ W H q1 k 1 = q2 at *
  have wk : IntKind.i64.wrap k = k := IntWalk.i64_in _ (by omega)
  have wk0 : skew.tmod 7 = skew % 7 := Int.tmod_eq_emod_of_nonneg hs1
  have lo' : ¬ r0 ≤ 60 := by omega
  have hi' : ¬ 195 < r0 := by omega
  have HC := Lib.hid hC
  have HA := Lib.hid hA
  have HD := Lib.hid hD
  have HK := Lib.hid hk
  clear RU hq1 hq3 hc1 FQ hS1 hSP hB3 yb hyb hy0 hpap hgap A1 A2 hN hn2 hh hW hH gb1 gb2 hA hC hD hr hch hL hm hn hl
  have K0 := Kp.nil w
  have b0 := Below.refl w.heap.size w
  go_enter Try.func4, Try.ntmps4
  go_wp2_with fail
  refine (RU2.out _ HA.out).mono ?_
  rintro e v1 ⟨_, rfl, ⟨gq, rfl, hgq, kq⟩, hb1⟩
  have K1a := (K0.below hb1).addA (kq.arrB kq.lt)
  have b1a := below_call b0 b0.size hb1
  have z1 := b1a.size
  have b1 : Below w.heap.size w (v1.alloc (.cells #[.int .i64 W, .int .i64 H, .slice (some ⟨gq, 0, none⟩) N N] 29)) := by (repeat (first | exact Below.refl _ _ | assumption | refine Below.drew ?_ | refine below_drewN ?_ _ | refine Below.alloc ?_ (by first | omega | (simp; done) | (simp; omega)) _ | refine Below.setCell ?_ (by first | omega | (simp; done) | (simp; omega)) _ | refine below_setRow ?_ (by first | omega | (simp; done) | (simp; omega)) _ ))
  have K1 := K1a.new 29 #[.int .i64 W, .int .i64 H, .slice (some ⟨gq, 0, none⟩) N N]
  clear K0 b0 K1a b1a hb1  z1 RU2 hgq kq
  obtain ⟨p1, p2, p3⟩ := (K1.b 0 rfl).cells3
  have hk2 := HK.out
  go_wp2_with fail
  generalize v1.alloc (.cells #[.int .i64 W, .int .i64 H, .slice (some ⟨gq, 0, none⟩) N N] 29) = w1 at *
  refine (SP.out _ _ (K1.a 0 rfl) (Arr.more (Arr.below HC.out b1) b1.size)).mono ?_
  rintro e v2 ⟨_, rfl, ⟨gs, cs, rfl, hgs, ks⟩, hb2⟩
  have K2 := (K1.below hb2).addA ks.arr
  have b2 := below_call b1 b1.size hb2
  clear K1 b1 hb2 p1 p2 p3 SP hgs ks
  go_wp2_with fail
  refine (SK.out _ _ _ (K2.a 0 rfl)).mono ?_
  rintro e v3 ⟨_, rfl, ⟨Atl, ctl, rfl, hgtl, atl⟩, hb3⟩
  have K3a := (K2.below hb3).addA atl
  have b3a := below_call b2 b2.size hb3
  have z3 := b3a.size
  have b3 : Below w.heap.size w (v3.alloc (.cells #[.int .i64 W, .int .i64 h, .slice Atl n2 ctl] 29)) := by (repeat (first | exact Below.refl _ _ | assumption | refine Below.drew ?_ | refine below_drewN ?_ _ | refine Below.alloc ?_ (by first | omega | (simp; done) | (simp; omega)) _ | refine Below.setCell ?_ (by first | omega | (simp; done) | (simp; omega)) _ | refine below_setRow ?_ (by first | omega | (simp; done) | (simp; omega)) _ ))
  have K3 := K3a.new 29 #[.int .i64 W, .int .i64 h, .slice Atl n2 ctl]
  clear K2 b2 K3a b3a hb3 atl hgtl  z3 SK hk2
  obtain ⟨p1, p2, p3⟩ := (K3.b 0 rfl).cells3
  go_wp2_with fail
  generalize v3.alloc (.cells #[.int .i64 W, .int .i64 h, .slice Atl n2 ctl] 29) = w3 at *
  refine (DI.out _ _ _ (K3.a 0 rfl) (HD.out.to b3)).mono ?_
  rintro e v4 ⟨_, rfl, ⟨gp, rfl, hgp, kp⟩, hb4⟩
  have K4a := (K3.below hb4).addA (kp.arrB kp.lt)
  have b4a := below_call b3 b3.size hb4
  have z4 := b4a.size
  have b4 : Below w.heap.size w (v4.alloc (.cells #[.int .i64 W, .int .i64 h, .slice (some ⟨gp, 0, none⟩) n2 n2] 24)) := by (repeat (first | exact Below.refl _ _ | assumption | refine Below.drew ?_ | refine below_drewN ?_ _ | refine Below.alloc ?_ (by first | omega | (simp; done) | (simp; omega)) _ | refine Below.setCell ?_ (by first | omega | (simp; done) | (simp; omega)) _ | refine below_setRow ?_ (by first | omega | (simp; done) | (simp; omega)) _ ))
  have K4 := K4a.new 24 #[.int .i64 W, .int .i64 h, .slice (some ⟨gp, 0, none⟩) n2 n2]
  clear K3 b3 K4a b4a hb4 p1 p2 p3 z4 DI hgp kp
  obtain ⟨p1, p2, p3⟩ := (K4.b 0 rfl).cells3
  go_wp2_with fail
  generalize v4.alloc (.cells #[.int .i64 W, .int .i64 h, .slice (some ⟨gp, 0, none⟩) n2 n2] 24) = w4 at *
  refine (CL.out _ _ _ (K4.a 0 rfl)).mono ?_
  rintro e v5 ⟨_, rfl, ⟨Au, cu, rfl, hgu, au⟩, hb5⟩
  have K5a := (K4.below hb5).addA au
  have b5a := below_call b4 b4.size hb5
  have z5 := b5a.size
  have b5 : Below w.heap.size w ((v5.alloc (.cells #[.int .i64 W, .int .i64 H, .slice Au N cu] 29)).alloc (.cells #[.int .i64 r0, .int .i64 k, .int .i64 2] 26)) := by (repeat (first | exact Below.refl _ _ | assumption | refine Below.drew ?_ | refine below_drewN ?_ _ | refine Below.alloc ?_ (by first | omega | (simp; done) | (simp; omega)) _ | refine Below.setCell ?_ (by first | omega | (simp; done) | (simp; omega)) _ | refine below_setRow ?_ (by first | omega | (simp; done) | (simp; omega)) _ ))
  have K5 := ((K5a.new 29 #[.int .i64 W, .int .i64 H, .slice Au N cu]).alloc (.cells #[.int .i64 r0, .int .i64 k, .int .i64 2] 26)).addB (Blk.new' (n := v5.heap.size + 1) (by simp) 26 #[.int .i64 r0, .int .i64 k, .int .i64 2])
  clear K4 b4 K5a b5a hb5 au hgu p1 p2 p3 z5 CL
  obtain ⟨p1, p2, p3⟩ := (K5.b 1 rfl).cells3
  obtain ⟨r1, r2, r3⟩ := (K5.b 4 rfl).cells3
  obtain ⟨s1, s2, s3⟩ := (K5.b 0 rfl).cells3
  go_wp2_with fail
  generalize (v5.alloc (.cells #[.int .i64 W, .int .i64 H, .slice Au N cu] 29)).alloc (.cells #[.int .i64 r0, .int .i64 k, .int .i64 2] 26) = w5 at *
  refine (sameInk_true W H Au (some ⟨gq, 0, none⟩) N cu N q4 (ruQ W M) _ (K5.a 0 rfl) (K5.a 4 rfl) (by unfold maxLen; omega) EQ.out).mono ?_
  rintro e v6 ⟨rfl, hb6⟩
  have K6 := K5.below hb6
  have b6 := below_call b5 b5.size hb6
  clear K5 b5 hb6 p1 p2 p3 r1 r2 r3 s1 s2 s3 
  obtain ⟨p1, p2, p3⟩ := (K6.b 2 rfl).cells3
  obtain ⟨r1, r2, r3⟩ := (K6.b 0 rfl).cells3
  go_wp2_with fail
  refine (AP.out _ _ _ (K6.a 1 rfl)).mono ?_
  rintro e v7 ⟨_, rfl, ⟨Ax, cx, rfl, hgx, ax⟩, hb7⟩
  have K7a := (K6.below hb7).addA ax
  have b7a := below_call b6 b6.size hb7
  have z7 := b7a.size
  have b7 : Below w.heap.size w (v7.alloc (.cells #[.int .i64 W, .int .i64 H, .slice Ax N cx] 29)) := by (repeat (first | exact Below.refl _ _ | assumption | refine Below.drew ?_ | refine below_drewN ?_ _ | refine Below.alloc ?_ (by first | omega | (simp; done) | (simp; omega)) _ | refine Below.setCell ?_ (by first | omega | (simp; done) | (simp; omega)) _ | refine below_setRow ?_ (by first | omega | (simp; done) | (simp; omega)) _ ))
  have K7 := K7a.new 29 #[.int .i64 W, .int .i64 H, .slice Ax N cx]
  clear K6 b6 K7a b7a hb7 ax hgx p1 p2 p3 r1 r2 r3 z7 AP
  obtain ⟨p1, p2, p3⟩ := (K7.b 0 rfl).cells3
  obtain ⟨r1, r2, r3⟩ := (K7.b 2 rfl).cells3
  go_wp2_with fail
  generalize v7.alloc (.cells #[.int .i64 W, .int .i64 H, .slice Ax N cx] 29) = w7 at *
  refine (sameInk_true W H Ax Au N cx cu q4 q4 _ (K7.a 0 rfl) (K7.a 1 rfl) (by unfold maxLen; omega) (fun _ _ _ => rfl)).mono ?_
  rintro e v8 ⟨rfl, hb8⟩
  have K8 := K7.below hb8
  have b8 := below_call b7 b7.size hb8
  clear K7 b7 hb8 p1 p2 p3 r1 r2 r3 
  go_wp2_with fail
  refine (awake_any _).mono ?_
  rintro e v9 ⟨rfl, hb9⟩
  have b9 := below_call b8 b8.size hb9
  go_wp2
  go_ret
  exact ⟨rfl, b9⟩
end Go.Proofs.Ytoonkpjddfiopaa

/- How an argument of a statement is opened: slices of integers and images, as functions of the index. -/
namespace Go.Proofs.Ytoonkpjddfiopaa
open Go.ChangeShapes Go.WideShapes Go.ChangeAt Go.RowKit Go.Deep
set_option linter.unusedVariables false

theorem Try.own : ownKnob Try.prog.godebug = none := by kernel_rfl
theorem Try.laidOut : laidOutB Try.prog = true := by kernel_rfl

theorem addr_plain {w : World} {a : Addr} {v : Value} (h : w.cell? a = some v) : ∃ b off, a = ⟨b, off, none⟩ := by
  obtain ⟨b, off, spot⟩ := a
  have hs : spot = none := by simpa using World.cell?_spot h
  subst hs
  exact ⟨b, off, rfl⟩

section
variable {H : Type} {enc : TypeId × Value → H} {P : Program} {w : World}
theorem ints_of {t e : TypeId} {k : IntKind} {fuel : Nat} {v : Value} {x : DataW H × List MemPlace} (ht : P.underlying t = some (.slice e)) (he : P.underlying e = some (.int k)) (hc : P.cellsOf e = 1) (h0 : (Lit.int k 0).wf = true)
    (h : DataW.trod enc P w 0 (fun _ => true) true fuel t [v] = some x) :
    ∃ A n c zs, v = .slice A n c ∧ (A = none → c = 0) ∧ n ≤ c ∧ c ≤ maxLen ∧ Arr w w.heap.size A n (fun i => .int k (lit zs i)) ∧ ∀ i, (Lit.int k (lit zs i)).wf = true := by
  rcases open_ints ht he hc h with ⟨hcs, _⟩ | ⟨a, l, c, zs, hcs, _, hl, hm, hz, _, hcell, hwz⟩
  · simp at hcs
    exact ⟨none, 0, 0, [], hcs, fun _ => rfl, Nat.le_refl _, Nat.zero_le _, Arr.nil, fun i => by simpa [lit] using h0⟩
  · simp at hcs
    refine ⟨some a, l, c, zs, hcs, (fun e => by cases e), hl, hm, fun hn => ?_, fun i => ?_⟩
    · have hz' : zs.length = c := by simpa using hz
      have c0 := hcell 0 (by omega)
      obtain ⟨b, off, e⟩ := addr_plain c0
      have ha : a = ⟨b, off, none⟩ := by simpa [Addr.add] using e
      subst ha
      refine ⟨b, off, rfl, block_lt_of_cell c0, fun i h0 hi => ?_⟩
      have := hcell i.toNat (by omega)
      have hadd : (⟨b, off, none⟩ : Addr).add i.toNat = ⟨b, off + i.toNat, none⟩ := by
        unfold Addr.add; split
        · rename_i e; rw [e]; rfl
        · rfl
      rw [hadd] at this
      exact this
    · unfold lit
      rw [List.getD_eq_getElem?_getD]
      by_cases hi : i.toNat < zs.length
      · rw [List.getElem?_eq_getElem hi]; exact hwz _ (List.getElem_mem hi)
      · rw [List.getElem?_eq_none (by omega)]; exact h0
theorem open_sl {t e : TypeId} {k : IntKind} {v : Value} {d : DataW H} {p : List MemPlace} {base : Nat} (ht : P.underlying t = some (.slice e)) (he : P.underlying e = some (.int k)) (hc : P.cellsOf e = 1) (h0 : (Lit.int k 0).wf = true)
    (hv : Value.okWide P w .any base t v) (h : DataW.Trod enc P w 0 (fun _ => true) true t v d p) :
    ∃ A n c zs, v = .slice A n c ∧ (A = none → c = 0) ∧ n ≤ c ∧ c ≤ maxLen ∧ Arr w w.heap.size A n (fun i => .int k (lit zs i)) ∧ ∀ i, (Lit.int k (lit zs i)).wf = true := by
  obtain ⟨a0, l0, c0, rfl⟩ := okWide_slice ht hv
  obtain ⟨fuel, hf⟩ := h
  exact ints_of ht he hc h0 (by simpa [Value.cells] using hf)
/-- a struct of two ints and a slice of bytes: Ink, Grey -/
theorem open_img {t tI tB eB : TypeId} {f0 f1 f2 : Field} {v : Value} {d : DataW H} {p : List MemPlace} {base : Nat} (hs : P.underlying t = some (.struct #[f0, f1, f2])) (e0 : f0.type = tI) (e1 : f1.type = tI) (e2 : f2.type = tB)
    (hone : oneCellFields P #[f0, f1, f2] = true) (hC : P.cellsOf t = 3) (hI : P.underlying tI = some (.int .i64)) (hB : P.underlying tB = some (.slice eB)) (hE : P.underlying eB = some (.int .u8)) (hcE : P.cellsOf eB = 1)
    (hv : Value.okWide P w .any base t v) (h : DataW.Trod enc P w 0 (fun _ => true) true t v d p) :
    ∃ W Hh A n c zs, v = .agg #[.int .i64 W, .int .i64 Hh, .slice A n c] ∧ (Lit.int .i64 W).wf = true ∧ (Lit.int .i64 Hh).wf = true ∧ (A = none → c = 0) ∧ n ≤ c ∧ c ≤ maxLen ∧ ArrB w w.heap.size A n (lit zs) ∧ IsB (lit zs) := by
  obtain ⟨v0, v1, v2, y0, y1, y2, n, rfl, -, -, h0, h1, h2⟩ := Go.Joins.open_agg3 hs hone hC hv h
  rw [e0] at h0; rw [e1] at h1; rw [e2] at h2
  obtain ⟨W, hw, -, wW⟩ := DataW.trod_int hI h0
  obtain ⟨Hh, hh, -, wH⟩ := DataW.trod_int hI h1
  simp at hw hh
  subst hw; subst hh
  obtain ⟨A, m, c, zs, rfl, z, a, b, d, e⟩ := ints_of hB hE hcE (by decide) h2
  exact ⟨W, Hh, A, m, c, zs, rfl, wW, wH, z, a, b, d, fun i => bounds_u8 (e i)⟩
end
end Go.Proofs.Ytoonkpjddfiopaa
