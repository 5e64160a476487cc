/- Texts of mine in build order: K4, S11, S12, C8, C12, G5, I5, I6. Conditions: each theorem's own. -/
import Derived.Test.YtoonkpjddfiopaaMCleanRecipesx7
import Derived.Laws.EntriesVeiled
import Derived.Deep.DeepCutAuto
import Derived.Deep.Cut
import Derived.Deep.CutBlock
import Derived.RegionTactic
/- Walk: clean.Clean. -/
namespace Go.Proofs.Ytoonkpjddfiopaa
open Go.RowKit
set_option linter.unusedVariables false

theorem levP_256 (c : Int → Int) (m : Nat) (hm : m ≤ 256) : (levP c m).1 ≤ 256 := by
  induction m with
  | zero => simp [levP]
  | succ m ih =>
    have h := levP_bd c m
    have := ih (by omega)
    rw [levP]
    split
    · exact this
    · split
      · simp only; omega
      · simp only; omega
theorem levelS_bd (n : Nat) (p : Int → Int) : 0 ≤ levelS n p ∧ levelS n p ≤ 256 := ⟨(levP_bd _ _).1, levP_256 _ _ (Nat.le_refl _)⟩
/-- the skew that is found can be undone -/
theorem findS_mov {W H : Int} {n : Nat} {p : Int → Int} (hc : chk W H n p = 0) : movE W H n p (findS W H n p) (-1) = 0 ∧ -3 ≤ findS W H n p ∧ findS W H n p ≤ 3 := by
  obtain ⟨a, b, c, d, _, _⟩ := chk_ok hc
  have h0 : -1 < fsN W H n p 0 := fsN_ok.2 (movE_mk hc (by omega) (by omega) (by rw [grt_0]; omega) (by rw [grt_0]; omega))
  have h := best_ok h0 (fun k => (fsN_bd W H n p k).1)
  have e : findS W H n p = (fsL (fsN W H n p) L7).1 := rfl
  rw [e]
  exact ⟨fsN_ok.1 (by rw [h.1]; exact h.2.2.1), mem_L7.1 h.2.1⟩
/-- an image, a recipe and an error, new -/
def OutC (w w' : World) (E W H : Int) (N : Nat) (q : Int → Int) (r0 r1 r2 : Int) (v : Value) : Prop := ∃ A c, v = .tuple #[.agg #[.int .i64 W, .int .i64 H, .slice A N c], .agg #[.int .i64 r0, .int .i64 r1, .int .i64 r2], .int .i64 E] ∧ (∀ a, A = some a → w.heap.size ≤ a.block) ∧ ArrB w' w'.heap.size A N q
/-- what Clean finds -/
structure CSize (W H : Int) (n : Nat) (p : Int → Int) (E Wm Hm : Int) (N : Nat) (r0 r1 r2 : Int) : Prop where
  ok : E = 0 → r0 = levelS n p ∧ r1 = findS W H n (thrQ p r0) ∧ r2 = 2 ∧ MSize W H (-grt W r1) 0 Wm Hm N
  bad : E ≠ 0 → Wm = 0 ∧ Hm = 0 ∧ N = 0 ∧ r0 = 0 ∧ r1 = 0 ∧ r2 = 0
theorem outC_bad {w w' : World} {E W H r0 r1 r2 : Int} {N : Nat} {q : Int → Int} (h : W = 0 ∧ H = 0 ∧ N = 0 ∧ r0 = 0 ∧ r1 = 0 ∧ r2 = 0) : OutC w w' E W H N q r0 r1 r2 (.tuple #[noImg, .agg #[.int .i64 0, .int .i64 0, .int .i64 0], .int .i64 E]) := by
  obtain ⟨rfl, rfl, rfl, rfl, rfl, rfl⟩ := h
  exact ⟨none, 0, rfl, (fun a h => by cases h), fun h => by omega⟩
theorem csize_ex (W H : Int) (n : Nat) (p : Int → Int) : ∃ Wm Hm N r0 r1 r2, CSize W H n p (levE W H n) Wm Hm N r0 r1 r2 := by
  by_cases e : levE W H n = 0
  · have hs := levE_ok e
    have hc := chk_thr (p := p) (lv := levelS n p) hs
    obtain ⟨f1, f2, f3⟩ := findS_mov hc
    obtain ⟨Wm, Hm, N, hm⟩ := msize_ex W H (-grt W (findS W H n (thrQ p (levelS n p)))) 0 (fun _ => by have := movE_sides f1; omega)
    exact ⟨Wm, Hm, N, _, _, 2, fun _ => ⟨rfl, rfl, rfl, hm⟩, fun h => absurd e h⟩
  · exact ⟨0, 0, 0, 0, 0, 0, fun h => absurd h e, fun _ => ⟨rfl, rfl, rfl, rfl, rfl, rfl⟩⟩
theorem heap_far3 {w : World} {g k : Nat} (h : k ≠ g) (a b c : Value) : (((w.setCell ⟨g, 0, none⟩ a).setCell ⟨g, 1, none⟩ b).setCell ⟨g, 2, none⟩ c).heap[k]? = w.heap[k]? := by
  rw [heap_setCell_other _ _ _ _ h, heap_setCell_other _ _ _ _ h, heap_setCell_other _ _ _ _ h]
theorem heap_far3d {w : World} {g k : Nat} (h : k ≠ g) (a b c : Value) : (((w.setCell ⟨g, 0, none⟩ a).setCell ⟨g, 1, none⟩ b).setCell ⟨g, 2, none⟩ c).drew.heap[k]? = w.heap[k]? := by
  rw [show ∀ v : World, v.drew.heap = v.heap from fun _ => rfl, heap_setCell_other _ _ _ _ h, heap_setCell_other _ _ _ _ h, heap_setCell_other _ _ _ _ h]
theorem heap_far6d {w : World} {g g' k : Nat} (h : k ≠ g) (h' : k ≠ g') (a b c a' b' c' : Value) : ((((((w.setCell ⟨g, 0, none⟩ a).setCell ⟨g, 1, none⟩ b).setCell ⟨g, 2, none⟩ c).setCell ⟨g', 0, none⟩ a').setCell ⟨g', 1, none⟩ b').setCell ⟨g', 2, none⟩ c').drew.heap[k]? = w.heap[k]? := by
  rw [show ∀ v : World, v.drew.heap = v.heap from fun _ => rfl, heap_setCell_other _ _ _ _ h', heap_setCell_other _ _ _ _ h', heap_setCell_other _ _ _ _ h', heap_setCell_other _ _ _ _ h, heap_setCell_other _ _ _ _ h, heap_setCell_other _ _ _ _ h]
theorem outC_mk {w w' : World} {E W H r0 r1 r2 : Int} {N c : Nat} {q : Int → Int} {A : Option Addr} (h : ∀ a, A = some a → w.heap.size ≤ a.block) (ha : ArrB w' w'.heap.size A N q) :
    OutC w w' E W H N q r0 r1 r2 (.tuple #[.agg #[.int .i64 W, .int .i64 H, .slice A N c], .agg #[.int .i64 r0, .int .i64 r1, .int .i64 r2], .int .i64 E]) := ⟨A, c, rfl, h, ha⟩

set_option maxRecDepth 100000 in
set_option maxHeartbeats 8000000 in
theorem clean_any (W H : Int) (A : Option Addr) (n c : Nat) (p : Int → Int) (E Wm Hm : Int) (N : Nat) (r0 r1 r2 : Int) (w : World) (hA : ArrB w w.heap.size A n p) (hn : n ≤ maxLen) (hB : IsB p) (hE : levE W H n = E) (hs : CSize W H n p E Wm Hm N r0 r1 r2) :
    Calls Try.prog 9 #[.agg #[.int .i64 W, .int .i64 H, .slice A n c]] w (New w fun v w' => OutC w w' E Wm Hm N (appQ W H p r0 r1 r2 N) r0 r1 r2 v) := by
  obtain ⟨⟨Wn, rfl⟩, ⟨Hn, rfl⟩, hOK⟩ : (∃ k : Nat, Wm = k) ∧ (∃ k : Nat, Hm = k) ∧ (E = 0 → sidesB W H n = true ∧ levelS n p = r0 ∧ 0 ≤ r0 ∧ r0 ≤ 256 ∧ findS W H n (thrQ p r0) = r1 ∧ movE W H n (thrQ p r0) r1 (-1) = 0 ∧ MSize W H (-grt W r1) 0 Wm Hm N ∧ r2 = 2 ∧ Wm = W ∧ Hm ≤ 640 ∧ (N : Int) = Wm * Hm) := by
    by_cases e : E = 0
    · obtain ⟨rfl, rfl, rfl, hm⟩ := hs.ok e
      have hsd := levE_ok (hE.trans e)
      have hc := chk_thr (p := p) (lv := levelS n p) hsd
      obtain ⟨f1, -, -⟩ := findS_mov hc
      obtain ⟨-, -, -, g1, g2⟩ := movE_ok f1
      obtain ⟨rfl, e2, e3⟩ := hm.ok rfl
      obtain ⟨s1, s2, -⟩ := sidesB_iff.1 hsd
      obtain ⟨l1, l2⟩ := levelS_bd n p
      exact ⟨⟨Wm.toNat, by omega⟩, ⟨Hm.toNat, by omega⟩, fun _ => ⟨hsd, rfl, l1, l2, rfl, f1, hm, rfl, rfl, by omega, by rw [e3, e2]⟩⟩
    · obtain ⟨rfl, rfl, -⟩ := hs.bad e
      exact ⟨⟨0, rfl⟩, ⟨0, rfl⟩, fun h => absurd h e⟩
  have HOK := Lib.hid hOK
  have HBD := Lib.hid hs.bad
  have HE := Lib.hid hE
  have HB := Lib.hid hB
  have HA := Lib.hid hA
  have HNN := Lib.hid hn
  clear hOK hs hE hB hA hn
  have b10 : Below w.heap.size w ((((w.alloc (.cells #[.int .i64 W, .int .i64 H, .slice A n c] 24)).alloc (.cells #[.int .i64 0, .int .i64 0, .slice none 0 0] 29)).alloc (.cells #[.int .i64 0, .int .i64 0, .int .i64 0] 26)).alloc (.cells (wkV W H (.slice A n c) 0 0 (.slice none 0 0) 0 0 0) 60)) := by (repeat (first | exact Below.refl _ _ | assumption | refine Below.drew ?_ | refine below_drewN ?_ _ | refine Below.alloc ?_ (by first | omega | (simp; done) | (simp; omega)) _ | refine Below.setCell ?_ (by first | omega | (simp; done) | (simp; omega)) _ | refine below_setRow ?_ (by first | omega | (simp; done) | (simp; omega)) _ ))
  have k20 : Blk ((((w.alloc (.cells #[.int .i64 W, .int .i64 H, .slice A n c] 24)).alloc (.cells #[.int .i64 0, .int .i64 0, .slice none 0 0] 29)).alloc (.cells #[.int .i64 0, .int .i64 0, .int .i64 0] 26)).alloc (.cells (wkV W H (.slice A n c) 0 0 (.slice none 0 0) 0 0 0) 60)) (w.heap.size + 1) 29 #[.int .i64 0, .int .i64 0, .slice none 0 0] := ((Blk.new' (by simp) _ _).alloc _).alloc _
  have k30 : Blk ((((w.alloc (.cells #[.int .i64 W, .int .i64 H, .slice A n c] 24)).alloc (.cells #[.int .i64 0, .int .i64 0, .slice none 0 0] 29)).alloc (.cells #[.int .i64 0, .int .i64 0, .int .i64 0] 26)).alloc (.cells (wkV W H (.slice A n c) 0 0 (.slice none 0 0) 0 0 0) 60)) (w.heap.size + 1 + 1) 26 #[.int .i64 0, .int .i64 0, .int .i64 0] := (Blk.new' (by simp) _ _).alloc _
  have kw0 : Blk ((((w.alloc (.cells #[.int .i64 W, .int .i64 H, .slice A n c] 24)).alloc (.cells #[.int .i64 0, .int .i64 0, .slice none 0 0] 29)).alloc (.cells #[.int .i64 0, .int .i64 0, .int .i64 0] 26)).alloc (.cells (wkV W H (.slice A n c) 0 0 (.slice none 0 0) 0 0 0) 60)) (w.heap.size + 1 + 1 + 1) 60 (wkV W H (.slice A n c) 0 0 (.slice none 0 0) 0 0 0) := Blk.new' (by simp) _ _
  unfold wkV at b10 k20 k30 kw0
  go_enter Try.func9, Try.ntmps9
  go_wp2_with fail
  generalize (((w.alloc (.cells #[.int .i64 W, .int .i64 H, .slice A n c] 24)).alloc (.cells #[.int .i64 0, .int .i64 0, .slice none 0 0] 29)).alloc (.cells #[.int .i64 0, .int .i64 0, .int .i64 0] 26)).alloc (.cells #[.int .i64 W, .int .i64 H, .slice A n c, .int .i64 0, .int .i64 0, .slice none 0 0, .int .i64 0, .int .i64 0, .int .i64 0] 60) = w1 at *
  refine (steps_any _).mono ?_
  rintro e w2 ⟨rfl, h20⟩
  have hw2 := Lib.hid h20.symm
  clear h20
  have ks0 : Blk w2 w1.heap.size 65 stV := by rw [← hw2.out]; exact Blk.new _ _ _
  have b2 := b10.alloc b10.size (.cells stV 65)
  have k2 := k20.alloc (.cells stV 65)
  have k3 := k30.alloc (.cells stV 65)
  have kw2 := kw0.alloc (.cells stV 65)
  rw [hw2.out] at b2 k2 k3 kw2
  have z1 := kw0.lt
  clear hw2 b10 k20 k30 kw0
  generalize w1.heap.size = gs at *
  generalize hgw : w.heap.size + 1 + 1 + 1 = gw at *
  have hgw2 : w.heap.size + 1 + 1 < gw := by omega
  clear hgw
  go_wp2
  go_loopw [15] (fun s wr => ∃ (i : Nat) (IW IH : Int) (IS : Value) (a0 a1 a2 : Int), i ≤ 3 ∧ s = .int .i64 i ∧ Blk wr gw 60 (wkV W H (.slice A n c) IW IH IS a0 a1 a2) ∧ Blk wr gs 65 stV ∧ Blk wr (w.heap.size + 1) 29 #[.int .i64 0, .int .i64 0, .slice none 0 0] ∧ Blk wr (w.heap.size + 1 + 1) 26 #[.int .i64 0, .int .i64 0, .int .i64 0] ∧ Below w.heap.size w wr ∧
    ((i = 0 ∧ 0 = a0 ∧ 0 = a1 ∧ 0 = a2) ∨
     (i = 1 ∧ E = 0 ∧ r0 = a0 ∧ 0 = a1 ∧ 0 = a2 ∧ ∃ A' c', W = IW ∧ H = IH ∧ .slice A' n c' = IS ∧ (∀ a, A' = some a → gs < a.block) ∧ ArrB wr wr.heap.size A' n (thrQ p r0)) ∨
     (i = 2 ∧ E = 0 ∧ r0 = a0 ∧ r1 = a1 ∧ 0 = a2 ∧ ∃ A' c', (Wn : Int) = IW ∧ (Hn : Int) = IH ∧ .slice A' N c' = IS ∧ (∀ a, A' = some a → gs < a.block) ∧ ArrB wr wr.heap.size A' N (movQ W H (thrQ p r0) r1 (-1))) ∨
     (i = 3 ∧ E = 0 ∧ r0 = a0 ∧ r1 = a1 ∧ 2 = a2 ∧ ∃ A' c', (Wn : Int) = IW ∧ (Hn : Int) = IH ∧ .slice A' N c' = IS ∧ (∀ a, A' = some a → gs < a.block) ∧ ArrB wr wr.heap.size A' N (bgQ N Wn (movQ W H (thrQ p r0) r1 (-1)) 2)))) (fun s _ => 3 - (intOf s).toNat)
  case atStart => exact ⟨0, 0, 0, _, 0, 0, 0, by omega, rfl, kw2, ks0, k2, k3, b2, .inl ⟨rfl, rfl, rfl, rfl⟩⟩
  case round =>
    obtain ⟨i, IW, IH, IS, a0, a1, a2, hi, rfl, kw, ks, ki, kr, b4, him⟩ := hrel
    clear kw2 ks0 k2 k3 b2
    have wl := kw.lt
    have wl2 := ks.lt
    have hgg : gw < gs := z1
    rcases him with ⟨rfl, rfl, rfl, rfl⟩ | ⟨rfl, rfl, rfl, rfl, rfl, A', c', rfl, rfl, rfl, hge, ha⟩ | ⟨rfl, rfl, rfl, rfl, rfl, A', c', rfl, rfl, rfl, hge, ha⟩ | ⟨rfl, rfl, rfl, rfl, rfl, A', c', rfl, rfl, rfl, hge, ha⟩
    · by_cases hE0 : E = 0
      · subst hE0
        obtain ⟨hsd, hlv, l0, l1, -⟩ := HOK.out rfl
        have HSD := Lib.hid hsd
        have HLV := Lib.hid hlv
        have l1 : r0 ≤ 256 := l1
        clear hsd hlv
        have s0 : wr.cell? ⟨gs, 0, none⟩ = some (.func (.func 44) #[] #[]) := by rw [ks.cell]; rfl
        have s1 : wr.cell? ⟨gs, 1, none⟩ = some (.func (.func 45) #[] #[]) := by rw [ks.cell]; rfl
        have s2 : wr.cell? ⟨gs, 2, none⟩ = some (.func (.func 46) #[] #[]) := by rw [ks.cell]; rfl
        obtain ⟨gb, hgb⟩ : ∃ g, wr.heap.size = g := ⟨_, rfl⟩
        have hgsb : gs < gb := by omega
        have kb5 : Blk (wr.alloc (.cells #[.func (.func 44) #[] #[], .func (.func 45) #[] #[], .func (.func 46) #[] #[]] 65)) gb 65 #[.func (.func 44) #[] #[], .func (.func 45) #[] #[], .func (.func 46) #[] #[]] := Blk.new' hgb _ _
        have nb5 : Blk (wr.alloc (.cells #[.nilFunc, .nilFunc, .nilFunc] 65)) gb 65 #[.nilFunc, .nilFunc, .nilFunc] := Blk.new' hgb _ _
        have kw5 := kw.alloc (.cells #[.func (.func 44) #[] #[], .func (.func 45) #[] #[], .func (.func 46) #[] #[]] 65)
        have ks5 := ks.alloc (.cells #[.func (.func 44) #[] #[], .func (.func 45) #[] #[], .func (.func 46) #[] #[]] 65)
        have ki5 := ki.alloc (.cells #[.func (.func 44) #[] #[], .func (.func 45) #[] #[], .func (.func 46) #[] #[]] 65)
        have kr5 := kr.alloc (.cells #[.func (.func 44) #[] #[], .func (.func 45) #[] #[], .func (.func 46) #[] #[]] 65)
        have b5 := b4.alloc b4.size (.cells #[.func (.func 44) #[] #[], .func (.func 45) #[] #[], .func (.func 46) #[] #[]] 65)
        obtain ⟨m1, m2, m3⟩ := Blk.cells3 kb5
        obtain ⟨n1, n2, n3⟩ := nb5.cells3
        obtain ⟨q1, q2, q3⟩ := nb5.frozen3
        clear kw ks ki kr b4 nb5
        go_wp2_with fail
        generalize wr.alloc (.cells #[.func (.func 44) #[] #[], .func (.func 45) #[] #[], .func (.func 46) #[] #[]] 65) = w5 at *
        have FD := Lib.hid (findThr_any W H IW IH 0 0 0 A n c p IS 0 r0 gw w5 kw5 (HA.out.to b5) HNN.out HB.out HE.out (by rw [HLV.out]; rfl))
        refine FD.out.mono ?_
        rintro e w6 ⟨rfl, hb6⟩
        have kb6 := kb5.below' hb6
        have kw6 := kw5.below' hb6
        have ks6 := ks5.below' hb6
        have ki6 := ki5.below' hb6
        have kr6 := kr5.below' hb6
        have b6 := below_call b5 b5.size hb6
        have hb6' := hb6
        clear FD kb5 kw5 ks5 ki5 kr5 b5 hb6
        obtain ⟨m1, m2, m3⟩ := Blk.cells3 kb6
        go_wp2_with fail
        refine (keepThr_any r0 _ (.int .i64 0) gw w6 kw6 rfl).mono ?_
        rintro e w7 ⟨rfl, h7⟩
        have hw7 := Lib.hid h7.symm
        clear h7
        have kw7 : Blk (w6.setCell ⟨gw, 6, none⟩ (.int .i64 r0)) gw 60 (wkV W H (.slice A n c) IW IH IS r0 0 0) := kw6.set_ 6 (.int .i64 r0)
        have kb7 := kb6.far (p := ⟨gw, 6, none⟩) (by simp; omega) (.int .i64 r0)
        have ks7 := ks6.far (p := ⟨gw, 6, none⟩) (by simp; omega) (.int .i64 r0)
        have ki7 := ki6.far (p := ⟨gw, 6, none⟩) (by simp; omega) (.int .i64 r0)
        have kr7 := kr6.far (p := ⟨gw, 6, none⟩) (by simp; omega) (.int .i64 r0)
        have b7 := b6.setCell (p := ⟨gw, 6, none⟩) (by simp; omega) (.int .i64 r0)
        have z7 : w7.heap.size = w6.heap.size := by rw [← hw7.out]; simp
        rw [hw7.out] at kw7 kb7 ks7 ki7 kr7 b7
        obtain ⟨m1, m2, m3⟩ := Blk.cells3 kb7
        have ST := Lib.hid (stepThr_any W H r0 IW IH r0 0 0 A n c p IS 0 W H n gw w7 kw7 (HA.out.to b7) HB.out (thrE_ok HSD.out l0 l1) ⟨fun _ => ⟨rfl, rfl, (sidesB_iff.1 HSD.out).2.2.2.2⟩, fun h => absurd rfl h⟩)
        clear kw6 kb6 ks6 ki6 kr6 b6 hw7
        go_wp2_with fail
        refine ST.out.mono ?_
        rintro e w8 ⟨_, rfl, ⟨A2, c2, rfl, hg2, ha2⟩, hb8⟩
        have KS8 := Lib.hid (ks7.below' hb8)
        have KI8 := Lib.hid (ki7.below' hb8)
        have KR8 := Lib.hid (kr7.below' hb8)
        have B8 := Lib.hid (below_call b7 b7.size hb8)
        have kw8 := kw7.below' hb8
        have ls7 := kb7.lt
        have hge2 : ∀ a, A2 = some a → gs < a.block := fun a e => by have := hg2 a e; omega
        have HA2 := Lib.hid ha2
        obtain ⟨-, ⟨i3, i4, i5⟩, -⟩ := wk_cells kw8
        have f3 := kw8.frozen 3
        have f4 := kw8.frozen 4
        have f5 := kw8.frozen 5
        clear ST kw7 kb7 ks7 ki7 kr7 b7 ha2 hb8 hg2 z7
        go_wp2_with fail
        have KS8 := Lib.hid (((KS8.out.far (p := ⟨gw, 3, none⟩) (by simp; omega) (.int .i64 W)).far (p := ⟨gw, 4, none⟩) (by simp; omega) (.int .i64 H)).far (p := ⟨gw, 5, none⟩) (by simp; omega) (.slice A2 n c2))
        have KI8 := Lib.hid (((KI8.out.far (p := ⟨gw, 3, none⟩) (by simp; omega) (.int .i64 W)).far (p := ⟨gw, 4, none⟩) (by simp; omega) (.int .i64 H)).far (p := ⟨gw, 5, none⟩) (by simp; omega) (.slice A2 n c2))
        have KR8 := Lib.hid (((KR8.out.far (p := ⟨gw, 3, none⟩) (by simp; omega) (.int .i64 W)).far (p := ⟨gw, 4, none⟩) (by simp; omega) (.int .i64 H)).far (p := ⟨gw, 5, none⟩) (by simp; omega) (.slice A2 n c2))
        have B8 := Lib.hid (((B8.out.setCell (p := ⟨gw, 3, none⟩) (by simp; omega) (.int .i64 W)).setCell (p := ⟨gw, 4, none⟩) (by simp; omega) (.int .i64 H)).setCell (p := ⟨gw, 5, none⟩) (by simp; omega) (.slice A2 n c2))
        have HA2 := Lib.hid (((HA2.out.far1 (p := ⟨gw, 3, none⟩) (fun a e => by have := hge2 a e; simp; omega) (.int .i64 W)).far1 (p := ⟨gw, 4, none⟩) (fun a e => by have := hge2 a e; simp; omega) (.int .i64 H)).far1 (p := ⟨gw, 5, none⟩) (fun a e => by have := hge2 a e; simp; omega) (.slice A2 n c2))
        go_roundw
        case rel => exact ⟨1, _, _, _, _, _, _, by omega, by go_num, wk_img kw8 W H (.slice A2 n c2), KS8.out, KI8.out, KR8.out, B8.out, .inr (.inl ⟨rfl, by trivial, rfl, rfl, rfl, A2, c2, rfl, rfl, rfl, hge2, HA2.out.more (by simp)⟩)⟩
        case measure => simp [intOf]
      · have hz' : (E != 0) = true := by simp [hE0]
        obtain ⟨hb1, hb2, hb3, hb4, hb5, hb6⟩ := HBD.out hE0
        have HZ := Lib.hid (HBD.out hE0)
        have HV : Hid (r0 = if E = 0 then levelS n p else 0) := by show _ = _; rw [if_neg hE0, hb4]
        have HE0 := Lib.hid hE0
        clear hb1 hb2 hb3 hb4 hb5 hb6 hE0 HBD
        have s0 : wr.cell? ⟨gs, 0, none⟩ = some (.func (.func 44) #[] #[]) := by rw [ks.cell]; rfl
        have s1 : wr.cell? ⟨gs, 1, none⟩ = some (.func (.func 45) #[] #[]) := by rw [ks.cell]; rfl
        have s2 : wr.cell? ⟨gs, 2, none⟩ = some (.func (.func 46) #[] #[]) := by rw [ks.cell]; rfl
        obtain ⟨gb, hgb⟩ : ∃ g, wr.heap.size = g := ⟨_, rfl⟩
        have hgsb : gs < gb := by omega
        have kb5 : Blk (wr.alloc (.cells #[.func (.func 44) #[] #[], .func (.func 45) #[] #[], .func (.func 46) #[] #[]] 65)) gb 65 #[.func (.func 44) #[] #[], .func (.func 45) #[] #[], .func (.func 46) #[] #[]] := Blk.new' hgb _ _
        have nb5 : Blk (wr.alloc (.cells #[.nilFunc, .nilFunc, .nilFunc] 65)) gb 65 #[.nilFunc, .nilFunc, .nilFunc] := Blk.new' hgb _ _
        have kw5 := kw.alloc (.cells #[.func (.func 44) #[] #[], .func (.func 45) #[] #[], .func (.func 46) #[] #[]] 65)
        have ks5 := ks.alloc (.cells #[.func (.func 44) #[] #[], .func (.func 45) #[] #[], .func (.func 46) #[] #[]] 65)
        have ki5 := ki.alloc (.cells #[.func (.func 44) #[] #[], .func (.func 45) #[] #[], .func (.func 46) #[] #[]] 65)
        have kr5 := kr.alloc (.cells #[.func (.func 44) #[] #[], .func (.func 45) #[] #[], .func (.func 46) #[] #[]] 65)
        have b5 := b4.alloc b4.size (.cells #[.func (.func 44) #[] #[], .func (.func 45) #[] #[], .func (.func 46) #[] #[]] 65)
        obtain ⟨m1, m2, m3⟩ := Blk.cells3 kb5
        obtain ⟨n1, n2, n3⟩ := nb5.cells3
        obtain ⟨q1, q2, q3⟩ := nb5.frozen3
        clear kw ks ki kr b4 nb5
        go_wp2_with fail
        generalize wr.alloc (.cells #[.func (.func 44) #[] #[], .func (.func 45) #[] #[], .func (.func 46) #[] #[]] 65) = w5 at *
        have FD := Lib.hid (findThr_any W H IW IH 0 0 0 A n c p IS E r0 gw w5 kw5 (HA.out.to b5) HNN.out HB.out HE.out HV.out)
        refine FD.out.mono ?_
        rintro e w6 ⟨rfl, hb6⟩
        have kb6 := kb5.below' hb6
        have kw6 := kw5.below' hb6
        have ks6 := ks5.below' hb6
        have ki6 := ki5.below' hb6
        have kr6 := kr5.below' hb6
        have b6 := below_call b5 b5.size hb6
        have hb6' := hb6
        clear FD kb5 kw5 ks5 ki5 kr5 b5 hb6
        obtain ⟨m1, m2, m3⟩ := Blk.cells3 kb6
        obtain ⟨f1, f2, f3⟩ := ki6.frozen3
        obtain ⟨g1, g2, g3⟩ := kr6.frozen3
        obtain ⟨t1, t2, t3⟩ := ki6.cells3
        obtain ⟨v1, v2, v3⟩ := kr6.cells3
        have k9 := ((ki6.set_ 0 (.int .i64 0)).set_ 1 (.int .i64 0)).set_ 2 (.slice none 0 0)
        have k8 := ((ki6.set_ 0 (.int .i64 0)).set_ 1 (.int .i64 0)).set_ 2 (.slice none 0 0)
        have r9 := (((((kr6.far (p := ⟨w.heap.size + 1, 0, none⟩) (by simp) (.int .i64 0)).far (p := ⟨w.heap.size + 1, 1, none⟩) (by simp) (.int .i64 0)).far (p := ⟨w.heap.size + 1, 2, none⟩) (by simp) (.slice none 0 0)).set_ 0 (.int .i64 0)).set_ 1 (.int .i64 0)).set_ 2 (.int .i64 0)
        have i9 := ((k9.far (p := ⟨w.heap.size + 1 + 1, 0, none⟩) (by simp) (.int .i64 0)).far (p := ⟨w.heap.size + 1 + 1, 1, none⟩) (by simp) (.int .i64 0)).far (p := ⟨w.heap.size + 1 + 1, 2, none⟩) (by simp) (.int .i64 0)
        have B9 := Lib.hid ((((((b6.setCell (p := ⟨w.heap.size + 1, 0, none⟩) (by simp) (.int .i64 0)).setCell (p := ⟨w.heap.size + 1, 1, none⟩) (by simp) (.int .i64 0)).setCell (p := ⟨w.heap.size + 1, 2, none⟩) (by simp) (.slice none 0 0)).setCell (p := ⟨w.heap.size + 1 + 1, 0, none⟩) (by simp; omega) (.int .i64 0)).setCell (p := ⟨w.heap.size + 1 + 1, 1, none⟩) (by simp; omega) (.int .i64 0)).setCell (p := ⟨w.heap.size + 1 + 1, 2, none⟩) (by simp; omega) (.int .i64 0))
        obtain ⟨s1, s2, s3⟩ := Blk.cells3 (a := .int .i64 0) (b := .int .i64 0) (c := .slice none 0 0) i9
        obtain ⟨u1, u2, u3⟩ := Blk.cells3 (a := .int .i64 0) (b := .int .i64 0) (c := .int .i64 0) r9
        clear b6 HOK kw6 kb6 ks6 ki6 kr6 k9 k8 r9 i9
        go_wp2_with fail
        refine bodyPost_ret (v := .tuple #[noImg, .agg #[.int .i64 0, .int .i64 0, .int .i64 0], .int .i64 E]) (by simp [results, Try.results9, go_sem, noImg, s1, s2, s3, u1, u2, u3]) rfl ?_
        exact ⟨_, rfl, outC_bad HZ.out, B9.out⟩
    · obtain ⟨hsd, hlv, l0, l1, hf, hm, hms, -⟩ := HOK.out (by trivial)
      have HSD := Lib.hid hsd
      have HF := Lib.hid hf
      have HM := Lib.hid hm
      have HMS := Lib.hid hms
      clear hsd hlv hf hm hms l0 l1
      have s0 : wr.cell? ⟨gs, 3, none⟩ = some (.func (.func 48) #[] #[]) := by rw [ks.cell]; rfl
      have s1 : wr.cell? ⟨gs, 3 + 1, none⟩ = some (.func (.func 49) #[] #[]) := by rw [ks.cell]; rfl
      have s2 : wr.cell? ⟨gs, 3 + 2, none⟩ = some (.func (.func 50) #[] #[]) := by rw [ks.cell]; rfl
      obtain ⟨gb, hgb⟩ : ∃ g, wr.heap.size = g := ⟨_, rfl⟩
      have hgsb : gs < gb := by omega
      have kb5 : Blk (wr.alloc (.cells #[.func (.func 48) #[] #[], .func (.func 49) #[] #[], .func (.func 50) #[] #[]] 65)) gb 65 #[.func (.func 48) #[] #[], .func (.func 49) #[] #[], .func (.func 50) #[] #[]] := Blk.new' hgb _ _
      have nb5 : Blk (wr.alloc (.cells #[.nilFunc, .nilFunc, .nilFunc] 65)) gb 65 #[.nilFunc, .nilFunc, .nilFunc] := Blk.new' hgb _ _
      have kw5 := kw.alloc (.cells #[.func (.func 48) #[] #[], .func (.func 49) #[] #[], .func (.func 50) #[] #[]] 65)
      have ks5 := ks.alloc (.cells #[.func (.func 48) #[] #[], .func (.func 49) #[] #[], .func (.func 50) #[] #[]] 65)
      have ki5 := ki.alloc (.cells #[.func (.func 48) #[] #[], .func (.func 49) #[] #[], .func (.func 50) #[] #[]] 65)
      have kr5 := kr.alloc (.cells #[.func (.func 48) #[] #[], .func (.func 49) #[] #[], .func (.func 50) #[] #[]] 65)
      have b5 := b4.alloc b4.size (.cells #[.func (.func 48) #[] #[], .func (.func 49) #[] #[], .func (.func 50) #[] #[]] 65)
      have ha5 : ArrB (wr.alloc (.cells #[.func (.func 48) #[] #[], .func (.func 49) #[] #[], .func (.func 50) #[] #[]] 65)) (wr.alloc (.cells #[.func (.func 48) #[] #[], .func (.func 49) #[] #[], .func (.func 50) #[] #[]] 65)).heap.size A' _ _ := ha.to ((Below.refl wr.heap.size wr).alloc (Nat.le_refl _) (.cells #[.func (.func 48) #[] #[], .func (.func 49) #[] #[], .func (.func 50) #[] #[]] 65))
      clear ha
      obtain ⟨m1, m2, m3⟩ := Blk.cells3 kb5
      obtain ⟨n1, n2, n3⟩ := nb5.cells3
      obtain ⟨q1, q2, q3⟩ := nb5.frozen3
      clear kw ks ki kr b4 nb5
      go_wp2_with fail
      generalize wr.alloc (.cells #[.func (.func 48) #[] #[], .func (.func 49) #[] #[], .func (.func 50) #[] #[]] 65) = w5 at *
      have FD := Lib.hid (findSkw_any W H W H r0 0 0 A' n c' (thrQ p r0) (.slice A n c) 0 r1 gw w5 kw5 ha5 HNN.out (isB_thr _ _) (chk_thr HSD.out) (by rw [HF.out]; rfl))
      refine FD.out.mono ?_
      rintro e w6 ⟨rfl, hb6⟩
      have kb6 := kb5.below' hb6
      have kw6 := kw5.below' hb6
      have ks6 := ks5.below' hb6
      have ki6 := ki5.below' hb6
      have kr6 := kr5.below' hb6
      have b6 := below_call b5 b5.size hb6
      have hb6' := hb6
      clear FD kb5 kw5 ks5 ki5 kr5 b5 hb6
      obtain ⟨m1, m2, m3⟩ := Blk.cells3 kb6
      go_wp2_with fail
      have HA6 := Lib.hid (ha5.to hb6')
      refine (keepSkew_any r1 _ (.int .i64 0) gw w6 kw6 rfl).mono ?_
      rintro e w7 ⟨rfl, h7⟩
      have hw7 := Lib.hid h7.symm
      clear h7
      have kw7 : Blk (w6.setCell ⟨gw, 7, none⟩ (.int .i64 r1)) gw 60 (wkV W H (.slice A n c) W H (.slice A' n c') r0 r1 0) := kw6.set_ 7 (.int .i64 r1)
      have kb7 := kb6.far (p := ⟨gw, 7, none⟩) (by simp; omega) (.int .i64 r1)
      have ks7 := ks6.far (p := ⟨gw, 7, none⟩) (by simp; omega) (.int .i64 r1)
      have ki7 := ki6.far (p := ⟨gw, 7, none⟩) (by simp; omega) (.int .i64 r1)
      have kr7 := kr6.far (p := ⟨gw, 7, none⟩) (by simp; omega) (.int .i64 r1)
      have b7 := b6.setCell (p := ⟨gw, 7, none⟩) (by simp; omega) (.int .i64 r1)
      have z7 : w7.heap.size = w6.heap.size := by rw [← hw7.out]; simp
      rw [hw7.out] at kw7 kb7 ks7 ki7 kr7 b7
      obtain ⟨m1, m2, m3⟩ := Blk.cells3 kb7
      have ha7 := HA6.out.far1 (p := ⟨gw, 7, none⟩) (fun a e => by have := hge a e; simp; omega) (.int .i64 r1)
      rw [hw7.out] at ha7
      rw [← z7] at ha7
      have ST := Lib.hid (stepMov_any W H r1 W H r0 r1 0 A' n c' (thrQ p r0) (.slice A n c) 0 Wn Hn N gw w7 kw7 ha7 HNN.out (isB_thr _ _) HM.out HMS.out)
      clear kw6 kb6 ks6 ki6 kr6 b6 hw7
      go_wp2_with fail
      refine ST.out.mono ?_
      rintro e w8 ⟨_, rfl, ⟨A2, c2, rfl, hg2, ha2⟩, hb8⟩
      have KS8 := Lib.hid (ks7.below' hb8)
      have KI8 := Lib.hid (ki7.below' hb8)
      have KR8 := Lib.hid (kr7.below' hb8)
      have B8 := Lib.hid (below_call b7 b7.size hb8)
      have kw8 := kw7.below' hb8
      have ls7 := kb7.lt
      have hge2 : ∀ a, A2 = some a → gs < a.block := fun a e => by have := hg2 a e; omega
      have HA2 := Lib.hid ha2
      obtain ⟨-, ⟨i3, i4, i5⟩, -⟩ := wk_cells kw8
      have f3 := kw8.frozen 3
      have f4 := kw8.frozen 4
      have f5 := kw8.frozen 5
      clear ST kw7 kb7 ks7 ki7 kr7 b7 ha2 hb8 hg2 z7
      go_wp2_with fail
      have KS8 := Lib.hid (((KS8.out.far (p := ⟨gw, 3, none⟩) (by simp; omega) (.int .i64 Wn)).far (p := ⟨gw, 4, none⟩) (by simp; omega) (.int .i64 Hn)).far (p := ⟨gw, 5, none⟩) (by simp; omega) (.slice A2 N c2))
      have KI8 := Lib.hid (((KI8.out.far (p := ⟨gw, 3, none⟩) (by simp; omega) (.int .i64 Wn)).far (p := ⟨gw, 4, none⟩) (by simp; omega) (.int .i64 Hn)).far (p := ⟨gw, 5, none⟩) (by simp; omega) (.slice A2 N c2))
      have KR8 := Lib.hid (((KR8.out.far (p := ⟨gw, 3, none⟩) (by simp; omega) (.int .i64 Wn)).far (p := ⟨gw, 4, none⟩) (by simp; omega) (.int .i64 Hn)).far (p := ⟨gw, 5, none⟩) (by simp; omega) (.slice A2 N c2))
      have B8 := Lib.hid (((B8.out.setCell (p := ⟨gw, 3, none⟩) (by simp; omega) (.int .i64 Wn)).setCell (p := ⟨gw, 4, none⟩) (by simp; omega) (.int .i64 Hn)).setCell (p := ⟨gw, 5, none⟩) (by simp; omega) (.slice A2 N c2))
      have HA2 := Lib.hid (((HA2.out.far1 (p := ⟨gw, 3, none⟩) (fun a e => by have := hge2 a e; simp; omega) (.int .i64 Wn)).far1 (p := ⟨gw, 4, none⟩) (fun a e => by have := hge2 a e; simp; omega) (.int .i64 Hn)).far1 (p := ⟨gw, 5, none⟩) (fun a e => by have := hge2 a e; simp; omega) (.slice A2 N c2))
      go_roundw
      case rel => exact ⟨2, _, _, _, _, _, _, by omega, by go_num, wk_img kw8 Wn Hn (.slice A2 N c2), KS8.out, KI8.out, KR8.out, B8.out, .inr (.inr (.inl ⟨rfl, by trivial, rfl, rfl, rfl, A2, c2, rfl, rfl, rfl, hge2, HA2.out.more (by simp)⟩))⟩
      case measure => simp [intOf]
    · obtain ⟨hsd, hlv, l0, l1, hf, hm, hms, hr2, e1, e2, e3⟩ := HOK.out (by trivial)
      have HX := Lib.hid (And.intro e1 (And.intro e2 e3))
      have HSD := Lib.hid hsd
      clear hsd hlv hf hm hms l0 l1 hr2 e1 e2 e3
      have s0 : wr.cell? ⟨gs, 6, none⟩ = some (.func (.func 51) #[] #[]) := by rw [ks.cell]; rfl
      have s1 : wr.cell? ⟨gs, 6 + 1, none⟩ = some (.func (.func 52) #[] #[]) := by rw [ks.cell]; rfl
      have s2 : wr.cell? ⟨gs, 6 + 2, none⟩ = some (.func (.func 53) #[] #[]) := by rw [ks.cell]; rfl
      obtain ⟨gb, hgb⟩ : ∃ g, wr.heap.size = g := ⟨_, rfl⟩
      have hgsb : gs < gb := by omega
      have kb5 : Blk (wr.alloc (.cells #[.func (.func 51) #[] #[], .func (.func 52) #[] #[], .func (.func 53) #[] #[]] 65)) gb 65 #[.func (.func 51) #[] #[], .func (.func 52) #[] #[], .func (.func 53) #[] #[]] := Blk.new' hgb _ _
      have nb5 : Blk (wr.alloc (.cells #[.nilFunc, .nilFunc, .nilFunc] 65)) gb 65 #[.nilFunc, .nilFunc, .nilFunc] := Blk.new' hgb _ _
      have kw5 := kw.alloc (.cells #[.func (.func 51) #[] #[], .func (.func 52) #[] #[], .func (.func 53) #[] #[]] 65)
      have ks5 := ks.alloc (.cells #[.func (.func 51) #[] #[], .func (.func 52) #[] #[], .func (.func 53) #[] #[]] 65)
      have ki5 := ki.alloc (.cells #[.func (.func 51) #[] #[], .func (.func 52) #[] #[], .func (.func 53) #[] #[]] 65)
      have kr5 := kr.alloc (.cells #[.func (.func 51) #[] #[], .func (.func 52) #[] #[], .func (.func 53) #[] #[]] 65)
      have b5 := b4.alloc b4.size (.cells #[.func (.func 51) #[] #[], .func (.func 52) #[] #[], .func (.func 53) #[] #[]] 65)
      have ha5 : ArrB (wr.alloc (.cells #[.func (.func 51) #[] #[], .func (.func 52) #[] #[], .func (.func 53) #[] #[]] 65)) (wr.alloc (.cells #[.func (.func 51) #[] #[], .func (.func 52) #[] #[], .func (.func 53) #[] #[]] 65)).heap.size A' _ _ := ha.to ((Below.refl wr.heap.size wr).alloc (Nat.le_refl _) (.cells #[.func (.func 51) #[] #[], .func (.func 52) #[] #[], .func (.func 53) #[] #[]] 65))
      clear ha
      obtain ⟨m1, m2, m3⟩ := Blk.cells3 kb5
      obtain ⟨n1, n2, n3⟩ := nb5.cells3
      obtain ⟨q1, q2, q3⟩ := nb5.frozen3
      clear kw ks ki kr b4 nb5
      go_wp2_with fail
      generalize wr.alloc (.cells #[.func (.func 51) #[] #[], .func (.func 52) #[] #[], .func (.func 53) #[] #[]] 65) = w5 at *
      refine (findSpk_any _ _).mono ?_
      rintro e w6 ⟨rfl, h6⟩
      have hw6 := Lib.hid h6.symm
      clear h6
      have kb6 := kb5
      have kw6 := kw5
      have ks6 := ks5
      have ki6 := ki5
      have kr6 := kr5
      have b6 := b5
      have ha6 := ha5
      rw [hw6.out] at kb6 kw6 ks6 ki6 kr6 b6 ha6
      have HA6 := Lib.hid ha6
      clear kb5 kw5 ks5 ki5 kr5 b5 ha5 ha6 hw6
      obtain ⟨m1, m2, m3⟩ := Blk.cells3 kb6
      go_wp2_with fail
      refine (keepSpeck_any 2 _ (.int .i64 0) gw w6 kw6 rfl).mono ?_
      rintro e w7 ⟨rfl, h7⟩
      have hw7 := Lib.hid h7.symm
      clear h7
      have kw7 : Blk (w6.setCell ⟨gw, 8, none⟩ (.int .i64 2)) gw 60 (wkV W H (.slice A n c) Wn Hn (.slice A' N c') r0 r1 2) := kw6.set_ 8 (.int .i64 2)
      have kb7 := kb6.far (p := ⟨gw, 8, none⟩) (by simp; omega) (.int .i64 2)
      have ks7 := ks6.far (p := ⟨gw, 8, none⟩) (by simp; omega) (.int .i64 2)
      have ki7 := ki6.far (p := ⟨gw, 8, none⟩) (by simp; omega) (.int .i64 2)
      have kr7 := kr6.far (p := ⟨gw, 8, none⟩) (by simp; omega) (.int .i64 2)
      have b7 := b6.setCell (p := ⟨gw, 8, none⟩) (by simp; omega) (.int .i64 2)
      have z7 : w7.heap.size = w6.heap.size := by rw [← hw7.out]; simp
      rw [hw7.out] at kw7 kb7 ks7 ki7 kr7 b7
      obtain ⟨m1, m2, m3⟩ := Blk.cells3 kb7
      have ha7 := HA6.out.far1 (p := ⟨gw, 8, none⟩) (fun a e => by have := hge a e; simp; omega) (.int .i64 2)
      rw [hw7.out] at ha7
      rw [← z7] at ha7
      have ST := Lib.hid (stepDsp_any W H 2 Wn Hn r0 r1 2 A' N c' (movQ W H (thrQ p r0) r1 (-1)) (.slice A n c) gw w7 kw7 ha7 (by have := HX.out.1; have := (sidesB_iff.1 HSD.out).2.1; omega) (by have := HX.out.2.1; omega) (by have := HX.out.2.2; exact_mod_cast this) (fun i _ _ => movQ_01 (thrQ_01 p r0) i))
      clear kw6 kb6 ks6 ki6 kr6 b6 hw7
      go_wp2_with fail
      refine ST.out.mono ?_
      rintro e w8 ⟨_, rfl, ⟨A2, c2, rfl, hg2, ha2⟩, hb8⟩
      have KS8 := Lib.hid (ks7.below' hb8)
      have KI8 := Lib.hid (ki7.below' hb8)
      have KR8 := Lib.hid (kr7.below' hb8)
      have B8 := Lib.hid (below_call b7 b7.size hb8)
      have kw8 := kw7.below' hb8
      have ls7 := kb7.lt
      have hge2 : ∀ a, A2 = some a → gs < a.block := fun a e => by have := hg2 a e; omega
      have HA2 := Lib.hid ha2
      obtain ⟨-, ⟨i3, i4, i5⟩, -⟩ := wk_cells kw8
      have f3 := kw8.frozen 3
      have f4 := kw8.frozen 4
      have f5 := kw8.frozen 5
      clear ST kw7 kb7 ks7 ki7 kr7 b7 ha2 hb8 hg2 z7
      go_wp2_with fail
      have KS8 := Lib.hid (((KS8.out.far (p := ⟨gw, 3, none⟩) (by simp; omega) (.int .i64 Wn)).far (p := ⟨gw, 4, none⟩) (by simp; omega) (.int .i64 Hn)).far (p := ⟨gw, 5, none⟩) (by simp; omega) (.slice A2 N c2))
      have KI8 := Lib.hid (((KI8.out.far (p := ⟨gw, 3, none⟩) (by simp; omega) (.int .i64 Wn)).far (p := ⟨gw, 4, none⟩) (by simp; omega) (.int .i64 Hn)).far (p := ⟨gw, 5, none⟩) (by simp; omega) (.slice A2 N c2))
      have KR8 := Lib.hid (((KR8.out.far (p := ⟨gw, 3, none⟩) (by simp; omega) (.int .i64 Wn)).far (p := ⟨gw, 4, none⟩) (by simp; omega) (.int .i64 Hn)).far (p := ⟨gw, 5, none⟩) (by simp; omega) (.slice A2 N c2))
      have B8 := Lib.hid (((B8.out.setCell (p := ⟨gw, 3, none⟩) (by simp; omega) (.int .i64 Wn)).setCell (p := ⟨gw, 4, none⟩) (by simp; omega) (.int .i64 Hn)).setCell (p := ⟨gw, 5, none⟩) (by simp; omega) (.slice A2 N c2))
      have HA2 := Lib.hid (((HA2.out.far1 (p := ⟨gw, 3, none⟩) (fun a e => by have := hge2 a e; simp; omega) (.int .i64 Wn)).far1 (p := ⟨gw, 4, none⟩) (fun a e => by have := hge2 a e; simp; omega) (.int .i64 Hn)).far1 (p := ⟨gw, 5, none⟩) (fun a e => by have := hge2 a e; simp; omega) (.slice A2 N c2))
      go_roundw
      case rel => exact ⟨3, _, _, _, _, _, _, by omega, by go_num, wk_img kw8 Wn Hn (.slice A2 N c2), KS8.out, KI8.out, KR8.out, B8.out, .inr (.inr (.inr ⟨rfl, by trivial, rfl, rfl, rfl, A2, c2, rfl, rfl, rfl, hge2, HA2.out.more (by simp)⟩))⟩
      case measure => simp [intOf]
    · obtain ⟨hsd, hlv, l0, l1, hf, hm, hms, hr2, e1, e2, e3⟩ := HOK.out (by trivial)
      have ki9 := ki
      have kr9 := kr
      have bb9 := b4
      have KC := Lib.hid fun (w' : World) (h : w'.heap[gw]? = wr.heap[gw]?) => (show w'.cell? ⟨gw, 3, none⟩ = some (.int .i64 Wn) ∧ w'.cell? ⟨gw, 4, none⟩ = some (.int .i64 Hn) ∧ w'.cell? ⟨gw, 5, none⟩ = some (.slice A' N c') ∧ w'.cell? ⟨gw, 6, none⟩ = some (.int .i64 r0) ∧ w'.cell? ⟨gw, 7, none⟩ = some (.int .i64 r1) ∧ w'.cell? ⟨gw, 8, none⟩ = some (.int .i64 2) from by
        obtain ⟨-, ⟨c1, c2, c3⟩, c4, c5, c6⟩ := wk_cells (kw.move h)
        exact ⟨c1, c2, c3, c4, c5, c6⟩)
      have k9 := ((ki9.set_ 0 (.int .i64 Wn)).set_ 1 (.int .i64 Hn)).set_ 2 (.slice A' N c')
      have k8 := ((ki9.set_ 0 (.int .i64 Wn)).set_ 1 (.int .i64 Hn)).set_ 2 (.slice A' N c')
      have r9 := (((((kr9.far (p := ⟨w.heap.size + 1, 0, none⟩) (by simp) (.int .i64 Wn)).far (p := ⟨w.heap.size + 1, 1, none⟩) (by simp) (.int .i64 Hn)).far (p := ⟨w.heap.size + 1, 2, none⟩) (by simp) (.slice A' N c')).set_ 0 (.int .i64 r0)).set_ 1 (.int .i64 r1)).set_ 2 (.int .i64 2)
      have i9 := ((k9.far (p := ⟨w.heap.size + 1 + 1, 0, none⟩) (by simp) (.int .i64 r0)).far (p := ⟨w.heap.size + 1 + 1, 1, none⟩) (by simp) (.int .i64 r1)).far (p := ⟨w.heap.size + 1 + 1, 2, none⟩) (by simp) (.int .i64 2)
      have B9 := Lib.hid ((((((bb9.setCell (p := ⟨w.heap.size + 1, 0, none⟩) (by simp) (.int .i64 Wn)).setCell (p := ⟨w.heap.size + 1, 1, none⟩) (by simp) (.int .i64 Hn)).setCell (p := ⟨w.heap.size + 1, 2, none⟩) (by simp) (.slice A' N c')).setCell (p := ⟨w.heap.size + 1 + 1, 0, none⟩) (by simp; omega) (.int .i64 r0)).setCell (p := ⟨w.heap.size + 1 + 1, 1, none⟩) (by simp; omega) (.int .i64 r1)).setCell (p := ⟨w.heap.size + 1 + 1, 2, none⟩) (by simp; omega) (.int .i64 2))
      obtain ⟨s1, s2, s3⟩ := Blk.cells3 (a := .int .i64 Wn) (b := .int .i64 Hn) (c := .slice A' N c') i9
      obtain ⟨u1, u2, u3⟩ := Blk.cells3 (a := .int .i64 r0) (b := .int .i64 r1) (c := .int .i64 2) r9
      have kk9 := ((kr9.far (p := ⟨w.heap.size + 1, 0, none⟩) (by simp) (.int .i64 Wn)).far (p := ⟨w.heap.size + 1, 1, none⟩) (by simp) (.int .i64 Hn)).far (p := ⟨w.heap.size + 1, 2, none⟩) (by simp) (.slice A' N c')
      obtain ⟨f1, f2, f3⟩ := ki9.frozen3
      obtain ⟨t1, t2, t3⟩ := ki9.cells3
      obtain ⟨g1, g2, g3⟩ := kk9.frozen3
      obtain ⟨v1, v2, v3⟩ := kk9.cells3
      have HAE := Lib.hid (((((((ha.far1 (p := ⟨w.heap.size + 1, 0, none⟩) (fun a e => by have := hge a e; simp; omega) (.int .i64 Wn)).far1 (p := ⟨w.heap.size + 1, 1, none⟩) (fun a e => by have := hge a e; simp; omega) (.int .i64 Hn)).far1 (p := ⟨w.heap.size + 1, 2, none⟩) (fun a e => by have := hge a e; simp; omega) (.slice A' N c')).far1 (p := ⟨w.heap.size + 1 + 1, 0, none⟩) (fun a e => by have := hge a e; simp; omega) (.int .i64 r0)).far1 (p := ⟨w.heap.size + 1 + 1, 1, none⟩) (fun a e => by have := hge a e; simp; omega) (.int .i64 r1)).far1 (p := ⟨w.heap.size + 1 + 1, 2, none⟩) (fun a e => by have := hge a e; simp; omega) (.int .i64 2)))
      have HW1 := Lib.hid e1
      have HR2 := Lib.hid hr2
      have nn1 : gw ≠ w.heap.size + 1 := by omega
      have nn2 : gw ≠ w.heap.size + 1 + 1 := by omega
      have S1 := Lib.hid (KC.out _ (heap_far3d (w := wr) nn1 (.int .i64 Wn) (.int .i64 Hn) (.slice A' N c')))
      have S2 := Lib.hid (KC.out _ (heap_far6d (w := wr) nn1 nn2 (.int .i64 Wn) (.int .i64 Hn) (.slice A' N c') (.int .i64 r0) (.int .i64 r1) (.int .i64 2)))
      clear hsd hlv l0 l1 hf hm hms hr2 e1 e2 e3 ha HOK HBD ki kr kw ks k9 k8 r9 i9 ki9 kr9 kk9 b4 bb9
      go_upto_region 13 with fail
      refine wp_region_held_drew (S := fun w' => w'.cell? ⟨gw, 3, none⟩ = some (.int .i64 Wn) ∧ w'.cell? ⟨gw, 4, none⟩ = some (.int .i64 Hn) ∧ w'.cell? ⟨gw, 5, none⟩ = some (.slice A' N c') ∧ w'.cell? ⟨gw, 6, none⟩ = some (.int .i64 r0) ∧ w'.cell? ⟨gw, 7, none⟩ = some (.int .i64 r1) ∧ w'.cell? ⟨gw, 8, none⟩ = some (.int .i64 2)) (by kernel_rfl) (KC.out _ rfl) (fun hHeld => ?_)
      refine wpAnyH_take (i := 0) (oi := _) (v := ?_) (by simp only [List.getElem?_toArray, List.getElem?_cons_zero]; exact rfl) (by kernel_rfl) (by kernel_rfl) (by kernel_rfl) (by exact fun _ _ _ h => h) (Or.inl ⟨by rfl, ?_⟩) (by assumption) ?_
      rotate_left 1
      · intro w hSw
        (try dsimp only at hSw)
        go_simp
        try with_reducible rfl
      try simp only [Act.put, List.setIfInBounds_toArray, List.set_cons_zero, List.set_cons_succ]
      refine wpAnyH_take (i := 1) (oi := _) (v := ?_) (by simp only [List.getElem?_toArray, List.getElem?_cons_zero, List.getElem?_cons_succ]; exact rfl) (by kernel_rfl) (by kernel_rfl) (by kernel_rfl) (by exact fun _ _ _ h => h) (Or.inl ⟨by rfl, ?_⟩) (by assumption) ?_
      rotate_left 1
      · intro w hSw
        (try dsimp only at hSw)
        go_simp
        try with_reducible rfl
      try simp only [Act.put, List.setIfInBounds_toArray, List.set_cons_zero, List.set_cons_succ]
      refine wpAnyH_take (i := 2) (oi := _) (v := ?_) (by simp only [List.getElem?_toArray, List.getElem?_cons_zero, List.getElem?_cons_succ]; exact rfl) (by kernel_rfl) (by kernel_rfl) (by kernel_rfl) (by exact fun _ _ _ h => h) (Or.inl ⟨by rfl, ?_⟩) (by assumption) ?_
      rotate_left 1
      · intro w hSw
        (try dsimp only at hSw)
        go_simp
        try with_reducible rfl
      try simp only [Act.put, List.setIfInBounds_toArray, List.set_cons_zero, List.set_cons_succ]
      refine wpAnyH_take (i := 3) (oi := _) (v := ?_) (by simp only [List.getElem?_toArray, List.getElem?_cons_zero, List.getElem?_cons_succ]; exact rfl) (by kernel_rfl) (by kernel_rfl) (by kernel_rfl) (by exact fun _ _ _ h => h) (Or.inl ⟨by rfl, ?_⟩) (by assumption) ?_
      rotate_left 1
      · intro w hSw
        (try dsimp only at hSw)
        go_simp
        try with_reducible rfl
      try simp only [Act.put, List.setIfInBounds_toArray, List.set_cons_zero, List.set_cons_succ]
      refine wpAnyH_take (i := 4) (oi := _) (v := ?_) (by simp only [List.getElem?_toArray, List.getElem?_cons_zero, List.getElem?_cons_succ]; exact rfl) (by kernel_rfl) (by kernel_rfl) (by kernel_rfl) (by exact fun _ _ _ h => h) (Or.inl ⟨by rfl, ?_⟩) (by assumption) ?_
      rotate_left 1
      · intro w hSw
        (try dsimp only at hSw)
        go_simp
        try with_reducible rfl
      try simp only [Act.put, List.setIfInBounds_toArray, List.set_cons_zero, List.set_cons_succ]
      refine wpAnyH_take (i := 5) (oi := _) (v := ?_) (by simp only [List.getElem?_toArray, List.getElem?_cons_zero, List.getElem?_cons_succ]; exact rfl) (by kernel_rfl) (by kernel_rfl) (by kernel_rfl) (by exact fun _ _ _ h => h) (Or.inl ⟨by rfl, ?_⟩) (by assumption) ?_
      rotate_left 1
      · intro w hSw
        (try dsimp only at hSw)
        go_simp
        try with_reducible rfl
      try simp only [Act.put, List.setIfInBounds_toArray, List.set_cons_zero, List.set_cons_succ]
      refine wpAnyH_take (i := 6) (oi := _) (v := ?_) (by simp only [List.getElem?_toArray, List.getElem?_cons_zero, List.getElem?_cons_succ]; exact rfl) (by kernel_rfl) (by kernel_rfl) (by kernel_rfl) (by exact fun _ _ _ h => h) (Or.inl ⟨by rfl, ?_⟩) (by assumption) ?_
      rotate_left 1
      · intro w hSw
        (try dsimp only at hSw)
        go_simp
        try with_reducible rfl
      try simp only [Act.put, List.setIfInBounds_toArray, List.set_cons_zero, List.set_cons_succ]
      refine wpAnyH_take (i := 7) (oi := _) (v := ?_) (by simp only [List.getElem?_toArray, List.getElem?_cons_zero, List.getElem?_cons_succ]; exact rfl) (by kernel_rfl) (by kernel_rfl) (by kernel_rfl) (by exact fun _ _ _ h => h) (Or.inl ⟨by rfl, ?_⟩) (by assumption) ?_
      rotate_left 1
      · intro w hSw
        (try dsimp only at hSw)
        go_simp
        try with_reducible rfl
      try simp only [Act.put, List.setIfInBounds_toArray, List.set_cons_zero, List.set_cons_succ]
      refine wpAnyH_ready (rs := [8]) (by kernel_rfl) (by simp) ?_
      refine AllReadyH.cons (o := _) (by simp only [List.getElem?_toArray, List.getElem?_cons_zero, List.getElem?_cons_succ]; exact rfl) (fun K' hK => ?_) AllReadyH.nil
      go_simp
      refine hK.out _ _ S1.out (fun hHeld => ?_)
      clear hK K'
      try simp only [Act.put, List.setIfInBounds_toArray, List.set_cons_zero, List.set_cons_succ]
      refine wpAnyH_ready (rs := [9]) (by kernel_rfl) (by simp) ?_
      refine AllReadyH.cons (o := _) (by simp only [List.getElem?_toArray, List.getElem?_cons_zero, List.getElem?_cons_succ]; exact rfl) (fun K' hK => ?_) AllReadyH.nil
      go_simp
      refine hK.out _ _ S2.out (fun hHeld => ?_)
      clear hK K'
      try simp only [Act.put, List.setIfInBounds_toArray, List.set_cons_zero, List.set_cons_succ]
      refine wpAnyH_take (i := 10) (oi := _) (v := ?_) (by simp only [List.getElem?_toArray, List.getElem?_cons_zero, List.getElem?_cons_succ]; exact rfl) (by kernel_rfl) (by kernel_rfl) (by kernel_rfl) (by exact fun _ _ _ h => h) (Or.inl ⟨by rfl, ?_⟩) (by assumption) ?_
      rotate_left 1
      · intro w hSw
        (try dsimp only at hSw)
        go_simp
        try with_reducible rfl
      try simp only [Act.put, List.setIfInBounds_toArray, List.set_cons_zero, List.set_cons_succ]
      refine wpAnyH_done (by kernel_rfl) ?_ _
      go_wp2_with fail
      obtain rfl : r2 = 2 := HR2.out
      refine bodyPost_ret (v := .tuple #[.agg #[.int .i64 Wn, .int .i64 Hn, .slice A' N c'], .agg #[.int .i64 r0, .int .i64 r1, .int .i64 2], .int .i64 0]) (by simp [results, Try.results9, go_sem, s1, s2, s3, u1, u2, u3]) rfl ?_
      refine ⟨_, rfl, outC_mk (fun a e => by have := hge a e; omega) ?_, B9.out.drew⟩
      have ew : W.toNat = Wn := by have := HW1.out; omega
      unfold appQ
      rw [ew]
      exact (HAE.out.more (by simp)).drew1
end Go.Proofs.Ytoonkpjddfiopaa

/- Plain: a strip put back column by column. No program in sight. -/
namespace Go.Proofs.Ytoonkpjddfiopaa
open Go.RowKit
set_option linter.unusedVariables false
/-- put back: the columns before x, and of column x the strip's rows above y -/
def rsP (W h : Int) (p q : Int → Int) (l : Nat → Int) (up x y : Int) : Int → Int := fun i =>
  if i % W < x ∨ (i % W = x ∧ i / W - l x.toNat + up < y) then resQ W 0 h p q l up i else p i
section
variable {W H h : Int} {p q : Int → Int} {l : Nat → Int} {up x y i : Int}
theorem resQ_out (hi : ¬ (0 ≤ i / W - l (i % W).toNat + up ∧ i / W - l (i % W).toNat + up < h)) : resQ W H h p q l up i = p i := by unfold resQ; rw [if_neg hi]
theorem resQ_H : resQ W H h p q l up i = resQ W 0 h p q l up i := rfl
theorem rsP_zero (hW : 0 < W) : rsP W h p q l up 0 0 i = p i := by
  have h1 : 0 ≤ i % W := Int.emod_nonneg _ (by omega)
  unfold rsP
  by_cases c : i % W < 0 ∨ (i % W = 0 ∧ i / W - l (0 : Int).toNat + up < 0)
  · rw [if_pos c]
    have c2 : i % W = 0 := by omega
    apply resQ_out
    rw [c2]; omega
  · rw [if_neg c]
theorem rsP_set (x0 : 0 ≤ x) (x1 : x < W) (y0 : 0 ≤ y) (y1 : y < h) : upd (rsP W h p q l up x y) ((l x.toNat - up + y) * W + x) (q (y * W + x)) i = rsP W h p q l up x (y + 1) i := by
  have a := idx_mod (y := l x.toNat - up + y) x0 x1
  have b := idx_div (y := l x.toNat - up + y) x0 x1
  unfold upd rsP
  by_cases e : i = (l x.toNat - up + y) * W + x
  · subst e
    rw [if_pos rfl, a, b, if_pos (.inr ⟨rfl, by omega⟩)]
    unfold resQ
    rw [a, b, if_pos (by omega), show l x.toNat - up + y - l x.toNat + up = y by omega]
  · rw [if_neg e]
    have hne : i % W = x → i / W ≠ l x.toNat - up + y := fun h3 h4 => e (by
      have := Int.emod_add_mul_ediv i W
      rw [h3, h4, Int.mul_comm] at this; omega)
    by_cases c : i % W < x ∨ (i % W = x ∧ i / W - l x.toNat + up < y)
    · rw [if_pos c, if_pos (by omega)]
    · rw [if_neg c, if_neg (by omega)]
theorem rsP_skip (hW : 0 < W) (h0 : 0 ≤ i) (hi : i < W * H) (hat : ¬ (0 ≤ l x.toNat - up + y ∧ l x.toNat - up + y < H)) : rsP W h p q l up x y i = rsP W h p q l up x (y + 1) i := by
  have h1 : i / W < H := Int.ediv_lt_of_lt_mul hW (by rw [Int.mul_comm]; exact hi)
  have h2 : 0 ≤ i / W := Int.ediv_nonneg h0 (by omega)
  unfold rsP
  by_cases c : i % W < x ∨ (i % W = x ∧ i / W - l x.toNat + up < y)
  · rw [if_pos c, if_pos (by omega)]
  · rw [if_neg c, if_neg (by omega)]
theorem rsP_col : rsP W h p q l up x h i = rsP W h p q l up (x + 1) 0 i := by
  unfold rsP
  by_cases c : i % W = x
  · rw [if_pos (.inl (by omega) : i % W < x + 1 ∨ _)]
    by_cases d : i / W - l x.toNat + up < h
    · rw [if_pos (.inr ⟨c, d⟩)]
    · rw [if_neg (by omega)]
      exact (resQ_out (by rw [c]; omega)).symm
  · by_cases d : i % W < x
    · rw [if_pos (.inl d), if_pos (.inl (by omega))]
    · rw [if_neg (by omega)]
      by_cases g : i % W < x + 1 ∨ (i % W = x + 1 ∧ i / W - l (x + 1).toNat + up < 0)
      · rw [if_pos g]
        exact (resQ_out (by
          have : i % W = x + 1 := by omega
          rw [this]; omega)).symm
      · rw [if_neg g]
theorem rsP_end (hW : 0 < W) : rsP W h p q l up W 0 i = resQ W 0 h p q l up i := by
  unfold rsP
  have h1 : i % W < W := Int.emod_lt_of_pos _ hW
  rw [if_pos (by omega)]
end
end Go.Proofs.Ytoonkpjddfiopaa

/- Plain: an image filled row by row by a condition; the strips as such images. No program in sight. -/
namespace Go.Proofs.Ytoonkpjddfiopaa
open Go.RowKit
set_option linter.unusedVariables false
/-- ink where the condition holds -/
def fillB (C : Int → Int → Bool) (W : Int) : Int → Int := fun i => if C (i % W) (i / W) = true then 1 else 0
section
variable {C : Int → Int → Bool} {W H h x y i : Int}
theorem fillB_at (x0 : 0 ≤ x) (x1 : x < W) : fillB C W (y * W + x) = if C x y = true then 1 else 0 := by
  unfold fillB; rw [idx_mod x0 x1, idx_div x0 x1]
theorem fill_yes (x0 : 0 ≤ x) (x1 : x < W) (hc : C x y = true) : upd (byRow W (fillB C W) (fun _ => 0) y x) (y * W + x) 1 i = byRow W (fillB C W) (fun _ => 0) y (x + 1) i := by
  have h := byRow_set (q := fillB C W) (z := fun _ => 0) (y := y) (i := i) x0 x1
  rwa [fillB_at x0 x1, if_pos hc] at h
theorem fill_no (x0 : 0 ≤ x) (x1 : x < W) (hc : C x y = false) : byRow W (fillB C W) (fun _ => 0) y x i = byRow W (fillB C W) (fun _ => 0) y (x + 1) i :=
  byRow_skip x0 x1 (by rw [fillB_at x0 x1, if_neg (by simp [hc])])
theorem fillB_is01 : Is01 (fillB C W) := fun i => by unfold fillB; split <;> simp
end
/-- the reference's condition for a strip -/
def recC (W H : Int) (p : Int → Int) (l : Nat → Int) (up : Int) : Int → Int → Bool := fun x y => inkB W H p x (l x.toNat - up + y)
def resC (W H h : Int) (p q : Int → Int) (l : Nat → Int) (up : Int) : Int → Int → Bool := fun x y =>
  if 0 ≤ y - l x.toNat + up ∧ y - l x.toNat + up < h then inkB W h q x (y - l x.toNat + up) else inkB W H p x y
theorem recC_eq {W H up : Int} {n : Nat} {p : Int → Int} {l : Nat → Int} {i : Int} (hE : chk W H n p = 0) (hB : IsB p) (hW : 1 ≤ W) (h0 : 0 ≤ i) : recQ W H p l up i = fillB (recC W H p l up) W i := by
  obtain ⟨-, -, -, -, hn, hp⟩ := chk_ok hE
  have m0 : 0 ≤ i % W := Int.emod_nonneg _ (by omega)
  have m1 : i % W < W := Int.emod_lt_of_pos _ (by omega)
  unfold recQ fillB recC
  by_cases c : 0 ≤ l (i % W).toNat - up + i / W ∧ l (i % W).toNat - up + i / W < H
  · rw [if_pos c, inkB_in m0 m1 c.1 c.2]
    obtain ⟨i1, i2, -⟩ := idx_lt m0 m1 c.1 c.2
    have a := hp _ i1 (by rw [hn, Int.mul_comm W H]; exact i2)
    have b := (hB ((l (i % W).toNat - up + i / W) * W + i % W)).1
    by_cases e : p ((l (i % W).toNat - up + i / W) * W + i % W) = 1
    · rw [if_pos (decide_eq_true e), e]
    · rw [if_neg (by simp [e])]; omega
  · rw [if_neg c, if_neg (fun h => c ⟨(inkB_iff.1 h).2.2.1, (inkB_iff.1 h).2.2.2.1⟩)]
theorem resC_eq {W H h up : Int} {n ns : Nat} {p q : Int → Int} {l : Nat → Int} {i : Int} (hE : chk W H n p = 0) (hS : chk W h ns q = 0) (hB : IsB p) (hBq : IsB q) (hW : 1 ≤ W) (h0 : 0 ≤ i) (hi : i < W * H) : resQ W H h p q l up i = fillB (resC W H h p q l up) W i := by
  obtain ⟨-, -, -, -, hn, hp⟩ := chk_ok hE
  obtain ⟨-, -, -, -, hns, hq⟩ := chk_ok hS
  have m0 : 0 ≤ i % W := Int.emod_nonneg _ (by omega)
  have m1 : i % W < W := Int.emod_lt_of_pos _ (by omega)
  have h2 : 0 ≤ i / W := Int.ediv_nonneg h0 (by omega)
  have h3 : i / W < H := Int.ediv_lt_of_lt_mul (by omega) (by rw [Int.mul_comm]; exact hi)
  have e1 : i / W * W + i % W = i := by have := Int.emod_add_mul_ediv i W; rw [Int.mul_comm] at this; omega
  unfold resQ fillB resC
  by_cases c : 0 ≤ i / W - l (i % W).toNat + up ∧ i / W - l (i % W).toNat + up < h
  · rw [if_pos c, if_pos c, inkB_in m0 m1 c.1 c.2]
    obtain ⟨i1, i2, -⟩ := idx_lt m0 m1 c.1 c.2
    have a := hq _ i1 (by rw [hns, Int.mul_comm W h]; exact i2)
    have b := (hBq ((i / W - l (i % W).toNat + up) * W + i % W)).1
    by_cases e : q ((i / W - l (i % W).toNat + up) * W + i % W) = 1
    · rw [if_pos (decide_eq_true e), e]
    · rw [if_neg (by simp [e])]; omega
  · rw [if_neg c, if_neg c, inkB_in m0 m1 h2 h3, e1]
    have a := hp i h0 (by omega)
    have b := (hB i).1
    by_cases e : p i = 1
    · rw [if_pos (decide_eq_true e), e]
    · rw [if_neg (by simp [e])]; omega
end Go.Proofs.Ytoonkpjddfiopaa

/- Plain: brushes. No program in sight. -/
namespace Go.Proofs.Ytoonkpjddfiopaa
set_option linter.unusedVariables false
def exB (f : Nat → Bool) : Nat → Bool
  | 0 => false
  | k + 1 => exB f k || f k
theorem exB_iff {f : Nat → Bool} : ∀ {k : Nat}, exB f k = true ↔ ∃ i, i < k ∧ f i = true
  | 0 => by simp [exB]
  | k + 1 => by
    rw [exB, Bool.or_eq_true, exB_iff]
    constructor
    · rintro (⟨i, h1, h2⟩ | h)
      · exact ⟨i, by omega, h2⟩
      · exact ⟨k, by omega, h⟩
    · rintro ⟨i, h1, h2⟩
      by_cases e : i = k
      · subst e; exact .inr h2
      · exact .inl ⟨i, by omega, h2⟩
theorem exB_no {f : Nat → Bool} {k : Nat} : exB f k = false ↔ ∀ i, i < k → f i = false := by
  rw [← Bool.not_eq_true, exB_iff]
  constructor
  · intro h i hi
    cases e : f i
    · rfl
    · exact absurd ⟨i, hi, e⟩ h
  · rintro h ⟨i, hi, e⟩
    rw [h i hi] at e; cases e
theorem exB_congr {f g : Nat → Bool} {k : Nat} (h : ∀ i, i < k → f i = g i) : exB f k = exB g k := by
  apply Bool.eq_iff_iff.2
  rw [exB_iff, exB_iff]
  exact ⟨fun ⟨i, a, b⟩ => ⟨i, a, by rw [← h i a]; exact b⟩, fun ⟨i, a, b⟩ => ⟨i, a, by rw [h i a]; exact b⟩⟩
theorem beqT (b : Bool) : (b == true) = b := by cases b <;> rfl
theorem beqF (b : Bool) : (b == false) = !b := by cases b <;> rfl
def inR (W H x y : Int) : Bool := decide (0 ≤ x ∧ x < W ∧ 0 ≤ y ∧ y < H)
/-- the program's spread: of ink (v) to the left and upwards, of paper to the right and downwards -/
def sprF (v : Bool) (W H : Int) (p : Int → Int) (dx dy : Int) (n : Nat) : Int → Int → Bool := fun x y => exB (fun i => inR W H (x + i * dx) (y + i * dy) && (inkB W H p (x + i * dx) (y + i * dy) == v)) n == v
def dirV (v : Bool) : Int := if v then 1 else -1
def brushQ (v : Bool) (W H : Int) (p : Int → Int) (w h : Nat) : Int → Int := fillB (sprF v W H (fillB (sprF v W H p (dirV v) 0 w) W) 0 (dirV v) h) W
/-- the reference's -/
def dilR (W H : Int) (p : Int → Int) (w h : Nat) : Int → Int → Bool := fun x y => exB (fun j => exB (fun i => inkB W H p (x + i) (y + j)) w) h
def eroR (W H : Int) (p : Int → Int) (w h : Nat) : Int → Int → Bool := fun x y => !exB (fun j => exB (fun i => !(decide (x - i < 0) || (decide (y - j < 0) || inkB W H p (x - i) (y - j)))) w) h
section
variable {W H x y : Int} {p : Int → Int} {w h : Nat} {C : Int → Int → Bool}
theorem inR_iff : inR W H x y = true ↔ 0 ≤ x ∧ x < W ∧ 0 ≤ y ∧ y < H := by unfold inR; rw [decide_eq_true_iff]
theorem inkB_inR (h : inkB W H p x y = true) : inR W H x y = true := inR_iff.2 (by have := inkB_iff.1 h; omega)
theorem inkB_fill : inkB W H (fillB C W) x y = (inR W H x y && C x y) := by
  apply Bool.eq_iff_iff.2
  rw [inkB_iff, Bool.and_eq_true, inR_iff]
  constructor
  · rintro ⟨h1, h2, h3, h4, h5⟩
    rw [fillB_at h1 h2] at h5
    refine ⟨⟨h1, h2, h3, h4⟩, ?_⟩
    cases e : C x y
    · rw [e] at h5; simp at h5
    · rfl
  · rintro ⟨⟨h1, h2, h3, h4⟩, h5⟩
    exact ⟨h1, h2, h3, h4, by rw [fillB_at h1 h2, h5]; rfl⟩
theorem dil_same (hx : inR W H x y = true) : sprF true W H (fillB (sprF true W H p 1 0 w) W) 0 1 h x y = dilR W H p w h x y := by
  obtain ⟨x0, x1, y0, y1⟩ := inR_iff.1 hx
  unfold sprF dilR
  rw [beqT]
  apply Bool.eq_iff_iff.2
  simp only [exB_iff, Bool.and_eq_true, beqT, inkB_fill, Int.mul_zero, Int.mul_one, Int.add_zero]
  constructor
  · rintro ⟨j, hj, h1, h2, i, hi, h3, h4⟩
    exact ⟨j, hj, i, hi, h4⟩
  · rintro ⟨j, hj, i, hi, h4⟩
    have hb := inkB_iff.1 h4
    have hr : inR W H x (y + j) = true := inR_iff.2 (by omega)
    exact ⟨j, hj, hr, hr, i, hi, inkB_inR h4, h4⟩
theorem ero_same (hx : inR W H x y = true) : sprF false W H (fillB (sprF false W H p (-1) 0 w) W) 0 (-1) h x y = eroR W H p w h x y := by
  obtain ⟨x0, x1, y0, y1⟩ := inR_iff.1 hx
  unfold sprF eroR
  rw [beqF]
  congr 1
  apply Bool.eq_iff_iff.2
  simp only [exB_iff, Bool.and_eq_true, beqF, Bool.not_eq_true', inkB_fill, Int.mul_zero, Int.add_zero, Bool.and_eq_false_iff, Bool.or_eq_false_iff, decide_eq_false_iff_not]
  constructor
  · rintro ⟨j, hj, h1, h2⟩
    obtain ⟨a0, a1, a2, a3⟩ := inR_iff.1 h1
    rcases h2 with h2 | h2
    · rw [h1] at h2; cases h2
    · rw [Bool.not_eq_false', exB_iff] at h2
      obtain ⟨i, hi, h3⟩ := h2
      rw [Bool.and_eq_true] at h3
      obtain ⟨c0, c1, c2, c3⟩ := inR_iff.1 h3.1
      have h4 : inkB W H p (x + i * -1) (y + j * -1) = false := by simpa using h3.2
      refine ⟨j, hj, i, hi, by omega, by omega, ?_⟩
      rw [show x - (i : Int) = x + i * -1 by omega, show y - (j : Int) = y + j * -1 by omega]; exact h4
  · rintro ⟨j, hj, i, hi, h1, h2, h3⟩
    have hr : inR W H x (y + j * -1) = true := inR_iff.2 (by omega)
    refine ⟨j, hj, hr, .inr ?_⟩
    rw [Bool.not_eq_false', exB_iff]
    refine ⟨i, hi, ?_⟩
    rw [Bool.and_eq_true]
    refine ⟨inR_iff.2 (by omega), ?_⟩
    rw [show x + (i : Int) * -1 = x - i by omega, show y + (j : Int) * -1 = y - j by omega, h3]; rfl
end
end Go.Proofs.Ytoonkpjddfiopaa

/- Plain: an image filled place by place, in any order of a grid. No program in sight. -/
namespace Go.Proofs.Ytoonkpjddfiopaa
set_option linter.unusedVariables false
/-- what is filled when the place (x, y) of the source comes up: sx, sy say where a place of the image comes from -/
def stQ (sx sy : Int → Int) (Q : Int → Int) (y x : Int) : Int → Int := fun i => if sy i < y ∨ (sy i = y ∧ sx i < x) then Q i else 0
section
variable {sx sy Q : Int → Int} {x y t v i : Int} {W H : Int}
theorem stQ_start (h1 : 0 ≤ sx i) (h2 : 0 ≤ sy i) : stQ sx sy Q 0 0 i = 0 := by
  unfold stQ; rw [if_neg (by omega)]
theorem stQ_set (hi : (sx i = x ∧ sy i = y) ↔ i = t) (hv : Q t = v) : upd (stQ sx sy Q y x) t v i = stQ sx sy Q y (x + 1) i := by
  unfold upd stQ
  by_cases e : i = t
  · have h := hi.2 e
    rw [if_pos e, if_pos (by omega), e, hv]
  · have h : ¬ (sx i = x ∧ sy i = y) := fun h => e (hi.1 h)
    rw [if_neg e]
    by_cases c : sy i < y ∨ (sy i = y ∧ sx i < x)
    · rw [if_pos c, if_pos (by omega)]
    · rw [if_neg c, if_neg (by omega)]
theorem stQ_skip (hi : (sx i = x ∧ sy i = y) ↔ i = t) (hv : Q t = 0) : stQ sx sy Q y x i = stQ sx sy Q y (x + 1) i := by
  unfold stQ
  by_cases e : i = t
  · have h := hi.2 e
    rw [if_neg (by omega), if_pos (by omega), e, hv]
  · have h : ¬ (sx i = x ∧ sy i = y) := fun h => e (hi.1 h)
    by_cases c : sy i < y ∨ (sy i = y ∧ sx i < x)
    · rw [if_pos c, if_pos (by omega)]
    · rw [if_neg c, if_neg (by omega)]
theorem stQ_line (h : 0 ≤ sx i) (hW : sx i < W) : stQ sx sy Q y W i = stQ sx sy Q (y + 1) 0 i := by
  unfold stQ
  by_cases c : sy i < y ∨ (sy i = y ∧ sx i < W)
  · rw [if_pos c, if_pos (by omega)]
  · rw [if_neg c, if_neg (by omega)]
theorem stQ_end (hH : sy i < H) : stQ sx sy Q H 0 i = Q i := by
  unfold stQ; rw [if_pos (.inl hH)]
/-- row by row -/
theorem row_at (h0 : 0 ≤ x) (h1 : x < W) : (i % W = x ∧ i / W = y) ↔ i = y * W + x := by
  have hd := Int.emod_add_mul_ediv i W
  constructor
  · rintro ⟨rfl, rfl⟩
    rw [Int.mul_comm]; omega
  · rintro rfl
    exact ⟨idx_mod h0 h1, idx_div h0 h1⟩
/-- clockwise turned: the source is W wide and H high, the image H wide -/
theorem rot_at (h0 : 0 ≤ y) (h1 : y < H) : (i / H = x ∧ H - 1 - i % H = y) ↔ i = x * H + (H - 1 - y) := by
  rw [← row_at (W := H) (x := H - 1 - y) (y := x) (i := i) (by omega) (by omega)]
  omega
end
end Go.Proofs.Ytoonkpjddfiopaa

/- Walk: the reference's Threshold. -/
namespace Go.Proofs.Ytoonkpjddfiopaa
open Go.RowKit
set_option linter.unusedVariables false
attribute [local go_sem] Oper.semAt_some

/-- row by row -/
abbrev rwQ (W : Int) (Q : Int → Int) (y x : Int) : Int → Int := stQ (fun i => i % W) (fun i => i / W) Q y x
section
variable {W H x y v i : Int} {Q : Int → Int}
theorem rwQ_zero (hW : 0 < W) (h0 : 0 ≤ i) : rwQ W Q 0 0 i = 0 := stQ_start (Int.emod_nonneg _ (by omega)) (Int.ediv_nonneg h0 (by omega))
theorem rwQ_set (h0 : 0 ≤ x) (h1 : x < W) (hv : Q (y * W + x) = v) : upd (rwQ W Q y x) (y * W + x) v i = rwQ W Q y (x + 1) i := stQ_set (row_at h0 h1) hv
theorem rwQ_skip (h0 : 0 ≤ x) (h1 : x < W) (hv : Q (y * W + x) = 0) : rwQ W Q y x i = rwQ W Q y (x + 1) i := stQ_skip (row_at h0 h1) hv
theorem rwQ_line (hW : 0 < W) : rwQ W Q y W i = rwQ W Q (y + 1) 0 i := stQ_line (Int.emod_nonneg _ (by omega)) (Int.emod_lt_of_pos _ hW)
theorem rwQ_end (hW : 0 < W) (hi : i < H * W) : rwQ W Q H 0 i = Q i := stQ_end (Int.ediv_lt_of_lt_mul hW hi)
end
set_option maxRecDepth 100000 in
set_option maxHeartbeats 4000000 in
theorem rthr_all (W H lv : Int) (A : Option Addr) (n c : Nat) (p : Int → Int) (E W2 H2 : Int) (N : Nat) (w : World) (hA : ArrB w w.heap.size A n p) (hn : n ≤ maxLen) (hB : IsB p) (hE : thrE W H n lv = E) (hs : RSize E W H W2 H2 N) :
    Calls Try.prog 27 #[.agg #[.int .i64 W, .int .i64 H, .slice A n c], .int .i64 lv] w (New w fun v w' => OutT w w' E W2 H2 N (thrQ p lv) v) := by
  have CK := Lib.hid fun w' => rcheckGrey_any W H A n c w' hn
  have b1 : Below w.heap.size w ((w.alloc (.cells #[.int .i64 W, .int .i64 H, .slice A n c] 24)).alloc (.cells #[.int .i64 0, .int .i64 0, .slice none 0 0] 29)) := by (repeat (first | exact Below.refl _ _ | assumption | refine Below.drew ?_ | refine below_drewN ?_ _ | refine Below.alloc ?_ (by first | omega | (simp; done) | (simp; omega)) _ | refine Below.setCell ?_ (by first | omega | (simp; done) | (simp; omega)) _ | refine below_setRow ?_ (by first | omega | (simp; done) | (simp; omega)) _ ))
  have k1 : Blk ((w.alloc (.cells #[.int .i64 W, .int .i64 H, .slice A n c] 24)).alloc (.cells #[.int .i64 0, .int .i64 0, .slice none 0 0] 29)) w.heap.size 24 #[.int .i64 W, .int .i64 H, .slice A n c] := (Blk.new _ _ _).alloc _
  have k3 : Blk ((w.alloc (.cells #[.int .i64 W, .int .i64 H, .slice A n c] 24)).alloc (.cells #[.int .i64 0, .int .i64 0, .slice none 0 0] 29)) (w.heap.size + 1) 29 #[.int .i64 0, .int .i64 0, .slice none 0 0] := Blk.new' (by simp) _ _
  have HS := Lib.hid hs
  cases hsd : sidesB W H n with
  | false =>
    have hE2 : E = 2 := by rw [← hE]; unfold thrE; rw [hsd]; rfl
    subst hE2
    rw [hsd] at CK
    clear hs hE hsd
    go_enter Try.func27, Try.ntmps27
    go_wp2_with fail
    generalize (w.alloc (.cells #[.int .i64 W, .int .i64 H, .slice A n c] 24)).alloc (.cells #[.int .i64 0, .int .i64 0, .slice none 0 0] 29) = w1 at *
    refine (CK.out _).mono ?_
    rintro e w2 ⟨rfl, hb2⟩
    have b2 := below_call b1 b1.size hb2
    have k4 := k3.below' hb2
    obtain ⟨r1, r2, r3⟩ := k4.cells3
    obtain ⟨f1, f2, f3⟩ := k4.frozen3
    have k9 := ((k4.set_ 0 (.int .i64 0)).set_ 1 (.int .i64 0)).set_ 2 (.slice none 0 0)
    obtain ⟨s1, s2, s3⟩ := Blk.cells3 (a := .int .i64 0) (b := .int .i64 0) (c := .slice none 0 0) k9
    go_wp2_with fail
    refine bodyPost_ret (v := .tuple #[noImg, .int .i64 2]) (by simp [results, Try.results27, go_sem, noImg, s1, s2, s3]) rfl ?_
    exact ⟨_, rfl, outT_bad HS.out (by decide), by (repeat (first | with_reducible exact Below.refl _ _ | with_reducible assumption | with_reducible refine Below.drew ?_ | (with_reducible refine below_alloc' ?_ ?_; focus (first | omega | (simp; done) | (simp; omega))) | (with_reducible refine below_fill3' ?_ ?_; focus omega) | (with_reducible refine below_setCell' ?_ ?_; focus (first | omega | (simp; done) | (simp; omega))) | (with_reducible apply below_call'; (focus (with_reducible assumption)); (focus (first | omega | (simp; done) | (simp; omega))))))⟩
  | true =>
    rw [hsd] at CK
    obtain ⟨hW1, hW2, hH1, hH2, hnn⟩ := sidesB_iff.1 hsd
    by_cases hl : lv < 0 ∨ 256 < lv
    · have hE2 : E = 1 := by rw [← hE]; unfold thrE; rw [hsd, if_pos rfl, if_pos hl]
      subst hE2
      clear hs hE hsd hnn
      rcases (show lv < 0 ∨ (0 ≤ lv ∧ 256 < lv) by omega) with hl | ⟨hl0, hl⟩
      all_goals
        go_enter Try.func27, Try.ntmps27
        go_wp2_with fail
        generalize (w.alloc (.cells #[.int .i64 W, .int .i64 H, .slice A n c] 24)).alloc (.cells #[.int .i64 0, .int .i64 0, .slice none 0 0] 29) = w1 at *
        refine (CK.out _).mono ?_
        rintro e w2 ⟨rfl, hb2⟩
        have b2 := below_call b1 b1.size hb2
        have k4 := k3.below' hb2
        obtain ⟨r1, r2, r3⟩ := k4.cells3
        obtain ⟨f1, f2, f3⟩ := k4.frozen3
        have k9 := ((k4.set_ 0 (.int .i64 0)).set_ 1 (.int .i64 0)).set_ 2 (.slice none 0 0)
        obtain ⟨s1, s2, s3⟩ := Blk.cells3 (a := .int .i64 0) (b := .int .i64 0) (c := .slice none 0 0) k9
        go_wp2_with fail
        refine bodyPost_ret (v := .tuple #[noImg, .int .i64 1]) (by simp [results, Try.results27, go_sem, noImg, s1, s2, s3]) rfl ?_
        exact ⟨_, rfl, outT_bad HS.out (by decide), by (repeat (first | with_reducible exact Below.refl _ _ | with_reducible assumption | with_reducible refine Below.drew ?_ | (with_reducible refine below_alloc' ?_ ?_; focus (first | omega | (simp; done) | (simp; omega))) | (with_reducible refine below_fill3' ?_ ?_; focus omega) | (with_reducible refine below_setCell' ?_ ?_; focus (first | omega | (simp; done) | (simp; omega))) | (with_reducible apply below_call'; (focus (with_reducible assumption)); (focus (first | omega | (simp; done) | (simp; omega))))))⟩
    · have hE2 : E = 0 := by rw [← hE]; unfold thrE; rw [hsd, if_pos rfl, if_neg hl]
      subst hE2
      obtain ⟨rfl, rfl, hN⟩ := hs.1 rfl
      obtain rfl : N = n := by omega
      have l0 : 0 ≤ lv := by omega
      have l1 : lv ≤ 256 := by omega
      obtain ⟨W, rfl⟩ : ∃ Wn : Nat, W2 = Wn := ⟨W2.toNat, by omega⟩
      obtain ⟨H, rfl⟩ : ∃ Hn : Nat, H2 = Hn := ⟨H2.toNat, by omega⟩
      have NW := Lib.hid fun w' => rnew_any W H N w' hW1 hW2 hH1 hH2 hN
      have HNN := Lib.hid hN
      have HA := Lib.hid hA
      have HBB := Lib.hid hB
      have hW640 : W ≤ 640 := by omega
      have hH640 : H ≤ 640 := by omega
      clear hs hE hnn hB hN hsd hl hA
      go_enter Try.func27, Try.ntmps27
      go_wp2_with fail
      generalize (w.alloc (.cells #[.int .i64 W, .int .i64 H, .slice A N c] 24)).alloc (.cells #[.int .i64 0, .int .i64 0, .slice none 0 0] 29) = w1 at *
      refine (CK.out _).mono ?_
      rintro e w1' ⟨rfl, hb1⟩
      have c1 := below_call b1 b1.size hb1
      replace k1 := k1.below' hb1
      replace k2 := k3.below' hb1
      clear b1 k3 hb1 CK
      obtain ⟨p1, p2, p3⟩ := k1.cells3
      go_wp2_with fail
      refine (NW.out _).mono ?_
      rintro e w2 ⟨_, rfl, ⟨g, rfl, hg, kg⟩, hb2⟩
      have b2 := below_call c1 c1.size hb2
      have zk2 := k2.lt
      have zc1 := c1.size
      replace k1 := (k1.below' hb2).alloc (.cells #[.int .i64 W, .int .i64 H, .slice (some ⟨g, 0, none⟩) N N] 29)
      replace k2 := (k2.below' hb2).alloc (.cells #[.int .i64 W, .int .i64 H, .slice (some ⟨g, 0, none⟩) N N] 29)
      have zg := kg.lt
      have kx := Blk.new w2 29 #[.int .i64 W, .int .i64 H, .slice (some ⟨g, 0, none⟩) N N]
      have zs := hb2.size
      obtain ⟨Q, hQ⟩ : ∃ Q, Q = thrQ p lv := ⟨_, rfl⟩
      have b3 := b2.alloc b2.size (.cells #[.int .i64 W, .int .i64 H, .slice (some ⟨g, 0, none⟩) N N] 29)
      obtain ⟨gx, hgx⟩ : ∃ gx, w2.heap.size = gx := ⟨_, rfl⟩
      have zz : (w2.alloc (.cells #[.int .i64 W, .int .i64 H, .slice (some ⟨g, 0, none⟩) N N] 29)).heap.size = gx + 1 := by simp [hgx]
      have kp : Blk (w2.alloc (.cells #[.int .i64 W, .int .i64 H, .slice (some ⟨g, 0, none⟩) N N] 29)) g 5 (u8s N (rwQ W Q (0 : Nat) (0 : Nat))) := (kg.alloc _).u8conv fun i i0 i1 => by
        by_cases hW0 : W = 0
        · have := HNN.out; rw [hW0] at this; simp at this; omega
        · exact (rwQ_zero (by omega) i0).symm
      rw [hgx] at kx zg zs
      have HQ := Lib.hid hQ
      clear kg hQ b2 c1 p1 p2 p3
      go_upto_region 7 with fail
      generalize w2.alloc (.cells #[.int .i64 W, .int .i64 H, .slice (some ⟨g, 0, none⟩) N N] 29) = w3 at *
      clear hgx hb2
      go_wp2_with fail
      go_loopw [8] (fun s wr => ∃ y : Nat, y ≤ H ∧ s = .int .i64 y ∧ But (gx + 1) g w3 wr ∧ Blk wr g 5 (u8s N (rwQ W Q y (0 : Nat)))) (fun s _ => H - (intOf s).toNat)
      case atStart => exact ⟨0, by omega, rfl, But.refl _ (by omega), kp⟩
      case round =>
        obtain ⟨y, hy, rfl, bu, ap⟩ := hrel
        clear kp
        have m1 := k1.but bu (by omega) (by omega)
        obtain ⟨p1, p2, p3⟩ := m1.cells3
        by_cases yl : (y : Int) < H
        · go_wp2_with fail
          go_loopw [9] (fun s wr => ∃ x : Nat, x ≤ W ∧ s = .int .i64 x ∧ But (gx + 1) g w3 wr ∧ Blk wr g 5 (u8s N (rwQ W Q y x))) (fun s _ => W - (intOf s).toNat)
          case atStart => exact ⟨0, by omega, rfl, bu, ap⟩
          case round =>
            obtain ⟨x, hx, rfl, bv, aq⟩ := hrel
            clear ap bu m1 p1 p2 p3
            have m1 := k1.but bv (by omega) (by omega)
            have mx := kx.but bv (by omega) (by omega)
            obtain ⟨p1, p2, p3⟩ := m1.cells3
            obtain ⟨x1, x2, x3⟩ := mx.cells3
            by_cases xl : (x : Int) < W
            · have hb0 : Below w.heap.size w wr := b3.trans (bv.to zz (by omega) (by omega))
              have hA4 := HA.out.to hb0
              obtain ⟨j1, j2, j3⟩ := idx_lt (x := (x : Int)) (y := (y : Int)) (W := W) (H := H) (by omega) xl (by omega) yl
              rw [Int.mul_comm (H : Int) W, ← HNN.out] at j2
              have nb := (area_bd (W := W) (H := H) (by omega) (by omega) (by omega) (by omega)).2
              rw [← HNN.out] at nb
              obtain ⟨z, hz⟩ : ∃ z : Nat, (y : Int) * W + x = (z : Int) := ⟨((y : Int) * W + x).toNat, by omega⟩
              have v1 : IntKind.i64.wrap ((y : Int) * W) = (y : Int) * W := IntWalk.i64_in _ (by omega)
              have v2 : IntKind.i64.wrap ((y : Int) * W + x) = (z : Int) := (IntWalk.i64_in _ (by omega)).trans hz
              have zN : (z : Int) < (N : Int) := by omega
              obtain ⟨bA, off, rfl, hbA, hcell⟩ := ArrB.at_ hA4 (i := (z : Int)) (by omega) zN
              rw [Int.toNat_natCast] at hcell
              have QE : Hid (Q ((y : Int) * W + x) = if p z < lv then 1 else 0) := Lib.hid (by rw [HQ.out, hz]; rfl)
              obtain ⟨q2, q3⟩ := HBB.out (z : Int)
              generalize p z = v at *
              have v3 : IntKind.i64.wrap v = v := IntWalk.i64_in _ (by omega)
              have HZ := Lib.hid hz
              clear hA4 hb0 hz j1 j2 j3
              by_cases hv : v < lv
              · rw [if_pos hv] at QE
                go_wp2_with fail
                refine (rset_any W H g N N 5 _ x y _ aq (by omega) xl (by omega) yl (by omega) (by omega) HNN.out).mono ?_
                rintro e w6 ⟨rfl, hk6, hg6⟩
                have bz6 : But (gx + 1) g w3 w6 := ⟨hg6.os.trans bv.os, hg6.tape.trans bv.tape, hg6.output.trans bv.output, Nat.le_trans bv.size hg6.size, fun j hj hk => (hg6.block j (Nat.lt_of_lt_of_le hj bv.size) (fun e => hk (by cases e; rfl))).trans (bv.block j hj hk)⟩
                have aq6 : Blk w6 g 5 (u8s N (rwQ W Q y ((x + 1 : Nat) : Int))) := hk6.u8conv fun i _ _ => by
                  have h := rwQ_set (Q := Q) (y := (y : Int)) (i := i) (show (0 : Int) ≤ x by omega) xl QE.out
                  rw [h]; push_cast; rfl
                clear hk6 hg6 mx x1 x2 x3
                go_wp2_with fail
                go_round
                case rel => exact ⟨x + 1, by omega, by go_num, bz6, aq6⟩
                case measure => simp [intOf]; omega
              · rw [if_neg hv] at QE
                have aq6 : Blk wr g 5 (u8s N (rwQ W Q y ((x + 1 : Nat) : Int))) := aq.u8conv fun i _ _ => by
                  have h := rwQ_skip (Q := Q) (y := (y : Int)) (i := i) (show (0 : Int) ≤ x by omega) xl QE.out
                  rw [h]; push_cast; rfl
                clear aq
                go_wp2_with fail
                go_round
                case rel => exact ⟨x + 1, by omega, by go_num, bv, aq6⟩
                case measure => simp [intOf]; omega
            · have hxW : x = W := by omega
              have aq6 : Blk wr g 5 (u8s N (rwQ W Q ((y + 1 : Nat) : Int) (0 : Nat))) := aq.u8conv fun i i0 i1 => by
                by_cases hW0 : W = 0
                · have := HNN.out; rw [hW0] at this; simp at this; omega
                · have h := rwQ_line (Q := Q) (W := W) (y := (y : Int)) (i := i) (by omega)
                  rw [hxW, h]; push_cast; rfl
              clear aq hxW
              go_wp2_with fail
              go_round
              case rel => exact ⟨y + 1, by omega, by go_num, bv, aq6⟩
              case measure => simp [intOf]; omega
        · have hyH : y = H := by omega
          have m2 := k2.but bu (by omega) (by omega)
          have mx := kx.but bu (by omega) (by omega)
          obtain ⟨x1, x2, x3⟩ := mx.cells3
          obtain ⟨f1, f2, f3⟩ := m2.frozen3
          obtain ⟨y1, y2, y3⟩ := m2.cells3
          have k5 := ((m2.set_ 0 (.int .i64 W)).set_ 1 (.int .i64 H)).set_ 2 (.slice (some ⟨g, 0, none⟩) N N)
          obtain ⟨s1, s2, s3⟩ := Blk.cells3 (a := .int .i64 W) (b := .int .i64 H) (c := .slice (some ⟨g, 0, none⟩) N N) k5
          have bE : Below w.heap.size w wr := b3.trans (bu.to zz (by omega) (by omega))
          have aq : Blk wr g 5 (u8s N Q) := ap.u8conv fun i i0 i1 => by
            rw [hyH]
            by_cases hW0 : W = 0
            · have := HNN.out; rw [hW0] at this; simp at this; omega
            · exact rwQ_end (by omega) (by rw [Int.mul_comm, ← HNN.out]; exact i1)
          clear ap hyH
          go_wp2_with fail
          refine bodyPost_ret (v := .tuple #[.agg #[.int .i64 W, .int .i64 H, .slice (some ⟨g, 0, none⟩) N N], .int .i64 0]) (by simp [results, Try.results27, go_sem, s1, s2, s3]) rfl ?_
          have g1 : g ≠ w.heap.size + 1 := by omega
          refine ⟨_, rfl, ⟨_, _, rfl, (fun a e => by cases e; show w.heap.size ≤ g; omega), ?_⟩, by (repeat (first | exact Below.refl _ _ | assumption | refine Below.drew ?_ | refine below_drewN ?_ _ | refine Below.alloc ?_ (by first | omega | (simp; done) | (simp; omega)) _ | refine Below.setCell ?_ (by first | omega | (simp; done) | (simp; omega)) _ | refine below_setRow ?_ (by first | omega | (simp; done) | (simp; omega)) _ ))⟩
          have KE := Blk.far (Blk.far (Blk.far aq (p := ⟨w.heap.size + 1, 0, none⟩) g1 (.int .i64 W)) (p := ⟨w.heap.size + 1, 1, none⟩) g1 (.int .i64 H)) (p := ⟨w.heap.size + 1, 2, none⟩) g1 (.slice (some ⟨g, 0, none⟩) N N)
          rw [← HQ.out]
          exact KE.arrB KE.lt
end Go.Proofs.Ytoonkpjddfiopaa

/- Walk: the reference's Profile. -/
namespace Go.Proofs.Ytoonkpjddfiopaa
open Go.RowKit
set_option linter.unusedVariables false
attribute [local go_sem] Oper.semAt_some
theorem rowS_zero {W : Int} {k : Nat} {p : Int → Int} (h : p k = 0) (y : Int) : rowS W (k + 1) p y = rowS W k p y := by
  rw [← rowS_step y, h]; unfold upd; split
  · next e => rw [e]; omega
  · rfl
theorem colS_zero {W : Int} {k : Nat} {p : Int → Int} (h : p k = 0) (y : Int) : colS W (k + 1) p y = colS W k p y := by
  rw [← colS_step y, h]; unfold upd; split
  · next e => rw [e]; omega
  · rfl
set_option maxRecDepth 100000 in
set_option maxHeartbeats 4000000 in
theorem rprof_any (W H : Nat) (A : Option Addr) (n c : Nat) (p : Int → Int) (w : World) (hA : ArrB w w.heap.size A n p) (hB : IsB p) (hW : W ≤ 640) (hH : H ≤ 640) (hn : (n : Int) = (W : Int) * H) (hp : ∀ i : Int, 0 ≤ i → i < n → p i = 0 ∨ p i = 1) :
    Calls Try.prog 84 #[.agg #[.int .i64 W, .int .i64 H, .slice A n c]] w
      (New w fun v w' => ∃ g1 g2, v = .tuple #[.slice (some ⟨g1, 0, none⟩) H H, .slice (some ⟨g2, 0, none⟩) W W] ∧ w.heap.size ≤ g1 ∧ w.heap.size ≤ g2 ∧ g1 ≠ g2 ∧ Blk w' g1 3 (i64s H (rowS W n p)) ∧ Blk w' g2 3 (i64s W (colS W n p))) := by
  have IK := Lib.hid fun (x y : Int) w' hA' => rink_any W H A n c p x y w' hA' (by omega) (by omega) hn
  have hn4 : n ≤ 409600 := by have := (area_bd (W := W) (H := H) (by omega) (by omega) (by omega) (by omega)).2; omega
  have hmk1 := makeI (H : Int) (by omega) (by omega)
  have hmk2 := makeI (W : Int) (by omega) (by omega)
  rw [Int.toNat_natCast] at hmk1 hmk2
  have HN := Lib.hid hn
  have HP := Lib.hid hp
  have HA := Lib.hid hA
  have HB := Lib.hid hB
  clear hn hp hA hB
  go_enter Try.func84, Try.ntmps84
  go_wp2_with fail
  have k1 := Blk.new w 29 #[.int .i64 W, .int .i64 H, .slice A n c]
  have b1 : Below w.heap.size w (w.alloc (.cells #[.int .i64 W, .int .i64 H, .slice A n c] 29)) := (Below.refl _ _).alloc (Nat.le_refl _) _
  generalize w.alloc (.cells #[.int .i64 W, .int .i64 H, .slice A n c] 29) = w1 at *
  have z1 := k1.lt
  obtain ⟨p1, p2, p3⟩ := k1.cells3
  go_upto_region 1 with fail
  go_cut [4, 5] (fun a b wx => ∃ g1 g2, a = .slice (some ⟨g1, 0, none⟩) H H ∧ b = .slice (some ⟨g2, 0, none⟩) W W ∧ g1 ≠ g2 ∧ w1.heap.size ≤ g1 ∧ w1.heap.size ≤ g2 ∧
    Blk wx g1 3 (i64s H (fun _ => 0)) ∧ Blk wx g2 3 (i64s W (fun _ => 0)) ∧ Below w1.heap.size w1 wx)
  case first =>
    go_region_held3 (fun w' => w'.cell? ⟨w.heap.size, 0, none⟩ = some (.int .i64 W) ∧ w'.cell? ⟨w.heap.size, 1, none⟩ = some (.int .i64 H)) ((first | (simp [go_sem, *]; done) | (go_keep; done))) (fail)
    all_goals
      go_wp2_with fail
      go_meet
    · exact ⟨w1.heap.size, w1.heap.size + 1, rfl, rfl, by omega, by omega, by omega, ((Blk.new _ _ _).alloc _).drew, (Blk.new' (by simp) _ _).drew, by (repeat (first | exact Below.refl _ _ | assumption | refine Below.drew ?_ | refine below_drewN ?_ _ | refine Below.alloc ?_ (by first | omega | (simp; done) | (simp; omega)) _ | refine Below.setCell ?_ (by first | omega | (simp; done) | (simp; omega)) _ | refine below_setRow ?_ (by first | omega | (simp; done) | (simp; omega)) _ ))⟩
    · exact ⟨w1.heap.size + 1, w1.heap.size, rfl, rfl, by omega, by omega, by omega, (Blk.new' (by simp) _ _).drew, ((Blk.new _ _ _).alloc _).drew, by (repeat (first | exact Below.refl _ _ | assumption | refine Below.drew ?_ | refine below_drewN ?_ _ | refine Below.alloc ?_ (by first | omega | (simp; done) | (simp; omega)) _ | refine Below.setCell ?_ (by first | omega | (simp; done) | (simp; omega)) _ | refine below_setRow ?_ (by first | omega | (simp; done) | (simp; omega)) _ ))⟩
  case rest =>
  obtain ⟨g1, g2, rfl, rfl, hne, hg1, hg2, kg1, kg2, hb2⟩ := hcut
  generalize wc = w2 at *
  have m1 := k1.below' hb2
  have b2 := below_call b1 b1.size hb2
  clear hb2 p1 p2 p3 hmk1 hmk2 k1 b1
  go_wp2_with fail
  go_loopw [6] (fun s wr => ∃ y : Nat, y ≤ H ∧ s = .int .i64 y ∧ Below w.heap.size w wr ∧ Blk wr w.heap.size 29 #[.int .i64 W, .int .i64 H, .slice A n c] ∧
      Blk wr g1 3 (i64s H (rowS W (y * W) p)) ∧ Blk wr g2 3 (i64s W (colS W (y * W) p))) (fun s _ => H - (intOf s).toNat)
  case atStart => exact ⟨0, by omega, rfl, b2, m1, kg1.i64conv fun i _ _ => by rw [Nat.zero_mul]; rfl, kg2.i64conv fun i _ _ => by rw [Nat.zero_mul]; rfl⟩
  case round =>
    obtain ⟨y, hy, rfl, b3, k3, kr, kc⟩ := hrel
    clear kg1 kg2 m1 b2
    obtain ⟨p1, p2, p3⟩ := k3.cells3
    by_cases yl : (y : Int) < H
    · go_wp2_with fail
      clear p1 p2 p3
      go_loopw [7] (fun s wr => ∃ x : Nat, x ≤ W ∧ s = .int .i64 x ∧ Below w.heap.size w wr ∧ Blk wr w.heap.size 29 #[.int .i64 W, .int .i64 H, .slice A n c] ∧
        Blk wr g1 3 (i64s H (rowS W (y * W + x) p)) ∧ Blk wr g2 3 (i64s W (colS W (y * W + x) p))) (fun s _ => W - (intOf s).toNat)
      case atStart => exact ⟨0, by omega, rfl, b3, k3, kr, kc⟩
      case round =>
        obtain ⟨x, hx, rfl, b4, k4, kr4, kc4⟩ := hrel
        clear kr kc k3 b3
        obtain ⟨p1, p2, p3⟩ := k4.cells3
        by_cases xl : (x : Int) < W
        · obtain ⟨i, hi⟩ : ∃ i : Nat, y * W + x = i := ⟨_, rfl⟩
          have hiI : (y : Int) * W + x = (i : Int) := by rw [← hi]; push_cast; rfl
          have hin : (i : Int) < n := by
            have h8 := (idx_lt (x := (x : Int)) (y := (y : Int)) (W := W) (H := H) (by omega) xl (by omega) yl).2.1
            rw [hiI, Int.mul_comm, ← HN.out] at h8
            exact h8
          have hmod : (i : Int) % W = x := by rw [← hiI]; exact idx_mod (by omega) xl
          have hdiv : (i : Int) / W = y := by rw [← hiI]; exact idx_div (by omega) xl
          rw [hi] at kr4 kc4
          have HI := Lib.hid hi
          have IK1 := Lib.hid (IK.out x y wr (HA.out.to b4))
          have hpi := HP.out i (by omega) hin
          have hink : inkB W H p x y = decide (p i = 1) := by rw [inkB_in (by omega) xl (by omega) yl, hiI]
          rw [hink] at IK1
          obtain ⟨br1, br2⟩ := rowS_bd (W := W) (n := i) HB.out (fun j a b => by have := HP.out j a (by omega); omega) y
          obtain ⟨bc1, bc2⟩ := colS_bd (W := W) (n := i) HB.out (fun j a b => by have := HP.out j a (by omega); omega) x
          have SR := Lib.hid (fun z => rowS_step (W := W) (k := i) (p := p) z)
          have SC := Lib.hid (fun z => colS_step (W := W) (k := i) (p := p) z)
          rw [hmod] at SC
          rw [hdiv] at SR
          have HI2 : Hid (y * W + (x + 1) = i + 1) := Lib.hid (by omega)
          clear hink hmod hdiv hiI hi
          rcases hpi with h0 | h1
          · rw [h0, show decide ((0 : Int) = 1) = false from rfl] at IK1
            have Z0 := Lib.hid (fun z => rowS_zero (W := W) h0 z)
            have Z1 := Lib.hid (fun z => colS_zero (W := W) h0 z)
            clear h0 SR SC
            go_wp2_with fail
            refine IK1.out.mono ?_
            rintro e w5 ⟨rfl, hb5⟩
            have k5 := k4.below' hb5
            have kr5 := kr4.below' hb5
            have kc5 := kc4.below' hb5
            have b5 := below_call b4 b4.size hb5
            clear p1 p2 p3 k4 kr4 kc4 b4 hb5
            go_wp2_with fail
            go_roundw
            case rel => exact ⟨x + 1, by omega, by go_num, b5, k5, kr5.i64conv fun z _ _ => by rw [HI2.out]; exact (Z0.out z).symm, kc5.i64conv fun z _ _ => by rw [HI2.out]; exact (Z1.out z).symm⟩
            case measure => simp [intOf]; omega
          · rw [h1, show decide ((1 : Int) = 1) = true from rfl] at IK1
            rw [h1] at SR SC
            clear h1
            go_wp2_with fail
            refine IK1.out.mono ?_
            rintro e w5 ⟨rfl, hb5⟩
            have k5 := k4.below' hb5
            have kr5 := kr4.below' hb5
            have kc5 := kc4.below' hb5
            have b5 := below_call b4 b4.size hb5
            clear p1 p2 p3 k4 kr4 kc4 b4 hb5
            have hr := kr5.i64at (i := (y : Int)) (by omega) yl
            have hc := kc5.i64at (i := (x : Int)) (by omega) xl
            have fr := kr5.frozen y
            have fc := kc5.frozen x
            rw [Int.toNat_natCast] at hr hc
            obtain ⟨a, ha⟩ : ∃ a, rowS W i p y = a := ⟨_, rfl⟩
            obtain ⟨b, hb⟩ : ∃ b, colS W i p x = b := ⟨_, rfl⟩
            rw [ha] at hr br1 br2 SR
            rw [hb] at hc bc1 bc2 SC
            have v1 : IntKind.i64.wrap (a + 1) = a + 1 := IntWalk.i64_in _ (by omega)
            have v2 : IntKind.i64.wrap (b + 1) = b + 1 := IntWalk.i64_in _ (by omega)
            have UR := (kr5.i64set (y : Int) (by omega) (a + 1)).i64conv fun z _ _ => SR.out z
            have kc6 := kc5.far (p := ⟨g1, (y : Int).toNat, none⟩) (Ne.symm hne) (.int .i64 (a + 1))
            have k6 := k5.far (p := ⟨g1, (y : Int).toNat, none⟩) (by show w.heap.size ≠ g1; omega) (.int .i64 (a + 1))
            have b6 := b5.setCell (p := ⟨g1, (y : Int).toNat, none⟩) (by show w.heap.size ≤ g1; omega) (.int .i64 (a + 1))
            rw [Int.toNat_natCast] at UR kc6 k6 b6
            have hc6 := kc6.i64at (i := (x : Int)) (by omega) xl
            have fc6 := kc6.frozen x
            rw [Int.toNat_natCast, hb] at hc6
            clear ha hb hc fc kc5 k5 b5
            go_upto_region 10 with fail
            generalize w5.setCell ⟨g1, y, none⟩ (.int .i64 (a + 1)) = w6 at *
            clear hr fr
            have UC := Lib.hid ((kc6.i64set (x : Int) (by omega) (b + 1)).i64conv fun z _ _ => SC.out z)
            rw [Int.toNat_natCast] at UC
            have kr7 := UR.far (p := ⟨g2, x, none⟩) hne (.int .i64 (b + 1))
            have k7 := k6.far (p := ⟨g2, x, none⟩) (by show w.heap.size ≠ g2; omega) (.int .i64 (b + 1))
            have b7 := b6.setCell (p := ⟨g2, x, none⟩) (by show w.heap.size ≤ g2; omega) (.int .i64 (b + 1))
            clear SR SC UR kc6 k6 b6
            go_wp2_with fail
            go_roundw
            case rel => exact ⟨x + 1, by omega, by go_num, b7, k7, by rw [HI2.out]; exact kr7, by rw [HI2.out]; exact UC.out⟩
            case measure => simp [intOf]; omega
        · have ex : y * W + x = (y + 1) * W := by rw [Nat.succ_mul]; omega
          rw [ex] at kr4 kc4
          clear hx ex
          go_wp2_with fail
          go_roundw
          case rel => exact ⟨y + 1, by omega, by go_num, b4, k4, kr4, kc4⟩
          case measure => simp [intOf]; omega
    · have ey : y * W = n := by
        have : y = H := by omega
        have h9 : ((W * H : Nat) : Int) = (n : Int) := by rw [HN.out]; push_cast; rfl
        rw [this, Nat.mul_comm]; exact Int.ofNat_inj.1 h9
      rw [ey] at kr kc
      clear hy ey
      go_wp2_with fail
      refine bodyPost_ret (results_tmp2 rfl _ _ _) rfl ?_
      exact ⟨_, rfl, ⟨g1, g2, rfl, by omega, by omega, hne, kr, kc⟩, b3⟩
end Go.Proofs.Ytoonkpjddfiopaa

/- Walk: the reference's Box. -/
namespace Go.Proofs.Ytoonkpjddfiopaa
open Go.RowKit
set_option linter.unusedVariables false
attribute [local go_sem] Oper.semAt_some

theorem sumN_zero {f : Int → Int} : ∀ {n : Nat}, (∀ i : Nat, i < n → 0 ≤ f i) → (sumN n f = 0 ↔ ∀ i : Nat, i < n → f i = 0)
  | 0, _ => ⟨fun _ i hi => by omega, fun _ => rfl⟩
  | n + 1, h => by
    have ih := sumN_zero (n := n) fun i hi => h i (by omega)
    have h1 := h n (by omega)
    have h2 : 0 ≤ sumN n f := sumN_nonneg fun i hi => h i (by omega)
    rw [sumN]
    constructor
    · intro e i hi
      by_cases c : i = n
      · subst c; omega
      · exact ih.1 (by omega) i (by omega)
    · intro e
      rw [ih.2 fun i hi => e i (by omega), e n (by omega)]; rfl
section
variable {W : Int} {n : Nat} {p : Int → Int}
theorem rowS_empty (hp : ∀ i : Int, 0 ≤ i → i < n → p i = 0 ∨ p i = 1) (y : Int) : rowS W n p y = 0 ↔ ∀ i : Nat, i < n → (i : Int) / W = y → p i ≠ 1 := by
  unfold rowS
  rw [sumN_zero fun i hi => by
    show 0 ≤ (if (i : Int) / W = y then p i else 0)
    split
    · have := hp i (by omega) (by omega); omega
    · omega]
  constructor
  · intro h i hi e h1
    have := h i hi
    change (if (i : Int) / W = y then p i else 0) = 0 at this
    rw [if_pos e] at this; omega
  · intro h i hi
    show (if (i : Int) / W = y then p i else 0) = 0
    split
    · have := hp i (by omega) (by omega)
      have := h i hi (by assumption)
      omega
    · rfl
theorem colS_empty (hp : ∀ i : Int, 0 ≤ i → i < n → p i = 0 ∨ p i = 1) (y : Int) : colS W n p y = 0 ↔ ∀ i : Nat, i < n → (i : Int) % W = y → p i ≠ 1 := by
  unfold colS
  rw [sumN_zero fun i hi => by
    show 0 ≤ (if (i : Int) % W = y then p i else 0)
    split
    · have := hp i (by omega) (by omega); omega
    · omega]
  constructor
  · intro h i hi e h1
    have := h i hi
    change (if (i : Int) % W = y then p i else 0) = 0 at this
    rw [if_pos e] at this; omega
  · intro h i hi
    show (if (i : Int) % W = y then p i else 0) = 0
    split
    · have := hp i (by omega) (by omega)
      have := h i hi (by assumption)
      omega
    · rfl
end
/-- the places of an image's ink -/
def inkL (n : Nat) (p : Int → Int) : List Nat := (List.range n).filter fun (i : Nat) => decide (p i = 1)
theorem mem_inkL {n : Nat} {p : Int → Int} {i : Nat} : i ∈ inkL n p ↔ i < n ∧ p i = 1 := by simp [inkL]
def celN (w : World) (a : Addr) : Nat := match w.cell? a with | some v => (intOf v).toNat | none => 0
theorem celN_of {w : World} {a : Addr} {n : Nat} (h : w.cell? a = some (.int .i64 n)) : celN w a = n := by unfold celN; rw [h]; rfl
theorem Blk.cells4 {w : World} {g t : Nat} {a b c d : Value} (h : Blk w g t #[a, b, c, d]) : w.cell? ⟨g, 0, none⟩ = some a ∧ w.cell? ⟨g, 1, none⟩ = some b ∧ w.cell? ⟨g, 2, none⟩ = some c ∧ w.cell? ⟨g, 3, none⟩ = some d :=
  ⟨by rw [h.cell]; rfl, by rw [h.cell]; rfl, by rw [h.cell]; rfl, by rw [h.cell]; rfl⟩
theorem Blk.frozen4 {w : World} {g t : Nat} {a b c d : Value} (h : Blk w g t #[a, b, c, d]) : w.frozen? ⟨g, 0, none⟩ = false ∧ w.frozen? ⟨g, 1, none⟩ = false ∧ w.frozen? ⟨g, 2, none⟩ = false ∧ w.frozen? ⟨g, 3, none⟩ = false :=
  ⟨h.frozen _, h.frozen _, h.frozen _, h.frozen _⟩
/-- what the four loops have found out -/
theorem box_of {W H n Y b X d : Nat} {p : Int → Int} (hW : 0 < W) (hn : n = W * H) (hp : ∀ i : Int, 0 ≤ i → i < n → p i = 0 ∨ p i = 1) (h1 : ∀ y : Nat, y < H → b ≤ y → rowS W n p y = 0) (h2 : ∀ y : Nat, y < Y → rowS W n p y = 0) (h3 : rowS W n p Y ≠ 0) (h4 : rowS W n p ((b - 1 : Nat) : Int) ≠ 0) (hY : Y < b) (hb : b ≤ H)
    (h5 : ∀ x : Nat, x < W → d ≤ x → colS W n p x = 0) (h6 : ∀ x : Nat, x < X → colS W n p x = 0) (h7 : colS W n p X ≠ 0) (h8 : colS W n p ((d - 1 : Nat) : Int) ≠ 0) (hX : X < d) (hd : d ≤ W) : IsBox W (inkL n p) ((X : Int), (Y : Int), ((d - X : Nat) : Int), ((b - Y : Nat) : Int)) := by
  have rex : ∀ y : Nat, rowS W n p y ≠ 0 → ∃ i ∈ inkL n p, ((i / W : Nat) : Int) = y := fun y hy => by
    rw [Ne, rowS_empty hp] at hy
    obtain ⟨i, hi⟩ := Classical.not_forall.1 hy
    have h9 : i < n ∧ (i : Int) / W = y ∧ p i = 1 := Classical.byContradiction fun h => hi fun a b c => h ⟨a, b, c⟩
    exact ⟨i, mem_inkL.2 ⟨h9.1, h9.2.2⟩, by rw [Int.natCast_ediv]; exact h9.2.1⟩
  have cex : ∀ x : Nat, colS W n p x ≠ 0 → ∃ i ∈ inkL n p, ((i % W : Nat) : Int) = x := fun y hy => by
    rw [Ne, colS_empty hp] at hy
    obtain ⟨i, hi⟩ := Classical.not_forall.1 hy
    have h9 : i < n ∧ (i : Int) % W = y ∧ p i = 1 := Classical.byContradiction fun h => hi fun a b c => h ⟨a, b, c⟩
    exact ⟨i, mem_inkL.2 ⟨h9.1, h9.2.2⟩, by rw [Int.natCast_emod]; exact h9.2.1⟩
  obtain ⟨i1, m1, e1⟩ := rex Y h3
  obtain ⟨i2, m2, e2⟩ := rex (b - 1) h4
  obtain ⟨i3, m3, e3⟩ := cex X h7
  obtain ⟨i4, m4, e4⟩ := cex (d - 1) h8
  refine .inr ⟨fun e => by rw [e] at m1; simp at m1, fun i hi => ?_, ⟨i3, m3, e3⟩, ⟨i4, m4, ?_⟩, ⟨i1, m1, e1⟩, ⟨i2, m2, ?_⟩⟩
  · obtain ⟨hi1, hi2⟩ := mem_inkL.1 hi
    have ym : i / W < H := Nat.div_lt_of_lt_mul (hn ▸ hi1)
    have xm : i % W < W := Nat.mod_lt _ hW
    have r0 : rowS W n p ((i / W : Nat) : Int) ≠ 0 := fun e => (rowS_empty hp _).1 e i hi1 (Int.natCast_ediv i W).symm hi2
    have c0 : colS W n p ((i % W : Nat) : Int) ≠ 0 := fun e => (colS_empty hp _).1 e i hi1 (Int.natCast_emod i W).symm hi2
    have y1 : Y ≤ i / W := Nat.le_of_not_lt fun h => r0 (h2 _ h)
    have y2 : i / W < b := Nat.lt_of_not_le fun h => r0 (h1 _ ym h)
    have x1 : X ≤ i % W := Nat.le_of_not_lt fun h => c0 (h6 _ h)
    have x2 : i % W < d := Nat.lt_of_not_le fun h => c0 (h5 _ xm h)
    generalize i / W = yy at *
    generalize i % W = xx at *
    simp only
    omega
  · simp only; omega
  · simp only; omega
set_option maxRecDepth 100000 in
set_option maxHeartbeats 8000000 in
theorem rbox_any (W H : Nat) (A : Option Addr) (n c : Nat) (p : Int → Int) (w : World) (hA : ArrB w w.heap.size A n p) (hB : IsB p) (hW : W ≤ 640) (hH : H ≤ 640) (hn : n = W * H) (hp : ∀ i : Int, 0 ≤ i → i < n → p i = 0 ∨ p i = 1) :
    Calls Try.prog 75 #[.agg #[.int .i64 W, .int .i64 H, .slice A n c]] w fun e w' => ∃ b, e = .returned (boxV b) ∧ IsBox W (inkL n p) b ∧ Below w.heap.size w w' := by
  have hnI : (n : Int) = (W : Int) * H := by rw [hn]; push_cast; rfl
  have PR := Lib.hid fun w' hA' => rprof_any W H A n c p w' hA' hB hW hH hnI hp
  have HP := Lib.hid hp
  have HN := Lib.hid hn
  have HA := Lib.hid hA
  clear hp hn hnI hA hB
  go_enter Try.func75, Try.ntmps75
  go_wp2_with fail
  have b1 : Below w.heap.size w ((w.alloc (.cells #[.int .i64 W, .int .i64 H, .slice A n c] 29)).alloc (.cells #[.int .i64 0, .int .i64 0, .int .i64 0, .int .i64 0] 92)) := by (repeat (first | exact Below.refl _ _ | assumption | refine Below.drew ?_ | refine below_drewN ?_ _ | refine Below.alloc ?_ (by first | omega | (simp; done) | (simp; omega)) _ | refine Below.setCell ?_ (by first | omega | (simp; done) | (simp; omega)) _ | refine below_setRow ?_ (by first | omega | (simp; done) | (simp; omega)) _ ))
  have k1 : Blk ((w.alloc (.cells #[.int .i64 W, .int .i64 H, .slice A n c] 29)).alloc (.cells #[.int .i64 0, .int .i64 0, .int .i64 0, .int .i64 0] 92)) w.heap.size 29 #[.int .i64 W, .int .i64 H, .slice A n c] := (Blk.new _ _ _).alloc _
  have k2 : Blk ((w.alloc (.cells #[.int .i64 W, .int .i64 H, .slice A n c] 29)).alloc (.cells #[.int .i64 0, .int .i64 0, .int .i64 0, .int .i64 0] 92)) (w.heap.size + 1) 92 #[.int .i64 0, .int .i64 0, .int .i64 0, .int .i64 0] := Blk.new' (by simp) _ _
  generalize (w.alloc (.cells #[.int .i64 W, .int .i64 H, .slice A n c] 29)).alloc (.cells #[.int .i64 0, .int .i64 0, .int .i64 0, .int .i64 0] 92) = w1 at *
  refine (PR.out w1 (HA.out.to b1)).mono ?_
  rintro e w2 ⟨_, rfl, ⟨g1, g2, rfl, hg1, hg2, hne, kr, kc⟩, hb2⟩
  have b2 := below_call b1 b1.size hb2
  replace k1 := k1.below' hb2
  replace k2 := k2.below' hb2
  clear b1 hb2 PR
  obtain ⟨p1, p2, p3⟩ := k1.cells3
  obtain ⟨g5, hg5⟩ : ∃ g, w2.heap.size = g := ⟨_, rfl⟩
  go_upto_region 3 with fail
  have k5 := Blk.new w2 92 #[.int .i64 0, .int .i64 0, .int .i64 W, .int .i64 H]
  have b5 : Below w2.heap.size w2 (w2.alloc (.cells #[.int .i64 0, .int .i64 0, .int .i64 W, .int .i64 H] 92)) := (Below.refl _ _).alloc (Nat.le_refl _) _
  have b4 := below_call b2 b2.size b5
  have KR := Lib.hid (kr.below' b5)
  have KC := Lib.hid (kc.below' b5)
  have K2 := Lib.hid (k2.below' b5)
  have z1 := kr.lt; have z2 := kc.lt; have z3 := k2.lt
  rw [hg5] at k5 z1 z2 z3
  have zz : (w2.alloc (.cells #[.int .i64 0, .int .i64 0, .int .i64 W, .int .i64 H] 92)).heap.size = g5 + 1 := by simp [hg5]
  generalize w2.alloc (.cells #[.int .i64 0, .int .i64 0, .int .i64 W, .int .i64 H] 92) = w4 at *
  have HB4 := Lib.hid b4
  have ZZ := Lib.hid zz
  obtain ⟨R, hR⟩ : ∃ R, rowS W n p = R := ⟨_, rfl⟩
  obtain ⟨C, hC⟩ : ∃ C, colS W n p = C := ⟨_, rfl⟩
  rw [hR] at KR
  rw [hC] at KC
  have HR := Lib.hid hR
  have HCC := Lib.hid hC
  clear kr kc k1 k2 b5 b4 b2 hg5 p1 p2 p3 hR hC zz
  go_wp2_with fail
  go_loopw [17] (fun _ wr => ∃ h : Nat, h ≤ H ∧ Blk wr g5 92 #[.int .i64 0, .int .i64 0, .int .i64 W, .int .i64 h] ∧ But (g5 + 1) g5 w4 wr ∧ Hid (∀ y : Nat, y < H → h ≤ y → R y = 0)) (fun _ wr => celN wr ⟨g5, 3, none⟩)
  case atStart => exact ⟨H, Nat.le_refl _, k5, But.refl _ (by rw [ZZ.out]; exact Nat.le_refl _), Lib.hid fun y h1 h2 => by omega⟩
  case round =>
    obtain ⟨h, hh, m5, bu, HE⟩ := hrel
    clear k5
    obtain ⟨p1, p2, p3, p4⟩ := m5.cells4
    obtain ⟨f1, f2, f3, f4⟩ := m5.frozen4
    have mr := KR.out.but bu (by omega) (by omega)
    have m2 := K2.out.but bu (by omega) (by omega)
    by_cases h0 : h = 0
    · have BN : IsBox W (inkL n p) (0, 0, 0, 0) := .inl ⟨List.eq_nil_iff_forall_not_mem.2 fun i hi => by
        obtain ⟨i1, i2⟩ := mem_inkL.1 hi
        have hW0 : 0 < W := by
          rcases Nat.eq_zero_or_pos W with e | e
          · have := HN.out; rw [e, Nat.zero_mul] at this; omega
          · exact e
        have := HE.out (i / W) (Nat.div_lt_of_lt_mul (HN.out ▸ i1)) (by rw [h0]; exact Nat.zero_le _)
        rw [← HR.out] at this
        exact (rowS_empty HP.out _).1 this i i1 (Int.natCast_ediv i W).symm i2, rfl⟩
      have bE : Below w.heap.size w wr := HB4.out.trans (bu.to ZZ.out (by omega) (by omega))
      subst h0
      obtain ⟨e1, e2, e3, e4⟩ := m2.frozen4
      obtain ⟨d1, d2, d3, d4⟩ := m2.cells4
      have k9 := (((m2.set_ 0 (.int .i64 0)).set_ 1 (.int .i64 0)).set_ 2 (.int .i64 0)).set_ 3 (.int .i64 0)
      obtain ⟨s1, s2, s3, s4⟩ := Blk.cells4 (a := .int .i64 0) (b := .int .i64 0) (c := .int .i64 0) (d := .int .i64 0) k9
      have bE9 := (((bE.setCell (p := ⟨w.heap.size + 1, 0, none⟩) (by show w.heap.size ≤ w.heap.size + 1; omega) (.int .i64 0)).setCell (p := ⟨w.heap.size + 1, 1, none⟩) (by show w.heap.size ≤ w.heap.size + 1; omega) (.int .i64 0)).setCell (p := ⟨w.heap.size + 1, 2, none⟩) (by show w.heap.size ≤ w.heap.size + 1; omega) (.int .i64 0)).setCell (p := ⟨w.heap.size + 1, 3, none⟩) (by show w.heap.size ≤ w.heap.size + 1; omega) (.int .i64 0)
      go_wp2_with fail
      refine bodyPost_ret (v := boxV (0, 0, 0, 0)) (by simp [results, Try.results75, go_sem, boxV, s1, s2, s3, s4]) rfl ?_
      exact ⟨_, rfl, BN, bE9⟩
    · obtain ⟨h', rfl⟩ : ∃ h', h = h' + 1 := ⟨h - 1, by omega⟩
      have hpos : (0 : Int) < ((h' + 1 : Nat) : Int) := by omega
      have v1 : IntKind.i64.wrap (((h' + 1 : Nat) : Int) - 1) = (h' : Int) := (IntWalk.i64_in _ (by omega)).trans (by omega)
      have v0 : IntKind.i64.wrap ((h' + 1 : Nat) : Int) = ((h' + 1 : Nat) : Int) := IntWalk.i64_in _ (by omega)
      have hc := mr.i64at (i := (h' : Int)) (by omega) (by omega)
      rw [Int.toNat_natCast] at hc
      have h'H : (h' : Int) < H := by omega
      obtain ⟨hI, hhI⟩ : ∃ q : Int, ((h' + 1 : Nat) : Int) = q := ⟨_, rfl⟩
      rw [hhI] at hpos v1 v0 p4
      have HHI := Lib.hid hhI
      have HM0 := Lib.hid (celN_of (show wr.cell? ⟨g5, 3, none⟩ = some (.int .i64 ((h' + 1 : Nat) : Int)) by rw [hhI]; exact p4))
      have M5 := Lib.hid m5
      clear hhI m5
      by_cases hz : R h' = 0
      · rw [hz] at hc
        have HZ := Lib.hid hz
        clear hz
        go_wp2_with fail
        refine ⟨⟨h', by omega, ?_, bu.set 3 (.int .i64 h'), Lib.hid fun y y1 y2 => ?_⟩, ?_⟩
        · exact M5.out.set_ 3 (.int .i64 h')
        · by_cases e : y = h'
          · subst e; exact HZ.out
          · exact HE.out y y1 (by omega)
        · have c9 := (M5.out.set_ 3 (.int .i64 h')).cell 3
          have h9 : celN (wr.setCell ⟨g5, 3, none⟩ (.int .i64 h')) ⟨g5, 3, none⟩ = h' := celN_of c9
          rw [h9, HM0.out]; omega
      · have hzb : (R h' == 0) = false := by simp [hz]
        have HZ := Lib.hid hz
        clear hz
        go_wp2_with fail
        clear hc p1 p2 p3 p4 f1 f2 f3 f4 mr m2 h0 v0 v1 hpos hzb h'H
        go_loopw [39] (fun _ wr => ∃ Y h2 : Nat, Y + h2 = h' + 1 ∧ Blk wr g5 92 #[.int .i64 0, .int .i64 Y, .int .i64 W, .int .i64 h2] ∧ But (g5 + 1) g5 w4 wr ∧ Hid (∀ y : Nat, y < Y → R y = 0)) (fun _ wr => celN wr ⟨g5, 3, none⟩)
        case atStart => exact ⟨0, h' + 1, by omega, M5.out, bu, Lib.hid fun y h1 => by omega⟩
        case round =>
          obtain ⟨Y, h2, hY, m6, bu6, HY⟩ := hrel
          clear M5 bu HM0
          have Yh : Y ≤ h' := by
            rcases Nat.lt_or_ge h' Y with c | c
            · exact absurd (HY.out h' c) HZ.out
            · exact c
          obtain ⟨k, rfl⟩ : ∃ k, h2 = k + 1 := ⟨h2 - 1, by omega⟩
          have mr := KR.out.but bu6 (by omega) (by omega)
          obtain ⟨p1, p2, p3, p4⟩ := m6.cells4
          obtain ⟨f1, f2, f3, f4⟩ := m6.frozen4
          have hc := mr.i64at (i := (Y : Int)) (by omega) (by omega)
          rw [Int.toNat_natCast] at hc
          have YH : (Y : Int) < H := by omega
          have M6 := Lib.hid m6
          have HM6 := Lib.hid (celN_of p4)
          clear m6
          by_cases hz : R Y = 0
          · rw [hz] at hc
            have HZY := Lib.hid hz
            have v1 : IntKind.i64.wrap ((Y : Int) + 1) = ((Y + 1 : Nat) : Int) := (IntWalk.i64_in _ (by omega)).trans (by omega)
            obtain ⟨kI, hkI⟩ : ∃ q : Int, ((k + 1 : Nat) : Int) = q := ⟨_, rfl⟩
            have v2 : IntKind.i64.wrap (kI - 1) = (k : Int) := (IntWalk.i64_in _ (by omega)).trans (by omega)
            rw [hkI] at p4
            have M7 := Lib.hid ((M6.out.set_ 1 (.int .i64 ((Y + 1 : Nat) : Int))).set_ 3 (.int .i64 (k : Int)))
            obtain ⟨y1, hy1⟩ : ∃ q : Int, ((Y + 1 : Nat) : Int) = q := ⟨_, rfl⟩
            rw [hy1] at v1 M7
            have HK := Lib.hid hkI
            have HY1 := Lib.hid hy1
            have bu7 := (bu6.set 1 (.int .i64 y1)).set 3 (.int .i64 (k : Int))
            clear hz hkI hy1
            go_wp2_with fail
            refine ⟨⟨Y + 1, k, by omega, ?_, bu7, Lib.hid fun y y1 => ?_⟩, ?_⟩
            · rw [HY1.out]; exact M7.out
            · by_cases e : y = Y
              · subst e; exact HZY.out
              · exact HY.out y (by omega)
            · have h9 := celN_of (show _ = some (Value.int .i64 (k : Int)) from M7.out.cell 3)
              rw [h9, HM6.out]; omega
          · have hzb : (R Y == 0) = false := by simp [hz]
            have HZY := Lib.hid hz
            clear hz
            go_wp2_with fail
            clear hc p1 p2 p3 p4 f1 f2 f3 f4 mr hzb YH
            obtain ⟨x0, hx0, hx1⟩ : ∃ x0 : Nat, x0 < W ∧ C x0 ≠ 0 := by
              have h9 := HZY.out
              rw [← HR.out, rowS_empty HP.out] at h9
              obtain ⟨i, hi⟩ := Classical.not_forall.1 h9
              have h10 : i < n ∧ (i : Int) / W = Y ∧ p i = 1 := Classical.byContradiction fun h => hi fun a b c => h ⟨a, b, c⟩
              have hW0 : 0 < W := by
                rcases Nat.eq_zero_or_pos W with e | e
                · have := HN.out; rw [e, Nat.zero_mul] at this; omega
                · exact e
              refine ⟨i % W, Nat.mod_lt _ hW0, fun e => ?_⟩
              rw [← HCC.out] at e
              exact (colS_empty HP.out _).1 e i h10.1 (Int.natCast_emod i W).symm h10.2.2
            have HX0 := Lib.hid hx1
            clear hx1
            go_loopw [53] (fun _ wr => ∃ d : Nat, d ≤ W ∧ Blk wr g5 92 #[.int .i64 0, .int .i64 Y, .int .i64 d, .int .i64 ((k + 1 : Nat) : Int)] ∧ But (g5 + 1) g5 w4 wr ∧ Hid (∀ x : Nat, x < W → d ≤ x → C x = 0)) (fun _ wr => celN wr ⟨g5, 2, none⟩)
            case atStart => exact ⟨W, Nat.le_refl _, M6.out, bu6, Lib.hid fun x h1 h2 => by omega⟩
            case round =>
              obtain ⟨d, hd, m8, bu8, HD⟩ := hrel
              clear M6 bu6 HM6
              have hdx : x0 < d := Nat.lt_of_not_le fun h => HX0.out (HD.out x0 hx0 h)
              obtain ⟨d', rfl⟩ : ∃ k, d = k + 1 := ⟨d - 1, by omega⟩
              have mc := KC.out.but bu8 (by omega) (by omega)
              obtain ⟨p1, p2, p3, p4⟩ := m8.cells4
              obtain ⟨f1, f2, f3, f4⟩ := m8.frozen4
              have hc := mc.i64at (i := (d' : Int)) (by omega) (by omega)
              rw [Int.toNat_natCast] at hc
              have dW : (d' : Int) < W := by omega
              have M8 := Lib.hid m8
              have HM8 := Lib.hid (celN_of p3)
              obtain ⟨dI, hdI⟩ : ∃ q : Int, ((d' + 1 : Nat) : Int) = q := ⟨_, rfl⟩
              have v0 : IntKind.i64.wrap dI = dI := IntWalk.i64_in _ (by omega)
              have v1 : IntKind.i64.wrap (dI - 1) = (d' : Int) := (IntWalk.i64_in _ (by omega)).trans (by omega)
              rw [hdI] at p3
              have HDI := Lib.hid hdI
              clear m8 hdI
              by_cases hz : C d' = 0
              · rw [hz] at hc
                have HZD := Lib.hid hz
                clear hz
                have M9 := Lib.hid (M8.out.set_ 2 (.int .i64 (d' : Int)))
                go_wp2_with fail
                refine ⟨⟨d', by omega, M9.out, bu8.set 2 (.int .i64 d'), Lib.hid fun x x1 x2 => ?_⟩, ?_⟩
                · by_cases e : x = d'
                  · subst e; exact HZD.out
                  · exact HD.out x x1 (by omega)
                · have h9 := celN_of (show _ = some (Value.int .i64 (d' : Int)) from M9.out.cell 2)
                  rw [h9, HM8.out]; omega
              · have hzb : (C d' == 0) = false := by simp [hz]
                have HZD := Lib.hid hz
                clear hz
                go_wp2_with fail
                clear hc p1 p2 p3 p4 f1 f2 f3 f4 mc hzb v0 v1 dW hx0 hdx
                go_loopw [67] (fun _ wr => ∃ X f : Nat, X + f = d' + 1 ∧ Blk wr g5 92 #[.int .i64 X, .int .i64 Y, .int .i64 f, .int .i64 ((k + 1 : Nat) : Int)] ∧ But (g5 + 1) g5 w4 wr ∧ Hid (∀ x : Nat, x < X → C x = 0)) (fun _ wr => celN wr ⟨g5, 2, none⟩)
                case atStart => exact ⟨0, d' + 1, by omega, M8.out, bu8, Lib.hid fun x h1 => by omega⟩
                case round =>
                  obtain ⟨X, f, hX, m10, bu10, HX⟩ := hrel
                  clear M8 bu8 HM8
                  have Xd : X ≤ d' := by
                    rcases Nat.lt_or_ge d' X with c | c
                    · exact absurd (HX.out d' c) HZD.out
                    · exact c
                  obtain ⟨l, rfl⟩ : ∃ k, f = k + 1 := ⟨f - 1, by omega⟩
                  have mc := KC.out.but bu10 (by omega) (by omega)
                  obtain ⟨p1, p2, p3, p4⟩ := m10.cells4
                  obtain ⟨f1, f2, f3, f4⟩ := m10.frozen4
                  have hc := mc.i64at (i := (X : Int)) (by omega) (by omega)
                  rw [Int.toNat_natCast] at hc
                  have XW : (X : Int) < W := by omega
                  have M10 := Lib.hid m10
                  have HM10 := Lib.hid (celN_of p3)
                  clear m10
                  by_cases hz : C X = 0
                  · rw [hz] at hc
                    have HZX := Lib.hid hz
                    have v1 : IntKind.i64.wrap ((X : Int) + 1) = ((X + 1 : Nat) : Int) := (IntWalk.i64_in _ (by omega)).trans (by omega)
                    obtain ⟨lI, hlI⟩ : ∃ q : Int, ((l + 1 : Nat) : Int) = q := ⟨_, rfl⟩
                    have v2 : IntKind.i64.wrap (lI - 1) = (l : Int) := (IntWalk.i64_in _ (by omega)).trans (by omega)
                    rw [hlI] at p3
                    have M11 := Lib.hid ((M10.out.set_ 0 (.int .i64 ((X + 1 : Nat) : Int))).set_ 2 (.int .i64 (l : Int)))
                    obtain ⟨x1, hx1⟩ : ∃ q : Int, ((X + 1 : Nat) : Int) = q := ⟨_, rfl⟩
                    rw [hx1] at v1 M11
                    have HX1 := Lib.hid hx1
                    have bu11 := (bu10.set 0 (.int .i64 x1)).set 2 (.int .i64 (l : Int))
                    clear hz hlI hx1
                    go_wp2_with fail
                    refine ⟨⟨X + 1, l, by omega, ?_, bu11, Lib.hid fun x x1 => ?_⟩, ?_⟩
                    · rw [HX1.out]; exact M11.out
                    · by_cases e : x = X
                      · subst e; exact HZX.out
                      · exact HX.out x (by omega)
                    · have h9 := celN_of (show _ = some (Value.int .i64 (l : Int)) from M11.out.cell 2)
                      rw [h9, HM10.out]; omega
                  · have hzb : (C X == 0) = false := by simp [hz]
                    have HZX := Lib.hid hz
                    clear hz
                    have hW0 : 0 < W := by omega
                    have BX : IsBox W (inkL n p) ((X : Int), (Y : Int), ((d' + 1 - X : Nat) : Int), ((h' + 1 - Y : Nat) : Int)) := by
                      have r1 := HE.out; have r2 := HY.out; have r3 := HZY.out; have r4 := HZ.out; have r5 := HD.out; have r6 := HX.out; have r7 := HZX.out; have r8 := HZD.out
                      rw [← HR.out] at r1 r2 r3 r4
                      rw [← HCC.out] at r5 r6 r7 r8
                      exact box_of hW0 HN.out HP.out r1 r2 r3 r4 (by omega) hh r5 r6 r7 r8 (by omega) hd
                    rw [show d' + 1 - X = l + 1 by omega, show h' + 1 - Y = k + 1 by omega] at BX
                    have HBX := Lib.hid BX
                    have bE : Below w.heap.size w wr := HB4.out.trans (bu10.to ZZ.out (by omega) (by omega))
                    have m2 := K2.out.but bu10 (by omega) (by omega)
                    obtain ⟨e1, e2, e3, e4⟩ := m2.frozen4
                    obtain ⟨d1, d2, d3, d4⟩ := m2.cells4
                    obtain ⟨lI, hlI⟩ : ∃ q : Int, ((l + 1 : Nat) : Int) = q := ⟨_, rfl⟩
                    obtain ⟨kI, hkI⟩ : ∃ q : Int, ((k + 1 : Nat) : Int) = q := ⟨_, rfl⟩
                    rw [hlI] at p3 HBX
                    rw [hkI] at p4 HBX
                    have k9 := (((m2.set_ 0 (.int .i64 (X : Int))).set_ 1 (.int .i64 (Y : Int))).set_ 2 (.int .i64 lI)).set_ 3 (.int .i64 kI)
                    obtain ⟨s1, s2, s3, s4⟩ := Blk.cells4 (a := .int .i64 (X : Int)) (b := .int .i64 (Y : Int)) (c := .int .i64 lI) (d := .int .i64 kI) k9
                    have bE9 := (((bE.setCell (p := ⟨w.heap.size + 1, 0, none⟩) (by show w.heap.size ≤ w.heap.size + 1; omega) (.int .i64 (X : Int))).setCell (p := ⟨w.heap.size + 1, 1, none⟩) (by show w.heap.size ≤ w.heap.size + 1; omega) (.int .i64 (Y : Int))).setCell (p := ⟨w.heap.size + 1, 2, none⟩) (by show w.heap.size ≤ w.heap.size + 1; omega) (.int .i64 lI)).setCell (p := ⟨w.heap.size + 1, 3, none⟩) (by show w.heap.size ≤ w.heap.size + 1; omega) (.int .i64 kI)
                    clear BX hlI hkI bE M10 HM10 HE HY HZY HZ HD HX HZX HZD bu10
                    go_wp2_with fail
                    refine bodyPost_ret (v := boxV ((X : Int), (Y : Int), lI, kI)) (by simp [results, Try.results75, go_sem, boxV, s1, s2, s3, s4]) rfl ?_
                    exact ⟨_, rfl, HBX.out, bE9⟩
end Go.Proofs.Ytoonkpjddfiopaa
