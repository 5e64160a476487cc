/- Walk: the reference's staves of any lines (custosref03.Staves), by recursion. -/
import Derived.Test.YtdimlpcbbkokiaaT30
import Derived.Test.YtdimlpcbbkokiaaT31
import Derived.Laws.AppendOwnNone
namespace Go.Proofs.Ytdimlpcbbkokiaa
open Go.RowKit Go.Shelf
set_option linter.unusedVariables false
attribute [local go_sem] Oper.semAt_some

theorem addr_add (b off i : Nat) : (⟨b, off, none⟩ : Addr).add i = ⟨b, off + i, none⟩ := by
  unfold Addr.add; split
  · rename_i e; rw [e]; rfl
  · rfl
theorem LinesZ.sub {w : World} {B b off K i n : Nat} {m : Nat → Nat} {ln : Nat → Nat → Int} (h : LinesZ w B (some ⟨b, off, none⟩) K m ln) (hi : i + n ≤ K) : LinesZ w B (some ⟨b, off + i, none⟩) n (fun j => m (i + j)) (fun j => ln (i + j)) := by
  obtain ⟨vs, h1, h2⟩ := h
  refine ⟨fun j => vs (i + j), fun hn => ?_, fun j hj => h2 (i + j) (by omega)⟩
  obtain ⟨b', off', e, hb, hc⟩ := h1 (by omega)
  cases e
  refine ⟨b, off + i, rfl, hb, fun j j0 j1 => ?_⟩
  have := hc ((i : Int) + j) (by omega) (by omega)
  rw [show ((i : Int) + j).toNat = i + j.toNat by omega] at this
  rw [Nat.add_assoc]
  refine this.trans ?_
  show some (vs ((i : Int) + j).toNat) = some (vs (i + j.toNat))
  rw [show ((i : Int) + j).toNat = i + j.toNat by omega]
theorem LinesZ.none {w : World} {B : Nat} (A : Option Addr) (m : Nat → Nat) (ln : Nat → Nat → Int) : LinesZ w B A 0 m ln := ⟨fun _ => default, Arr.nil, fun i hi => by omega⟩
theorem LinesZ.shift {w : World} {B K i j : Nat} {A : Option Addr} {m : Nat → Nat} {ln : Nat → Nat → Int} (h : LinesZ w B A K (fun t => m (i + (j + t))) (fun t => ln (i + (j + t)))) : LinesZ w B A K (fun t => m (i + j + t)) (fun t => ln (i + j + t)) := by
  simpa only [Nat.add_assoc] using h
theorem StOut.cons {B : Nat} {w w' : World} {m : Nat → Nat} {ln : Nat → Nat → Int} {st : List Nat} {i : Nat} {vr vo' vq u : Value} {vs vu : Nat → Value} {n : Nat} {xs : List Value} (h : StOut B w m ln st vr vs) (hu : FoundM B w (fun j => m (i + j)) (fun j => ln (i + j)) 5 u vu)
    (hq : w.ownsRow B 54 1 vq n xs) (hg : w.grownBy w' vq.ownBlock) (hr : w'.ownsRow B 54 1 vo' (1 + st.length) ([u] ++ (List.range st.length).map vs)) : StOut B w' m ln (i :: st) vo' (fun t => match t with | 0 => u | t + 1 => vs t) := by
  refine ⟨?_, fun t ht => ?_⟩
  · rw [List.length_cons, List.range_succ_eq_map, List.map_cons, List.map_map, Nat.add_comm]
    exact hr
  · cases t with
    | zero => exact ⟨vu, hu.grownBlk hq hg⟩
    | succ t =>
      obtain ⟨v, hv⟩ := h.each t (by simpa using ht)
      exact ⟨v, hv.grownBlk hq hg⟩

set_option maxRecDepth 100000 in
set_option maxHeartbeats 4000000 in
theorem rstaves_ind (K : Nat) (m : Nat → Nat) (ln : Nat → Nat → Int) (hK : K ≤ 1000) (hm : ∀ i, i < K → m i ≤ 1000000) (hb : ∀ i j, i < K → j < m i → -1099511627776 ≤ ln i j ∧ ln i j ≤ 1099511627776) (n : Nat) :
    ∀ (i : Nat) (A : Option Addr) (c : Nat) (w : World), i + n = K → n ≤ c → c ≤ 17592186044416 → LinesZ w w.heap.size A n (fun j => m (i + j)) (fun j => ln (i + j)) →
    Calls Try.prog 36 #[.slice A n c] w (New w fun v w' => ∃ vs, StOut w.heap.size w' m ln (stS (eB m ln) n i) v vs) := by
  induction n using Nat.strongRecOn with
  | _ n ih =>
  intro i A c w hi hc hcm hL
  by_cases h5 : n < 5
  · have h5' : (n : Int) < 5 := by omega
    have HS := Lib.hid (stS_few (e := eB m ln) (i := i) h5)
    clear ih
    go_enter Try.func36, Try.ntmps36
    go_wp2
    go_ret
    exact ⟨_, rfl, ⟨fun _ => default, by rw [HS.out]; exact StOut.nil _ _ _ _ _⟩, Below.refl _ _⟩
  · obtain ⟨b, off, A0, c0, rfl, hbB, -, -, -⟩ := hL.at_ (i := 0) (by omega)
    have h5' : ¬ (n : Int) < 5 := by omega
    have h5c : (5 : Int) ≤ (c : Int) := by omega
    have h5d : 5 ≤ c := by omega
    have h5e : 5 ≤ n := by omega
    have GR := Lib.hid fun c' w' hL' => group_any (some ⟨b, off, none⟩) c' (fun j => m (i + j)) (fun j => ln (i + j)) w' hL' (fun j hj => hm (i + j) (by omega)) (fun j t hj ht => hb (i + j) t (by omega) ht)
    have L5 : LinesZ w w.heap.size (some ⟨b, off, none⟩) 5 (fun j => m (i + j)) (fun j => ln (i + j)) := by
      have := hL.sub (i := 0) (n := 5) (by omega)
      simpa using this
    cases hev : eB m ln i with
    | false =>
      have IH := Lib.hid fun w' hL' => ih (n - 1) (by omega) (i + 1) (some ⟨b, off + 1, none⟩) (c - 1) w' (by omega) (by omega) (by omega) hL'
      have LN' : LinesZ w w.heap.size (some ⟨b, off + 1, none⟩) (n - 1) (fun j => m (i + 1 + j)) (fun j => ln (i + 1 + j)) := (hL.sub (i := 1) (n := n - 1) (by omega)).shift
      have HS := Lib.hid (stS_no (e := eB m ln) (i := i) h5e hev)
      rw [show evenB (fun j => m (i + j)) (fun j => ln (i + j)) = false from hev] at GR
      clear ih hev hm hb
      go_enter Try.func36, Try.ntmps36
      go_wp2_with fail
      refine (GR.out _ _ L5.lines).mono ?_
      rintro e w1 ⟨rfl, hb1⟩
      go_wp2_with fail
      refine (IH.out _ (LN'.below hb1)).mono ?_
      rintro e w2 ⟨v, rfl, ⟨vs, hS⟩, hb2⟩
      have b2 : Below w.heap.size w w2 := below_call hb1 hb1.size hb2
      have z1 := hb1.size
      go_wp2
      go_ret
      exact ⟨_, rfl, ⟨vs, by rw [HS.out]; exact hS.base z1⟩, b2⟩
    | true =>
      have IH := Lib.hid fun A' c' w' hc1 hc2 hL' => ih (n - 5) (by omega) (i + 5) A' c' w' (by omega) hc1 hc2 hL'
      have LN' : LinesZ w w.heap.size (some ⟨b, off + 5, none⟩) (n - 5) (fun j => m (i + 5 + j)) (fun j => ln (i + 5 + j)) := (hL.sub (i := 5) (n := n - 5) (by omega)).shift
      by_cases hc5 : c = 5
      · obtain rfl : n = 5 := by omega
        subst hc5
        have CL := Lib.hid fun c' w' hL' => copyLists_any (some ⟨b, off, none⟩) 5 c' (fun j => m (i + j)) (fun j => ln (i + j)) w' hL' (by omega) (fun j hj => by have := hm (i + j) (by omega); omega)
        have HS := Lib.hid (stS_yes (e := eB m ln) (i := i) h5e hev)
        obtain ⟨s0, hs0, hsz0, hsz1, hsz2⟩ := info_parts infoLines
        rw [show evenB (fun j => m (i + j)) (fun j => ln (i + j)) = true from hev] at GR
        clear ih hev hm hb
        go_enter Try.func36, Try.ntmps36
        go_wp2_with fail
        refine (GR.out _ _ L5.lines).mono ?_
        rintro e w1 ⟨rfl, hb1⟩
        go_wp2_with fail
        refine (CL.out _ _ (L5.below hb1)).mono ?_
        rintro e w2 ⟨v5, rfl, ⟨vu, hF⟩, hb2⟩
        obtain ⟨Au, cu, rfl, -, -⟩ := own_arr hF.row
        have b2 : Below w.heap.size w w2 := below_call hb1 hb1.size hb2
        have b3 : Below w.heap.size w (w2.alloc (.cells #[.slice Au 5 cu] 54)) := b2.alloc b2.size _
        have k3 := Blk.new w2 54 #[.slice Au 5 cu]
        have F3 := (hF.base hb1.size).alloc (.cells #[.slice Au 5 cu] 54)
        have z2 := b2.size
        clear hF hb2
        go_wp2_with fail
        generalize hw3 : w2.alloc (.cells #[.slice Au 5 cu] 54) = w3 at *
        generalize hg2 : w2.heap.size = g2 at *
        clear hw3
        refine (IH.out (some ⟨b, off, none⟩) 0 w3 (by omega) (by omega) (LinesZ.none _ _ _)).mono ?_
        rintro e w4 ⟨vr, rfl, ⟨vs, hS⟩, hb4⟩
        have b4 := below_call b3 b3.size hb4
        have k4 := k3.below' hb4
        have F4 := F3.below hb4
        have z3 := b3.size
        have S4 := hS.base z3
        have own4 : w4.ownsRow w.heap.size 54 1 (.slice (some ⟨g2, 0, none⟩) 1 1) 1 [.slice Au 5 cu] := own_one k4 z2
        have SL := stS_len (e := eB m ln) (n := 5 - 5) (i := i + 5)
        obtain ⟨Ar, cr, rfl, -, har⟩ := own_arr S4.row
        clear k3 F3 hS hb4 b3
        rcases S4.row.2 with ⟨hnil, hz⟩ | ⟨gr, capr, curr, hvr, -⟩
        · have hz' : (stS (eB m ln) (5 - 5) (i + 5)).length = 0 := hz
          have hcr : cr = 0 := by simp at hnil; exact hnil.2.2
          have hAr : Ar = none := by simp at hnil; exact hnil.1
          subst hAr
          subst hcr
          have HZ := Lib.hid hz'
          rw [hz']
          have hst : Hid (stS (eB m ln) 5 i = [i]) := by show _ = _; rw [HS.out, List.length_eq_zero_iff.1 hz']
          go_wp2_with (at_builtin; refine wpList_append_own_none rfl (.tmp 19) (.tmp 22) 56 rfl w.heap.size 54 s0 1 Try.underlying56 hs0 _ 1 [.slice Au 5 cu] rfl own4 rfl ?_)
          go_wp2
          go_ret
          refine ⟨_, rfl, ⟨fun _ => .slice Au 5 cu, ?_⟩, b4⟩
          rw [hst.out]
          refine ⟨own4, fun t ht => ?_⟩
          obtain rfl : t = 0 := by simpa using ht
          exact ⟨vu, F4⟩
        · obtain ⟨L, hL'⟩ : ∃ L, (stS (eB m ln) (5 - 5) (i + 5)).length = L := ⟨_, rfl⟩
          obtain ⟨rfl, rfl⟩ : Ar = some ⟨gr, 0, none⟩ ∧ cr = capr := by simp at hvr; exact ⟨hvr.1, hvr.2⟩
          have ONE : ∀ u ∈ (List.range L).map vs, u.oneCell' = true := fun u hu => by
            obtain ⟨t, ht, rfl⟩ := List.mem_map.1 hu
            have ht := List.mem_range.1 ht
            obtain ⟨v, hv⟩ := S4.each t (by omega)
            obtain ⟨A9, c9, e9, -, -⟩ := own_arr hv.row
            rw [e9]; rfl
          have CEL : ∀ (j : Nat) (u : Value), ((List.range L).map vs)[j]? = some u → w4.cell? ((⟨gr, 0, none⟩ : Addr).add j) = some u := fun j u hj => by
            have hjn : j < L := by
              rcases Nat.lt_or_ge j L with h | h
              · exact h
              · rw [List.getElem?_eq_none (by simpa using h)] at hj; cases hj
            obtain ⟨b9, o9, e9, -, hc9'⟩ := Arr.at_ har (i := (j : Int)) (by omega) (by omega)
            cases e9
            rw [Int.toNat_natCast, Nat.zero_add, hL', List.getD_eq_getElem?_getD, hj] at hc9'
            have hadd : (⟨gr, 0, none⟩ : Addr).add j = ⟨gr, j, none⟩ := by rw [addr_add, Nat.zero_add]
            rw [hadd]; exact hc9'
          have HLL := Lib.hid hL'
          have HS4 := Lib.hid S4
          have HONE := Lib.hid ONE; have HCEL := Lib.hid CEL
          rw [hL'] at SL ⊢
          clear hL' har S4 ONE CEL hvr
          go_wp2_with (at_builtin; refine wpList_append_own _ rfl (.tmp 19) (.tmp 22) 56 rfl w.heap.size 54 s0 (.agg #[.slice none 0 0]) 1 24 Try.underlying56 hs0 hsz0 hsz1 hsz2 rfl (by decide) _ 1 [.slice Au 5 cu] rfl own4 ⟨gr, 0, none⟩ L cr ((List.range L).map vs) rfl (by simp) ?c1 ?c2 ?c3 ?c4 ?c5 ?_)
          try (case c1 => exact HCEL.out)
          try (case c2 => exact HONE.out)
          try (case c3 => unfold maxLen; omega)
          try (case c4 => omega)
          try (case c5 => first | omega | (have := b4.size; omega))
          intro v' w7 own7 hg7 _
          have b7 : Below w.heap.size w w7 := b4.grown hg7 b4.size (fun k hk => (own_ge own4 hk).1)
          rw [← HLL.out] at own7
          have S7 := HS4.out.cons F4 own4 hg7 own7
          obtain ⟨A9, c9, rfl, -, -⟩ := own_arr own7
          go_wp2
          go_ret
          exact ⟨_, rfl, ⟨_, by rw [HS.out]; exact S7⟩, b7⟩
      · have hc6 : ¬ c ≤ 5 := by omega
        have hc7 : ¬ (c : Int) ≤ 5 := by omega
        have hc8 : 5 < c := by omega
        have hc9 : ¬ (c - 5 = 0) := by omega
        have CL := Lib.hid fun c' w' hL' => copyLists_any (some ⟨b, off, none⟩) 5 c' (fun j => m (i + j)) (fun j => ln (i + j)) w' hL' (by omega) (fun j hj => by have := hm (i + j) (by omega); omega)
        have HS := Lib.hid (stS_yes (e := eB m ln) (i := i) h5e hev)
        obtain ⟨s0, hs0, hsz0, hsz1, hsz2⟩ := info_parts infoLines
        rw [show evenB (fun j => m (i + j)) (fun j => ln (i + j)) = true from hev] at GR
        clear ih hev hm hb
        go_enter Try.func36, Try.ntmps36
        go_wp2_with fail
        refine (GR.out _ _ L5.lines).mono ?_
        rintro e w1 ⟨rfl, hb1⟩
        go_wp2_with fail
        refine (CL.out _ _ (L5.below hb1)).mono ?_
        rintro e w2 ⟨v5, rfl, ⟨vu, hF⟩, hb2⟩
        obtain ⟨Au, cu, rfl, -, -⟩ := own_arr hF.row
        have b2 : Below w.heap.size w w2 := below_call hb1 hb1.size hb2
        have b3 : Below w.heap.size w (w2.alloc (.cells #[.slice Au 5 cu] 54)) := b2.alloc b2.size _
        have k3 := Blk.new w2 54 #[.slice Au 5 cu]
        have F3 := (hF.base hb1.size).alloc (.cells #[.slice Au 5 cu] 54)
        have z2 := b2.size
        clear hF hb2
        go_wp2_with fail
        generalize hw3 : w2.alloc (.cells #[.slice Au 5 cu] 54) = w3 at *
        generalize hg2 : w2.heap.size = g2 at *
        clear hw3
        refine (IH.out (some ⟨b, off + 5, none⟩) (c - 5) w3 (by omega) (by omega) (LN'.below b3)).mono ?_
        rintro e w4 ⟨vr, rfl, ⟨vs, hS⟩, hb4⟩
        have b4 := below_call b3 b3.size hb4
        have k4 := k3.below' hb4
        have F4 := F3.below hb4
        have z3 := b3.size
        have S4 := hS.base z3
        have own4 : w4.ownsRow w.heap.size 54 1 (.slice (some ⟨g2, 0, none⟩) 1 1) 1 [.slice Au 5 cu] := own_one k4 z2
        have SL := stS_len (e := eB m ln) (n := n - 5) (i := i + 5)
        obtain ⟨Ar, cr, rfl, -, har⟩ := own_arr S4.row
        clear k3 F3 hS hb4 b3
        rcases S4.row.2 with ⟨hnil, hz⟩ | ⟨gr, capr, curr, hvr, -⟩
        · have hz' : (stS (eB m ln) (n - 5) (i + 5)).length = 0 := hz
          have hcr : cr = 0 := by simp at hnil; exact hnil.2.2
          have hAr : Ar = none := by simp at hnil; exact hnil.1
          subst hAr
          subst hcr
          have HZ := Lib.hid hz'
          rw [hz']
          have hst : Hid (stS (eB m ln) n i = [i]) := by show _ = _; rw [HS.out, List.length_eq_zero_iff.1 hz']
          go_wp2_with (at_builtin; refine wpList_append_own_none rfl (.tmp 19) (.tmp 22) 56 rfl w.heap.size 54 s0 1 Try.underlying56 hs0 _ 1 [.slice Au 5 cu] rfl own4 rfl ?_)
          go_wp2
          go_ret
          refine ⟨_, rfl, ⟨fun _ => .slice Au 5 cu, ?_⟩, b4⟩
          rw [hst.out]
          refine ⟨own4, fun t ht => ?_⟩
          obtain rfl : t = 0 := by simpa using ht
          exact ⟨vu, F4⟩
        · obtain ⟨L, hL'⟩ : ∃ L, (stS (eB m ln) (n - 5) (i + 5)).length = L := ⟨_, rfl⟩
          obtain ⟨rfl, rfl⟩ : Ar = some ⟨gr, 0, none⟩ ∧ cr = capr := by simp at hvr; exact ⟨hvr.1, hvr.2⟩
          have ONE : ∀ u ∈ (List.range L).map vs, u.oneCell' = true := fun u hu => by
            obtain ⟨t, ht, rfl⟩ := List.mem_map.1 hu
            have ht := List.mem_range.1 ht
            obtain ⟨v, hv⟩ := S4.each t (by omega)
            obtain ⟨A9, c9, e9, -, -⟩ := own_arr hv.row
            rw [e9]; rfl
          have CEL : ∀ (j : Nat) (u : Value), ((List.range L).map vs)[j]? = some u → w4.cell? ((⟨gr, 0, none⟩ : Addr).add j) = some u := fun j u hj => by
            have hjn : j < L := by
              rcases Nat.lt_or_ge j L with h | h
              · exact h
              · rw [List.getElem?_eq_none (by simpa using h)] at hj; cases hj
            obtain ⟨b9, o9, e9, -, hc9'⟩ := Arr.at_ har (i := (j : Int)) (by omega) (by omega)
            cases e9
            rw [Int.toNat_natCast, Nat.zero_add, hL', List.getD_eq_getElem?_getD, hj] at hc9'
            have hadd : (⟨gr, 0, none⟩ : Addr).add j = ⟨gr, j, none⟩ := by rw [addr_add, Nat.zero_add]
            rw [hadd]; exact hc9'
          have HLL := Lib.hid hL'
          have HS4 := Lib.hid S4
          have HONE := Lib.hid ONE; have HCEL := Lib.hid CEL
          rw [hL'] at SL ⊢
          clear hL' har S4 ONE CEL hvr
          go_wp2_with (at_builtin; refine wpList_append_own _ rfl (.tmp 19) (.tmp 22) 56 rfl w.heap.size 54 s0 (.agg #[.slice none 0 0]) 1 24 Try.underlying56 hs0 hsz0 hsz1 hsz2 rfl (by decide) _ 1 [.slice Au 5 cu] rfl own4 ⟨gr, 0, none⟩ L cr ((List.range L).map vs) rfl (by simp) ?c1 ?c2 ?c3 ?c4 ?c5 ?_)
          try (case c1 => exact HCEL.out)
          try (case c2 => exact HONE.out)
          try (case c3 => unfold maxLen; omega)
          try (case c4 => omega)
          try (case c5 => first | omega | (have := b4.size; omega))
          intro v' w7 own7 hg7 _
          have b7 : Below w.heap.size w w7 := b4.grown hg7 b4.size (fun k hk => (own_ge own4 hk).1)
          rw [← HLL.out] at own7
          have S7 := HS4.out.cons F4 own4 hg7 own7
          obtain ⟨A9, c9, rfl, -, -⟩ := own_arr own7
          go_wp2
          go_ret
          exact ⟨_, rfl, ⟨_, by rw [HS.out]; exact S7⟩, b7⟩
end Go.Proofs.Ytdimlpcbbkokiaa
