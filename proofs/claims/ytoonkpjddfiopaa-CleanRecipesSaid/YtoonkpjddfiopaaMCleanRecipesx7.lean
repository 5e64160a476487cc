/- Texts of mine in build order: K3. Conditions: each theorem's own. -/
import Derived.Test.YtoonkpjddfiopaaMCleanRecipesx6
import Derived.OrdersHeld
/- Walk: clean.Apply. -/
namespace Go.Proofs.Ytoonkpjddfiopaa
open Go.RowKit
set_option linter.unusedVariables false

/-- the error of Apply -/
def appE (W H : Int) (n : Nat) (p : Int → Int) (r0 r1 r2 : Int) : Int :=
  if levE W H n ≠ 0 then levE W H n else if r0 < 0 ∨ 256 < r0 ∨ r1 < -3 ∨ 3 < r1 ∨ r2 < 0 then 1 else movE W H n (thrQ p r0) r1 (-1)
/-- the image that Apply returns -/
noncomputable def appQ (W H : Int) (p : Int → Int) (r0 r1 r2 : Int) (N : Nat) : Int → Int := bgQ N W.toNat (movQ W H (thrQ p r0) r1 (-1)) r2
theorem thrQ_01 (p : Int → Int) (lv i : Int) : thrQ p lv i = 0 ∨ thrQ p lv i = 1 := by unfold thrQ; split <;> simp
theorem isB_thr (p : Int → Int) (lv : Int) : IsB (thrQ p lv) := fun i => by rcases thrQ_01 p lv i with h | h <;> omega
theorem movQ_01 {W H : Int} {p : Int → Int} {k way : Int} (hp : ∀ i, p i = 0 ∨ p i = 1) (i : Int) : movQ W H p k way i = 0 ∨ movQ W H p k way i = 1 := by
  unfold movQ; split
  · exact hp _
  · exact .inl rfl
theorem chk_thr {W H : Int} {n : Nat} {p : Int → Int} {lv : Int} (h : sidesB W H n = true) : chk W H n (thrQ p lv) = 0 := by
  obtain ⟨a, b, c, d, e⟩ := sidesB_iff.1 h
  exact chk_mk a b c d e fun i _ _ => by rcases thrQ_01 p lv i with h | h <;> omega
theorem levE_ok {W H : Int} {n : Nat} (h : levE W H n = 0) : sidesB W H n = true := by
  unfold levE at h; split at h
  · assumption
  · cases h
theorem thrE_ok {W H lv : Int} {n : Nat} (h : sidesB W H n = true) (h0 : 0 ≤ lv) (h1 : lv ≤ 256) : thrE W H n lv = 0 := by
  unfold thrE; rw [if_pos h, if_neg (by omega)]

set_option maxRecDepth 100000 in
set_option maxHeartbeats 8000000 in
theorem apply_any (W H r0 r1 r2 : Int) (A : Option Addr) (n c : Nat) (p : Int → Int) (E Wm Hm : Int) (N : Nat) (w : World) (hA : ArrB w w.heap.size A n p) (hn : n ≤ maxLen) (hB : IsB p) (hE : appE W H n p r0 r1 r2 = E) (hs : MSize W H (-grt W r1) E Wm Hm N) :
    Calls Try.prog 7 #[.agg #[.int .i64 W, .int .i64 H, .slice A n c], .agg #[.int .i64 r0, .int .i64 r1, .int .i64 r2]] w (New w fun v w' => OutT w w' E Wm Hm N (appQ W H p r0 r1 r2 N) v) := by
  have CK := Lib.hid fun w' => checkGrey_any W H A n c w'
  have b1 : Below w.heap.size w (((w.alloc (.cells #[.int .i64 W, .int .i64 H, .slice A n c] 24)).alloc (.cells #[.int .i64 r0, .int .i64 r1, .int .i64 r2] 26)).alloc (.cells #[.int .i64 0, .int .i64 0, .slice none 0 0] 29)) := by (repeat (first | exact Below.refl _ _ | assumption | refine Below.drew ?_ | refine below_drewN ?_ _ | refine Below.alloc ?_ (by first | omega | (simp; done) | (simp; omega)) _ | refine Below.setCell ?_ (by first | omega | (simp; done) | (simp; omega)) _ | refine below_setRow ?_ (by first | omega | (simp; done) | (simp; omega)) _ ))
  have k1 : Blk (((w.alloc (.cells #[.int .i64 W, .int .i64 H, .slice A n c] 24)).alloc (.cells #[.int .i64 r0, .int .i64 r1, .int .i64 r2] 26)).alloc (.cells #[.int .i64 0, .int .i64 0, .slice none 0 0] 29)) w.heap.size 24 #[.int .i64 W, .int .i64 H, .slice A n c] := ((Blk.new _ _ _).alloc _).alloc _
  have k2 : Blk (((w.alloc (.cells #[.int .i64 W, .int .i64 H, .slice A n c] 24)).alloc (.cells #[.int .i64 r0, .int .i64 r1, .int .i64 r2] 26)).alloc (.cells #[.int .i64 0, .int .i64 0, .slice none 0 0] 29)) (w.heap.size + 1) 26 #[.int .i64 r0, .int .i64 r1, .int .i64 r2] := (Blk.new' (by simp) _ _).alloc _
  have k3 : Blk (((w.alloc (.cells #[.int .i64 W, .int .i64 H, .slice A n c] 24)).alloc (.cells #[.int .i64 r0, .int .i64 r1, .int .i64 r2] 26)).alloc (.cells #[.int .i64 0, .int .i64 0, .slice none 0 0] 29)) (w.heap.size + 1 + 1) 29 #[.int .i64 0, .int .i64 0, .slice none 0 0] := Blk.new' (by simp) _ _
  have HA := Lib.hid hA
  cases hsd : sidesB W H n with
  | false =>
    have hE2 : E = 2 := by rw [← hE]; unfold appE levE; rw [hsd]; rfl
    subst hE2
    have HS := Lib.hid (hs.bad (by decide))
    rw [hsd] at CK
    clear hs hE hsd
    go_enter Try.func7, Try.ntmps7
    go_wp2_with fail
    generalize ((w.alloc (.cells #[.int .i64 W, .int .i64 H, .slice A n c] 24)).alloc (.cells #[.int .i64 r0, .int .i64 r1, .int .i64 r2] 26)).alloc (.cells #[.int .i64 0, .int .i64 0, .slice none 0 0] 29) = w1 at *
    refine (CK.out _).mono ?_
    rintro e w2 ⟨rfl, hb2⟩
    have b2 := below_call b1 b1.size hb2
    have k4 := k3.below' hb2
    obtain ⟨r1', r2', r3⟩ := k4.cells3
    obtain ⟨f1, f2, f3⟩ := k4.frozen3
    have k9 := ((k4.set_ 0 (.int .i64 0)).set_ 1 (.int .i64 0)).set_ 2 (.slice none 0 0)
    obtain ⟨s1, s2, s3⟩ := Blk.cells3 (a := .int .i64 0) (b := .int .i64 0) (c := .slice none 0 0) k9
    go_wp2_with fail
    refine bodyPost_ret (v := .tuple #[noImg, .int .i64 2]) (by simp [results, Try.results7, go_sem, noImg, s1, s2, s3]) rfl ?_
    exact ⟨_, rfl, outM_bad HS.out, by (repeat (first | with_reducible exact Below.refl _ _ | with_reducible assumption | with_reducible refine Below.drew ?_ | (with_reducible refine below_alloc' ?_ ?_; focus (first | omega | (simp; done) | (simp; omega))) | (with_reducible refine below_fill3' ?_ ?_; focus omega) | (with_reducible refine below_setCell' ?_ ?_; focus (first | omega | (simp; done) | (simp; omega))) | (with_reducible apply below_call'; (focus (with_reducible assumption)); (focus (first | omega | (simp; done) | (simp; omega))))))⟩
  | true =>
    rw [hsd] at CK
    have HSD := Lib.hid hsd
    have hE1 : Hid (E = if r0 < 0 ∨ 256 < r0 ∨ r1 < -3 ∨ 3 < r1 ∨ r2 < 0 then 1 else movE W H n (thrQ p r0) r1 (-1)) := by
      show _ = _
      rw [← hE]; unfold appE levE; rw [if_pos hsd, if_neg (by simp)]
    have HS := Lib.hid hs
    have HB := Lib.hid hB
    have HNN := Lib.hid hn
    obtain ⟨bad, hbad⟩ : ∃ b, decide (r0 < 0 ∨ 256 < r0 ∨ r1 < -3 ∨ 3 < r1 ∨ r2 < 0) = b := ⟨_, rfl⟩
    have HBD := Lib.hid hbad
    clear hs hE hsd hbad hB hn hA
    go_enter Try.func7, Try.ntmps7
    go_wp2_with fail
    generalize ((w.alloc (.cells #[.int .i64 W, .int .i64 H, .slice A n c] 24)).alloc (.cells #[.int .i64 r0, .int .i64 r1, .int .i64 r2] 26)).alloc (.cells #[.int .i64 0, .int .i64 0, .slice none 0 0] 29) = w1 at *
    refine (CK.out _).mono ?_
    rintro e w2 ⟨rfl, hb2⟩
    have b2 := below_call b1 b1.size hb2
    have m1 := k1.below' hb2
    have m2 := k2.below' hb2
    have m3 := k3.below' hb2
    clear k1 k2 k3 hb2 b1 CK
    go_upto_region 4 with fail
    go_cut [37] (fun t wx => t = .bool bad ∧ Below w2.heap.size w2 wx)
    case first =>
      have KS := Lib.hid fun w' (hb : Below w2.heap.size w2 w') => (show w'.cell? ⟨w.heap.size + 1, 0, none⟩ = some (.int .i64 r0) ∧ w'.cell? ⟨w.heap.size + 1, 1, none⟩ = some (.int .i64 r1) ∧ w'.cell? ⟨w.heap.size + 1, 2, none⟩ = some (.int .i64 r2) from (m2.below' hb).cells3)
      have hr := HBD.out
      clear m1 m3 HS HB HNN HSD hE1 HA b2
      by_cases c1 : r0 < 0
      · obtain rfl : true = bad := by rw [← hr]; simp [c1]
        clear hr HBD
        refine wp_region_held_drew (S := fun w' => w'.cell? ⟨w.heap.size + 1, 0, none⟩ = some (.int .i64 r0) ∧ w'.cell? ⟨w.heap.size + 1, 1, none⟩ = some (.int .i64 r1) ∧ w'.cell? ⟨w.heap.size + 1, 2, none⟩ = some (.int .i64 r2)) (by kernel_rfl) (KS.out _ (Below.refl _ _).drew) (fun hHeld => ?_)
        refine wpAnyH_take (i := 0) (oi := _) (v := ?_) (by simp only [List.getElem?_toArray, List.getElem?_cons_zero]; exact rfl) (by kernel_rfl) (by kernel_rfl) (by kernel_rfl) (by exact fun _ _ _ h => h) (Or.inl ⟨by rfl, ?_⟩) (by assumption) ?_
        rotate_left 1
        · intro w hSw
          (try dsimp only at hSw)
          go_simp
          try with_reducible rfl
        try simp only [Act.put, List.setIfInBounds_toArray, List.set_cons_zero, List.set_cons_succ]
        refine wpAnyH_take (i := 1) (oi := _) (v := ?_) (by simp only [List.getElem?_toArray, List.getElem?_cons_zero, List.getElem?_cons_succ]; exact rfl) (by kernel_rfl) (by kernel_rfl) (by kernel_rfl) (by exact fun _ _ _ h => h) (Or.inl ⟨by rfl, ?_⟩) (by assumption) ?_
        rotate_left 1
        · intro w hSw
          (try dsimp only at hSw)
          go_simp
          try with_reducible rfl
        try simp only [Act.put, List.setIfInBounds_toArray, List.set_cons_zero, List.set_cons_succ]
        refine wpAnyH_take (i := 2) (oi := _) (v := ?_) (by simp only [List.getElem?_toArray, List.getElem?_cons_zero, List.getElem?_cons_succ]; exact rfl) (by kernel_rfl) (by kernel_rfl) (by kernel_rfl) (by exact fun _ _ _ h => h) (Or.inl ⟨by rfl, ?_⟩) (by assumption) ?_
        rotate_left 1
        · intro w hSw
          (try dsimp only at hSw)
          go_simp
          try with_reducible rfl
        try simp only [Act.put, List.setIfInBounds_toArray, List.set_cons_zero, List.set_cons_succ]
        refine wpAnyH_take (i := 3) (oi := _) (v := ?_) (by simp only [List.getElem?_toArray, List.getElem?_cons_zero, List.getElem?_cons_succ]; exact rfl) (by kernel_rfl) (by kernel_rfl) (by kernel_rfl) (by exact fun _ _ _ h => h) (Or.inl ⟨by rfl, ?_⟩) (by assumption) ?_
        rotate_left 1
        · intro w hSw
          (try dsimp only at hSw)
          go_simp
          try with_reducible rfl
        try simp only [Act.put, List.setIfInBounds_toArray, List.set_cons_zero, List.set_cons_succ]
        refine wpAnyH_take (i := 4) (oi := _) (v := undef) (by simp only [List.getElem?_toArray, List.getElem?_cons_zero, List.getElem?_cons_succ]; exact rfl) (by kernel_rfl) (by kernel_rfl) (by kernel_rfl) (by exact fun _ _ _ h => h) (Or.inr ⟨by rfl, rfl⟩) (by assumption) ?_
        try simp only [Act.put, List.setIfInBounds_toArray, List.set_cons_zero, List.set_cons_succ]
        refine wpAnyH_take (i := 5) (oi := _) (v := undef) (by simp only [List.getElem?_toArray, List.getElem?_cons_zero, List.getElem?_cons_succ]; exact rfl) (by kernel_rfl) (by kernel_rfl) (by kernel_rfl) (by exact fun _ _ _ h => h) (Or.inr ⟨by rfl, rfl⟩) (by assumption) ?_
        try simp only [Act.put, List.setIfInBounds_toArray, List.set_cons_zero, List.set_cons_succ]
        refine wpAnyH_take (i := 6) (oi := _) (v := undef) (by simp only [List.getElem?_toArray, List.getElem?_cons_zero, List.getElem?_cons_succ]; exact rfl) (by kernel_rfl) (by kernel_rfl) (by kernel_rfl) (by exact fun _ _ _ h => h) (Or.inr ⟨by rfl, rfl⟩) (by assumption) ?_
        try simp only [Act.put, List.setIfInBounds_toArray, List.set_cons_zero, List.set_cons_succ]
        refine wpAnyH_take (i := 7) (oi := _) (v := ?_) (by simp only [List.getElem?_toArray, List.getElem?_cons_zero, List.getElem?_cons_succ]; exact rfl) (by kernel_rfl) (by kernel_rfl) (by kernel_rfl) (by exact fun _ _ _ h => h) (Or.inl ⟨by rfl, ?_⟩) (by assumption) ?_
        rotate_left 1
        · intro w hSw
          (try dsimp only at hSw)
          go_simp
          try with_reducible rfl
        try simp only [Act.put, List.setIfInBounds_toArray, List.set_cons_zero, List.set_cons_succ]
        refine wpAnyH_take (i := 8) (oi := _) (v := ?_) (by simp only [List.getElem?_toArray, List.getElem?_cons_zero, List.getElem?_cons_succ]; exact rfl) (by kernel_rfl) (by kernel_rfl) (by kernel_rfl) (by exact fun _ _ _ h => h) (Or.inl ⟨by rfl, ?_⟩) (by assumption) ?_
        rotate_left 1
        · intro w hSw
          (try dsimp only at hSw)
          go_simp
          try with_reducible rfl
        try simp only [Act.put, List.setIfInBounds_toArray, List.set_cons_zero, List.set_cons_succ]
        refine wpAnyH_take (i := 9) (oi := _) (v := undef) (by simp only [List.getElem?_toArray, List.getElem?_cons_zero, List.getElem?_cons_succ]; exact rfl) (by kernel_rfl) (by kernel_rfl) (by kernel_rfl) (by exact fun _ _ _ h => h) (Or.inr ⟨by rfl, rfl⟩) (by assumption) ?_
        try simp only [Act.put, List.setIfInBounds_toArray, List.set_cons_zero, List.set_cons_succ]
        refine wpAnyH_take (i := 10) (oi := _) (v := undef) (by simp only [List.getElem?_toArray, List.getElem?_cons_zero, List.getElem?_cons_succ]; exact rfl) (by kernel_rfl) (by kernel_rfl) (by kernel_rfl) (by exact fun _ _ _ h => h) (Or.inr ⟨by rfl, rfl⟩) (by assumption) ?_
        try simp only [Act.put, List.setIfInBounds_toArray, List.set_cons_zero, List.set_cons_succ]
        refine wpAnyH_take (i := 11) (oi := _) (v := undef) (by simp only [List.getElem?_toArray, List.getElem?_cons_zero, List.getElem?_cons_succ]; exact rfl) (by kernel_rfl) (by kernel_rfl) (by kernel_rfl) (by exact fun _ _ _ h => h) (Or.inr ⟨by rfl, rfl⟩) (by assumption) ?_
        try simp only [Act.put, List.setIfInBounds_toArray, List.set_cons_zero, List.set_cons_succ]
        refine wpAnyH_take (i := 12) (oi := _) (v := undef) (by simp only [List.getElem?_toArray, List.getElem?_cons_zero, List.getElem?_cons_succ]; exact rfl) (by kernel_rfl) (by kernel_rfl) (by kernel_rfl) (by exact fun _ _ _ h => h) (Or.inr ⟨by rfl, rfl⟩) (by assumption) ?_
        try simp only [Act.put, List.setIfInBounds_toArray, List.set_cons_zero, List.set_cons_succ]
        refine wpAnyH_take (i := 13) (oi := _) (v := undef) (by simp only [List.getElem?_toArray, List.getElem?_cons_zero, List.getElem?_cons_succ]; exact rfl) (by kernel_rfl) (by kernel_rfl) (by kernel_rfl) (by exact fun _ _ _ h => h) (Or.inr ⟨by rfl, rfl⟩) (by assumption) ?_
        try simp only [Act.put, List.setIfInBounds_toArray, List.set_cons_zero, List.set_cons_succ]
        refine wpAnyH_take (i := 14) (oi := _) (v := undef) (by simp only [List.getElem?_toArray, List.getElem?_cons_zero, List.getElem?_cons_succ]; exact rfl) (by kernel_rfl) (by kernel_rfl) (by kernel_rfl) (by exact fun _ _ _ h => h) (Or.inr ⟨by rfl, rfl⟩) (by assumption) ?_
        try simp only [Act.put, List.setIfInBounds_toArray, List.set_cons_zero, List.set_cons_succ]
        refine wpAnyH_take (i := 15) (oi := _) (v := ?_) (by simp only [List.getElem?_toArray, List.getElem?_cons_zero, List.getElem?_cons_succ]; exact rfl) (by kernel_rfl) (by kernel_rfl) (by kernel_rfl) (by exact fun _ _ _ h => h) (Or.inl ⟨by rfl, ?_⟩) (by assumption) ?_
        rotate_left 1
        · intro w hSw
          (try dsimp only at hSw)
          go_simp
          try with_reducible rfl
        try simp only [Act.put, List.setIfInBounds_toArray, List.set_cons_zero, List.set_cons_succ]
        refine wpAnyH_take (i := 16) (oi := _) (v := ?_) (by simp only [List.getElem?_toArray, List.getElem?_cons_zero, List.getElem?_cons_succ]; exact rfl) (by kernel_rfl) (by kernel_rfl) (by kernel_rfl) (by exact fun _ _ _ h => h) (Or.inl ⟨by rfl, ?_⟩) (by assumption) ?_
        rotate_left 1
        · intro w hSw
          (try dsimp only at hSw)
          go_simp
          try with_reducible rfl
        try simp only [Act.put, List.setIfInBounds_toArray, List.set_cons_zero, List.set_cons_succ]
        refine wpAnyH_take (i := 17) (oi := _) (v := undef) (by simp only [List.getElem?_toArray, List.getElem?_cons_zero, List.getElem?_cons_succ]; exact rfl) (by kernel_rfl) (by kernel_rfl) (by kernel_rfl) (by exact fun _ _ _ h => h) (Or.inr ⟨by rfl, rfl⟩) (by assumption) ?_
        try simp only [Act.put, List.setIfInBounds_toArray, List.set_cons_zero, List.set_cons_succ]
        refine wpAnyH_take (i := 18) (oi := _) (v := undef) (by simp only [List.getElem?_toArray, List.getElem?_cons_zero, List.getElem?_cons_succ]; exact rfl) (by kernel_rfl) (by kernel_rfl) (by kernel_rfl) (by exact fun _ _ _ h => h) (Or.inr ⟨by rfl, rfl⟩) (by assumption) ?_
        try simp only [Act.put, List.setIfInBounds_toArray, List.set_cons_zero, List.set_cons_succ]
        refine wpAnyH_take (i := 19) (oi := _) (v := undef) (by simp only [List.getElem?_toArray, List.getElem?_cons_zero, List.getElem?_cons_succ]; exact rfl) (by kernel_rfl) (by kernel_rfl) (by kernel_rfl) (by exact fun _ _ _ h => h) (Or.inr ⟨by rfl, rfl⟩) (by assumption) ?_
        try simp only [Act.put, List.setIfInBounds_toArray, List.set_cons_zero, List.set_cons_succ]
        refine wpAnyH_take (i := 20) (oi := _) (v := ?_) (by simp only [List.getElem?_toArray, List.getElem?_cons_zero, List.getElem?_cons_succ]; exact rfl) (by kernel_rfl) (by kernel_rfl) (by kernel_rfl) (by exact fun _ _ _ h => h) (Or.inl ⟨by rfl, ?_⟩) (by assumption) ?_
        rotate_left 1
        · intro w hSw
          (try dsimp only at hSw)
          go_simp
          try with_reducible rfl
        try simp only [Act.put, List.setIfInBounds_toArray, List.set_cons_zero, List.set_cons_succ]
        refine wpAnyH_done (by kernel_rfl) ?_ _
        go_wp2_with fail
        go_meet
        exact ⟨rfl, (Below.refl _ _).drew⟩
      · by_cases c2 : 256 < r0
        · obtain rfl : true = bad := by rw [← hr]; simp [c2]
          clear hr HBD
          refine wp_region_held_drew (S := fun w' => w'.cell? ⟨w.heap.size + 1, 0, none⟩ = some (.int .i64 r0) ∧ w'.cell? ⟨w.heap.size + 1, 1, none⟩ = some (.int .i64 r1) ∧ w'.cell? ⟨w.heap.size + 1, 2, none⟩ = some (.int .i64 r2)) (by kernel_rfl) (KS.out _ (Below.refl _ _).drew) (fun hHeld => ?_)
          refine wpAnyH_take (i := 0) (oi := _) (v := ?_) (by simp only [List.getElem?_toArray, List.getElem?_cons_zero]; exact rfl) (by kernel_rfl) (by kernel_rfl) (by kernel_rfl) (by exact fun _ _ _ h => h) (Or.inl ⟨by rfl, ?_⟩) (by assumption) ?_
          rotate_left 1
          · intro w hSw
            (try dsimp only at hSw)
            go_simp
            try with_reducible rfl
          try simp only [Act.put, List.setIfInBounds_toArray, List.set_cons_zero, List.set_cons_succ]
          refine wpAnyH_take (i := 1) (oi := _) (v := ?_) (by simp only [List.getElem?_toArray, List.getElem?_cons_zero, List.getElem?_cons_succ]; exact rfl) (by kernel_rfl) (by kernel_rfl) (by kernel_rfl) (by exact fun _ _ _ h => h) (Or.inl ⟨by rfl, ?_⟩) (by assumption) ?_
          rotate_left 1
          · intro w hSw
            (try dsimp only at hSw)
            go_simp
            try with_reducible rfl
          try simp only [Act.put, List.setIfInBounds_toArray, List.set_cons_zero, List.set_cons_succ]
          refine wpAnyH_take (i := 2) (oi := _) (v := ?_) (by simp only [List.getElem?_toArray, List.getElem?_cons_zero, List.getElem?_cons_succ]; exact rfl) (by kernel_rfl) (by kernel_rfl) (by kernel_rfl) (by exact fun _ _ _ h => h) (Or.inl ⟨by rfl, ?_⟩) (by assumption) ?_
          rotate_left 1
          · intro w hSw
            (try dsimp only at hSw)
            go_simp
            try with_reducible rfl
          try simp only [Act.put, List.setIfInBounds_toArray, List.set_cons_zero, List.set_cons_succ]
          refine wpAnyH_take (i := 3) (oi := _) (v := ?_) (by simp only [List.getElem?_toArray, List.getElem?_cons_zero, List.getElem?_cons_succ]; exact rfl) (by kernel_rfl) (by kernel_rfl) (by kernel_rfl) (by exact fun _ _ _ h => h) (Or.inl ⟨by rfl, ?_⟩) (by assumption) ?_
          rotate_left 1
          · intro w hSw
            (try dsimp only at hSw)
            go_simp
            try with_reducible rfl
          try simp only [Act.put, List.setIfInBounds_toArray, List.set_cons_zero, List.set_cons_succ]
          refine wpAnyH_take (i := 4) (oi := _) (v := ?_) (by simp only [List.getElem?_toArray, List.getElem?_cons_zero, List.getElem?_cons_succ]; exact rfl) (by kernel_rfl) (by kernel_rfl) (by kernel_rfl) (by exact fun _ _ _ h => h) (Or.inl ⟨by rfl, ?_⟩) (by assumption) ?_
          rotate_left 1
          · intro w hSw
            (try dsimp only at hSw)
            go_simp
            try with_reducible rfl
          try simp only [Act.put, List.setIfInBounds_toArray, List.set_cons_zero, List.set_cons_succ]
          refine wpAnyH_take (i := 5) (oi := _) (v := ?_) (by simp only [List.getElem?_toArray, List.getElem?_cons_zero, List.getElem?_cons_succ]; exact rfl) (by kernel_rfl) (by kernel_rfl) (by kernel_rfl) (by exact fun _ _ _ h => h) (Or.inl ⟨by rfl, ?_⟩) (by assumption) ?_
          rotate_left 1
          · intro w hSw
            (try dsimp only at hSw)
            go_simp
            try with_reducible rfl
          try simp only [Act.put, List.setIfInBounds_toArray, List.set_cons_zero, List.set_cons_succ]
          refine wpAnyH_take (i := 6) (oi := _) (v := ?_) (by simp only [List.getElem?_toArray, List.getElem?_cons_zero, List.getElem?_cons_succ]; exact rfl) (by kernel_rfl) (by kernel_rfl) (by kernel_rfl) (by exact fun _ _ _ h => h) (Or.inl ⟨by rfl, ?_⟩) (by assumption) ?_
          rotate_left 1
          · intro w hSw
            (try dsimp only at hSw)
            go_simp
            try with_reducible rfl
          try simp only [Act.put, List.setIfInBounds_toArray, List.set_cons_zero, List.set_cons_succ]
          refine wpAnyH_take (i := 7) (oi := _) (v := ?_) (by simp only [List.getElem?_toArray, List.getElem?_cons_zero, List.getElem?_cons_succ]; exact rfl) (by kernel_rfl) (by kernel_rfl) (by kernel_rfl) (by exact fun _ _ _ h => h) (Or.inl ⟨by rfl, ?_⟩) (by assumption) ?_
          rotate_left 1
          · intro w hSw
            (try dsimp only at hSw)
            go_simp
            try with_reducible rfl
          try simp only [Act.put, List.setIfInBounds_toArray, List.set_cons_zero, List.set_cons_succ]
          refine wpAnyH_take (i := 8) (oi := _) (v := ?_) (by simp only [List.getElem?_toArray, List.getElem?_cons_zero, List.getElem?_cons_succ]; exact rfl) (by kernel_rfl) (by kernel_rfl) (by kernel_rfl) (by exact fun _ _ _ h => h) (Or.inl ⟨by rfl, ?_⟩) (by assumption) ?_
          rotate_left 1
          · intro w hSw
            (try dsimp only at hSw)
            go_simp
            try with_reducible rfl
          try simp only [Act.put, List.setIfInBounds_toArray, List.set_cons_zero, List.set_cons_succ]
          refine wpAnyH_take (i := 9) (oi := _) (v := undef) (by simp only [List.getElem?_toArray, List.getElem?_cons_zero, List.getElem?_cons_succ]; exact rfl) (by kernel_rfl) (by kernel_rfl) (by kernel_rfl) (by exact fun _ _ _ h => h) (Or.inr ⟨by rfl, rfl⟩) (by assumption) ?_
          try simp only [Act.put, List.setIfInBounds_toArray, List.set_cons_zero, List.set_cons_succ]
          refine wpAnyH_take (i := 10) (oi := _) (v := undef) (by simp only [List.getElem?_toArray, List.getElem?_cons_zero, List.getElem?_cons_succ]; exact rfl) (by kernel_rfl) (by kernel_rfl) (by kernel_rfl) (by exact fun _ _ _ h => h) (Or.inr ⟨by rfl, rfl⟩) (by assumption) ?_
          try simp only [Act.put, List.setIfInBounds_toArray, List.set_cons_zero, List.set_cons_succ]
          refine wpAnyH_take (i := 11) (oi := _) (v := undef) (by simp only [List.getElem?_toArray, List.getElem?_cons_zero, List.getElem?_cons_succ]; exact rfl) (by kernel_rfl) (by kernel_rfl) (by kernel_rfl) (by exact fun _ _ _ h => h) (Or.inr ⟨by rfl, rfl⟩) (by assumption) ?_
          try simp only [Act.put, List.setIfInBounds_toArray, List.set_cons_zero, List.set_cons_succ]
          refine wpAnyH_take (i := 12) (oi := _) (v := undef) (by simp only [List.getElem?_toArray, List.getElem?_cons_zero, List.getElem?_cons_succ]; exact rfl) (by kernel_rfl) (by kernel_rfl) (by kernel_rfl) (by exact fun _ _ _ h => h) (Or.inr ⟨by rfl, rfl⟩) (by assumption) ?_
          try simp only [Act.put, List.setIfInBounds_toArray, List.set_cons_zero, List.set_cons_succ]
          refine wpAnyH_take (i := 13) (oi := _) (v := undef) (by simp only [List.getElem?_toArray, List.getElem?_cons_zero, List.getElem?_cons_succ]; exact rfl) (by kernel_rfl) (by kernel_rfl) (by kernel_rfl) (by exact fun _ _ _ h => h) (Or.inr ⟨by rfl, rfl⟩) (by assumption) ?_
          try simp only [Act.put, List.setIfInBounds_toArray, List.set_cons_zero, List.set_cons_succ]
          refine wpAnyH_take (i := 14) (oi := _) (v := undef) (by simp only [List.getElem?_toArray, List.getElem?_cons_zero, List.getElem?_cons_succ]; exact rfl) (by kernel_rfl) (by kernel_rfl) (by kernel_rfl) (by exact fun _ _ _ h => h) (Or.inr ⟨by rfl, rfl⟩) (by assumption) ?_
          try simp only [Act.put, List.setIfInBounds_toArray, List.set_cons_zero, List.set_cons_succ]
          refine wpAnyH_take (i := 15) (oi := _) (v := ?_) (by simp only [List.getElem?_toArray, List.getElem?_cons_zero, List.getElem?_cons_succ]; exact rfl) (by kernel_rfl) (by kernel_rfl) (by kernel_rfl) (by exact fun _ _ _ h => h) (Or.inl ⟨by rfl, ?_⟩) (by assumption) ?_
          rotate_left 1
          · intro w hSw
            (try dsimp only at hSw)
            go_simp
            try with_reducible rfl
          try simp only [Act.put, List.setIfInBounds_toArray, List.set_cons_zero, List.set_cons_succ]
          refine wpAnyH_take (i := 16) (oi := _) (v := ?_) (by simp only [List.getElem?_toArray, List.getElem?_cons_zero, List.getElem?_cons_succ]; exact rfl) (by kernel_rfl) (by kernel_rfl) (by kernel_rfl) (by exact fun _ _ _ h => h) (Or.inl ⟨by rfl, ?_⟩) (by assumption) ?_
          rotate_left 1
          · intro w hSw
            (try dsimp only at hSw)
            go_simp
            try with_reducible rfl
          try simp only [Act.put, List.setIfInBounds_toArray, List.set_cons_zero, List.set_cons_succ]
          refine wpAnyH_take (i := 17) (oi := _) (v := undef) (by simp only [List.getElem?_toArray, List.getElem?_cons_zero, List.getElem?_cons_succ]; exact rfl) (by kernel_rfl) (by kernel_rfl) (by kernel_rfl) (by exact fun _ _ _ h => h) (Or.inr ⟨by rfl, rfl⟩) (by assumption) ?_
          try simp only [Act.put, List.setIfInBounds_toArray, List.set_cons_zero, List.set_cons_succ]
          refine wpAnyH_take (i := 18) (oi := _) (v := undef) (by simp only [List.getElem?_toArray, List.getElem?_cons_zero, List.getElem?_cons_succ]; exact rfl) (by kernel_rfl) (by kernel_rfl) (by kernel_rfl) (by exact fun _ _ _ h => h) (Or.inr ⟨by rfl, rfl⟩) (by assumption) ?_
          try simp only [Act.put, List.setIfInBounds_toArray, List.set_cons_zero, List.set_cons_succ]
          refine wpAnyH_take (i := 19) (oi := _) (v := undef) (by simp only [List.getElem?_toArray, List.getElem?_cons_zero, List.getElem?_cons_succ]; exact rfl) (by kernel_rfl) (by kernel_rfl) (by kernel_rfl) (by exact fun _ _ _ h => h) (Or.inr ⟨by rfl, rfl⟩) (by assumption) ?_
          try simp only [Act.put, List.setIfInBounds_toArray, List.set_cons_zero, List.set_cons_succ]
          refine wpAnyH_take (i := 20) (oi := _) (v := ?_) (by simp only [List.getElem?_toArray, List.getElem?_cons_zero, List.getElem?_cons_succ]; exact rfl) (by kernel_rfl) (by kernel_rfl) (by kernel_rfl) (by exact fun _ _ _ h => h) (Or.inl ⟨by rfl, ?_⟩) (by assumption) ?_
          rotate_left 1
          · intro w hSw
            (try dsimp only at hSw)
            go_simp
            try with_reducible rfl
          try simp only [Act.put, List.setIfInBounds_toArray, List.set_cons_zero, List.set_cons_succ]
          refine wpAnyH_done (by kernel_rfl) ?_ _
          go_wp2_with fail
          go_meet
          exact ⟨rfl, (Below.refl _ _).drew⟩
        · by_cases c3 : r1 < -3 ∨ 3 < r1
          · obtain rfl : true = bad := by rw [← hr]; rcases c3 with c3 | c3 <;> simp [c3]
            clear hr HBD
            obtain ⟨ct, hct⟩ : ∃ b, decide (-3 ≤ r1 ∧ r1 ≤ 3) = b := ⟨_, rfl⟩
            obtain rfl : false = ct := by rw [← hct]; symm; rw [decide_eq_false_iff_not]; omega
            have HCT := Lib.hid hct
            clear hct
            refine wp_region_held_drew (S := fun w' => w'.cell? ⟨w.heap.size + 1, 0, none⟩ = some (.int .i64 r0) ∧ w'.cell? ⟨w.heap.size + 1, 1, none⟩ = some (.int .i64 r1) ∧ w'.cell? ⟨w.heap.size + 1, 2, none⟩ = some (.int .i64 r2)) (by kernel_rfl) (KS.out _ (Below.refl _ _).drew) (fun hHeld => ?_)
            refine wpAnyH_take (i := 0) (oi := _) (v := ?_) (by simp only [List.getElem?_toArray, List.getElem?_cons_zero]; exact rfl) (by kernel_rfl) (by kernel_rfl) (by kernel_rfl) (by exact fun _ _ _ h => h) (Or.inl ⟨by rfl, ?_⟩) (by assumption) ?_
            rotate_left 1
            · intro w hSw
              (try dsimp only at hSw)
              go_simp
              try with_reducible rfl
            try simp only [Act.put, List.setIfInBounds_toArray, List.set_cons_zero, List.set_cons_succ]
            refine wpAnyH_take (i := 1) (oi := _) (v := ?_) (by simp only [List.getElem?_toArray, List.getElem?_cons_zero, List.getElem?_cons_succ]; exact rfl) (by kernel_rfl) (by kernel_rfl) (by kernel_rfl) (by exact fun _ _ _ h => h) (Or.inl ⟨by rfl, ?_⟩) (by assumption) ?_
            rotate_left 1
            · intro w hSw
              (try dsimp only at hSw)
              go_simp
              try with_reducible rfl
            try simp only [Act.put, List.setIfInBounds_toArray, List.set_cons_zero, List.set_cons_succ]
            refine wpAnyH_take (i := 2) (oi := _) (v := ?_) (by simp only [List.getElem?_toArray, List.getElem?_cons_zero, List.getElem?_cons_succ]; exact rfl) (by kernel_rfl) (by kernel_rfl) (by kernel_rfl) (by exact fun _ _ _ h => h) (Or.inl ⟨by rfl, ?_⟩) (by assumption) ?_
            rotate_left 1
            · intro w hSw
              (try dsimp only at hSw)
              go_simp
              try with_reducible rfl
            try simp only [Act.put, List.setIfInBounds_toArray, List.set_cons_zero, List.set_cons_succ]
            refine wpAnyH_take (i := 3) (oi := _) (v := ?_) (by simp only [List.getElem?_toArray, List.getElem?_cons_zero, List.getElem?_cons_succ]; exact rfl) (by kernel_rfl) (by kernel_rfl) (by kernel_rfl) (by exact fun _ _ _ h => h) (Or.inl ⟨by rfl, ?_⟩) (by assumption) ?_
            rotate_left 1
            · intro w hSw
              (try dsimp only at hSw)
              go_simp
              try with_reducible rfl
            try simp only [Act.put, List.setIfInBounds_toArray, List.set_cons_zero, List.set_cons_succ]
            refine wpAnyH_take (i := 4) (oi := _) (v := ?_) (by simp only [List.getElem?_toArray, List.getElem?_cons_zero, List.getElem?_cons_succ]; exact rfl) (by kernel_rfl) (by kernel_rfl) (by kernel_rfl) (by exact fun _ _ _ h => h) (Or.inl ⟨by rfl, ?_⟩) (by assumption) ?_
            rotate_left 1
            · intro w hSw
              (try dsimp only at hSw)
              go_simp
              try with_reducible rfl
            try simp only [Act.put, List.setIfInBounds_toArray, List.set_cons_zero, List.set_cons_succ]
            refine wpAnyH_take (i := 5) (oi := _) (v := ?_) (by simp only [List.getElem?_toArray, List.getElem?_cons_zero, List.getElem?_cons_succ]; exact rfl) (by kernel_rfl) (by kernel_rfl) (by kernel_rfl) (by exact fun _ _ _ h => h) (Or.inl ⟨by rfl, ?_⟩) (by assumption) ?_
            rotate_left 1
            · intro w hSw
              (try dsimp only at hSw)
              go_simp
              try with_reducible rfl
            try simp only [Act.put, List.setIfInBounds_toArray, List.set_cons_zero, List.set_cons_succ]
            refine wpAnyH_take (i := 6) (oi := _) (v := ?_) (by simp only [List.getElem?_toArray, List.getElem?_cons_zero, List.getElem?_cons_succ]; exact rfl) (by kernel_rfl) (by kernel_rfl) (by kernel_rfl) (by exact fun _ _ _ h => h) (Or.inl ⟨by rfl, ?_⟩) (by assumption) ?_
            rotate_left 1
            · intro w hSw
              (try dsimp only at hSw)
              go_simp
              try with_reducible rfl
            try simp only [Act.put, List.setIfInBounds_toArray, List.set_cons_zero, List.set_cons_succ]
            refine wpAnyH_take (i := 7) (oi := _) (v := ?_) (by simp only [List.getElem?_toArray, List.getElem?_cons_zero, List.getElem?_cons_succ]; exact rfl) (by kernel_rfl) (by kernel_rfl) (by kernel_rfl) (by exact fun _ _ _ h => h) (Or.inl ⟨by rfl, ?_⟩) (by assumption) ?_
            rotate_left 1
            · intro w hSw
              (try dsimp only at hSw)
              go_simp
              try with_reducible rfl
            try simp only [Act.put, List.setIfInBounds_toArray, List.set_cons_zero, List.set_cons_succ]
            refine wpAnyH_take (i := 8) (oi := _) (v := ?_) (by simp only [List.getElem?_toArray, List.getElem?_cons_zero, List.getElem?_cons_succ]; exact rfl) (by kernel_rfl) (by kernel_rfl) (by kernel_rfl) (by exact fun _ _ _ h => h) (Or.inl ⟨by rfl, ?_⟩) (by assumption) ?_
            rotate_left 1
            · intro w hSw
              (try dsimp only at hSw)
              go_simp
              try with_reducible rfl
            try simp only [Act.put, List.setIfInBounds_toArray, List.set_cons_zero, List.set_cons_succ]
            refine wpAnyH_take (i := 11) (oi := _) (v := ?_) (by simp only [List.getElem?_toArray, List.getElem?_cons_zero, List.getElem?_cons_succ]; exact rfl) (by kernel_rfl) (by kernel_rfl) (by kernel_rfl) (by exact fun _ _ _ h => h) (Or.inl ⟨by rfl, ?_⟩) (by assumption) ?_
            rotate_left 1
            · intro w hSw
              (try dsimp only at hSw)
              go_simp
              try with_reducible rfl
            try simp only [Act.put, List.setIfInBounds_toArray, List.set_cons_zero, List.set_cons_succ]
            refine wpAnyH_take (i := 12) (oi := _) (v := ?_) (by simp only [List.getElem?_toArray, List.getElem?_cons_zero, List.getElem?_cons_succ]; exact rfl) (by kernel_rfl) (by kernel_rfl) (by kernel_rfl) (by exact fun _ _ _ h => h) (Or.inl ⟨by rfl, ?_⟩) (by assumption) ?_
            rotate_left 1
            · intro w hSw
              (try dsimp only at hSw)
              go_simp
              try with_reducible rfl
            try simp only [Act.put, List.setIfInBounds_toArray, List.set_cons_zero, List.set_cons_succ]
            refine wpAnyH_ready (rs := [9]) (by kernel_rfl) (by simp) ?_
            refine AllReadyH.cons (o := _) (by simp only [List.getElem?_toArray, List.getElem?_cons_zero, List.getElem?_cons_succ]; exact rfl) (fun K' hK => ?_) AllReadyH.nil
            go_simp
            refine (skews_any _).mono ?_
            rintro ee w5 ⟨rfl, rfl⟩
            refine hK.out _ _ (KS.out _ (Below.refl _ _).drew) (fun hHeld => ?_)
            clear hK K'
            try simp only [Act.put, List.setIfInBounds_toArray, List.set_cons_zero, List.set_cons_succ]
            refine wpAnyH_ready (rs := [10]) (by kernel_rfl) (by simp) ?_
            refine AllReadyH.cons (o := _) (by simp only [List.getElem?_toArray, List.getElem?_cons_zero, List.getElem?_cons_succ]; exact rfl) (fun K' hK => ?_) AllReadyH.nil
            go_simp
            refine (collectSkews_any _).mono ?_
            rintro ee w7 ⟨v7, rfl, hv7, hb7⟩
            have b8 : Below w2.heap.size w2 w7 := (Below.refl w2.heap.size w2).drew.trans hb7
            obtain ⟨g7, c7, rfl, ha7⟩ := skews_row hv7
            refine hK.out _ _ (KS.out _ b8) (fun hHeld => ?_)
            clear hK K'
            try simp only [Act.put, List.setIfInBounds_toArray, List.set_cons_zero, List.set_cons_succ]
            refine wpAnyH_ready (rs := [13]) (by kernel_rfl) (by simp) ?_
            refine AllReadyH.cons (o := _) (by simp only [List.getElem?_toArray, List.getElem?_cons_zero, List.getElem?_cons_succ]; exact rfl) (fun K' hK => ?_) AllReadyH.nil
            go_simp
            refine (contains_any _ 7 _ skf r1 _ ha7 (by unfold maxLen; omega)).mono ?_
            rintro ee w9 ⟨⟨b9, rfl, hb9⟩, rfl⟩
            rw [skf_iff] at hb9
            obtain rfl : false = b9 := by (have hct := HCT.out); rw [← hct, Bool.eq_iff_iff, hb9, decide_eq_true_iff]
            refine hK.out _ _ (KS.out _ b8) (fun hHeld => ?_)
            clear hK K'
            try simp only [Act.put, List.setIfInBounds_toArray, List.set_cons_zero, List.set_cons_succ]
            refine wpAnyH_take (i := 14) (oi := _) (v := ?_) (by simp only [List.getElem?_toArray, List.getElem?_cons_zero, List.getElem?_cons_succ]; exact rfl) (by kernel_rfl) (by kernel_rfl) (by kernel_rfl) (by exact fun _ _ _ h => h) (Or.inl ⟨by rfl, ?_⟩) (by assumption) ?_
            rotate_left 1
            · intro w hSw
              (try dsimp only at hSw)
              go_simp
              try with_reducible rfl
            try simp only [Act.put, List.setIfInBounds_toArray, List.set_cons_zero, List.set_cons_succ]
            refine wpAnyH_take (i := 15) (oi := _) (v := ?_) (by simp only [List.getElem?_toArray, List.getElem?_cons_zero, List.getElem?_cons_succ]; exact rfl) (by kernel_rfl) (by kernel_rfl) (by kernel_rfl) (by exact fun _ _ _ h => h) (Or.inl ⟨by rfl, ?_⟩) (by assumption) ?_
            rotate_left 1
            · intro w hSw
              (try dsimp only at hSw)
              go_simp
              try with_reducible rfl
            try simp only [Act.put, List.setIfInBounds_toArray, List.set_cons_zero, List.set_cons_succ]
            refine wpAnyH_take (i := 16) (oi := _) (v := ?_) (by simp only [List.getElem?_toArray, List.getElem?_cons_zero, List.getElem?_cons_succ]; exact rfl) (by kernel_rfl) (by kernel_rfl) (by kernel_rfl) (by exact fun _ _ _ h => h) (Or.inl ⟨by rfl, ?_⟩) (by assumption) ?_
            rotate_left 1
            · intro w hSw
              (try dsimp only at hSw)
              go_simp
              try with_reducible rfl
            try simp only [Act.put, List.setIfInBounds_toArray, List.set_cons_zero, List.set_cons_succ]
            refine wpAnyH_take (i := 17) (oi := _) (v := undef) (by simp only [List.getElem?_toArray, List.getElem?_cons_zero, List.getElem?_cons_succ]; exact rfl) (by kernel_rfl) (by kernel_rfl) (by kernel_rfl) (by exact fun _ _ _ h => h) (Or.inr ⟨by rfl, rfl⟩) (by assumption) ?_
            try simp only [Act.put, List.setIfInBounds_toArray, List.set_cons_zero, List.set_cons_succ]
            refine wpAnyH_take (i := 18) (oi := _) (v := undef) (by simp only [List.getElem?_toArray, List.getElem?_cons_zero, List.getElem?_cons_succ]; exact rfl) (by kernel_rfl) (by kernel_rfl) (by kernel_rfl) (by exact fun _ _ _ h => h) (Or.inr ⟨by rfl, rfl⟩) (by assumption) ?_
            try simp only [Act.put, List.setIfInBounds_toArray, List.set_cons_zero, List.set_cons_succ]
            refine wpAnyH_take (i := 19) (oi := _) (v := undef) (by simp only [List.getElem?_toArray, List.getElem?_cons_zero, List.getElem?_cons_succ]; exact rfl) (by kernel_rfl) (by kernel_rfl) (by kernel_rfl) (by exact fun _ _ _ h => h) (Or.inr ⟨by rfl, rfl⟩) (by assumption) ?_
            try simp only [Act.put, List.setIfInBounds_toArray, List.set_cons_zero, List.set_cons_succ]
            refine wpAnyH_take (i := 20) (oi := _) (v := ?_) (by simp only [List.getElem?_toArray, List.getElem?_cons_zero, List.getElem?_cons_succ]; exact rfl) (by kernel_rfl) (by kernel_rfl) (by kernel_rfl) (by exact fun _ _ _ h => h) (Or.inl ⟨by rfl, ?_⟩) (by assumption) ?_
            rotate_left 1
            · intro w hSw
              (try dsimp only at hSw)
              go_simp
              try with_reducible rfl
            try simp only [Act.put, List.setIfInBounds_toArray, List.set_cons_zero, List.set_cons_succ]
            refine wpAnyH_done (by kernel_rfl) ?_ _
            go_wp2_with fail
            go_meet
            exact ⟨rfl, b8⟩
          · obtain ⟨ct, hct⟩ : ∃ b, decide (-3 ≤ r1 ∧ r1 ≤ 3) = b := ⟨_, rfl⟩
            obtain rfl : true = ct := by rw [← hct]; symm; rw [decide_eq_true_iff]; omega
            have HCT := Lib.hid hct
            have hr2 : decide (r2 < 0) = bad := by rw [← hr, decide_eq_decide]; omega
            clear hr HBD hct
            refine wp_region_held_drew (S := fun w' => w'.cell? ⟨w.heap.size + 1, 0, none⟩ = some (.int .i64 r0) ∧ w'.cell? ⟨w.heap.size + 1, 1, none⟩ = some (.int .i64 r1) ∧ w'.cell? ⟨w.heap.size + 1, 2, none⟩ = some (.int .i64 r2)) (by kernel_rfl) (KS.out _ (Below.refl _ _).drew) (fun hHeld => ?_)
            refine wpAnyH_take (i := 0) (oi := _) (v := ?_) (by simp only [List.getElem?_toArray, List.getElem?_cons_zero]; exact rfl) (by kernel_rfl) (by kernel_rfl) (by kernel_rfl) (by exact fun _ _ _ h => h) (Or.inl ⟨by rfl, ?_⟩) (by assumption) ?_
            rotate_left 1
            · intro w hSw
              (try dsimp only at hSw)
              go_simp
              try with_reducible rfl
            try simp only [Act.put, List.setIfInBounds_toArray, List.set_cons_zero, List.set_cons_succ]
            refine wpAnyH_take (i := 1) (oi := _) (v := ?_) (by simp only [List.getElem?_toArray, List.getElem?_cons_zero, List.getElem?_cons_succ]; exact rfl) (by kernel_rfl) (by kernel_rfl) (by kernel_rfl) (by exact fun _ _ _ h => h) (Or.inl ⟨by rfl, ?_⟩) (by assumption) ?_
            rotate_left 1
            · intro w hSw
              (try dsimp only at hSw)
              go_simp
              try with_reducible rfl
            try simp only [Act.put, List.setIfInBounds_toArray, List.set_cons_zero, List.set_cons_succ]
            refine wpAnyH_take (i := 2) (oi := _) (v := ?_) (by simp only [List.getElem?_toArray, List.getElem?_cons_zero, List.getElem?_cons_succ]; exact rfl) (by kernel_rfl) (by kernel_rfl) (by kernel_rfl) (by exact fun _ _ _ h => h) (Or.inl ⟨by rfl, ?_⟩) (by assumption) ?_
            rotate_left 1
            · intro w hSw
              (try dsimp only at hSw)
              go_simp
              try with_reducible rfl
            try simp only [Act.put, List.setIfInBounds_toArray, List.set_cons_zero, List.set_cons_succ]
            refine wpAnyH_take (i := 3) (oi := _) (v := ?_) (by simp only [List.getElem?_toArray, List.getElem?_cons_zero, List.getElem?_cons_succ]; exact rfl) (by kernel_rfl) (by kernel_rfl) (by kernel_rfl) (by exact fun _ _ _ h => h) (Or.inl ⟨by rfl, ?_⟩) (by assumption) ?_
            rotate_left 1
            · intro w hSw
              (try dsimp only at hSw)
              go_simp
              try with_reducible rfl
            try simp only [Act.put, List.setIfInBounds_toArray, List.set_cons_zero, List.set_cons_succ]
            refine wpAnyH_take (i := 4) (oi := _) (v := ?_) (by simp only [List.getElem?_toArray, List.getElem?_cons_zero, List.getElem?_cons_succ]; exact rfl) (by kernel_rfl) (by kernel_rfl) (by kernel_rfl) (by exact fun _ _ _ h => h) (Or.inl ⟨by rfl, ?_⟩) (by assumption) ?_
            rotate_left 1
            · intro w hSw
              (try dsimp only at hSw)
              go_simp
              try with_reducible rfl
            try simp only [Act.put, List.setIfInBounds_toArray, List.set_cons_zero, List.set_cons_succ]
            refine wpAnyH_take (i := 5) (oi := _) (v := ?_) (by simp only [List.getElem?_toArray, List.getElem?_cons_zero, List.getElem?_cons_succ]; exact rfl) (by kernel_rfl) (by kernel_rfl) (by kernel_rfl) (by exact fun _ _ _ h => h) (Or.inl ⟨by rfl, ?_⟩) (by assumption) ?_
            rotate_left 1
            · intro w hSw
              (try dsimp only at hSw)
              go_simp
              try with_reducible rfl
            try simp only [Act.put, List.setIfInBounds_toArray, List.set_cons_zero, List.set_cons_succ]
            refine wpAnyH_take (i := 6) (oi := _) (v := ?_) (by simp only [List.getElem?_toArray, List.getElem?_cons_zero, List.getElem?_cons_succ]; exact rfl) (by kernel_rfl) (by kernel_rfl) (by kernel_rfl) (by exact fun _ _ _ h => h) (Or.inl ⟨by rfl, ?_⟩) (by assumption) ?_
            rotate_left 1
            · intro w hSw
              (try dsimp only at hSw)
              go_simp
              try with_reducible rfl
            try simp only [Act.put, List.setIfInBounds_toArray, List.set_cons_zero, List.set_cons_succ]
            refine wpAnyH_take (i := 7) (oi := _) (v := ?_) (by simp only [List.getElem?_toArray, List.getElem?_cons_zero, List.getElem?_cons_succ]; exact rfl) (by kernel_rfl) (by kernel_rfl) (by kernel_rfl) (by exact fun _ _ _ h => h) (Or.inl ⟨by rfl, ?_⟩) (by assumption) ?_
            rotate_left 1
            · intro w hSw
              (try dsimp only at hSw)
              go_simp
              try with_reducible rfl
            try simp only [Act.put, List.setIfInBounds_toArray, List.set_cons_zero, List.set_cons_succ]
            refine wpAnyH_take (i := 8) (oi := _) (v := ?_) (by simp only [List.getElem?_toArray, List.getElem?_cons_zero, List.getElem?_cons_succ]; exact rfl) (by kernel_rfl) (by kernel_rfl) (by kernel_rfl) (by exact fun _ _ _ h => h) (Or.inl ⟨by rfl, ?_⟩) (by assumption) ?_
            rotate_left 1
            · intro w hSw
              (try dsimp only at hSw)
              go_simp
              try with_reducible rfl
            try simp only [Act.put, List.setIfInBounds_toArray, List.set_cons_zero, List.set_cons_succ]
            refine wpAnyH_take (i := 11) (oi := _) (v := ?_) (by simp only [List.getElem?_toArray, List.getElem?_cons_zero, List.getElem?_cons_succ]; exact rfl) (by kernel_rfl) (by kernel_rfl) (by kernel_rfl) (by exact fun _ _ _ h => h) (Or.inl ⟨by rfl, ?_⟩) (by assumption) ?_
            rotate_left 1
            · intro w hSw
              (try dsimp only at hSw)
              go_simp
              try with_reducible rfl
            try simp only [Act.put, List.setIfInBounds_toArray, List.set_cons_zero, List.set_cons_succ]
            refine wpAnyH_take (i := 12) (oi := _) (v := ?_) (by simp only [List.getElem?_toArray, List.getElem?_cons_zero, List.getElem?_cons_succ]; exact rfl) (by kernel_rfl) (by kernel_rfl) (by kernel_rfl) (by exact fun _ _ _ h => h) (Or.inl ⟨by rfl, ?_⟩) (by assumption) ?_
            rotate_left 1
            · intro w hSw
              (try dsimp only at hSw)
              go_simp
              try with_reducible rfl
            try simp only [Act.put, List.setIfInBounds_toArray, List.set_cons_zero, List.set_cons_succ]
            refine wpAnyH_ready (rs := [9]) (by kernel_rfl) (by simp) ?_
            refine AllReadyH.cons (o := _) (by simp only [List.getElem?_toArray, List.getElem?_cons_zero, List.getElem?_cons_succ]; exact rfl) (fun K' hK => ?_) AllReadyH.nil
            go_simp
            refine (skews_any _).mono ?_
            rintro ee w5 ⟨rfl, rfl⟩
            refine hK.out _ _ (KS.out _ (Below.refl _ _).drew) (fun hHeld => ?_)
            clear hK K'
            try simp only [Act.put, List.setIfInBounds_toArray, List.set_cons_zero, List.set_cons_succ]
            refine wpAnyH_ready (rs := [10]) (by kernel_rfl) (by simp) ?_
            refine AllReadyH.cons (o := _) (by simp only [List.getElem?_toArray, List.getElem?_cons_zero, List.getElem?_cons_succ]; exact rfl) (fun K' hK => ?_) AllReadyH.nil
            go_simp
            refine (collectSkews_any _).mono ?_
            rintro ee w7 ⟨v7, rfl, hv7, hb7⟩
            have b8 : Below w2.heap.size w2 w7 := (Below.refl w2.heap.size w2).drew.trans hb7
            obtain ⟨g7, c7, rfl, ha7⟩ := skews_row hv7
            refine hK.out _ _ (KS.out _ b8) (fun hHeld => ?_)
            clear hK K'
            try simp only [Act.put, List.setIfInBounds_toArray, List.set_cons_zero, List.set_cons_succ]
            refine wpAnyH_ready (rs := [13]) (by kernel_rfl) (by simp) ?_
            refine AllReadyH.cons (o := _) (by simp only [List.getElem?_toArray, List.getElem?_cons_zero, List.getElem?_cons_succ]; exact rfl) (fun K' hK => ?_) AllReadyH.nil
            go_simp
            refine (contains_any _ 7 _ skf r1 _ ha7 (by unfold maxLen; omega)).mono ?_
            rintro ee w9 ⟨⟨b9, rfl, hb9⟩, rfl⟩
            rw [skf_iff] at hb9
            obtain rfl : true = b9 := by (have hct := HCT.out); rw [← hct, Bool.eq_iff_iff, hb9, decide_eq_true_iff]
            refine hK.out _ _ (KS.out _ b8) (fun hHeld => ?_)
            clear hK K'
            try simp only [Act.put, List.setIfInBounds_toArray, List.set_cons_zero, List.set_cons_succ]
            refine wpAnyH_take (i := 14) (oi := _) (v := ?_) (by simp only [List.getElem?_toArray, List.getElem?_cons_zero, List.getElem?_cons_succ]; exact rfl) (by kernel_rfl) (by kernel_rfl) (by kernel_rfl) (by exact fun _ _ _ h => h) (Or.inl ⟨by rfl, ?_⟩) (by assumption) ?_
            rotate_left 1
            · intro w hSw
              (try dsimp only at hSw)
              go_simp
              try with_reducible rfl
            try simp only [Act.put, List.setIfInBounds_toArray, List.set_cons_zero, List.set_cons_succ]
            refine wpAnyH_take (i := 15) (oi := _) (v := ?_) (by simp only [List.getElem?_toArray, List.getElem?_cons_zero, List.getElem?_cons_succ]; exact rfl) (by kernel_rfl) (by kernel_rfl) (by kernel_rfl) (by exact fun _ _ _ h => h) (Or.inl ⟨by rfl, ?_⟩) (by assumption) ?_
            rotate_left 1
            · intro w hSw
              (try dsimp only at hSw)
              go_simp
              try with_reducible rfl
            try simp only [Act.put, List.setIfInBounds_toArray, List.set_cons_zero, List.set_cons_succ]
            refine wpAnyH_take (i := 16) (oi := _) (v := ?_) (by simp only [List.getElem?_toArray, List.getElem?_cons_zero, List.getElem?_cons_succ]; exact rfl) (by kernel_rfl) (by kernel_rfl) (by kernel_rfl) (by exact fun _ _ _ h => h) (Or.inl ⟨by rfl, ?_⟩) (by assumption) ?_
            rotate_left 1
            · intro w hSw
              (try dsimp only at hSw)
              go_simp
              try with_reducible rfl
            try simp only [Act.put, List.setIfInBounds_toArray, List.set_cons_zero, List.set_cons_succ]
            refine wpAnyH_take (i := 17) (oi := _) (v := ?_) (by simp only [List.getElem?_toArray, List.getElem?_cons_zero, List.getElem?_cons_succ]; exact rfl) (by kernel_rfl) (by kernel_rfl) (by kernel_rfl) (by exact fun _ _ _ h => h) (Or.inl ⟨by rfl, ?_⟩) (by assumption) ?_
            rotate_left 1
            · intro w hSw
              (try dsimp only at hSw)
              go_simp
              try with_reducible rfl
            try simp only [Act.put, List.setIfInBounds_toArray, List.set_cons_zero, List.set_cons_succ]
            refine wpAnyH_take (i := 18) (oi := _) (v := ?_) (by simp only [List.getElem?_toArray, List.getElem?_cons_zero, List.getElem?_cons_succ]; exact rfl) (by kernel_rfl) (by kernel_rfl) (by kernel_rfl) (by exact fun _ _ _ h => h) (Or.inl ⟨by rfl, ?_⟩) (by assumption) ?_
            rotate_left 1
            · intro w hSw
              (try dsimp only at hSw)
              go_simp
              try with_reducible rfl
            try simp only [Act.put, List.setIfInBounds_toArray, List.set_cons_zero, List.set_cons_succ]
            refine wpAnyH_take (i := 19) (oi := _) (v := ?_) (by simp only [List.getElem?_toArray, List.getElem?_cons_zero, List.getElem?_cons_succ]; exact rfl) (by kernel_rfl) (by kernel_rfl) (by kernel_rfl) (by exact fun _ _ _ h => h) (Or.inl ⟨by rfl, ?_⟩) (by assumption) ?_
            rotate_left 1
            · intro w hSw
              (try dsimp only at hSw)
              go_simp
              try with_reducible rfl
            try simp only [Act.put, List.setIfInBounds_toArray, List.set_cons_zero, List.set_cons_succ]
            refine wpAnyH_take (i := 20) (oi := _) (v := ?_) (by simp only [List.getElem?_toArray, List.getElem?_cons_zero, List.getElem?_cons_succ]; exact rfl) (by kernel_rfl) (by kernel_rfl) (by kernel_rfl) (by exact fun _ _ _ h => h) (Or.inl ⟨by rfl, ?_⟩) (by assumption) ?_
            rotate_left 1
            · intro w hSw
              (try dsimp only at hSw)
              go_simp
              try with_reducible rfl
            try simp only [Act.put, List.setIfInBounds_toArray, List.set_cons_zero, List.set_cons_succ]
            refine wpAnyH_done (by kernel_rfl) ?_ _
            go_wp2_with fail
            go_meet
            exact ⟨rfl, b8⟩
    case rest =>
    obtain ⟨rfl, hb3⟩ := hcut
    generalize wc = w3 at *
    have b3 := below_call b2 b2.size hb3
    have h1 := m1.below' hb3
    have h2 := m2.below' hb3
    have h3 := m3.below' hb3
    clear m1 m2 m3 hb3 b2
    cases bad with
    | true =>
      have hE2 : E = 1 := by rw [hE1.out, if_pos (of_decide_eq_true HBD.out)]
      have HS9 := Lib.hid (HS.out.bad (by omega))
      subst hE2
      obtain ⟨f1, f2, f3⟩ := h3.frozen3
      obtain ⟨t1, t2, t3⟩ := h3.cells3
      have k9 := ((h3.set_ 0 (.int .i64 0)).set_ 1 (.int .i64 0)).set_ 2 (.slice none 0 0)
      obtain ⟨s1, s2, s3⟩ := Blk.cells3 (a := .int .i64 0) (b := .int .i64 0) (c := .slice none 0 0) k9
      clear hE1 HS HBD
      go_wp2_with fail
      refine bodyPost_ret (v := .tuple #[noImg, .int .i64 1]) (by simp [results, Try.results7, go_sem, noImg, s1, s2, s3]) rfl ?_
      exact ⟨_, rfl, outM_bad HS9.out, by (repeat (first | with_reducible exact Below.refl _ _ | with_reducible assumption | with_reducible refine Below.drew ?_ | (with_reducible refine below_alloc' ?_ ?_; focus (first | omega | (simp; done) | (simp; omega))) | (with_reducible refine below_fill3' ?_ ?_; focus omega) | (with_reducible refine below_setCell' ?_ ?_; focus (first | omega | (simp; done) | (simp; omega))) | (with_reducible apply below_call'; (focus (with_reducible assumption)); (focus (first | omega | (simp; done) | (simp; omega))))))⟩
    | false =>
      have hE3 : Hid (movE W H n (thrQ p r0) r1 (-1) = E) := by show _ = _; rw [hE1.out, if_neg (of_decide_eq_false HBD.out)]
      have q0 := of_decide_eq_false HBD.out
      obtain ⟨sw0, sw1, sh0, sh1, snn⟩ := sidesB_iff.1 HSD.out
      have HSNN := Lib.hid snn
      have l0 : 0 ≤ r0 := by omega
      have l1 : r0 ≤ 256 := by omega
      have l2 : -3 ≤ r1 := by omega
      have l3 : r1 ≤ 3 := by omega
      have l4 : 0 ≤ r2 := by omega
      have nn : n ≤ 409600 := by have := (area_bd sw0 sw1 sh0 sh1).2; omega
      clear hE1 HBD q0 snn
      obtain ⟨x1, x2, x3⟩ := h1.cells3
      have y1 := fun o => (h2.alloc o).cells3.1
      have y2 := fun o => (h2.alloc o).cells3.2.1
      have y3 := fun o => (h2.alloc o).cells3.2.2
      have hMS := HS.out
      have hEE := hE3.out
      obtain ⟨⟨Wn, rfl⟩, ⟨Hn, rfl⟩, hDS⟩ : (∃ k : Nat, Wm = k) ∧ (∃ k : Nat, Hm = k) ∧ (E = 0 → Wm = W ∧ Hm ≤ 640 ∧ (N : Int) = Wm * Hm) := by
        by_cases e : E = 0
        · obtain ⟨rfl, rfl, hN⟩ := hMS.ok e
          obtain ⟨-, -, -, g1, g2⟩ := movE_ok (hEE.trans e)
          exact ⟨⟨Wm.toNat, by omega⟩, ⟨(H + -grt Wm r1).toNat, by omega⟩, fun _ => ⟨rfl, by omega, hN⟩⟩
        · obtain ⟨rfl, rfl, -⟩ := hMS.bad e
          exact ⟨⟨0, rfl⟩, ⟨0, rfl⟩, fun h => absurd h e⟩
      have HDS := Lib.hid hDS
      clear hMS hEE hDS
      have b3z := b3.size
      obtain ⟨gw, hgw⟩ : ∃ g, w3.heap.size = g := ⟨_, rfl⟩
      have hz3 : w.heap.size + 1 + 1 < gw := by have := h3.lt; omega
      go_upto_block 8 with fail
      have kw0 : Blk ((w3.alloc (.cells (wkV W H (.slice A n c) 0 0 (.slice none 0 0) 0 0 0) 60)).alloc (.cells #[.int .i64 r0, .int .i64 r1, .int .i64 r2] 3)) gw 60 (wkV W H (.slice A n c) 0 0 (.slice none 0 0) 0 0 0) := (Blk.new' hgw _ _).alloc _
      have kl0 : Blk ((w3.alloc (.cells (wkV W H (.slice A n c) 0 0 (.slice none 0 0) 0 0 0) 60)).alloc (.cells #[.int .i64 r0, .int .i64 r1, .int .i64 r2] 3)) (gw + 1) 3 #[.int .i64 r0, .int .i64 r1, .int .i64 r2] := Blk.new' (by simp [hgw]) _ _
      have ko0 := (h3.alloc (.cells (wkV W H (.slice A n c) 0 0 (.slice none 0 0) 0 0 0) 60)).alloc (.cells #[.int .i64 r0, .int .i64 r1, .int .i64 r2] 3)
      have b40 := (b3.alloc b3.size (.cells (wkV W H (.slice A n c) 0 0 (.slice none 0 0) 0 0 0) 60)).alloc (by simp; omega) (.cells #[.int .i64 r0, .int .i64 r1, .int .i64 r2] 3)
      unfold wkV at kw0 kl0 ko0 b40
      generalize (w3.alloc (.cells #[.int .i64 W, .int .i64 H, .slice A n c, .int .i64 0, .int .i64 0, .slice none 0 0, .int .i64 0, .int .i64 0, .int .i64 0] 60)).alloc (.cells #[.int .i64 r0, .int .i64 r1, .int .i64 r2] 3) = w4 at *
      clear x1 x2 x3 y1 y2 y3 h1 h2 h3 b3 b3z hgw
      have kf := ko0.frozen3
      go_loopw [50] (fun s wr => ∃ (i : Nat) (IW IH : Int) (IS : Value), i ≤ 3 ∧ s = .int .i64 i ∧ Blk wr gw 60 (wkV W H (.slice A n c) IW IH IS 0 0 0) ∧ Blk wr (gw + 1) 3 #[.int .i64 r0, .int .i64 r1, .int .i64 r2] ∧ Blk wr (w.heap.size + 1 + 1) 29 #[.int .i64 0, .int .i64 0, .slice none 0 0] ∧ Below w.heap.size w wr ∧
        (i = 0 ∨ (i = 1 ∧ ∃ A' c', W = IW ∧ H = IH ∧ .slice A' n c' = IS ∧ (∀ a, A' = some a → gw < a.block) ∧ ArrB wr wr.heap.size A' n (thrQ p r0)) ∨
         (i = 2 ∧ E = 0 ∧ ∃ A' c', (Wn : Int) = IW ∧ (Hn : Int) = IH ∧ .slice A' N c' = IS ∧ (∀ a, A' = some a → gw < a.block) ∧ ArrB wr wr.heap.size A' N (movQ W H (thrQ p r0) r1 (-1))) ∨
         (i = 3 ∧ E = 0 ∧ ∃ A' c', (Wn : Int) = IW ∧ (Hn : Int) = IH ∧ .slice A' N c' = IS ∧ (∀ a, A' = some a → gw < a.block) ∧ ArrB wr wr.heap.size A' N (bgQ N Wn (movQ W H (thrQ p r0) r1 (-1)) r2)))) (fun s _ => 3 - (intOf s).toNat)
      case atStart => exact ⟨0, 0, 0, _, by omega, rfl, kw0, kl0, ko0, b40, .inl rfl⟩
      case round =>
        obtain ⟨i, IW, IH, IS, hi, rfl, kw, kl, ko, b4, him⟩ := hrel
        clear kw0 kl0 ko0 b40 kf
        have wl := kw.lt
        have wl2 := kl.lt
        rcases him with rfl | ⟨rfl, A', c', rfl, rfl, rfl, hge, ha⟩ | ⟨rfl, rfl, A', c', rfl, rfl, rfl, hge, ha⟩ | ⟨rfl, rfl, A', c', rfl, rfl, rfl, hge, ha⟩
        · have v0 := kl.cells3.1
          go_wp2_with fail
          refine (steps_any _).mono ?_
          rintro e w5 ⟨rfl, h50⟩
          have hw5 := Lib.hid h50.symm
          clear h50
          have ks : Blk w5 wr.heap.size 65 stV := by rw [← hw5.out]; exact Blk.new _ _ _
          have kw5 := kw.alloc (.cells stV 65)
          have kl5 := kl.alloc (.cells stV 65)
          have ko5 := ko.alloc (.cells stV 65)
          have b5 := b4.alloc b4.size (.cells stV 65)
          rw [hw5.out] at kw5 kl5 ko5 b5
          have s2 : w5.cell? ⟨wr.heap.size, 2, none⟩ = some (.func (.func 46) #[] #[]) := by rw [ks.cell]; rfl
          have ST := Lib.hid (stepThr_any W H r0 IW IH 0 0 0 A n c p IS 0 W H n gw w5 kw5 (HA.out.to b5) HB.out (thrE_ok HSD.out l0 l1) ⟨fun _ => ⟨rfl, rfl, HSNN.out⟩, fun h => absurd rfl h⟩)
          clear kl ko b4 kw hw5 v0
          go_wp2_with fail
          refine ST.out.mono ?_
          rintro e w6 ⟨_, rfl, ⟨A2, c2, rfl, hg2, ha2⟩, hb6⟩
          have KL6 := Lib.hid ((kl5.below' hb6))
          have KO6 := Lib.hid ((ko5.below' hb6))
          have B6 := Lib.hid (below_call b5 b5.size hb6)
          have kw6 := kw5.below' hb6
          have hge2 : ∀ a, A2 = some a → gw < a.block := fun a e => by have := hg2 a e; have := kw5.lt; omega
          have HA2 := Lib.hid ha2
          obtain ⟨-, ⟨i3, i4, i5⟩, -⟩ := wk_cells kw6
          have f3 := kw6.frozen 3
          have f4 := kw6.frozen 4
          have f5 := kw6.frozen 5
          clear ST kw5 kl5 ko5 b5 ks s2 ha2 hb6
          go_wp2_with fail
          have KL6 := Lib.hid (((KL6.out.far (p := ⟨gw, 3, none⟩) (by simp) (.int .i64 W)).far (p := ⟨gw, 4, none⟩) (by simp) (.int .i64 H)).far (p := ⟨gw, 5, none⟩) (by simp) (.slice A2 n c2))
          have KO6 := Lib.hid (((KO6.out.far (p := ⟨gw, 3, none⟩) (by simp; omega) (.int .i64 W)).far (p := ⟨gw, 4, none⟩) (by simp; omega) (.int .i64 H)).far (p := ⟨gw, 5, none⟩) (by simp; omega) (.slice A2 n c2))
          have B6 := Lib.hid (((B6.out.setCell (p := ⟨gw, 3, none⟩) (by simp; omega) (.int .i64 W)).setCell (p := ⟨gw, 4, none⟩) (by simp; omega) (.int .i64 H)).setCell (p := ⟨gw, 5, none⟩) (by simp; omega) (.slice A2 n c2))
          have HA2 := Lib.hid (((HA2.out.far1 (p := ⟨gw, 3, none⟩) (fun a e => by have := hge2 a e; simp; omega) (.int .i64 W)).far1 (p := ⟨gw, 4, none⟩) (fun a e => by have := hge2 a e; simp; omega) (.int .i64 H)).far1 (p := ⟨gw, 5, none⟩) (fun a e => by have := hge2 a e; simp; omega) (.slice A2 n c2))
          go_roundw
          case rel => exact ⟨1, _, _, _, by omega, by go_num, wk_img kw6 W H (.slice A2 n c2), KL6.out, KO6.out, B6.out, .inr (.inl ⟨rfl, A2, c2, rfl, rfl, rfl, hge2, HA2.out.more (by simp)⟩)⟩
          case measure => simp [intOf]
        · have v0 := kl.cells3.2.1
          go_wp2_with fail
          refine (steps_any _).mono ?_
          rintro e w5 ⟨rfl, h50⟩
          have hw5 := Lib.hid h50.symm
          clear h50
          have ks : Blk w5 wr.heap.size 65 stV := by rw [← hw5.out]; exact Blk.new _ _ _
          have kw5 := kw.alloc (.cells stV 65)
          have kl5 := kl.alloc (.cells stV 65)
          have ko5 := ko.alloc (.cells stV 65)
          have b5 := b4.alloc b4.size (.cells stV 65)
          rw [hw5.out] at kw5 kl5 ko5 b5
          have s2 : w5.cell? ⟨wr.heap.size, 3 + 2, none⟩ = some (.func (.func 50) #[] #[]) := by rw [ks.cell]; rfl
          have ST := Lib.hid (stepMov_any W H r1 W H 0 0 0 A' n c' (thrQ p r0) (.slice A n c) E Wn Hn N gw w5 kw5 (ha.to (by have := (Below.refl wr.heap.size wr).alloc (Nat.le_refl _) (.cells stV 65); rwa [hw5.out] at this)) HNN.out (isB_thr _ _) hE3.out HS.out)
          by_cases hE0 : E = 0
          · subst hE0
            clear kl ko b4 kw hw5 v0
            go_wp2_with fail
            refine ST.out.mono ?_
            rintro e w6 ⟨_, rfl, ⟨A2, c2, rfl, hg2, ha2⟩, hb6⟩
            have KL6 := Lib.hid ((kl5.below' hb6))
            have KO6 := Lib.hid ((ko5.below' hb6))
            have B6 := Lib.hid (below_call b5 b5.size hb6)
            have kw6 := kw5.below' hb6
            have hge2 : ∀ a, A2 = some a → gw < a.block := fun a e => by have := hg2 a e; have := kw5.lt; omega
            have HA2 := Lib.hid ha2
            obtain ⟨-, ⟨i3, i4, i5⟩, -⟩ := wk_cells kw6
            have f3 := kw6.frozen 3
            have f4 := kw6.frozen 4
            have f5 := kw6.frozen 5
            clear ST kw5 kl5 ko5 b5 ks s2 ha2 hb6
            go_wp2_with fail
            have KL6 := Lib.hid (((KL6.out.far (p := ⟨gw, 3, none⟩) (by simp) (.int .i64 Wn)).far (p := ⟨gw, 4, none⟩) (by simp) (.int .i64 Hn)).far (p := ⟨gw, 5, none⟩) (by simp) (.slice A2 N c2))
            have KO6 := Lib.hid (((KO6.out.far (p := ⟨gw, 3, none⟩) (by simp; omega) (.int .i64 Wn)).far (p := ⟨gw, 4, none⟩) (by simp; omega) (.int .i64 Hn)).far (p := ⟨gw, 5, none⟩) (by simp; omega) (.slice A2 N c2))
            have B6 := Lib.hid (((B6.out.setCell (p := ⟨gw, 3, none⟩) (by simp; omega) (.int .i64 Wn)).setCell (p := ⟨gw, 4, none⟩) (by simp; omega) (.int .i64 Hn)).setCell (p := ⟨gw, 5, none⟩) (by simp; omega) (.slice A2 N c2))
            have HA2 := Lib.hid (((HA2.out.far1 (p := ⟨gw, 3, none⟩) (fun a e => by have := hge2 a e; simp; omega) (.int .i64 Wn)).far1 (p := ⟨gw, 4, none⟩) (fun a e => by have := hge2 a e; simp; omega) (.int .i64 Hn)).far1 (p := ⟨gw, 5, none⟩) (fun a e => by have := hge2 a e; simp; omega) (.slice A2 N c2))
            go_roundw
            case rel => exact ⟨2, _, _, _, by omega, by go_num, wk_img kw6 Wn Hn (.slice A2 N c2), KL6.out, KO6.out, B6.out, .inr (.inr (.inl ⟨rfl, (by trivial), A2, c2, rfl, rfl, rfl, hge2, HA2.out.more (by simp)⟩))⟩
            case measure => simp [intOf]
          · have hz' : (E != 0) = true := by simp [hE0]
            have HZ := Lib.hid (HS.out.bad hE0)
            clear kl ko b4 kw hw5 v0
            go_wp2_with fail
            refine ST.out.mono ?_
            rintro e w6 ⟨_, rfl, ⟨A2, c2, rfl, hg2, ha2⟩, hb6⟩
            have KL6 := Lib.hid ((kl5.below' hb6))
            have KO6 := Lib.hid ((ko5.below' hb6))
            have B6 := Lib.hid (below_call b5 b5.size hb6)
            have kw6 := kw5.below' hb6
            have hge2 : ∀ a, A2 = some a → gw < a.block := fun a e => by have := hg2 a e; have := kw5.lt; omega
            have HA2 := Lib.hid ha2
            obtain ⟨-, ⟨i3, i4, i5⟩, -⟩ := wk_cells kw6
            have f3 := kw6.frozen 3
            have f4 := kw6.frozen 4
            have f5 := kw6.frozen 5
            clear ST kw5 kl5 ko5 b5 ks s2 ha2 hb6
            obtain ⟨g1, g2, g3⟩ := KO6.out.frozen3
            obtain ⟨t1, t2, t3⟩ := KO6.out.cells3
            have k9 := ((((((KO6.out.far (p := ⟨gw, 3, none⟩) (by simp; omega) (.int .i64 Wn)).far (p := ⟨gw, 4, none⟩) (by simp; omega) (.int .i64 Hn)).far (p := ⟨gw, 5, none⟩) (by simp; omega) (.slice A2 N c2))).set_ 0 (.int .i64 0)).set_ 1 (.int .i64 0)).set_ 2 (.slice none 0 0)
            obtain ⟨s1, s2, s3⟩ := Blk.cells3 (a := .int .i64 0) (b := .int .i64 0) (c := .slice none 0 0) k9
            go_wp2_with fail
            have KL6 := Lib.hid (((KL6.out.far (p := ⟨gw, 3, none⟩) (by simp) (.int .i64 Wn)).far (p := ⟨gw, 4, none⟩) (by simp) (.int .i64 Hn)).far (p := ⟨gw, 5, none⟩) (by simp) (.slice A2 N c2))
            have KO6 := Lib.hid (((KO6.out.far (p := ⟨gw, 3, none⟩) (by simp; omega) (.int .i64 Wn)).far (p := ⟨gw, 4, none⟩) (by simp; omega) (.int .i64 Hn)).far (p := ⟨gw, 5, none⟩) (by simp; omega) (.slice A2 N c2))
            have B6 := Lib.hid (((B6.out.setCell (p := ⟨gw, 3, none⟩) (by simp; omega) (.int .i64 Wn)).setCell (p := ⟨gw, 4, none⟩) (by simp; omega) (.int .i64 Hn)).setCell (p := ⟨gw, 5, none⟩) (by simp; omega) (.slice A2 N c2))
            have HA2 := Lib.hid (((HA2.out.far1 (p := ⟨gw, 3, none⟩) (fun a e => by have := hge2 a e; simp; omega) (.int .i64 Wn)).far1 (p := ⟨gw, 4, none⟩) (fun a e => by have := hge2 a e; simp; omega) (.int .i64 Hn)).far1 (p := ⟨gw, 5, none⟩) (fun a e => by have := hge2 a e; simp; omega) (.slice A2 N c2))
            refine bodyPost_ret (v := .tuple #[noImg, .int .i64 E]) (by simp [results, Try.results7, go_sem, noImg, s1, s2, s3]) rfl ?_
            have B7 := B6.out
            exact ⟨_, rfl, outM_bad HZ.out, by (repeat (first | with_reducible exact Below.refl _ _ | with_reducible assumption | with_reducible refine Below.drew ?_ | (with_reducible refine below_alloc' ?_ ?_; focus (first | omega | (simp; done) | (simp; omega))) | (with_reducible refine below_fill3' ?_ ?_; focus omega) | (with_reducible refine below_setCell' ?_ ?_; focus (first | omega | (simp; done) | (simp; omega))) | (with_reducible apply below_call'; (focus (with_reducible assumption)); (focus (first | omega | (simp; done) | (simp; omega))))))⟩
        · have v0 := kl.cells3.2.2
          obtain ⟨-, e2, e3⟩ := HDS.out (by simp)
          go_wp2_with fail
          refine (steps_any _).mono ?_
          rintro e w5 ⟨rfl, h50⟩
          have hw5 := Lib.hid h50.symm
          clear h50
          have ks : Blk w5 wr.heap.size 65 stV := by rw [← hw5.out]; exact Blk.new _ _ _
          have kw5 := kw.alloc (.cells stV 65)
          have kl5 := kl.alloc (.cells stV 65)
          have ko5 := ko.alloc (.cells stV 65)
          have b5 := b4.alloc b4.size (.cells stV 65)
          rw [hw5.out] at kw5 kl5 ko5 b5
          have s2 : w5.cell? ⟨wr.heap.size, 6 + 2, none⟩ = some (.func (.func 53) #[] #[]) := by rw [ks.cell]; rfl
          have ST := Lib.hid (stepDsp_any W H r2 Wn Hn 0 0 0 A' N c' (movQ W H (thrQ p r0) r1 (-1)) (.slice A n c) gw w5 kw5 (ha.to (by have := (Below.refl wr.heap.size wr).alloc (Nat.le_refl _) (.cells stV 65); rwa [hw5.out] at this)) (by have := (HDS.out (by simp)).1; omega) (by omega) (by have := e3; exact_mod_cast this) (fun i _ _ => movQ_01 (thrQ_01 p r0) i))
          clear kl ko b4 kw hw5 v0
          go_wp2_with fail
          refine ST.out.mono ?_
          rintro e w6 ⟨_, rfl, ⟨A2, c2, rfl, hg2, ha2⟩, hb6⟩
          have KL6 := Lib.hid ((kl5.below' hb6))
          have KO6 := Lib.hid ((ko5.below' hb6))
          have B6 := Lib.hid (below_call b5 b5.size hb6)
          have kw6 := kw5.below' hb6
          have hge2 : ∀ a, A2 = some a → gw < a.block := fun a e => by have := hg2 a e; have := kw5.lt; omega
          have HA2 := Lib.hid ha2
          obtain ⟨-, ⟨i3, i4, i5⟩, -⟩ := wk_cells kw6
          have f3 := kw6.frozen 3
          have f4 := kw6.frozen 4
          have f5 := kw6.frozen 5
          clear ST kw5 kl5 ko5 b5 ks s2 ha2 hb6
          go_wp2_with fail
          have KL6 := Lib.hid (((KL6.out.far (p := ⟨gw, 3, none⟩) (by simp) (.int .i64 Wn)).far (p := ⟨gw, 4, none⟩) (by simp) (.int .i64 Hn)).far (p := ⟨gw, 5, none⟩) (by simp) (.slice A2 N c2))
          have KO6 := Lib.hid (((KO6.out.far (p := ⟨gw, 3, none⟩) (by simp; omega) (.int .i64 Wn)).far (p := ⟨gw, 4, none⟩) (by simp; omega) (.int .i64 Hn)).far (p := ⟨gw, 5, none⟩) (by simp; omega) (.slice A2 N c2))
          have B6 := Lib.hid (((B6.out.setCell (p := ⟨gw, 3, none⟩) (by simp; omega) (.int .i64 Wn)).setCell (p := ⟨gw, 4, none⟩) (by simp; omega) (.int .i64 Hn)).setCell (p := ⟨gw, 5, none⟩) (by simp; omega) (.slice A2 N c2))
          have HA2 := Lib.hid (((HA2.out.far1 (p := ⟨gw, 3, none⟩) (fun a e => by have := hge2 a e; simp; omega) (.int .i64 Wn)).far1 (p := ⟨gw, 4, none⟩) (fun a e => by have := hge2 a e; simp; omega) (.int .i64 Hn)).far1 (p := ⟨gw, 5, none⟩) (fun a e => by have := hge2 a e; simp; omega) (.slice A2 N c2))
          go_roundw
          case rel => exact ⟨3, _, _, _, by omega, by go_num, wk_img kw6 Wn Hn (.slice A2 N c2), KL6.out, KO6.out, B6.out, .inr (.inr (.inr ⟨rfl, (by trivial), A2, c2, rfl, rfl, rfl, hge2, HA2.out.more (by simp)⟩))⟩
          case measure => simp [intOf]
        · obtain ⟨-, ⟨i1, i2, i3⟩, -⟩ := wk_cells kw
          obtain ⟨f1, f2, f3⟩ := ko.frozen3
          obtain ⟨t1, t2, t3⟩ := ko.cells3
          have k9 := ((ko.set_ 0 (.int .i64 Wn)).set_ 1 (.int .i64 Hn)).set_ 2 (.slice A' N c')
          obtain ⟨s1, s2, s3⟩ := Blk.cells3 (a := .int .i64 Wn) (b := .int .i64 Hn) (c := .slice A' N c') k9
          have HAE := Lib.hid ha
          have B4 := Lib.hid b4
          clear ha
          go_wp2_with fail
          refine bodyPost_ret (v := .tuple #[.agg #[.int .i64 Wn, .int .i64 Hn, .slice A' N c'], .int .i64 0]) (by simp [results, Try.results7, go_sem, s1, s2, s3]) rfl ?_
          have B5 := B4.out
          refine ⟨_, rfl, ⟨A', c', rfl, fun a e => by have := hge a e; omega, ?_⟩, by (repeat (first | with_reducible exact Below.refl _ _ | with_reducible assumption | with_reducible refine Below.drew ?_ | (with_reducible refine below_alloc' ?_ ?_; focus (first | omega | (simp; done) | (simp; omega))) | (with_reducible refine below_fill3' ?_ ?_; focus omega) | (with_reducible refine below_setCell' ?_ ?_; focus (first | omega | (simp; done) | (simp; omega))) | (with_reducible apply below_call'; (focus (with_reducible assumption)); (focus (first | omega | (simp; done) | (simp; omega))))))⟩
          have e1 : W.toNat = Wn := by have := (HDS.out (by simp)).1; omega
          unfold appQ
          rw [e1]
          exact HAE.out.fill1 fun a e => by have := hge a e; omega
end Go.Proofs.Ytoonkpjddfiopaa
