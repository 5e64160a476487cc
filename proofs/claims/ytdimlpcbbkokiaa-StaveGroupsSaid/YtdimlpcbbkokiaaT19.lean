/- Walks: a row is among the lines (the closures of StaveFull, slices.ContainsFunc over numbers and over lines). -/
import Derived.Test.YtdimlpcbbkokiaaT16
namespace Go.Proofs.Ytdimlpcbbkokiaa
open Go.RowKit Go.Shelf
set_option linter.unusedVariables false

set_option maxHeartbeats 400000 in
/-- the first number of a slice that meets a closure's test -/
theorem idxFuncI (fid : Nat) (cap : Array Value) (f : Int → Bool) (w : World) (hent : ∀ args w, (callFunc fid args).run Try.prog w = .ok (.enter fid args) w) (hf : ∀ v, Calls Try.prog fid (#[.int .i64 v] ++ cap) w fun e W' => e = .returned (.bool (f v)) ∧ w = W')
    (A : Option Addr) (n c : Nat) (p : Int → Int) (hA : ArrI w w.heap.size A n p) (hn : n ≤ maxLen) :
    Calls Try.prog 73 #[.slice A n c, .func (.func fid) #[] cap] w fun e w' => e = .returned (.int .i64 (idxF (fun i => f (p i)) n)) ∧ w = w' := by
  unfold maxLen at hn
  have HF := Lib.hid hf; clear hf
  go_enter Try.func73, Try.ntmps73
  go_wp2
  go_loop [8] (fun i => ∃ k : Int, 0 ≤ k ∧ k ≤ n ∧ i = .int .i64 k ∧ ∀ j : Int, 0 ≤ j → j < k → f (p j) = false) (fun i => n - (intOf i).toNat)
  case atStart => exact ⟨0, by omega, by omega, rfl, fun j a b => by omega⟩
  case round =>
    obtain ⟨k, h0, hk, rfl, hno⟩ := hrel
    have HN := Lib.hid hno; clear hno
    by_cases hlt : k < n
    · obtain ⟨b, off, rfl, hb, hc⟩ := ArrI.at_ hA h0 hlt
      cases hfk : f (p k)
      · have HK := Lib.hid hfk; clear hfk
        go_wp2_with fail
        refine (HF.out _).mono ?_
        rintro e w' ⟨rfl, rfl⟩
        rw [HK.out]
        go_wp2
        go_round
        case rel =>
          refine ⟨k + 1, by omega, by omega, by go_num, fun j a b => ?_⟩
          by_cases e : j = k
          · rw [e]; exact HK.out
          · exact HN.out j a (by omega)
        case measure => simp [intOf]; omega
      · have HK := Lib.hid hfk; clear hfk
        go_wp2_with fail
        refine (HF.out _).mono ?_
        rintro e w' ⟨rfl, rfl⟩
        rw [HK.out]
        go_wp2
        go_ret
        refine ⟨ret_int ?_, rfl⟩
        obtain ⟨k', rfl⟩ := Int.eq_ofNat_of_zero_le h0
        rw [idxF_some HN.out HK.out (by omega)]
    · go_wp2
      go_ret
      refine ⟨ret_int ?_, rfl⟩
      rw [idxF_none (fun j a b => HN.out j a (by omega))]
theorem containsI (fid : Nat) (cap : Array Value) (f : Int → Bool) (w : World) (hent : ∀ args w, (callFunc fid args).run Try.prog w = .ok (.enter fid args) w) (hf : ∀ v, Calls Try.prog fid (#[.int .i64 v] ++ cap) w fun e W' => e = .returned (.bool (f v)) ∧ w = W')
    (A : Option Addr) (n c : Nat) (p : Int → Int) (hA : ArrI w w.heap.size A n p) (hn : n ≤ maxLen) :
    Calls Try.prog 29 #[.slice A n c, .func (.func fid) #[] cap] w fun e w' => e = .returned (.bool (decide (0 ≤ idxF (fun i => f (p i)) n))) ∧ w = w' := by
  have IF := Lib.hid (idxFuncI fid cap f w hent hf A n c p hA hn)
  clear hf hent
  go_enter Try.func29, Try.ntmps29
  go_wp2_with fail
  refine IF.out.mono ?_
  rintro e w' ⟨rfl, rfl⟩
  go_wp2
  go_ret
  exact ⟨rfl, rfl⟩
set_option maxHeartbeats 400000 in
/-- the same over the values of a row -/
theorem idxFuncL (fid : Nat) (cap : Array Value) (f : Int → Bool) (v : Nat → Value) (w : World) (hent : ∀ args w, (callFunc fid args).run Try.prog w = .ok (.enter fid args) w)
    (A : Option Addr) (n c : Nat) (hA : Arr w w.heap.size A n (fun i => v i.toNat)) (hn : n ≤ maxLen) (hone : ∀ t, t < n → ∃ B m d, v t = .slice B m d)
    (hf : ∀ t, t < n → Calls Try.prog fid (#[v t] ++ cap) w fun e W' => e = .returned (.bool (f t)) ∧ w = W') :
    Calls Try.prog 72 #[.slice A n c, .func (.func fid) #[] cap] w fun e w' => e = .returned (.int .i64 (idxF f n)) ∧ w = w' := by
  unfold maxLen at hn
  have HF := Lib.hid hf; clear hf
  have HO := Lib.hid hone; clear hone
  go_enter Try.func72, Try.ntmps72
  go_wp2
  go_loop [8] (fun i => ∃ k : Int, 0 ≤ k ∧ k ≤ n ∧ i = .int .i64 k ∧ ∀ j : Int, 0 ≤ j → j < k → f j = false) (fun i => n - (intOf i).toNat)
  case atStart => exact ⟨0, by omega, by omega, rfl, fun j a b => by omega⟩
  case round =>
    obtain ⟨k, h0, hk, rfl, hno⟩ := hrel
    have HN := Lib.hid hno; clear hno
    by_cases hlt : k < n
    · obtain ⟨b, off, rfl, hb, hc⟩ := Arr.at_ hA h0 hlt
      have hcall := Lib.hid (HF.out k.toNat (by omega))
      rw [Int.toNat_of_nonneg h0] at hcall
      obtain ⟨B, m, d, hv⟩ := HO.out k.toNat (by omega)
      rw [hv] at hcall hc
      clear hv
      cases hfk : f k
      · have HK := Lib.hid hfk; clear hfk
        go_wp2_with fail
        refine (hcall.out).mono ?_
        rintro e w' ⟨rfl, rfl⟩
        rw [HK.out]
        go_wp2
        go_round
        case rel =>
          refine ⟨k + 1, by omega, by omega, by go_num, fun j a b => ?_⟩
          by_cases e : j = k
          · rw [e]; exact HK.out
          · exact HN.out j a (by omega)
        case measure => simp [intOf]; omega
      · have HK := Lib.hid hfk; clear hfk
        go_wp2_with fail
        refine (hcall.out).mono ?_
        rintro e w' ⟨rfl, rfl⟩
        rw [HK.out]
        go_wp2
        go_ret
        refine ⟨ret_int ?_, rfl⟩
        obtain ⟨k', rfl⟩ := Int.eq_ofNat_of_zero_le h0
        rw [idxF_some HN.out HK.out (by omega)]
    · go_wp2
      go_ret
      refine ⟨ret_int ?_, rfl⟩
      rw [idxF_none (fun j a b => HN.out j a (by omega))]
theorem containsL (fid : Nat) (cap : Array Value) (f : Int → Bool) (v : Nat → Value) (w : World) (hent : ∀ args w, (callFunc fid args).run Try.prog w = .ok (.enter fid args) w)
    (A : Option Addr) (n c : Nat) (hA : Arr w w.heap.size A n (fun i => v i.toNat)) (hn : n ≤ maxLen) (hone : ∀ t, t < n → ∃ B m d, v t = .slice B m d)
    (hf : ∀ t, t < n → Calls Try.prog fid (#[v t] ++ cap) w fun e W' => e = .returned (.bool (f t)) ∧ w = W') :
    Calls Try.prog 27 #[.slice A n c, .func (.func fid) #[] cap] w fun e w' => e = .returned (.bool (decide (0 ≤ idxF f n))) ∧ w = w' := by
  have IF := Lib.hid (idxFuncL fid cap f v w hent A n c hA hn hone hf)
  clear hf hent hone
  go_enter Try.func27, Try.ntmps27
  go_wp2_with fail
  refine IF.out.mono ?_
  rintro e w' ⟨rfl, rfl⟩
  go_wp2
  go_ret
  exact ⟨rfl, rfl⟩
theorem notAt_any (v y : Int) (b : Nat) (w : World) (h : w.cell? ⟨b, 0, none⟩ = some (.int .i64 y)) :
    Calls Try.prog 30 #[.int .i64 v, .pointer (some ⟨b, 0, none⟩)] w fun e w' => e = .returned (.bool (v != y)) ∧ w = w' := by
  go_enter Try.func30, Try.ntmps30
  go_wp2
  go_ret
  exact ⟨rfl, rfl⟩
theorem enterNotAt (args : Array Value) (w : World) : (callFunc 30 args).run Try.prog w = .ok (.enter 30 args) w := enters_of Try.func30 (by kernel_rfl) rfl args w
theorem enterAllAt (args : Array Value) (w : World) : (callFunc 28 args).run Try.prog w = .ok (.enter 28 args) w := enters_of Try.func28 (by kernel_rfl) rfl args w
/-- all numbers of a line are y -/
def allAt (y : Int) (n : Nat) (l : Int → Int) : Bool := !decide (0 ≤ idxF (fun i => l i != y) n)
theorem allAt_of {y : Int} {n : Nat} {l : Int → Int} (h : ∀ i : Int, 0 ≤ i → i < n → l i = y) : allAt y n l = true := by
  unfold allAt
  rw [idxF_none (fun i a b => by simp [h i a b])]
  rfl
theorem allAt_any (y : Int) (b : Nat) (A : Option Addr) (n c : Nat) (l : Int → Int) (w : World) (h : w.cell? ⟨b, 0, none⟩ = some (.int .i64 y)) (hA : ArrI w w.heap.size A n l) (hn : n ≤ maxLen) :
    Calls Try.prog 28 #[.slice A n c, .pointer (some ⟨b, 0, none⟩)] w fun e w' => e = .returned (.bool (allAt y n l)) ∧ w = w' := by
  have CI := Lib.hid (containsI 30 #[.pointer (some ⟨b, 0, none⟩)] (fun v => v != y) w enterNotAt (fun v => notAt_any v y b w h) A n c l hA hn)
  obtain ⟨b', hb⟩ : ∃ b', decide (0 ≤ idxF (fun i => l i != y) n) = b' := ⟨_, rfl⟩
  rw [hb] at CI
  have hr : Hid (allAt y n l = !b') := by show _ = _; unfold allAt; rw [hb]
  clear hb
  go_enter Try.func28, Try.ntmps28
  go_wp2_with fail
  refine CI.out.mono ?_
  rintro e w' ⟨rfl, rfl⟩
  cases b'
  · go_wp2
    go_ret
    exact ⟨ret_bool hr.out.symm, rfl⟩
  · go_wp2
    go_ret
    exact ⟨ret_bool hr.out.symm, rfl⟩
end Go.Proofs.Ytdimlpcbbkokiaa
