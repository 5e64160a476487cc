/- The law StaveFull: for every input it returns true, and each argument reads afterwards as it read before. No conditions. -/
import Derived.Test.YtdimlpcbbkokiaaT20
import Derived.Test.YtdimlpcbbkokiaaOpen
namespace Go.Proofs.Ytdimlpcbbkokiaa.lawStaveFull
open Go.Proofs.Ytdimlpcbbkokiaa
open Go.ChangeShapes Go.WideShapes Go.ChangeAt Go.RowKit
open Go.ChangeMaps (open_string shut_string)
set_option linter.unusedVariables false

set_option maxRecDepth 100000 in
theorem lifted (os : Os) (started : os.Started) (H : Type) (enc : TypeId × Value → H) :
    ReturnsInHanded {} Try.checked os 5 .any (Rows.staveFullSpec.pre6 enc Try.prog Try.f5 Rows.staveFullRow.domain false) (Rows.staveFullSpec.post enc Try.prog Try.f5 false true false false) := by
  refine returnsInHanded_of_change (C := Try.checked) Try.own started (by kernel_rfl) Try.func5
    (ChangeSpec.witness6 (enc := enc) (C := Try.checked) false ⟨#[], #[.int .u16 0, .slice none 0 0, .slice none 0 0], []⟩ 8 (by kernel_rfl) (by kernel_rfl) (by kernel_rfl) (by kernel_rfl)) ?_
  intro W base args ds gs before hval0 hW hcnd _
  have hval : ∀ (j : Nat) t v, Try.f5.params[j]? = some t → args[j]? = some v → Value.okWide Try.prog W .any base t v := hval0
  have hW' := hW
  obtain ⟨p, q, hA0, hV, rfl, hfz, hnd⟩ := hW
  have hA : DataW.TrodAll enc Try.prog W 0 (fun _ => true) true Try.f5.params.toList args.toList ds p := hA0
  rw [Try.params5] at hA hval
  obtain ⟨v0, vs0, d0, ds0, p0, q0, hargs, rfl, rfl, h0, r0⟩ := trodAll_cons hA
  obtain ⟨v1, vs1, d1, ds1, p1, q1, rfl, rfl, rfl, h1, r1⟩ := trodAll_cons r0
  obtain ⟨v2, vs2, d2, ds2, p2, q2, rfl, rfl, rfl, h2, r2⟩ := trodAll_cons r1
  obtain ⟨rfl, rfl, rfl⟩ := trodAll_nil r2
  obtain rfl : args = #[v0, v1, v2] := by cases args; simp_all
  obtain ⟨rfl, rfl⟩ := trodVars_none hV
  have k0 := h0
  have lt0 : ∀ x ∈ p0, x.block < W.heap.size := by obtain ⟨m, hm⟩ := k0; exact DataW.trod_lt m _ _ _ hm
  obtain ⟨sides, rfl, -, -, w0⟩ := open_int Try.underlying42 (hval 0 42 v0 rfl rfl) h0
  have bsides := bounds_u16 w0
  have k1 := h1
  have lt1 : ∀ x ∈ p1, x.block < W.heap.size := by obtain ⟨m, hm⟩ := k1; exact DataW.trod_lt m _ _ _ hm
  obtain ⟨bitsA, bitsN, bitsC, bitsZ, rfl, bits_nil, bits_le, bits_max, bits_arr, bits_wf⟩ := open_sl Try.underlying22 Try.underlying5 (by kernel_rfl) (by decide) (hval 1 22 v1 rfl rfl) h1
  have bits_nm := Nat.le_trans bits_le bits_max
  have k2 := h2
  have lt2 : ∀ x ∈ p2, x.block < W.heap.size := by obtain ⟨m, hm⟩ := k2; exact DataW.trod_lt m _ _ _ hm
  obtain ⟨rowsA, rowsN, rowsC, rowsZ, rfl, rows_nil, rows_le, rows_max, rows_arr, rows_wf⟩ := open_sl Try.underlying22 Try.underlying5 (by kernel_rfl) (by decide) (hval 2 22 v2 rfl rfl) h2
  have rows_nm := Nat.le_trans rows_le rows_max
  clear hA0 hval0
  refine (staveFull_any sides bitsA rowsA bitsN bitsC rowsN rowsC (lit bitsZ) (lit rowsZ) W bits_arr bits_nm (fun i => bounds_u8 (bits_wf i)) bsides rows_arr rows_nm rows_le rows_max (fun i => bounds_u8 (rows_wf i))).mono fun e W' ⟨he, bel⟩ => ?_
  subst he
  exact ⟨_, rfl, _, _, _, [], _, [], hW', trodAll_mk1 (shut_bool Try.underlying4 _), (trodAll_cons_mk (Below.trod Try.laidOut (by kernel_rfl) (of_decide_eq_true (by kernel_rfl)) k0 bel lt0) (trodAll_cons_mk (Below.trod Try.laidOut (by kernel_rfl) (of_decide_eq_true (by kernel_rfl)) k1 bel lt1) (trodAll_cons_mk (Below.trod Try.laidOut (by kernel_rfl) (of_decide_eq_true (by kernel_rfl)) k2 bel lt2) trodAll_mk0))), rfl, bel.frame _, fun h => by cases h⟩

theorem over : Rows.staveFullRow.holds Try.pinned (OpenSpec.ofChange Rows.staveFullSpec) :=
  OpenClaim.holds_of_wide 5 Try.f5 rfl rfl rfl rfl rfl rfl rfl ⟨rfl, rfl, rfl, rfl, rfl⟩ rfl rfl rfl rfl rfl (by kernel_rfl) Try.func5 (by kernel_rfl)
    (of_decide_eq_true (by kernel_rfl)) (by unfold Func.isWrapper; first | (rw [if_pos (by decide +kernel)]; kernel_rfl) | (rw [if_neg (by decide +kernel)]; exact ⟨rfl, rfl⟩))
    (fun os started H enc _ => lifted os started H enc)

theorem proved : Rows.StaveFullSaid := over
#print axioms proved
end Go.Proofs.Ytdimlpcbbkokiaa.lawStaveFull
