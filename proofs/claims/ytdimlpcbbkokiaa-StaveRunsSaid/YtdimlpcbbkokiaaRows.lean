/-
  No cell of these rows narrows 'for every input' (looked for: loops, veiled, ifaces, maps, wideKeys, modest, calm, conditions, laid).
  DERIVED. THE GIVEN ROWS OF THIS SEAT. 9 by the template 'for every input the law returns true; each argument reads behind the call as it read before'; 0 by the template 'total and deterministic' (their statements: YtdimlpcbbkokiaaTotals.lean).
  GIVEN WITH THE SEED: the statements are not yours to turn. If you find one false, say at which input.
  Laid BY PROGRAM, IN A SANDBOX (cutbox-rows.mjs): the forced cells as the released guide's own fill.sh prints them over the translation 59e11cc98f28d2e8… (all of the seat's roots in one cut). By AI agents, Wed Nov 11 2026. No macro, syntax, notation, axiom, sorry.
-/
import Derived.Test.YtdimlpcbbkokiaaChecked
import GoSem.Claim
import GoSem.ClaimJoined
import GoSem.ClaimMapViews
import Derived.JoinedTies
import Derived.KernelRfl
namespace Go.Proofs.Ytdimlpcbbkokiaa
/- THE CELL 'sum', in the pinned program and in every row, IS THE sha256 OF THE DUMP (.gsa) THAT YtdimlpcbbkokiaaProg.lean LOADS. Nothing in Lean hashes anything: it is a label: what it is worth is what the hold of that sum in a sandbox is worth. -/
noncomputable def Try.pinned : Pinned := { name := "ytdimlpcbbkokiaa", sum := "59e11cc98f28d2e87c04f3563274c3d5152c33b5725a8934dffaacce6c11c8eb", checked := Try.checked }
namespace Rows
def none {H : Type} : Left H := { results := [], args := [] }

/-- 'custoslaw03.StavePaths': WHATEVER THE INPUT: true; the input reads as it did. -/
def stavePathsSpec : ChangeSpec := { name := "stavePaths", fn := fun _ => fun
  | [d1, d2] => { results := [.lit (.bool true)], args := [d1, d2] }
  | _ => none }
def stavePathsRow : OpenClaim := { program := "ytdimlpcbbkokiaa", sum := "59e11cc98f28d2e87c04f3563274c3d5152c33b5725a8934dffaacce6c11c8eb", func := "custos/custoslaw03.StavePaths", spec := "stavePaths", unfollowed := true, recurses := true, apart := false }
def StavePathsSaid : Prop := stavePathsRow.holds Try.pinned (OpenSpec.ofChange stavePathsSpec)

/-- ITS FALSE NEIGHBOUR: 'it returns false'. Refute it at one input. -/
def stavePathsWrong : ChangeSpec := { name := "stavePaths", fn := fun _ => fun
  | [d1, d2] => { results := [.lit (.bool false)], args := [d1, d2] }
  | _ => none }
def StavePathsWrongFalsely : Prop := stavePathsRow.holds Try.pinned (OpenSpec.ofChange stavePathsWrong)

/-- 'custoslaw03.StaveLeast': WHATEVER THE INPUT: true; the input reads as it did. -/
def staveLeastSpec : ChangeSpec := { name := "staveLeast", fn := fun _ => fun
  | [d1, d2, d3, d4, d5] => { results := [.lit (.bool true)], args := [d1, d2, d3, d4, d5] }
  | _ => none }
def staveLeastRow : OpenClaim := { program := "ytdimlpcbbkokiaa", sum := "59e11cc98f28d2e87c04f3563274c3d5152c33b5725a8934dffaacce6c11c8eb", func := "custos/custoslaw03.StaveLeast", spec := "staveLeast", unfollowed := true, recurses := true, apart := false }
def StaveLeastSaid : Prop := staveLeastRow.holds Try.pinned (OpenSpec.ofChange staveLeastSpec)

/-- ITS FALSE NEIGHBOUR: 'it returns false'. Refute it at one input. -/
def staveLeastWrong : ChangeSpec := { name := "staveLeast", fn := fun _ => fun
  | [d1, d2, d3, d4, d5] => { results := [.lit (.bool false)], args := [d1, d2, d3, d4, d5] }
  | _ => none }
def StaveLeastWrongFalsely : Prop := staveLeastRow.holds Try.pinned (OpenSpec.ofChange staveLeastWrong)

/-- 'custoslaw03.StaveFull': WHATEVER THE INPUT: true; the input reads as it did. -/
def staveFullSpec : ChangeSpec := { name := "staveFull", fn := fun _ => fun
  | [d1, d2, d3] => { results := [.lit (.bool true)], args := [d1, d2, d3] }
  | _ => none }
def staveFullRow : OpenClaim := { program := "ytdimlpcbbkokiaa", sum := "59e11cc98f28d2e87c04f3563274c3d5152c33b5725a8934dffaacce6c11c8eb", func := "custos/custoslaw03.StaveFull", spec := "staveFull", unfollowed := true, recurses := true, apart := false }
def StaveFullSaid : Prop := staveFullRow.holds Try.pinned (OpenSpec.ofChange staveFullSpec)

/-- ITS FALSE NEIGHBOUR: 'it returns false'. Refute it at one input. -/
def staveFullWrong : ChangeSpec := { name := "staveFull", fn := fun _ => fun
  | [d1, d2, d3] => { results := [.lit (.bool false)], args := [d1, d2, d3] }
  | _ => none }
def StaveFullWrongFalsely : Prop := staveFullRow.holds Try.pinned (OpenSpec.ofChange staveFullWrong)

/-- 'custoslaw03.StaveGroups': WHATEVER THE INPUT: true; the input reads as it did. -/
def staveGroupsSpec : ChangeSpec := { name := "staveGroups", fn := fun _ => fun
  | [d1, d2, d3] => { results := [.lit (.bool true)], args := [d1, d2, d3] }
  | _ => none }
def staveGroupsRow : OpenClaim := { program := "ytdimlpcbbkokiaa", sum := "59e11cc98f28d2e87c04f3563274c3d5152c33b5725a8934dffaacce6c11c8eb", func := "custos/custoslaw03.StaveGroups", spec := "staveGroups", unfollowed := true, recurses := true, apart := false }
def StaveGroupsSaid : Prop := staveGroupsRow.holds Try.pinned (OpenSpec.ofChange staveGroupsSpec)

/-- ITS FALSE NEIGHBOUR: 'it returns false'. Refute it at one input. -/
def staveGroupsWrong : ChangeSpec := { name := "staveGroups", fn := fun _ => fun
  | [d1, d2, d3] => { results := [.lit (.bool false)], args := [d1, d2, d3] }
  | _ => none }
def StaveGroupsWrongFalsely : Prop := staveGroupsRow.holds Try.pinned (OpenSpec.ofChange staveGroupsWrong)

/-- 'custoslaw03.StaveHarm': WHATEVER THE INPUT: true; the input reads as it did. -/
def staveHarmSpec : ChangeSpec := { name := "staveHarm", fn := fun _ => fun
  | [d1, d2, d3, d4, d5] => { results := [.lit (.bool true)], args := [d1, d2, d3, d4, d5] }
  | _ => none }
def staveHarmRow : OpenClaim := { program := "ytdimlpcbbkokiaa", sum := "59e11cc98f28d2e87c04f3563274c3d5152c33b5725a8934dffaacce6c11c8eb", func := "custos/custoslaw03.StaveHarm", spec := "staveHarm", unfollowed := true, recurses := true, apart := false }
def StaveHarmSaid : Prop := staveHarmRow.holds Try.pinned (OpenSpec.ofChange staveHarmSpec)

/-- ITS FALSE NEIGHBOUR: 'it returns false'. Refute it at one input. -/
def staveHarmWrong : ChangeSpec := { name := "staveHarm", fn := fun _ => fun
  | [d1, d2, d3, d4, d5] => { results := [.lit (.bool false)], args := [d1, d2, d3, d4, d5] }
  | _ => none }
def StaveHarmWrongFalsely : Prop := staveHarmRow.holds Try.pinned (OpenSpec.ofChange staveHarmWrong)

/-- 'custoslaw03.StaveStrips': WHATEVER THE INPUT: true; the input reads as it did. -/
def staveStripsSpec : ChangeSpec := { name := "staveStrips", fn := fun _ => fun
  | [d1, d2, d3, d4, d5] => { results := [.lit (.bool true)], args := [d1, d2, d3, d4, d5] }
  | _ => none }
def staveStripsRow : OpenClaim := { program := "ytdimlpcbbkokiaa", sum := "59e11cc98f28d2e87c04f3563274c3d5152c33b5725a8934dffaacce6c11c8eb", func := "custos/custoslaw03.StaveStrips", spec := "staveStrips", unfollowed := true, recurses := true, apart := false }
def StaveStripsSaid : Prop := staveStripsRow.holds Try.pinned (OpenSpec.ofChange staveStripsSpec)

/-- ITS FALSE NEIGHBOUR: 'it returns false'. Refute it at one input. -/
def staveStripsWrong : ChangeSpec := { name := "staveStrips", fn := fun _ => fun
  | [d1, d2, d3, d4, d5] => { results := [.lit (.bool false)], args := [d1, d2, d3, d4, d5] }
  | _ => none }
def StaveStripsWrongFalsely : Prop := staveStripsRow.holds Try.pinned (OpenSpec.ofChange staveStripsWrong)

/-- 'custoslaw03.StaveBack': WHATEVER THE INPUT: true; the input reads as it did. -/
def staveBackSpec : ChangeSpec := { name := "staveBack", fn := fun _ => fun
  | [d1, d2, d3, d4, d5, d6] => { results := [.lit (.bool true)], args := [d1, d2, d3, d4, d5, d6] }
  | _ => none }
def staveBackRow : OpenClaim := { program := "ytdimlpcbbkokiaa", sum := "59e11cc98f28d2e87c04f3563274c3d5152c33b5725a8934dffaacce6c11c8eb", func := "custos/custoslaw03.StaveBack", spec := "staveBack", unfollowed := true, recurses := true, apart := false }
def StaveBackSaid : Prop := staveBackRow.holds Try.pinned (OpenSpec.ofChange staveBackSpec)

/-- ITS FALSE NEIGHBOUR: 'it returns false'. Refute it at one input. -/
def staveBackWrong : ChangeSpec := { name := "staveBack", fn := fun _ => fun
  | [d1, d2, d3, d4, d5, d6] => { results := [.lit (.bool false)], args := [d1, d2, d3, d4, d5, d6] }
  | _ => none }
def StaveBackWrongFalsely : Prop := staveBackRow.holds Try.pinned (OpenSpec.ofChange staveBackWrong)

/-- 'custoslaw03.StaveRuns': WHATEVER THE INPUT: true; the input reads as it did. -/
def staveRunsSpec : ChangeSpec := { name := "staveRuns", fn := fun _ => fun
  | [d1, d2, d3] => { results := [.lit (.bool true)], args := [d1, d2, d3] }
  | _ => none }
def staveRunsRow : OpenClaim := { program := "ytdimlpcbbkokiaa", sum := "59e11cc98f28d2e87c04f3563274c3d5152c33b5725a8934dffaacce6c11c8eb", func := "custos/custoslaw03.StaveRuns", spec := "staveRuns", unfollowed := true, recurses := true, apart := false }
def StaveRunsSaid : Prop := staveRunsRow.holds Try.pinned (OpenSpec.ofChange staveRunsSpec)

/-- ITS FALSE NEIGHBOUR: 'it returns false'. Refute it at one input. -/
def staveRunsWrong : ChangeSpec := { name := "staveRuns", fn := fun _ => fun
  | [d1, d2, d3] => { results := [.lit (.bool false)], args := [d1, d2, d3] }
  | _ => none }
def StaveRunsWrongFalsely : Prop := staveRunsRow.holds Try.pinned (OpenSpec.ofChange staveRunsWrong)

/-- 'custoslaw03.StaveFound': WHATEVER THE INPUT: true; the input reads as it did. -/
def staveFoundSpec : ChangeSpec := { name := "staveFound", fn := fun _ => fun
  | [d1, d2, d3] => { results := [.lit (.bool true)], args := [d1, d2, d3] }
  | _ => none }
def staveFoundRow : OpenClaim := { program := "ytdimlpcbbkokiaa", sum := "59e11cc98f28d2e87c04f3563274c3d5152c33b5725a8934dffaacce6c11c8eb", func := "custos/custoslaw03.StaveFound", spec := "staveFound", inPlace := ["internal/bytealg.Count", "internal/bytealg.IndexByte", "internal/bytealg.Index"], unfollowed := true, recurses := true, named := ["internal/bytealg.MaxLen"], apart := false }
def StaveFoundSaid : Prop := staveFoundRow.holds Try.pinned (OpenSpec.ofChange staveFoundSpec)

/-- ITS FALSE NEIGHBOUR: 'it returns false'. Refute it at one input. -/
def staveFoundWrong : ChangeSpec := { name := "staveFound", fn := fun _ => fun
  | [d1, d2, d3] => { results := [.lit (.bool false)], args := [d1, d2, d3] }
  | _ => none }
def StaveFoundWrongFalsely : Prop := staveFoundRow.holds Try.pinned (OpenSpec.ofChange staveFoundWrong)

/- THE SECOND FORM. 'bulk': how many values and letters a reading holds, each counted each time it is reached (what is shared counts as often as it is met; a slice's spare places count too). A statement '..UptoSaid' is the law's where the arguments, and the package variables that the reading takes, are together of bulk at most 1048576: NARROWER than '..Said'. Prove '..Said' where nothing that the law and all that it calls make is longer than what came in: it says more and counts as full. Else prove '..UptoSaid'. A law counts once. -/
mutual
def uptoBulk {H : Type} : DataW H → Nat
  | .lit (.string bytes) => bytes.length + 1
  | .lit _ => 1
  | .nil => 1
  | .ptr d => uptoBulk d + 1
  | .slice elems spare => uptoBulkAll elems + uptoBulkAll spare + 1
  | .agg parts => uptoBulkAll parts + 1
  | .iface _ d => uptoBulk d + 1
  | .map entries => uptoBulkEntries entries + 1
  | .held _ => 1
def uptoBulkAll {H : Type} : List (DataW H) → Nat
  | [] => 0
  | d :: r => uptoBulk d + uptoBulkAll r
def uptoBulkEntries {H : Type} : List (Lit × DataW H) → Nat
  | [] => 0
  | x :: r => uptoBulkEntry x + uptoBulkEntries r
def uptoBulkEntry {H : Type} : Lit × DataW H → Nat
  | (.string bytes, d) => bytes.length + uptoBulk d + 1
  | (_, d) => uptoBulk d + 1
 end
def uptoSmall : (H : Type) → List (DataW H) → Bool := fun _ ds => decide (uptoBulkAll ds ≤ 1048576)
def OpenSpec.upto (s : _root_.Go.ChangeSpec) : _root_.Go.OpenSpec := { _root_.Go.OpenSpec.ofChange s with cond := some uptoSmall }

/-- 'custoslaw03.StavePaths', WHERE WHAT IT READS IS OF BULK AT MOST 1048576: true; the input reads as it did. -/
def stavePathsUptoRow : OpenClaim := { program := "ytdimlpcbbkokiaa", sum := "59e11cc98f28d2e87c04f3563274c3d5152c33b5725a8934dffaacce6c11c8eb", func := "custos/custoslaw03.StavePaths", spec := "stavePaths", unfollowed := true, recurses := true, apart := false, narrowed := true }
def StavePathsUptoSaid : Prop := stavePathsUptoRow.holds Try.pinned (OpenSpec.upto stavePathsSpec)

/-- 'custoslaw03.StaveLeast', WHERE WHAT IT READS IS OF BULK AT MOST 1048576: true; the input reads as it did. -/
def staveLeastUptoRow : OpenClaim := { program := "ytdimlpcbbkokiaa", sum := "59e11cc98f28d2e87c04f3563274c3d5152c33b5725a8934dffaacce6c11c8eb", func := "custos/custoslaw03.StaveLeast", spec := "staveLeast", unfollowed := true, recurses := true, apart := false, narrowed := true }
def StaveLeastUptoSaid : Prop := staveLeastUptoRow.holds Try.pinned (OpenSpec.upto staveLeastSpec)

/-- 'custoslaw03.StaveFull', WHERE WHAT IT READS IS OF BULK AT MOST 1048576: true; the input reads as it did. -/
def staveFullUptoRow : OpenClaim := { program := "ytdimlpcbbkokiaa", sum := "59e11cc98f28d2e87c04f3563274c3d5152c33b5725a8934dffaacce6c11c8eb", func := "custos/custoslaw03.StaveFull", spec := "staveFull", unfollowed := true, recurses := true, apart := false, narrowed := true }
def StaveFullUptoSaid : Prop := staveFullUptoRow.holds Try.pinned (OpenSpec.upto staveFullSpec)

/-- 'custoslaw03.StaveGroups', WHERE WHAT IT READS IS OF BULK AT MOST 1048576: true; the input reads as it did. -/
def staveGroupsUptoRow : OpenClaim := { program := "ytdimlpcbbkokiaa", sum := "59e11cc98f28d2e87c04f3563274c3d5152c33b5725a8934dffaacce6c11c8eb", func := "custos/custoslaw03.StaveGroups", spec := "staveGroups", unfollowed := true, recurses := true, apart := false, narrowed := true }
def StaveGroupsUptoSaid : Prop := staveGroupsUptoRow.holds Try.pinned (OpenSpec.upto staveGroupsSpec)

/-- 'custoslaw03.StaveHarm', WHERE WHAT IT READS IS OF BULK AT MOST 1048576: true; the input reads as it did. -/
def staveHarmUptoRow : OpenClaim := { program := "ytdimlpcbbkokiaa", sum := "59e11cc98f28d2e87c04f3563274c3d5152c33b5725a8934dffaacce6c11c8eb", func := "custos/custoslaw03.StaveHarm", spec := "staveHarm", unfollowed := true, recurses := true, apart := false, narrowed := true }
def StaveHarmUptoSaid : Prop := staveHarmUptoRow.holds Try.pinned (OpenSpec.upto staveHarmSpec)

/-- 'custoslaw03.StaveStrips', WHERE WHAT IT READS IS OF BULK AT MOST 1048576: true; the input reads as it did. -/
def staveStripsUptoRow : OpenClaim := { program := "ytdimlpcbbkokiaa", sum := "59e11cc98f28d2e87c04f3563274c3d5152c33b5725a8934dffaacce6c11c8eb", func := "custos/custoslaw03.StaveStrips", spec := "staveStrips", unfollowed := true, recurses := true, apart := false, narrowed := true }
def StaveStripsUptoSaid : Prop := staveStripsUptoRow.holds Try.pinned (OpenSpec.upto staveStripsSpec)

/-- 'custoslaw03.StaveBack', WHERE WHAT IT READS IS OF BULK AT MOST 1048576: true; the input reads as it did. -/
def staveBackUptoRow : OpenClaim := { program := "ytdimlpcbbkokiaa", sum := "59e11cc98f28d2e87c04f3563274c3d5152c33b5725a8934dffaacce6c11c8eb", func := "custos/custoslaw03.StaveBack", spec := "staveBack", unfollowed := true, recurses := true, apart := false, narrowed := true }
def StaveBackUptoSaid : Prop := staveBackUptoRow.holds Try.pinned (OpenSpec.upto staveBackSpec)

/-- 'custoslaw03.StaveRuns', WHERE WHAT IT READS IS OF BULK AT MOST 1048576: true; the input reads as it did. -/
def staveRunsUptoRow : OpenClaim := { program := "ytdimlpcbbkokiaa", sum := "59e11cc98f28d2e87c04f3563274c3d5152c33b5725a8934dffaacce6c11c8eb", func := "custos/custoslaw03.StaveRuns", spec := "staveRuns", unfollowed := true, recurses := true, apart := false, narrowed := true }
def StaveRunsUptoSaid : Prop := staveRunsUptoRow.holds Try.pinned (OpenSpec.upto staveRunsSpec)

/-- 'custoslaw03.StaveFound', WHERE WHAT IT READS IS OF BULK AT MOST 1048576: true; the input reads as it did. -/
def staveFoundUptoRow : OpenClaim := { program := "ytdimlpcbbkokiaa", sum := "59e11cc98f28d2e87c04f3563274c3d5152c33b5725a8934dffaacce6c11c8eb", func := "custos/custoslaw03.StaveFound", spec := "staveFound", inPlace := ["internal/bytealg.Count", "internal/bytealg.IndexByte", "internal/bytealg.Index"], unfollowed := true, recurses := true, named := ["internal/bytealg.MaxLen"], apart := false, narrowed := true }
def StaveFoundUptoSaid : Prop := staveFoundUptoRow.holds Try.pinned (OpenSpec.upto staveFoundSpec)

end Rows
end Go.Proofs.Ytdimlpcbbkokiaa
