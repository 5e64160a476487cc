/-
  No cell of these rows narrows 'for every input' (looked for: loops, veiled, ifaces, maps, wideKeys, modest, calm, conditions, laid).
  DERIVED. THE GIVEN ROWS OF THIS SEAT. 8 by the template 'for every input the law returns true; each argument reads behind the call as it read before'; 0 by the template 'total and deterministic' (their statements: YtanbheeekpdkbaaTotals.lean).
  GIVEN WITH THE SEED: the statements are not yours to turn. If you find one false, say at which input.
  Laid BY PROGRAM, IN A SANDBOX (cutbox-rows.mjs): the forced cells as the released guide's own fill.sh prints them over the translation 42204b8c5b7dedef… (all of the seat's roots in one cut). By AI agents, Wed Nov 11 2026. No macro, syntax, notation, axiom, sorry.
-/
import Derived.Test.YtanbheeekpdkbaaChecked
import GoSem.Claim
import GoSem.ClaimJoined
import GoSem.ClaimMapViews
import Derived.JoinedTies
import Derived.KernelRfl
namespace Go.Proofs.Ytanbheeekpdkbaa
/- THE CELL 'sum', in the pinned program and in every row, IS THE sha256 OF THE DUMP (.gsa) THAT YtanbheeekpdkbaaProg.lean LOADS. Nothing in Lean hashes anything: it is a label: what it is worth is what the hold of that sum in a sandbox is worth. -/
noncomputable def Try.pinned : Pinned := { name := "ytanbheeekpdkbaa", sum := "42204b8c5b7dedef2bc0b96ecd7ad4c5ecc00c6940b2ef625908190d78aa7ccb", checked := Try.checked }
namespace Rows
def none {H : Type} : Left H := { results := [], args := [] }

/-- 'custoslaw02.CleanStraight': WHATEVER THE INPUT: true; the input reads as it did. -/
def cleanStraightSpec : ChangeSpec := { name := "cleanStraight", fn := fun _ => fun
  | [d1, d2, d3, d4] => { results := [.lit (.bool true)], args := [d1, d2, d3, d4] }
  | _ => none }
def cleanStraightRow : OpenClaim := { program := "ytanbheeekpdkbaa", sum := "42204b8c5b7dedef2bc0b96ecd7ad4c5ecc00c6940b2ef625908190d78aa7ccb", func := "custos/custoslaw02.CleanStraight", spec := "cleanStraight", unfollowed := true, recurses := true, apart := false }
def CleanStraightSaid : Prop := cleanStraightRow.holds Try.pinned (OpenSpec.ofChange cleanStraightSpec)

/-- ITS FALSE NEIGHBOUR: 'it returns false'. Refute it at one input. -/
def cleanStraightWrong : ChangeSpec := { name := "cleanStraight", fn := fun _ => fun
  | [d1, d2, d3, d4] => { results := [.lit (.bool false)], args := [d1, d2, d3, d4] }
  | _ => none }
def CleanStraightWrongFalsely : Prop := cleanStraightRow.holds Try.pinned (OpenSpec.ofChange cleanStraightWrong)

/-- 'custoslaw02.CleanSkews': WHATEVER THE INPUT: true; the input reads as it did. -/
def cleanSkewsSpec : ChangeSpec := { name := "cleanSkews", fn := fun _ => fun
  | [d1, d2, d3, d4] => { results := [.lit (.bool true)], args := [d1, d2, d3, d4] }
  | _ => none }
def cleanSkewsRow : OpenClaim := { program := "ytanbheeekpdkbaa", sum := "42204b8c5b7dedef2bc0b96ecd7ad4c5ecc00c6940b2ef625908190d78aa7ccb", func := "custos/custoslaw02.CleanSkews", spec := "cleanSkews", unfollowed := true, recurses := true, apart := false }
def CleanSkewsSaid : Prop := cleanSkewsRow.holds Try.pinned (OpenSpec.ofChange cleanSkewsSpec)

/-- ITS FALSE NEIGHBOUR: 'it returns false'. Refute it at one input. -/
def cleanSkewsWrong : ChangeSpec := { name := "cleanSkews", fn := fun _ => fun
  | [d1, d2, d3, d4] => { results := [.lit (.bool false)], args := [d1, d2, d3, d4] }
  | _ => none }
def CleanSkewsWrongFalsely : Prop := cleanSkewsRow.holds Try.pinned (OpenSpec.ofChange cleanSkewsWrong)

/-- 'custoslaw02.CleanLevels': WHATEVER THE INPUT: true; the input reads as it did. -/
def cleanLevelsSpec : ChangeSpec := { name := "cleanLevels", fn := fun _ => fun
  | [d1, d2, d3, d4] => { results := [.lit (.bool true)], args := [d1, d2, d3, d4] }
  | _ => none }
def cleanLevelsRow : OpenClaim := { program := "ytanbheeekpdkbaa", sum := "42204b8c5b7dedef2bc0b96ecd7ad4c5ecc00c6940b2ef625908190d78aa7ccb", func := "custos/custoslaw02.CleanLevels", spec := "cleanLevels", unfollowed := true, recurses := true, apart := false }
def CleanLevelsSaid : Prop := cleanLevelsRow.holds Try.pinned (OpenSpec.ofChange cleanLevelsSpec)

/-- ITS FALSE NEIGHBOUR: 'it returns false'. Refute it at one input. -/
def cleanLevelsWrong : ChangeSpec := { name := "cleanLevels", fn := fun _ => fun
  | [d1, d2, d3, d4] => { results := [.lit (.bool false)], args := [d1, d2, d3, d4] }
  | _ => none }
def CleanLevelsWrongFalsely : Prop := cleanLevelsRow.holds Try.pinned (OpenSpec.ofChange cleanLevelsWrong)

/-- 'custoslaw02.CleanBack': WHATEVER THE INPUT: true; the input reads as it did. -/
def cleanBackSpec : ChangeSpec := { name := "cleanBack", fn := fun _ => fun
  | [d1, d2, d3, d4] => { results := [.lit (.bool true)], args := [d1, d2, d3, d4] }
  | _ => none }
def cleanBackRow : OpenClaim := { program := "ytanbheeekpdkbaa", sum := "42204b8c5b7dedef2bc0b96ecd7ad4c5ecc00c6940b2ef625908190d78aa7ccb", func := "custos/custoslaw02.CleanBack", spec := "cleanBack", unfollowed := true, recurses := true, apart := false }
def CleanBackSaid : Prop := cleanBackRow.holds Try.pinned (OpenSpec.ofChange cleanBackSpec)

/-- ITS FALSE NEIGHBOUR: 'it returns false'. Refute it at one input. -/
def cleanBackWrong : ChangeSpec := { name := "cleanBack", fn := fun _ => fun
  | [d1, d2, d3, d4] => { results := [.lit (.bool false)], args := [d1, d2, d3, d4] }
  | _ => none }
def CleanBackWrongFalsely : Prop := cleanBackRow.holds Try.pinned (OpenSpec.ofChange cleanBackWrong)

/-- 'custoslaw02.CleanRecipes': WHATEVER THE INPUT: true; the input reads as it did. -/
def cleanRecipesSpec : ChangeSpec := { name := "cleanRecipes", fn := fun _ => fun
  | [d1, d2] => { results := [.lit (.bool true)], args := [d1, d2] }
  | _ => none }
def cleanRecipesRow : OpenClaim := { program := "ytanbheeekpdkbaa", sum := "42204b8c5b7dedef2bc0b96ecd7ad4c5ecc00c6940b2ef625908190d78aa7ccb", func := "custos/custoslaw02.CleanRecipes", spec := "cleanRecipes", unfollowed := true, recurses := true, apart := false }
def CleanRecipesSaid : Prop := cleanRecipesRow.holds Try.pinned (OpenSpec.ofChange cleanRecipesSpec)

/-- ITS FALSE NEIGHBOUR: 'it returns false'. Refute it at one input. -/
def cleanRecipesWrong : ChangeSpec := { name := "cleanRecipes", fn := fun _ => fun
  | [d1, d2] => { results := [.lit (.bool false)], args := [d1, d2] }
  | _ => none }
def CleanRecipesWrongFalsely : Prop := cleanRecipesRow.holds Try.pinned (OpenSpec.ofChange cleanRecipesWrong)

/-- 'custoslaw02.CleanFound': WHATEVER THE INPUT: true; the input reads as it did. -/
def cleanFoundSpec : ChangeSpec := { name := "cleanFound", fn := fun _ => fun
  | [d1, d2, d3, d4, d5] => { results := [.lit (.bool true)], args := [d1, d2, d3, d4, d5] }
  | _ => none }
def cleanFoundRow : OpenClaim := { program := "ytanbheeekpdkbaa", sum := "42204b8c5b7dedef2bc0b96ecd7ad4c5ecc00c6940b2ef625908190d78aa7ccb", func := "custos/custoslaw02.CleanFound", spec := "cleanFound", unfollowed := true, recurses := true, apart := false }
def CleanFoundSaid : Prop := cleanFoundRow.holds Try.pinned (OpenSpec.ofChange cleanFoundSpec)

/-- ITS FALSE NEIGHBOUR: 'it returns false'. Refute it at one input. -/
def cleanFoundWrong : ChangeSpec := { name := "cleanFound", fn := fun _ => fun
  | [d1, d2, d3, d4, d5] => { results := [.lit (.bool false)], args := [d1, d2, d3, d4, d5] }
  | _ => none }
def CleanFoundWrongFalsely : Prop := cleanFoundRow.holds Try.pinned (OpenSpec.ofChange cleanFoundWrong)

/-- 'custoslaw02.CleanSmall': WHATEVER THE INPUT: true; the input reads as it did. -/
def cleanSmallSpec : ChangeSpec := { name := "cleanSmall", fn := fun _ => fun
  | [] => { results := [.lit (.bool true)], args := [] }
  | _ => none }
def cleanSmallRow : OpenClaim := { program := "ytanbheeekpdkbaa", sum := "42204b8c5b7dedef2bc0b96ecd7ad4c5ecc00c6940b2ef625908190d78aa7ccb", func := "custos/custoslaw02.CleanSmall", spec := "cleanSmall", unfollowed := true, recurses := true, apart := false }
def CleanSmallSaid : Prop := cleanSmallRow.holds Try.pinned (OpenSpec.ofChange cleanSmallSpec)

/-- ITS FALSE NEIGHBOUR: 'it returns false'. Refute it at one input. -/
def cleanSmallWrong : ChangeSpec := { name := "cleanSmall", fn := fun _ => fun
  | [] => { results := [.lit (.bool false)], args := [] }
  | _ => none }
def CleanSmallWrongFalsely : Prop := cleanSmallRow.holds Try.pinned (OpenSpec.ofChange cleanSmallWrong)

/-- 'custoslaw02.CleanParts': WHATEVER THE INPUT: true; the input reads as it did. -/
def cleanPartsSpec : ChangeSpec := { name := "cleanParts", fn := fun _ => fun
  | [d1, d2, d3, d4] => { results := [.lit (.bool true)], args := [d1, d2, d3, d4] }
  | _ => none }
def cleanPartsRow : OpenClaim := { program := "ytanbheeekpdkbaa", sum := "42204b8c5b7dedef2bc0b96ecd7ad4c5ecc00c6940b2ef625908190d78aa7ccb", func := "custos/custoslaw02.CleanParts", spec := "cleanParts", inPlace := ["internal/bytealg.Count", "internal/bytealg.IndexByte", "internal/bytealg.Index"], unfollowed := true, recurses := true, named := ["internal/bytealg.MaxLen"], apart := false }
def CleanPartsSaid : Prop := cleanPartsRow.holds Try.pinned (OpenSpec.ofChange cleanPartsSpec)

/-- ITS FALSE NEIGHBOUR: 'it returns false'. Refute it at one input. -/
def cleanPartsWrong : ChangeSpec := { name := "cleanParts", fn := fun _ => fun
  | [d1, d2, d3, d4] => { results := [.lit (.bool false)], args := [d1, d2, d3, d4] }
  | _ => none }
def CleanPartsWrongFalsely : Prop := cleanPartsRow.holds Try.pinned (OpenSpec.ofChange cleanPartsWrong)

/- THE SECOND FORM. 'bulk': how many values and letters a reading holds, each counted each time it is reached (what is shared counts as often as it is met; a slice's spare places count too). A statement '..UptoSaid' is the law's where the arguments, and the package variables that the reading takes, are together of bulk at most 1048576: NARROWER than '..Said'. Prove '..Said' where nothing that the law and all that it calls make is longer than what came in: it says more and counts as full. Else prove '..UptoSaid'. A law counts once. -/
mutual
def uptoBulk {H : Type} : DataW H → Nat
  | .lit (.string bytes) => bytes.length + 1
  | .lit _ => 1
  | .nil => 1
  | .ptr d => uptoBulk d + 1
  | .slice elems spare => uptoBulkAll elems + uptoBulkAll spare + 1
  | .agg parts => uptoBulkAll parts + 1
  | .iface _ d => uptoBulk d + 1
  | .map entries => uptoBulkEntries entries + 1
  | .held _ => 1
def uptoBulkAll {H : Type} : List (DataW H) → Nat
  | [] => 0
  | d :: r => uptoBulk d + uptoBulkAll r
def uptoBulkEntries {H : Type} : List (Lit × DataW H) → Nat
  | [] => 0
  | x :: r => uptoBulkEntry x + uptoBulkEntries r
def uptoBulkEntry {H : Type} : Lit × DataW H → Nat
  | (.string bytes, d) => bytes.length + uptoBulk d + 1
  | (_, d) => uptoBulk d + 1
 end
def uptoSmall : (H : Type) → List (DataW H) → Bool := fun _ ds => decide (uptoBulkAll ds ≤ 1048576)
def OpenSpec.upto (s : _root_.Go.ChangeSpec) : _root_.Go.OpenSpec := { _root_.Go.OpenSpec.ofChange s with cond := some uptoSmall }

/-- 'custoslaw02.CleanStraight', WHERE WHAT IT READS IS OF BULK AT MOST 1048576: true; the input reads as it did. -/
def cleanStraightUptoRow : OpenClaim := { program := "ytanbheeekpdkbaa", sum := "42204b8c5b7dedef2bc0b96ecd7ad4c5ecc00c6940b2ef625908190d78aa7ccb", func := "custos/custoslaw02.CleanStraight", spec := "cleanStraight", unfollowed := true, recurses := true, apart := false, narrowed := true }
def CleanStraightUptoSaid : Prop := cleanStraightUptoRow.holds Try.pinned (OpenSpec.upto cleanStraightSpec)

/-- 'custoslaw02.CleanSkews', WHERE WHAT IT READS IS OF BULK AT MOST 1048576: true; the input reads as it did. -/
def cleanSkewsUptoRow : OpenClaim := { program := "ytanbheeekpdkbaa", sum := "42204b8c5b7dedef2bc0b96ecd7ad4c5ecc00c6940b2ef625908190d78aa7ccb", func := "custos/custoslaw02.CleanSkews", spec := "cleanSkews", unfollowed := true, recurses := true, apart := false, narrowed := true }
def CleanSkewsUptoSaid : Prop := cleanSkewsUptoRow.holds Try.pinned (OpenSpec.upto cleanSkewsSpec)

/-- 'custoslaw02.CleanLevels', WHERE WHAT IT READS IS OF BULK AT MOST 1048576: true; the input reads as it did. -/
def cleanLevelsUptoRow : OpenClaim := { program := "ytanbheeekpdkbaa", sum := "42204b8c5b7dedef2bc0b96ecd7ad4c5ecc00c6940b2ef625908190d78aa7ccb", func := "custos/custoslaw02.CleanLevels", spec := "cleanLevels", unfollowed := true, recurses := true, apart := false, narrowed := true }
def CleanLevelsUptoSaid : Prop := cleanLevelsUptoRow.holds Try.pinned (OpenSpec.upto cleanLevelsSpec)

/-- 'custoslaw02.CleanBack', WHERE WHAT IT READS IS OF BULK AT MOST 1048576: true; the input reads as it did. -/
def cleanBackUptoRow : OpenClaim := { program := "ytanbheeekpdkbaa", sum := "42204b8c5b7dedef2bc0b96ecd7ad4c5ecc00c6940b2ef625908190d78aa7ccb", func := "custos/custoslaw02.CleanBack", spec := "cleanBack", unfollowed := true, recurses := true, apart := false, narrowed := true }
def CleanBackUptoSaid : Prop := cleanBackUptoRow.holds Try.pinned (OpenSpec.upto cleanBackSpec)

/-- 'custoslaw02.CleanRecipes', WHERE WHAT IT READS IS OF BULK AT MOST 1048576: true; the input reads as it did. -/
def cleanRecipesUptoRow : OpenClaim := { program := "ytanbheeekpdkbaa", sum := "42204b8c5b7dedef2bc0b96ecd7ad4c5ecc00c6940b2ef625908190d78aa7ccb", func := "custos/custoslaw02.CleanRecipes", spec := "cleanRecipes", unfollowed := true, recurses := true, apart := false, narrowed := true }
def CleanRecipesUptoSaid : Prop := cleanRecipesUptoRow.holds Try.pinned (OpenSpec.upto cleanRecipesSpec)

/-- 'custoslaw02.CleanFound', WHERE WHAT IT READS IS OF BULK AT MOST 1048576: true; the input reads as it did. -/
def cleanFoundUptoRow : OpenClaim := { program := "ytanbheeekpdkbaa", sum := "42204b8c5b7dedef2bc0b96ecd7ad4c5ecc00c6940b2ef625908190d78aa7ccb", func := "custos/custoslaw02.CleanFound", spec := "cleanFound", unfollowed := true, recurses := true, apart := false, narrowed := true }
def CleanFoundUptoSaid : Prop := cleanFoundUptoRow.holds Try.pinned (OpenSpec.upto cleanFoundSpec)

/-- 'custoslaw02.CleanSmall', WHERE WHAT IT READS IS OF BULK AT MOST 1048576: true; the input reads as it did. -/
def cleanSmallUptoRow : OpenClaim := { program := "ytanbheeekpdkbaa", sum := "42204b8c5b7dedef2bc0b96ecd7ad4c5ecc00c6940b2ef625908190d78aa7ccb", func := "custos/custoslaw02.CleanSmall", spec := "cleanSmall", unfollowed := true, recurses := true, apart := false, narrowed := true }
def CleanSmallUptoSaid : Prop := cleanSmallUptoRow.holds Try.pinned (OpenSpec.upto cleanSmallSpec)

/-- 'custoslaw02.CleanParts', WHERE WHAT IT READS IS OF BULK AT MOST 1048576: true; the input reads as it did. -/
def cleanPartsUptoRow : OpenClaim := { program := "ytanbheeekpdkbaa", sum := "42204b8c5b7dedef2bc0b96ecd7ad4c5ecc00c6940b2ef625908190d78aa7ccb", func := "custos/custoslaw02.CleanParts", spec := "cleanParts", inPlace := ["internal/bytealg.Count", "internal/bytealg.IndexByte", "internal/bytealg.Index"], unfollowed := true, recurses := true, named := ["internal/bytealg.MaxLen"], apart := false, narrowed := true }
def CleanPartsUptoSaid : Prop := cleanPartsUptoRow.holds Try.pinned (OpenSpec.upto cleanPartsSpec)

end Rows
end Go.Proofs.Ytanbheeekpdkbaa
