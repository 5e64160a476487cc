/-
  NARROWER THAN 'FOR EVERY INPUT', by the rows' own cells (each row's printed sentence says how): ImageBrushes: laid · ImageComponents: laid · ImageGreys: laid · ImageParts: laid · ImageRuns: laid · ImageBack: laid · ImageJoins: laid · ImageTurns: laid · ImageThins: laid · ImageSpecks: laid · ImageSets: laid · ImageGrows: laid.
  DERIVED. THE GIVEN ROWS OF THIS SEAT. 12 by the template 'for every input the law returns true; each argument reads behind the call as it read before'; 0 by the template 'total and deterministic' (their statements: YtoonkpjddfiopaaDoorTotals.lean).
  GIVEN WITH THE SEED: the statements are not yours to turn. If you find one false, say at which input.
  Laid BY PROGRAM, IN A SANDBOX (cutbox-rows.mjs): the forced cells as the released guide's own fill.sh prints them over the translation 61414a7c2cfb8972… (all of the seat's roots in one cut). By AI agents, Wed Nov 11 2026. No macro, syntax, notation, axiom, sorry.
-/
import Derived.Test.YtoonkpjddfiopaaDoorChecked
import GoSem.Claim
import GoSem.ClaimJoined
import GoSem.ClaimMapViews
import Derived.JoinedTies
import Derived.KernelRfl
namespace Go.Proofs.YtoonkpjddfiopaaDoor
/- THE CELL 'sum', in the pinned program and in every row, IS THE sha256 OF THE DUMP (.gsa) THAT YtoonkpjddfiopaaDoorProg.lean LOADS. Nothing in Lean hashes anything: it is a label: what it is worth is what the hold of that sum in a sandbox is worth. -/
noncomputable def Tryd.pinned : Pinned := { name := "ytoonkpjddfiopaadoor", sum := "61414a7c2cfb8972ac2894f22fabdcb59304f95a93aa868446f92af3f0136a58", checked := Tryd.checked }
namespace Rows
def none {H : Type} : Left H := { results := [], args := [] }

/- WHAT THE LISTED PACKAGE-LEVEL VARIABLES READ AS WHEN THE CALL BEGINS. Each datum BY PROGRAM (the guide's laid-datum.mjs) off the statement by which the dump's own 'gosem.cut.vars' lays the variable. In a bare row this is a premise. The card (YtoonkpjddfiopaaDoorCards.lean) ties it to the program's text. -/
def laid_math_bits_deBruijn32tab {H : Type} : DataW H := .agg [.lit (.int .u8 0), .lit (.int .u8 1), .lit (.int .u8 28), .lit (.int .u8 2), .lit (.int .u8 29), .lit (.int .u8 14), .lit (.int .u8 24), .lit (.int .u8 3), .lit (.int .u8 30), .lit (.int .u8 22), .lit (.int .u8 20), .lit (.int .u8 15), .lit (.int .u8 25), .lit (.int .u8 17), .lit (.int .u8 4), .lit (.int .u8 8), .lit (.int .u8 31), .lit (.int .u8 27), .lit (.int .u8 13), .lit (.int .u8 23), .lit (.int .u8 21), .lit (.int .u8 19), .lit (.int .u8 16), .lit (.int .u8 7), .lit (.int .u8 26), .lit (.int .u8 12), .lit (.int .u8 18), .lit (.int .u8 6), .lit (.int .u8 11), .lit (.int .u8 5), .lit (.int .u8 10), .lit (.int .u8 9)]
def laid_math_bits_deBruijn64tab {H : Type} : DataW H := .agg [.lit (.int .u8 0), .lit (.int .u8 1), .lit (.int .u8 56), .lit (.int .u8 2), .lit (.int .u8 57), .lit (.int .u8 49), .lit (.int .u8 28), .lit (.int .u8 3), .lit (.int .u8 61), .lit (.int .u8 58), .lit (.int .u8 42), .lit (.int .u8 50), .lit (.int .u8 38), .lit (.int .u8 29), .lit (.int .u8 17), .lit (.int .u8 4), .lit (.int .u8 62), .lit (.int .u8 47), .lit (.int .u8 59), .lit (.int .u8 36), .lit (.int .u8 45), .lit (.int .u8 43), .lit (.int .u8 51), .lit (.int .u8 22), .lit (.int .u8 53), .lit (.int .u8 39), .lit (.int .u8 33), .lit (.int .u8 30), .lit (.int .u8 24), .lit (.int .u8 18), .lit (.int .u8 12), .lit (.int .u8 5), .lit (.int .u8 63), .lit (.int .u8 55), .lit (.int .u8 48), .lit (.int .u8 27), .lit (.int .u8 60), .lit (.int .u8 41), .lit (.int .u8 37), .lit (.int .u8 16), .lit (.int .u8 46), .lit (.int .u8 35), .lit (.int .u8 44), .lit (.int .u8 21), .lit (.int .u8 52), .lit (.int .u8 32), .lit (.int .u8 23), .lit (.int .u8 11), .lit (.int .u8 54), .lit (.int .u8 26), .lit (.int .u8 40), .lit (.int .u8 15), .lit (.int .u8 34), .lit (.int .u8 20), .lit (.int .u8 31), .lit (.int .u8 10), .lit (.int .u8 25), .lit (.int .u8 14), .lit (.int .u8 19), .lit (.int .u8 9), .lit (.int .u8 13), .lit (.int .u8 8), .lit (.int .u8 7), .lit (.int .u8 6)]
def laid_internal_strconv_uint64pow10 {H : Type} : DataW H := .agg [.lit (.int .u64 1), .lit (.int .u64 10), .lit (.int .u64 100), .lit (.int .u64 1000), .lit (.int .u64 10000), .lit (.int .u64 100000), .lit (.int .u64 1000000), .lit (.int .u64 10000000), .lit (.int .u64 100000000), .lit (.int .u64 1000000000), .lit (.int .u64 10000000000), .lit (.int .u64 100000000000), .lit (.int .u64 1000000000000), .lit (.int .u64 10000000000000), .lit (.int .u64 100000000000000), .lit (.int .u64 1000000000000000), .lit (.int .u64 10000000000000000), .lit (.int .u64 100000000000000000), .lit (.int .u64 1000000000000000000), .lit (.int .u64 10000000000000000000)]

/-- 'custoslaw01.ImageBrushes': WHATEVER THE INPUT: true; the input reads as it did. -/
def imageBrushesSpec : ChangeSpec := { name := "imageBrushes", fn := fun _ => fun
  | [d1, d2, d3] => { results := [.lit (.bool true)], args := [d1, d2, d3] }
  | _ => none }
def imageBrushesRow : OpenClaim := { program := "ytoonkpjddfiopaadoor", sum := "61414a7c2cfb8972ac2894f22fabdcb59304f95a93aa868446f92af3f0136a58", func := "custos/custoslaw01.ImageBrushes", spec := "imageBrushes", inPlace := ["internal/abi.NoEscape"], unfollowed := true, recurses := true, named := ["internal/strconv.uint64pow10", "math/bits.deBruijn32tab", "math/bits.deBruijn64tab"], apart := false, laid := [("math/bits.deBruijn32tab", laid_math_bits_deBruijn32tab), ("math/bits.deBruijn64tab", laid_math_bits_deBruijn64tab), ("internal/strconv.uint64pow10", laid_internal_strconv_uint64pow10)] }
def ImageBrushesSaid : Prop := imageBrushesRow.holds Tryd.pinned (OpenSpec.ofChange imageBrushesSpec)

/-- ITS FALSE NEIGHBOUR: 'it returns false'. Refute it at one input. -/
def imageBrushesWrong : ChangeSpec := { name := "imageBrushes", fn := fun _ => fun
  | [d1, d2, d3] => { results := [.lit (.bool false)], args := [d1, d2, d3] }
  | _ => none }
def ImageBrushesWrongFalsely : Prop := imageBrushesRow.holds Tryd.pinned (OpenSpec.ofChange imageBrushesWrong)

/-- 'custoslaw01.ImageComponents': WHATEVER THE INPUT: true; the input reads as it did. -/
def imageComponentsSpec : ChangeSpec := { name := "imageComponents", fn := fun _ => fun
  | [d1, d2, d3] => { results := [.lit (.bool true)], args := [d1, d2, d3] }
  | _ => none }
def imageComponentsRow : OpenClaim := { program := "ytoonkpjddfiopaadoor", sum := "61414a7c2cfb8972ac2894f22fabdcb59304f95a93aa868446f92af3f0136a58", func := "custos/custoslaw01.ImageComponents", spec := "imageComponents", inPlace := ["internal/abi.NoEscape"], unfollowed := true, recurses := true, named := ["internal/strconv.uint64pow10", "math/bits.deBruijn32tab", "math/bits.deBruijn64tab"], apart := false, laid := [("math/bits.deBruijn32tab", laid_math_bits_deBruijn32tab), ("math/bits.deBruijn64tab", laid_math_bits_deBruijn64tab), ("internal/strconv.uint64pow10", laid_internal_strconv_uint64pow10)] }
def ImageComponentsSaid : Prop := imageComponentsRow.holds Tryd.pinned (OpenSpec.ofChange imageComponentsSpec)

/-- ITS FALSE NEIGHBOUR: 'it returns false'. Refute it at one input. -/
def imageComponentsWrong : ChangeSpec := { name := "imageComponents", fn := fun _ => fun
  | [d1, d2, d3] => { results := [.lit (.bool false)], args := [d1, d2, d3] }
  | _ => none }
def ImageComponentsWrongFalsely : Prop := imageComponentsRow.holds Tryd.pinned (OpenSpec.ofChange imageComponentsWrong)

/-- 'custoslaw01.ImageGreys': WHATEVER THE INPUT: true; the input reads as it did. -/
def imageGreysSpec : ChangeSpec := { name := "imageGreys", fn := fun _ => fun
  | [d1, d2] => { results := [.lit (.bool true)], args := [d1, d2] }
  | _ => none }
def imageGreysRow : OpenClaim := { program := "ytoonkpjddfiopaadoor", sum := "61414a7c2cfb8972ac2894f22fabdcb59304f95a93aa868446f92af3f0136a58", func := "custos/custoslaw01.ImageGreys", spec := "imageGreys", inPlace := ["internal/abi.NoEscape"], unfollowed := true, recurses := true, named := ["internal/strconv.uint64pow10", "math/bits.deBruijn32tab", "math/bits.deBruijn64tab"], apart := false, laid := [("math/bits.deBruijn32tab", laid_math_bits_deBruijn32tab), ("math/bits.deBruijn64tab", laid_math_bits_deBruijn64tab), ("internal/strconv.uint64pow10", laid_internal_strconv_uint64pow10)] }
def ImageGreysSaid : Prop := imageGreysRow.holds Tryd.pinned (OpenSpec.ofChange imageGreysSpec)

/-- ITS FALSE NEIGHBOUR: 'it returns false'. Refute it at one input. -/
def imageGreysWrong : ChangeSpec := { name := "imageGreys", fn := fun _ => fun
  | [d1, d2] => { results := [.lit (.bool false)], args := [d1, d2] }
  | _ => none }
def ImageGreysWrongFalsely : Prop := imageGreysRow.holds Tryd.pinned (OpenSpec.ofChange imageGreysWrong)

/-- 'custoslaw01.ImageParts': WHATEVER THE INPUT: true; the input reads as it did. -/
def imagePartsSpec : ChangeSpec := { name := "imageParts", fn := fun _ => fun
  | [d1, d2, d3, d4] => { results := [.lit (.bool true)], args := [d1, d2, d3, d4] }
  | _ => none }
def imagePartsRow : OpenClaim := { program := "ytoonkpjddfiopaadoor", sum := "61414a7c2cfb8972ac2894f22fabdcb59304f95a93aa868446f92af3f0136a58", func := "custos/custoslaw01.ImageParts", spec := "imageParts", inPlace := ["internal/abi.NoEscape"], unfollowed := true, recurses := true, named := ["internal/strconv.uint64pow10", "math/bits.deBruijn32tab", "math/bits.deBruijn64tab"], apart := false, laid := [("math/bits.deBruijn32tab", laid_math_bits_deBruijn32tab), ("math/bits.deBruijn64tab", laid_math_bits_deBruijn64tab), ("internal/strconv.uint64pow10", laid_internal_strconv_uint64pow10)] }
def ImagePartsSaid : Prop := imagePartsRow.holds Tryd.pinned (OpenSpec.ofChange imagePartsSpec)

/-- ITS FALSE NEIGHBOUR: 'it returns false'. Refute it at one input. -/
def imagePartsWrong : ChangeSpec := { name := "imageParts", fn := fun _ => fun
  | [d1, d2, d3, d4] => { results := [.lit (.bool false)], args := [d1, d2, d3, d4] }
  | _ => none }
def ImagePartsWrongFalsely : Prop := imagePartsRow.holds Tryd.pinned (OpenSpec.ofChange imagePartsWrong)

/-- 'custoslaw01.ImageRuns': WHATEVER THE INPUT: true; the input reads as it did. -/
def imageRunsSpec : ChangeSpec := { name := "imageRuns", fn := fun _ => fun
  | [d1, d2, d3, d4] => { results := [.lit (.bool true)], args := [d1, d2, d3, d4] }
  | _ => none }
def imageRunsRow : OpenClaim := { program := "ytoonkpjddfiopaadoor", sum := "61414a7c2cfb8972ac2894f22fabdcb59304f95a93aa868446f92af3f0136a58", func := "custos/custoslaw01.ImageRuns", spec := "imageRuns", inPlace := ["internal/abi.NoEscape"], unfollowed := true, recurses := true, named := ["internal/strconv.uint64pow10", "math/bits.deBruijn32tab", "math/bits.deBruijn64tab"], apart := false, laid := [("math/bits.deBruijn32tab", laid_math_bits_deBruijn32tab), ("math/bits.deBruijn64tab", laid_math_bits_deBruijn64tab), ("internal/strconv.uint64pow10", laid_internal_strconv_uint64pow10)] }
def ImageRunsSaid : Prop := imageRunsRow.holds Tryd.pinned (OpenSpec.ofChange imageRunsSpec)

/-- ITS FALSE NEIGHBOUR: 'it returns false'. Refute it at one input. -/
def imageRunsWrong : ChangeSpec := { name := "imageRuns", fn := fun _ => fun
  | [d1, d2, d3, d4] => { results := [.lit (.bool false)], args := [d1, d2, d3, d4] }
  | _ => none }
def ImageRunsWrongFalsely : Prop := imageRunsRow.holds Tryd.pinned (OpenSpec.ofChange imageRunsWrong)

/-- 'custoslaw01.ImageBack': WHATEVER THE INPUT: true; the input reads as it did. -/
def imageBackSpec : ChangeSpec := { name := "imageBack", fn := fun _ => fun
  | [d1, d2, d3, d4, d5, d6] => { results := [.lit (.bool true)], args := [d1, d2, d3, d4, d5, d6] }
  | _ => none }
def imageBackRow : OpenClaim := { program := "ytoonkpjddfiopaadoor", sum := "61414a7c2cfb8972ac2894f22fabdcb59304f95a93aa868446f92af3f0136a58", func := "custos/custoslaw01.ImageBack", spec := "imageBack", inPlace := ["internal/abi.NoEscape"], unfollowed := true, recurses := true, named := ["internal/strconv.uint64pow10", "math/bits.deBruijn32tab", "math/bits.deBruijn64tab"], apart := false, laid := [("math/bits.deBruijn32tab", laid_math_bits_deBruijn32tab), ("math/bits.deBruijn64tab", laid_math_bits_deBruijn64tab), ("internal/strconv.uint64pow10", laid_internal_strconv_uint64pow10)] }
def ImageBackSaid : Prop := imageBackRow.holds Tryd.pinned (OpenSpec.ofChange imageBackSpec)

/-- ITS FALSE NEIGHBOUR: 'it returns false'. Refute it at one input. -/
def imageBackWrong : ChangeSpec := { name := "imageBack", fn := fun _ => fun
  | [d1, d2, d3, d4, d5, d6] => { results := [.lit (.bool false)], args := [d1, d2, d3, d4, d5, d6] }
  | _ => none }
def ImageBackWrongFalsely : Prop := imageBackRow.holds Tryd.pinned (OpenSpec.ofChange imageBackWrong)

/-- 'custoslaw01.ImageJoins': WHATEVER THE INPUT: true; the input reads as it did. -/
def imageJoinsSpec : ChangeSpec := { name := "imageJoins", fn := fun _ => fun
  | [d1, d2, d3] => { results := [.lit (.bool true)], args := [d1, d2, d3] }
  | _ => none }
def imageJoinsRow : OpenClaim := { program := "ytoonkpjddfiopaadoor", sum := "61414a7c2cfb8972ac2894f22fabdcb59304f95a93aa868446f92af3f0136a58", func := "custos/custoslaw01.ImageJoins", spec := "imageJoins", inPlace := ["internal/bytealg.Count", "internal/bytealg.IndexByte", "internal/bytealg.Index", "internal/abi.NoEscape"], unfollowed := true, recurses := true, named := ["internal/bytealg.MaxLen", "internal/strconv.uint64pow10", "math/bits.deBruijn32tab", "math/bits.deBruijn64tab"], apart := false, laid := [("math/bits.deBruijn32tab", laid_math_bits_deBruijn32tab), ("math/bits.deBruijn64tab", laid_math_bits_deBruijn64tab), ("internal/strconv.uint64pow10", laid_internal_strconv_uint64pow10)] }
def ImageJoinsSaid : Prop := imageJoinsRow.holds Tryd.pinned (OpenSpec.ofChange imageJoinsSpec)

/-- ITS FALSE NEIGHBOUR: 'it returns false'. Refute it at one input. -/
def imageJoinsWrong : ChangeSpec := { name := "imageJoins", fn := fun _ => fun
  | [d1, d2, d3] => { results := [.lit (.bool false)], args := [d1, d2, d3] }
  | _ => none }
def ImageJoinsWrongFalsely : Prop := imageJoinsRow.holds Tryd.pinned (OpenSpec.ofChange imageJoinsWrong)

/-- 'custoslaw01.ImageTurns': WHATEVER THE INPUT: true; the input reads as it did. -/
def imageTurnsSpec : ChangeSpec := { name := "imageTurns", fn := fun _ => fun
  | [d1, d2, d3, d4] => { results := [.lit (.bool true)], args := [d1, d2, d3, d4] }
  | _ => none }
def imageTurnsRow : OpenClaim := { program := "ytoonkpjddfiopaadoor", sum := "61414a7c2cfb8972ac2894f22fabdcb59304f95a93aa868446f92af3f0136a58", func := "custos/custoslaw01.ImageTurns", spec := "imageTurns", inPlace := ["internal/bytealg.Count", "internal/bytealg.IndexByte", "internal/bytealg.Index", "internal/abi.NoEscape"], unfollowed := true, recurses := true, named := ["internal/bytealg.MaxLen", "internal/strconv.uint64pow10", "math/bits.deBruijn32tab", "math/bits.deBruijn64tab"], apart := false, laid := [("math/bits.deBruijn32tab", laid_math_bits_deBruijn32tab), ("math/bits.deBruijn64tab", laid_math_bits_deBruijn64tab), ("internal/strconv.uint64pow10", laid_internal_strconv_uint64pow10)] }
def ImageTurnsSaid : Prop := imageTurnsRow.holds Tryd.pinned (OpenSpec.ofChange imageTurnsSpec)

/-- ITS FALSE NEIGHBOUR: 'it returns false'. Refute it at one input. -/
def imageTurnsWrong : ChangeSpec := { name := "imageTurns", fn := fun _ => fun
  | [d1, d2, d3, d4] => { results := [.lit (.bool false)], args := [d1, d2, d3, d4] }
  | _ => none }
def ImageTurnsWrongFalsely : Prop := imageTurnsRow.holds Tryd.pinned (OpenSpec.ofChange imageTurnsWrong)

/-- 'custoslaw01.ImageThins': WHATEVER THE INPUT: true; the input reads as it did. -/
def imageThinsSpec : ChangeSpec := { name := "imageThins", fn := fun _ => fun
  | [d1, d2] => { results := [.lit (.bool true)], args := [d1, d2] }
  | _ => none }
def imageThinsRow : OpenClaim := { program := "ytoonkpjddfiopaadoor", sum := "61414a7c2cfb8972ac2894f22fabdcb59304f95a93aa868446f92af3f0136a58", func := "custos/custoslaw01.ImageThins", spec := "imageThins", inPlace := ["internal/bytealg.Count", "internal/bytealg.IndexByte", "internal/bytealg.Index", "internal/abi.NoEscape"], unfollowed := true, recurses := true, named := ["internal/bytealg.MaxLen", "internal/strconv.uint64pow10", "math/bits.deBruijn32tab", "math/bits.deBruijn64tab"], apart := false, laid := [("math/bits.deBruijn32tab", laid_math_bits_deBruijn32tab), ("math/bits.deBruijn64tab", laid_math_bits_deBruijn64tab), ("internal/strconv.uint64pow10", laid_internal_strconv_uint64pow10)] }
def ImageThinsSaid : Prop := imageThinsRow.holds Tryd.pinned (OpenSpec.ofChange imageThinsSpec)

/-- ITS FALSE NEIGHBOUR: 'it returns false'. Refute it at one input. -/
def imageThinsWrong : ChangeSpec := { name := "imageThins", fn := fun _ => fun
  | [d1, d2] => { results := [.lit (.bool false)], args := [d1, d2] }
  | _ => none }
def ImageThinsWrongFalsely : Prop := imageThinsRow.holds Tryd.pinned (OpenSpec.ofChange imageThinsWrong)

/-- 'custoslaw01.ImageSpecks': WHATEVER THE INPUT: true; the input reads as it did. -/
def imageSpecksSpec : ChangeSpec := { name := "imageSpecks", fn := fun _ => fun
  | [d1, d2, d3] => { results := [.lit (.bool true)], args := [d1, d2, d3] }
  | _ => none }
def imageSpecksRow : OpenClaim := { program := "ytoonkpjddfiopaadoor", sum := "61414a7c2cfb8972ac2894f22fabdcb59304f95a93aa868446f92af3f0136a58", func := "custos/custoslaw01.ImageSpecks", spec := "imageSpecks", inPlace := ["internal/bytealg.Count", "internal/bytealg.IndexByte", "internal/bytealg.Index", "internal/abi.NoEscape"], unfollowed := true, recurses := true, named := ["internal/bytealg.MaxLen", "internal/strconv.uint64pow10", "math/bits.deBruijn32tab", "math/bits.deBruijn64tab"], apart := false, laid := [("math/bits.deBruijn32tab", laid_math_bits_deBruijn32tab), ("math/bits.deBruijn64tab", laid_math_bits_deBruijn64tab), ("internal/strconv.uint64pow10", laid_internal_strconv_uint64pow10)] }
def ImageSpecksSaid : Prop := imageSpecksRow.holds Tryd.pinned (OpenSpec.ofChange imageSpecksSpec)

/-- ITS FALSE NEIGHBOUR: 'it returns false'. Refute it at one input. -/
def imageSpecksWrong : ChangeSpec := { name := "imageSpecks", fn := fun _ => fun
  | [d1, d2, d3] => { results := [.lit (.bool false)], args := [d1, d2, d3] }
  | _ => none }
def ImageSpecksWrongFalsely : Prop := imageSpecksRow.holds Tryd.pinned (OpenSpec.ofChange imageSpecksWrong)

/-- 'custoslaw01.ImageSets': WHATEVER THE INPUT: true; the input reads as it did. -/
def imageSetsSpec : ChangeSpec := { name := "imageSets", fn := fun _ => fun
  | [d1, d2, d3] => { results := [.lit (.bool true)], args := [d1, d2, d3] }
  | _ => none }
def imageSetsRow : OpenClaim := { program := "ytoonkpjddfiopaadoor", sum := "61414a7c2cfb8972ac2894f22fabdcb59304f95a93aa868446f92af3f0136a58", func := "custos/custoslaw01.ImageSets", spec := "imageSets", inPlace := ["internal/bytealg.Count", "internal/bytealg.IndexByte", "internal/bytealg.Index", "internal/abi.NoEscape"], unfollowed := true, recurses := true, named := ["internal/bytealg.MaxLen", "internal/strconv.uint64pow10", "math/bits.deBruijn32tab", "math/bits.deBruijn64tab"], apart := false, laid := [("math/bits.deBruijn32tab", laid_math_bits_deBruijn32tab), ("math/bits.deBruijn64tab", laid_math_bits_deBruijn64tab), ("internal/strconv.uint64pow10", laid_internal_strconv_uint64pow10)] }
def ImageSetsSaid : Prop := imageSetsRow.holds Tryd.pinned (OpenSpec.ofChange imageSetsSpec)

/-- ITS FALSE NEIGHBOUR: 'it returns false'. Refute it at one input. -/
def imageSetsWrong : ChangeSpec := { name := "imageSets", fn := fun _ => fun
  | [d1, d2, d3] => { results := [.lit (.bool false)], args := [d1, d2, d3] }
  | _ => none }
def ImageSetsWrongFalsely : Prop := imageSetsRow.holds Tryd.pinned (OpenSpec.ofChange imageSetsWrong)

/-- 'custoslaw01.ImageGrows': WHATEVER THE INPUT: true; the input reads as it did. -/
def imageGrowsSpec : ChangeSpec := { name := "imageGrows", fn := fun _ => fun
  | [d1, d2, d3, d4, d5, d6] => { results := [.lit (.bool true)], args := [d1, d2, d3, d4, d5, d6] }
  | _ => none }
def imageGrowsRow : OpenClaim := { program := "ytoonkpjddfiopaadoor", sum := "61414a7c2cfb8972ac2894f22fabdcb59304f95a93aa868446f92af3f0136a58", func := "custos/custoslaw01.ImageGrows", spec := "imageGrows", inPlace := ["internal/bytealg.Count", "internal/bytealg.IndexByte", "internal/bytealg.Index", "internal/abi.NoEscape"], unfollowed := true, recurses := true, named := ["internal/bytealg.MaxLen", "internal/strconv.uint64pow10", "math/bits.deBruijn32tab", "math/bits.deBruijn64tab"], apart := false, laid := [("math/bits.deBruijn32tab", laid_math_bits_deBruijn32tab), ("math/bits.deBruijn64tab", laid_math_bits_deBruijn64tab), ("internal/strconv.uint64pow10", laid_internal_strconv_uint64pow10)] }
def ImageGrowsSaid : Prop := imageGrowsRow.holds Tryd.pinned (OpenSpec.ofChange imageGrowsSpec)

/-- ITS FALSE NEIGHBOUR: 'it returns false'. Refute it at one input. -/
def imageGrowsWrong : ChangeSpec := { name := "imageGrows", fn := fun _ => fun
  | [d1, d2, d3, d4, d5, d6] => { results := [.lit (.bool false)], args := [d1, d2, d3, d4, d5, d6] }
  | _ => none }
def ImageGrowsWrongFalsely : Prop := imageGrowsRow.holds Tryd.pinned (OpenSpec.ofChange imageGrowsWrong)

/- THE SECOND FORM. 'bulk': how many values and letters a reading holds, each counted each time it is reached (what is shared counts as often as it is met; a slice's spare places count too). A statement '..UptoSaid' is the law's where the arguments, and the package variables that the reading takes, are together of bulk at most 1048576: NARROWER than '..Said'. Prove '..Said' where nothing that the law and all that it calls make is longer than what came in: it says more and counts as full. Else prove '..UptoSaid'. A law counts once. -/
mutual
def uptoBulk {H : Type} : DataW H → Nat
  | .lit (.string bytes) => bytes.length + 1
  | .lit _ => 1
  | .nil => 1
  | .ptr d => uptoBulk d + 1
  | .slice elems spare => uptoBulkAll elems + uptoBulkAll spare + 1
  | .agg parts => uptoBulkAll parts + 1
  | .iface _ d => uptoBulk d + 1
  | .map entries => uptoBulkEntries entries + 1
  | .held _ => 1
def uptoBulkAll {H : Type} : List (DataW H) → Nat
  | [] => 0
  | d :: r => uptoBulk d + uptoBulkAll r
def uptoBulkEntries {H : Type} : List (Lit × DataW H) → Nat
  | [] => 0
  | x :: r => uptoBulkEntry x + uptoBulkEntries r
def uptoBulkEntry {H : Type} : Lit × DataW H → Nat
  | (.string bytes, d) => bytes.length + uptoBulk d + 1
  | (_, d) => uptoBulk d + 1
 end
def uptoSmall : (H : Type) → List (DataW H) → Bool := fun _ ds => decide (uptoBulkAll ds ≤ 1048576)
def OpenSpec.upto (s : _root_.Go.ChangeSpec) : _root_.Go.OpenSpec := { _root_.Go.OpenSpec.ofChange s with cond := some uptoSmall }

/-- 'custoslaw01.ImageBrushes', WHERE WHAT IT READS IS OF BULK AT MOST 1048576: true; the input reads as it did. -/
def imageBrushesUptoRow : OpenClaim := { program := "ytoonkpjddfiopaadoor", sum := "61414a7c2cfb8972ac2894f22fabdcb59304f95a93aa868446f92af3f0136a58", func := "custos/custoslaw01.ImageBrushes", spec := "imageBrushes", inPlace := ["internal/abi.NoEscape"], unfollowed := true, recurses := true, named := ["internal/strconv.uint64pow10", "math/bits.deBruijn32tab", "math/bits.deBruijn64tab"], apart := false, laid := [("math/bits.deBruijn32tab", laid_math_bits_deBruijn32tab), ("math/bits.deBruijn64tab", laid_math_bits_deBruijn64tab), ("internal/strconv.uint64pow10", laid_internal_strconv_uint64pow10)], narrowed := true }
def ImageBrushesUptoSaid : Prop := imageBrushesUptoRow.holds Tryd.pinned (OpenSpec.upto imageBrushesSpec)

/-- 'custoslaw01.ImageComponents', WHERE WHAT IT READS IS OF BULK AT MOST 1048576: true; the input reads as it did. -/
def imageComponentsUptoRow : OpenClaim := { program := "ytoonkpjddfiopaadoor", sum := "61414a7c2cfb8972ac2894f22fabdcb59304f95a93aa868446f92af3f0136a58", func := "custos/custoslaw01.ImageComponents", spec := "imageComponents", inPlace := ["internal/abi.NoEscape"], unfollowed := true, recurses := true, named := ["internal/strconv.uint64pow10", "math/bits.deBruijn32tab", "math/bits.deBruijn64tab"], apart := false, laid := [("math/bits.deBruijn32tab", laid_math_bits_deBruijn32tab), ("math/bits.deBruijn64tab", laid_math_bits_deBruijn64tab), ("internal/strconv.uint64pow10", laid_internal_strconv_uint64pow10)], narrowed := true }
def ImageComponentsUptoSaid : Prop := imageComponentsUptoRow.holds Tryd.pinned (OpenSpec.upto imageComponentsSpec)

/-- 'custoslaw01.ImageGreys', WHERE WHAT IT READS IS OF BULK AT MOST 1048576: true; the input reads as it did. -/
def imageGreysUptoRow : OpenClaim := { program := "ytoonkpjddfiopaadoor", sum := "61414a7c2cfb8972ac2894f22fabdcb59304f95a93aa868446f92af3f0136a58", func := "custos/custoslaw01.ImageGreys", spec := "imageGreys", inPlace := ["internal/abi.NoEscape"], unfollowed := true, recurses := true, named := ["internal/strconv.uint64pow10", "math/bits.deBruijn32tab", "math/bits.deBruijn64tab"], apart := false, laid := [("math/bits.deBruijn32tab", laid_math_bits_deBruijn32tab), ("math/bits.deBruijn64tab", laid_math_bits_deBruijn64tab), ("internal/strconv.uint64pow10", laid_internal_strconv_uint64pow10)], narrowed := true }
def ImageGreysUptoSaid : Prop := imageGreysUptoRow.holds Tryd.pinned (OpenSpec.upto imageGreysSpec)

/-- 'custoslaw01.ImageParts', WHERE WHAT IT READS IS OF BULK AT MOST 1048576: true; the input reads as it did. -/
def imagePartsUptoRow : OpenClaim := { program := "ytoonkpjddfiopaadoor", sum := "61414a7c2cfb8972ac2894f22fabdcb59304f95a93aa868446f92af3f0136a58", func := "custos/custoslaw01.ImageParts", spec := "imageParts", inPlace := ["internal/abi.NoEscape"], unfollowed := true, recurses := true, named := ["internal/strconv.uint64pow10", "math/bits.deBruijn32tab", "math/bits.deBruijn64tab"], apart := false, laid := [("math/bits.deBruijn32tab", laid_math_bits_deBruijn32tab), ("math/bits.deBruijn64tab", laid_math_bits_deBruijn64tab), ("internal/strconv.uint64pow10", laid_internal_strconv_uint64pow10)], narrowed := true }
def ImagePartsUptoSaid : Prop := imagePartsUptoRow.holds Tryd.pinned (OpenSpec.upto imagePartsSpec)

/-- 'custoslaw01.ImageRuns', WHERE WHAT IT READS IS OF BULK AT MOST 1048576: true; the input reads as it did. -/
def imageRunsUptoRow : OpenClaim := { program := "ytoonkpjddfiopaadoor", sum := "61414a7c2cfb8972ac2894f22fabdcb59304f95a93aa868446f92af3f0136a58", func := "custos/custoslaw01.ImageRuns", spec := "imageRuns", inPlace := ["internal/abi.NoEscape"], unfollowed := true, recurses := true, named := ["internal/strconv.uint64pow10", "math/bits.deBruijn32tab", "math/bits.deBruijn64tab"], apart := false, laid := [("math/bits.deBruijn32tab", laid_math_bits_deBruijn32tab), ("math/bits.deBruijn64tab", laid_math_bits_deBruijn64tab), ("internal/strconv.uint64pow10", laid_internal_strconv_uint64pow10)], narrowed := true }
def ImageRunsUptoSaid : Prop := imageRunsUptoRow.holds Tryd.pinned (OpenSpec.upto imageRunsSpec)

/-- 'custoslaw01.ImageBack', WHERE WHAT IT READS IS OF BULK AT MOST 1048576: true; the input reads as it did. -/
def imageBackUptoRow : OpenClaim := { program := "ytoonkpjddfiopaadoor", sum := "61414a7c2cfb8972ac2894f22fabdcb59304f95a93aa868446f92af3f0136a58", func := "custos/custoslaw01.ImageBack", spec := "imageBack", inPlace := ["internal/abi.NoEscape"], unfollowed := true, recurses := true, named := ["internal/strconv.uint64pow10", "math/bits.deBruijn32tab", "math/bits.deBruijn64tab"], apart := false, laid := [("math/bits.deBruijn32tab", laid_math_bits_deBruijn32tab), ("math/bits.deBruijn64tab", laid_math_bits_deBruijn64tab), ("internal/strconv.uint64pow10", laid_internal_strconv_uint64pow10)], narrowed := true }
def ImageBackUptoSaid : Prop := imageBackUptoRow.holds Tryd.pinned (OpenSpec.upto imageBackSpec)

/-- 'custoslaw01.ImageJoins', WHERE WHAT IT READS IS OF BULK AT MOST 1048576: true; the input reads as it did. -/
def imageJoinsUptoRow : OpenClaim := { program := "ytoonkpjddfiopaadoor", sum := "61414a7c2cfb8972ac2894f22fabdcb59304f95a93aa868446f92af3f0136a58", func := "custos/custoslaw01.ImageJoins", spec := "imageJoins", inPlace := ["internal/bytealg.Count", "internal/bytealg.IndexByte", "internal/bytealg.Index", "internal/abi.NoEscape"], unfollowed := true, recurses := true, named := ["internal/bytealg.MaxLen", "internal/strconv.uint64pow10", "math/bits.deBruijn32tab", "math/bits.deBruijn64tab"], apart := false, laid := [("math/bits.deBruijn32tab", laid_math_bits_deBruijn32tab), ("math/bits.deBruijn64tab", laid_math_bits_deBruijn64tab), ("internal/strconv.uint64pow10", laid_internal_strconv_uint64pow10)], narrowed := true }
def ImageJoinsUptoSaid : Prop := imageJoinsUptoRow.holds Tryd.pinned (OpenSpec.upto imageJoinsSpec)

/-- 'custoslaw01.ImageTurns', WHERE WHAT IT READS IS OF BULK AT MOST 1048576: true; the input reads as it did. -/
def imageTurnsUptoRow : OpenClaim := { program := "ytoonkpjddfiopaadoor", sum := "61414a7c2cfb8972ac2894f22fabdcb59304f95a93aa868446f92af3f0136a58", func := "custos/custoslaw01.ImageTurns", spec := "imageTurns", inPlace := ["internal/bytealg.Count", "internal/bytealg.IndexByte", "internal/bytealg.Index", "internal/abi.NoEscape"], unfollowed := true, recurses := true, named := ["internal/bytealg.MaxLen", "internal/strconv.uint64pow10", "math/bits.deBruijn32tab", "math/bits.deBruijn64tab"], apart := false, laid := [("math/bits.deBruijn32tab", laid_math_bits_deBruijn32tab), ("math/bits.deBruijn64tab", laid_math_bits_deBruijn64tab), ("internal/strconv.uint64pow10", laid_internal_strconv_uint64pow10)], narrowed := true }
def ImageTurnsUptoSaid : Prop := imageTurnsUptoRow.holds Tryd.pinned (OpenSpec.upto imageTurnsSpec)

/-- 'custoslaw01.ImageThins', WHERE WHAT IT READS IS OF BULK AT MOST 1048576: true; the input reads as it did. -/
def imageThinsUptoRow : OpenClaim := { program := "ytoonkpjddfiopaadoor", sum := "61414a7c2cfb8972ac2894f22fabdcb59304f95a93aa868446f92af3f0136a58", func := "custos/custoslaw01.ImageThins", spec := "imageThins", inPlace := ["internal/bytealg.Count", "internal/bytealg.IndexByte", "internal/bytealg.Index", "internal/abi.NoEscape"], unfollowed := true, recurses := true, named := ["internal/bytealg.MaxLen", "internal/strconv.uint64pow10", "math/bits.deBruijn32tab", "math/bits.deBruijn64tab"], apart := false, laid := [("math/bits.deBruijn32tab", laid_math_bits_deBruijn32tab), ("math/bits.deBruijn64tab", laid_math_bits_deBruijn64tab), ("internal/strconv.uint64pow10", laid_internal_strconv_uint64pow10)], narrowed := true }
def ImageThinsUptoSaid : Prop := imageThinsUptoRow.holds Tryd.pinned (OpenSpec.upto imageThinsSpec)

/-- 'custoslaw01.ImageSpecks', WHERE WHAT IT READS IS OF BULK AT MOST 1048576: true; the input reads as it did. -/
def imageSpecksUptoRow : OpenClaim := { program := "ytoonkpjddfiopaadoor", sum := "61414a7c2cfb8972ac2894f22fabdcb59304f95a93aa868446f92af3f0136a58", func := "custos/custoslaw01.ImageSpecks", spec := "imageSpecks", inPlace := ["internal/bytealg.Count", "internal/bytealg.IndexByte", "internal/bytealg.Index", "internal/abi.NoEscape"], unfollowed := true, recurses := true, named := ["internal/bytealg.MaxLen", "internal/strconv.uint64pow10", "math/bits.deBruijn32tab", "math/bits.deBruijn64tab"], apart := false, laid := [("math/bits.deBruijn32tab", laid_math_bits_deBruijn32tab), ("math/bits.deBruijn64tab", laid_math_bits_deBruijn64tab), ("internal/strconv.uint64pow10", laid_internal_strconv_uint64pow10)], narrowed := true }
def ImageSpecksUptoSaid : Prop := imageSpecksUptoRow.holds Tryd.pinned (OpenSpec.upto imageSpecksSpec)

/-- 'custoslaw01.ImageSets', WHERE WHAT IT READS IS OF BULK AT MOST 1048576: true; the input reads as it did. -/
def imageSetsUptoRow : OpenClaim := { program := "ytoonkpjddfiopaadoor", sum := "61414a7c2cfb8972ac2894f22fabdcb59304f95a93aa868446f92af3f0136a58", func := "custos/custoslaw01.ImageSets", spec := "imageSets", inPlace := ["internal/bytealg.Count", "internal/bytealg.IndexByte", "internal/bytealg.Index", "internal/abi.NoEscape"], unfollowed := true, recurses := true, named := ["internal/bytealg.MaxLen", "internal/strconv.uint64pow10", "math/bits.deBruijn32tab", "math/bits.deBruijn64tab"], apart := false, laid := [("math/bits.deBruijn32tab", laid_math_bits_deBruijn32tab), ("math/bits.deBruijn64tab", laid_math_bits_deBruijn64tab), ("internal/strconv.uint64pow10", laid_internal_strconv_uint64pow10)], narrowed := true }
def ImageSetsUptoSaid : Prop := imageSetsUptoRow.holds Tryd.pinned (OpenSpec.upto imageSetsSpec)

/-- 'custoslaw01.ImageGrows', WHERE WHAT IT READS IS OF BULK AT MOST 1048576: true; the input reads as it did. -/
def imageGrowsUptoRow : OpenClaim := { program := "ytoonkpjddfiopaadoor", sum := "61414a7c2cfb8972ac2894f22fabdcb59304f95a93aa868446f92af3f0136a58", func := "custos/custoslaw01.ImageGrows", spec := "imageGrows", inPlace := ["internal/bytealg.Count", "internal/bytealg.IndexByte", "internal/bytealg.Index", "internal/abi.NoEscape"], unfollowed := true, recurses := true, named := ["internal/bytealg.MaxLen", "internal/strconv.uint64pow10", "math/bits.deBruijn32tab", "math/bits.deBruijn64tab"], apart := false, laid := [("math/bits.deBruijn32tab", laid_math_bits_deBruijn32tab), ("math/bits.deBruijn64tab", laid_math_bits_deBruijn64tab), ("internal/strconv.uint64pow10", laid_internal_strconv_uint64pow10)], narrowed := true }
def ImageGrowsUptoSaid : Prop := imageGrowsUptoRow.holds Tryd.pinned (OpenSpec.upto imageGrowsSpec)

end Rows
end Go.Proofs.YtoonkpjddfiopaaDoor
