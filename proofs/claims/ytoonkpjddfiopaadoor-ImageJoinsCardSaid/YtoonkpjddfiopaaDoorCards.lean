/-
  DERIVED. GIVEN WITH THE SEED: THE CARDS: each row of YtoonkpjddfiopaaDoorRows.lean that lists a variable, with what it lists TIED to the program's text (the seventh form; the later family's looks); each row that meets fmt, with fmt's text TOLD by the authors' own Lean function (tested against real Go, not proved from fmt's source: count such statements apart). THE CARD IS WHAT COUNTS. Prove the row's statement (the work); the ties are given (YtoonkpjddfiopaaDoorTie.lean); close each card by the builder's one call (the guide's Derived/Test/ToyasCard.lean, 'card_holds'). Laid BY PROGRAM, IN A SANDBOX (cutbox-door.mjs). By AI agents, Wed Nov 11 2026. No macro, syntax, notation, axiom, sorry.
-/
import Derived.Test.YtoonkpjddfiopaaDoorRows
import GoSem.ClaimSeven
namespace Go.Proofs.YtoonkpjddfiopaaDoor
namespace Rows

/-- THE TIED CARD OF 'custoslaw01.ImageBrushes'. -/
def imageBrushesCard : Claim7 := { stood := { row := imageBrushesRow, standIns := [], harness := (true, "d40af2ed700fda427e312680f18bfb4a54a12bf463a2aa99d84a671ea2c70027"), looks := false }, kinds := [], alts := [], laidByText := true, laidKinds := [.data, .data, .data], laidTests := true, laidLooks := .later }
def ImageBrushesCardSaid : Prop := Claim7.holds Tryd.pinned (.plain (OpenSpec.ofChange imageBrushesSpec)) imageBrushesCard

/-- THE TIED CARD OF 'custoslaw01.ImageComponents'. -/
def imageComponentsCard : Claim7 := { stood := { row := imageComponentsRow, standIns := [], harness := (true, "d40af2ed700fda427e312680f18bfb4a54a12bf463a2aa99d84a671ea2c70027"), looks := false }, kinds := [], alts := [], laidByText := true, laidKinds := [.data, .data, .data], laidTests := true, laidLooks := .later }
def ImageComponentsCardSaid : Prop := Claim7.holds Tryd.pinned (.plain (OpenSpec.ofChange imageComponentsSpec)) imageComponentsCard

/-- THE TIED CARD OF 'custoslaw01.ImageGreys'. -/
def imageGreysCard : Claim7 := { stood := { row := imageGreysRow, standIns := [], harness := (true, "d40af2ed700fda427e312680f18bfb4a54a12bf463a2aa99d84a671ea2c70027"), looks := false }, kinds := [], alts := [], laidByText := true, laidKinds := [.data, .data, .data], laidTests := true, laidLooks := .later }
def ImageGreysCardSaid : Prop := Claim7.holds Tryd.pinned (.plain (OpenSpec.ofChange imageGreysSpec)) imageGreysCard

/-- THE TIED CARD OF 'custoslaw01.ImageParts'. -/
def imagePartsCard : Claim7 := { stood := { row := imagePartsRow, standIns := [], harness := (true, "d40af2ed700fda427e312680f18bfb4a54a12bf463a2aa99d84a671ea2c70027"), looks := false }, kinds := [], alts := [], laidByText := true, laidKinds := [.data, .data, .data], laidTests := true, laidLooks := .later }
def ImagePartsCardSaid : Prop := Claim7.holds Tryd.pinned (.plain (OpenSpec.ofChange imagePartsSpec)) imagePartsCard

/-- THE TIED CARD OF 'custoslaw01.ImageRuns'. -/
def imageRunsCard : Claim7 := { stood := { row := imageRunsRow, standIns := [], harness := (true, "d40af2ed700fda427e312680f18bfb4a54a12bf463a2aa99d84a671ea2c70027"), looks := false }, kinds := [], alts := [], laidByText := true, laidKinds := [.data, .data, .data], laidTests := true, laidLooks := .later }
def ImageRunsCardSaid : Prop := Claim7.holds Tryd.pinned (.plain (OpenSpec.ofChange imageRunsSpec)) imageRunsCard

/-- THE TIED CARD OF 'custoslaw01.ImageBack'. -/
def imageBackCard : Claim7 := { stood := { row := imageBackRow, standIns := [], harness := (true, "d40af2ed700fda427e312680f18bfb4a54a12bf463a2aa99d84a671ea2c70027"), looks := false }, kinds := [], alts := [], laidByText := true, laidKinds := [.data, .data, .data], laidTests := true, laidLooks := .later }
def ImageBackCardSaid : Prop := Claim7.holds Tryd.pinned (.plain (OpenSpec.ofChange imageBackSpec)) imageBackCard

/-- THE TIED CARD OF 'custoslaw01.ImageJoins'. -/
def imageJoinsCard : Claim7 := { stood := { row := imageJoinsRow, standIns := [], harness := (true, "d40af2ed700fda427e312680f18bfb4a54a12bf463a2aa99d84a671ea2c70027"), looks := false }, kinds := [], alts := [], laidByText := true, laidKinds := [.data, .data, .data], laidTests := true, laidLooks := .later }
def ImageJoinsCardSaid : Prop := Claim7.holds Tryd.pinned (.plain (OpenSpec.ofChange imageJoinsSpec)) imageJoinsCard

/-- THE TIED CARD OF 'custoslaw01.ImageTurns'. -/
def imageTurnsCard : Claim7 := { stood := { row := imageTurnsRow, standIns := [], harness := (true, "d40af2ed700fda427e312680f18bfb4a54a12bf463a2aa99d84a671ea2c70027"), looks := false }, kinds := [], alts := [], laidByText := true, laidKinds := [.data, .data, .data], laidTests := true, laidLooks := .later }
def ImageTurnsCardSaid : Prop := Claim7.holds Tryd.pinned (.plain (OpenSpec.ofChange imageTurnsSpec)) imageTurnsCard

/-- THE TIED CARD OF 'custoslaw01.ImageThins'. -/
def imageThinsCard : Claim7 := { stood := { row := imageThinsRow, standIns := [], harness := (true, "d40af2ed700fda427e312680f18bfb4a54a12bf463a2aa99d84a671ea2c70027"), looks := false }, kinds := [], alts := [], laidByText := true, laidKinds := [.data, .data, .data], laidTests := true, laidLooks := .later }
def ImageThinsCardSaid : Prop := Claim7.holds Tryd.pinned (.plain (OpenSpec.ofChange imageThinsSpec)) imageThinsCard

/-- THE TIED CARD OF 'custoslaw01.ImageSpecks'. -/
def imageSpecksCard : Claim7 := { stood := { row := imageSpecksRow, standIns := [], harness := (true, "d40af2ed700fda427e312680f18bfb4a54a12bf463a2aa99d84a671ea2c70027"), looks := false }, kinds := [], alts := [], laidByText := true, laidKinds := [.data, .data, .data], laidTests := true, laidLooks := .later }
def ImageSpecksCardSaid : Prop := Claim7.holds Tryd.pinned (.plain (OpenSpec.ofChange imageSpecksSpec)) imageSpecksCard

/-- THE TIED CARD OF 'custoslaw01.ImageSets'. -/
def imageSetsCard : Claim7 := { stood := { row := imageSetsRow, standIns := [], harness := (true, "d40af2ed700fda427e312680f18bfb4a54a12bf463a2aa99d84a671ea2c70027"), looks := false }, kinds := [], alts := [], laidByText := true, laidKinds := [.data, .data, .data], laidTests := true, laidLooks := .later }
def ImageSetsCardSaid : Prop := Claim7.holds Tryd.pinned (.plain (OpenSpec.ofChange imageSetsSpec)) imageSetsCard

/-- THE TIED CARD OF 'custoslaw01.ImageGrows'. -/
def imageGrowsCard : Claim7 := { stood := { row := imageGrowsRow, standIns := [], harness := (true, "d40af2ed700fda427e312680f18bfb4a54a12bf463a2aa99d84a671ea2c70027"), looks := false }, kinds := [], alts := [], laidByText := true, laidKinds := [.data, .data, .data], laidTests := true, laidLooks := .later }
def ImageGrowsCardSaid : Prop := Claim7.holds Tryd.pinned (.plain (OpenSpec.ofChange imageGrowsSpec)) imageGrowsCard

/-- THE SECOND FORM's CARD OF 'custoslaw01.ImageBrushes'. -/
def imageBrushesUptoCard : Claim7 := { stood := { row := imageBrushesUptoRow, standIns := [], harness := (true, "d40af2ed700fda427e312680f18bfb4a54a12bf463a2aa99d84a671ea2c70027"), looks := false }, kinds := [], alts := [], laidByText := true, laidKinds := [.data, .data, .data], laidTests := true, laidLooks := .later }
def ImageBrushesUptoCardSaid : Prop := Claim7.holds Tryd.pinned (.plain (OpenSpec.upto imageBrushesSpec)) imageBrushesUptoCard

/-- THE SECOND FORM's CARD OF 'custoslaw01.ImageComponents'. -/
def imageComponentsUptoCard : Claim7 := { stood := { row := imageComponentsUptoRow, standIns := [], harness := (true, "d40af2ed700fda427e312680f18bfb4a54a12bf463a2aa99d84a671ea2c70027"), looks := false }, kinds := [], alts := [], laidByText := true, laidKinds := [.data, .data, .data], laidTests := true, laidLooks := .later }
def ImageComponentsUptoCardSaid : Prop := Claim7.holds Tryd.pinned (.plain (OpenSpec.upto imageComponentsSpec)) imageComponentsUptoCard

/-- THE SECOND FORM's CARD OF 'custoslaw01.ImageGreys'. -/
def imageGreysUptoCard : Claim7 := { stood := { row := imageGreysUptoRow, standIns := [], harness := (true, "d40af2ed700fda427e312680f18bfb4a54a12bf463a2aa99d84a671ea2c70027"), looks := false }, kinds := [], alts := [], laidByText := true, laidKinds := [.data, .data, .data], laidTests := true, laidLooks := .later }
def ImageGreysUptoCardSaid : Prop := Claim7.holds Tryd.pinned (.plain (OpenSpec.upto imageGreysSpec)) imageGreysUptoCard

/-- THE SECOND FORM's CARD OF 'custoslaw01.ImageParts'. -/
def imagePartsUptoCard : Claim7 := { stood := { row := imagePartsUptoRow, standIns := [], harness := (true, "d40af2ed700fda427e312680f18bfb4a54a12bf463a2aa99d84a671ea2c70027"), looks := false }, kinds := [], alts := [], laidByText := true, laidKinds := [.data, .data, .data], laidTests := true, laidLooks := .later }
def ImagePartsUptoCardSaid : Prop := Claim7.holds Tryd.pinned (.plain (OpenSpec.upto imagePartsSpec)) imagePartsUptoCard

/-- THE SECOND FORM's CARD OF 'custoslaw01.ImageRuns'. -/
def imageRunsUptoCard : Claim7 := { stood := { row := imageRunsUptoRow, standIns := [], harness := (true, "d40af2ed700fda427e312680f18bfb4a54a12bf463a2aa99d84a671ea2c70027"), looks := false }, kinds := [], alts := [], laidByText := true, laidKinds := [.data, .data, .data], laidTests := true, laidLooks := .later }
def ImageRunsUptoCardSaid : Prop := Claim7.holds Tryd.pinned (.plain (OpenSpec.upto imageRunsSpec)) imageRunsUptoCard

/-- THE SECOND FORM's CARD OF 'custoslaw01.ImageBack'. -/
def imageBackUptoCard : Claim7 := { stood := { row := imageBackUptoRow, standIns := [], harness := (true, "d40af2ed700fda427e312680f18bfb4a54a12bf463a2aa99d84a671ea2c70027"), looks := false }, kinds := [], alts := [], laidByText := true, laidKinds := [.data, .data, .data], laidTests := true, laidLooks := .later }
def ImageBackUptoCardSaid : Prop := Claim7.holds Tryd.pinned (.plain (OpenSpec.upto imageBackSpec)) imageBackUptoCard

/-- THE SECOND FORM's CARD OF 'custoslaw01.ImageJoins'. -/
def imageJoinsUptoCard : Claim7 := { stood := { row := imageJoinsUptoRow, standIns := [], harness := (true, "d40af2ed700fda427e312680f18bfb4a54a12bf463a2aa99d84a671ea2c70027"), looks := false }, kinds := [], alts := [], laidByText := true, laidKinds := [.data, .data, .data], laidTests := true, laidLooks := .later }
def ImageJoinsUptoCardSaid : Prop := Claim7.holds Tryd.pinned (.plain (OpenSpec.upto imageJoinsSpec)) imageJoinsUptoCard

/-- THE SECOND FORM's CARD OF 'custoslaw01.ImageTurns'. -/
def imageTurnsUptoCard : Claim7 := { stood := { row := imageTurnsUptoRow, standIns := [], harness := (true, "d40af2ed700fda427e312680f18bfb4a54a12bf463a2aa99d84a671ea2c70027"), looks := false }, kinds := [], alts := [], laidByText := true, laidKinds := [.data, .data, .data], laidTests := true, laidLooks := .later }
def ImageTurnsUptoCardSaid : Prop := Claim7.holds Tryd.pinned (.plain (OpenSpec.upto imageTurnsSpec)) imageTurnsUptoCard

/-- THE SECOND FORM's CARD OF 'custoslaw01.ImageThins'. -/
def imageThinsUptoCard : Claim7 := { stood := { row := imageThinsUptoRow, standIns := [], harness := (true, "d40af2ed700fda427e312680f18bfb4a54a12bf463a2aa99d84a671ea2c70027"), looks := false }, kinds := [], alts := [], laidByText := true, laidKinds := [.data, .data, .data], laidTests := true, laidLooks := .later }
def ImageThinsUptoCardSaid : Prop := Claim7.holds Tryd.pinned (.plain (OpenSpec.upto imageThinsSpec)) imageThinsUptoCard

/-- THE SECOND FORM's CARD OF 'custoslaw01.ImageSpecks'. -/
def imageSpecksUptoCard : Claim7 := { stood := { row := imageSpecksUptoRow, standIns := [], harness := (true, "d40af2ed700fda427e312680f18bfb4a54a12bf463a2aa99d84a671ea2c70027"), looks := false }, kinds := [], alts := [], laidByText := true, laidKinds := [.data, .data, .data], laidTests := true, laidLooks := .later }
def ImageSpecksUptoCardSaid : Prop := Claim7.holds Tryd.pinned (.plain (OpenSpec.upto imageSpecksSpec)) imageSpecksUptoCard

/-- THE SECOND FORM's CARD OF 'custoslaw01.ImageSets'. -/
def imageSetsUptoCard : Claim7 := { stood := { row := imageSetsUptoRow, standIns := [], harness := (true, "d40af2ed700fda427e312680f18bfb4a54a12bf463a2aa99d84a671ea2c70027"), looks := false }, kinds := [], alts := [], laidByText := true, laidKinds := [.data, .data, .data], laidTests := true, laidLooks := .later }
def ImageSetsUptoCardSaid : Prop := Claim7.holds Tryd.pinned (.plain (OpenSpec.upto imageSetsSpec)) imageSetsUptoCard

/-- THE SECOND FORM's CARD OF 'custoslaw01.ImageGrows'. -/
def imageGrowsUptoCard : Claim7 := { stood := { row := imageGrowsUptoRow, standIns := [], harness := (true, "d40af2ed700fda427e312680f18bfb4a54a12bf463a2aa99d84a671ea2c70027"), looks := false }, kinds := [], alts := [], laidByText := true, laidKinds := [.data, .data, .data], laidTests := true, laidLooks := .later }
def ImageGrowsUptoCardSaid : Prop := Claim7.holds Tryd.pinned (.plain (OpenSpec.upto imageGrowsSpec)) imageGrowsUptoCard
end Rows
end Go.Proofs.YtoonkpjddfiopaaDoor
