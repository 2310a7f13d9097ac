/-
  DERIVED. GIVEN WITH THE SEED: THE CARDS: each row of YthfcfdlbnfcboaaDoorRows.lean that lists a variable, with what it lists TIED to the program's text (the seventh form; the later family's looks); each row that meets fmt, with fmt's text TOLD by the authors' own Lean function (tested against real Go, not proved from fmt's source: count such statements apart). THE CARD IS WHAT COUNTS. Prove the row's statement (the work); the ties are given (YthfcfdlbnfcboaaDoorTie.lean); close each card by the builder's one call (the guide's Derived/Test/ToyasCard.lean, 'card_holds'). Laid BY PROGRAM, IN A SANDBOX (cutbox-door.mjs). By AI agents, Wed Nov 11 2026. No macro, syntax, notation, axiom, sorry.
-/
import Derived.Test.YthfcfdlbnfcboaaDoorRows
import GoSem.ClaimSeven
namespace Go.Proofs.YthfcfdlbnfcboaaDoor
namespace Rows

/-- THE TIED CARD OF 'plexuslaw20.GroupProves'. -/
def groupProvesCard : Claim7 := { stood := { row := groupProvesRow, standIns := [], harness := (true, "5dedc07d237580d1dd74a878704affa8530a165072bcb3e300e63c30ad135981"), looks := false }, kinds := [], alts := [], laidByText := true, laidKinds := [.data], laidTests := true, laidLooks := .later }
def GroupProvesCardSaid : Prop := Claim7.holds Tryd.pinned (.plain (OpenSpec.ofChange groupProvesSpec)) groupProvesCard

/-- THE TIED CARD OF 'plexuslaw20.GroupBothSides'. -/
def groupBothSidesCard : Claim7 := { stood := { row := groupBothSidesRow, standIns := [], harness := (true, "5dedc07d237580d1dd74a878704affa8530a165072bcb3e300e63c30ad135981"), looks := false }, kinds := [], alts := [], laidByText := true, laidKinds := [.data], laidTests := true, laidLooks := .later }
def GroupBothSidesCardSaid : Prop := Claim7.holds Tryd.pinned (.plain (OpenSpec.ofChange groupBothSidesSpec)) groupBothSidesCard

/-- THE TIED CARD OF 'plexuslaw20.GroupImages'. -/
def groupImagesCard : Claim7 := { stood := { row := groupImagesRow, standIns := [], harness := (true, "5dedc07d237580d1dd74a878704affa8530a165072bcb3e300e63c30ad135981"), looks := false }, kinds := [], alts := [], laidByText := true, laidKinds := [.data], laidTests := true, laidLooks := .later }
def GroupImagesCardSaid : Prop := Claim7.holds Tryd.pinned (.plain (OpenSpec.ofChange groupImagesSpec)) groupImagesCard

/-- THE TIED CARD OF 'plexuslaw20.GroupOrbits'. -/
def groupOrbitsCard : Claim7 := { stood := { row := groupOrbitsRow, standIns := [], harness := (true, "5dedc07d237580d1dd74a878704affa8530a165072bcb3e300e63c30ad135981"), looks := false }, kinds := [], alts := [], laidByText := true, laidKinds := [.data], laidTests := true, laidLooks := .later }
def GroupOrbitsCardSaid : Prop := Claim7.holds Tryd.pinned (.plain (OpenSpec.ofChange groupOrbitsSpec)) groupOrbitsCard

/-- THE SECOND FORM's CARD OF 'plexuslaw20.GroupProves'. -/
def groupProvesUptoCard : Claim7 := { stood := { row := groupProvesUptoRow, standIns := [], harness := (true, "5dedc07d237580d1dd74a878704affa8530a165072bcb3e300e63c30ad135981"), looks := false }, kinds := [], alts := [], laidByText := true, laidKinds := [.data], laidTests := true, laidLooks := .later }
def GroupProvesUptoCardSaid : Prop := Claim7.holds Tryd.pinned (.plain (OpenSpec.upto groupProvesSpec)) groupProvesUptoCard

/-- THE SECOND FORM's CARD OF 'plexuslaw20.GroupBothSides'. -/
def groupBothSidesUptoCard : Claim7 := { stood := { row := groupBothSidesUptoRow, standIns := [], harness := (true, "5dedc07d237580d1dd74a878704affa8530a165072bcb3e300e63c30ad135981"), looks := false }, kinds := [], alts := [], laidByText := true, laidKinds := [.data], laidTests := true, laidLooks := .later }
def GroupBothSidesUptoCardSaid : Prop := Claim7.holds Tryd.pinned (.plain (OpenSpec.upto groupBothSidesSpec)) groupBothSidesUptoCard

/-- THE SECOND FORM's CARD OF 'plexuslaw20.GroupImages'. -/
def groupImagesUptoCard : Claim7 := { stood := { row := groupImagesUptoRow, standIns := [], harness := (true, "5dedc07d237580d1dd74a878704affa8530a165072bcb3e300e63c30ad135981"), looks := false }, kinds := [], alts := [], laidByText := true, laidKinds := [.data], laidTests := true, laidLooks := .later }
def GroupImagesUptoCardSaid : Prop := Claim7.holds Tryd.pinned (.plain (OpenSpec.upto groupImagesSpec)) groupImagesUptoCard

/-- THE SECOND FORM's CARD OF 'plexuslaw20.GroupOrbits'. -/
def groupOrbitsUptoCard : Claim7 := { stood := { row := groupOrbitsUptoRow, standIns := [], harness := (true, "5dedc07d237580d1dd74a878704affa8530a165072bcb3e300e63c30ad135981"), looks := false }, kinds := [], alts := [], laidByText := true, laidKinds := [.data], laidTests := true, laidLooks := .later }
def GroupOrbitsUptoCardSaid : Prop := Claim7.holds Tryd.pinned (.plain (OpenSpec.upto groupOrbitsSpec)) groupOrbitsUptoCard
end Rows
end Go.Proofs.YthfcfdlbnfcboaaDoor
