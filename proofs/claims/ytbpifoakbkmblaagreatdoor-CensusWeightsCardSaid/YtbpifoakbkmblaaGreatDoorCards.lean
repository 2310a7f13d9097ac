/-
  DERIVED. GIVEN WITH THE SEED: THE CARDS: each row of YtbpifoakbkmblaaGreatDoorRows.lean that lists a variable, with what it lists TIED to the program's text (the seventh form; the later family's looks); each row that meets fmt, with fmt's text TOLD by the authors' own Lean function (tested against real Go, not proved from fmt's source: count such statements apart). THE CARD IS WHAT COUNTS. Prove the row's statement (the work); the ties are given (YtbpifoakbkmblaaGreatDoorTie.lean); close each card by the builder's one call (the guide's Derived/Test/ToyasCard.lean, 'card_holds'). Laid BY PROGRAM, IN A SANDBOX (cutbox-door.mjs). By AI agents, Wed Nov 11 2026. No macro, syntax, notation, axiom, sorry.
-/
import Derived.Test.YtbpifoakbkmblaaGreatDoorRows
import GoSem.ClaimSeven
namespace Go.Proofs.YtbpifoakbkmblaaGreatDoor
namespace Rows

/-- THE TIED CARD OF 'plexuslaw29.CensusMatchesReference'. -/
def censusMatchesReferenceCard : Claim7 := { stood := { row := censusMatchesReferenceRow, standIns := [], harness := (true, "a2e43bca736a955e3367de0eb095d7690e34817d199cb8c9036cf694619d2620"), looks := false }, kinds := [], alts := [], laidByText := true, laidKinds := [.data], laidTests := true, laidLooks := .later }
def CensusMatchesReferenceCardSaid : Prop := Claim7.holds Tryz.pinned (.plain (OpenSpec.ofChange censusMatchesReferenceSpec)) censusMatchesReferenceCard

/-- THE TIED CARD OF 'plexuslaw29.CensusLabels'. -/
def censusLabelsCard : Claim7 := { stood := { row := censusLabelsRow, standIns := [], harness := (true, "a2e43bca736a955e3367de0eb095d7690e34817d199cb8c9036cf694619d2620"), looks := false }, kinds := [], alts := [], laidByText := true, laidKinds := [.data], laidTests := true, laidLooks := .later }
def CensusLabelsCardSaid : Prop := Claim7.holds Tryz.pinned (.plain (OpenSpec.ofChange censusLabelsSpec)) censusLabelsCard

/-- THE TIED CARD OF 'plexuslaw29.CensusWeights'. -/
def censusWeightsCard : Claim7 := { stood := { row := censusWeightsRow, standIns := [], harness := (true, "a2e43bca736a955e3367de0eb095d7690e34817d199cb8c9036cf694619d2620"), looks := false }, kinds := [], alts := [], laidByText := true, laidKinds := [.data], laidTests := true, laidLooks := .later }
def CensusWeightsCardSaid : Prop := Claim7.holds Tryz.pinned (.plain (OpenSpec.ofChange censusWeightsSpec)) censusWeightsCard

/-- THE TIED CARD OF 'plexuslaw29.CensusCloses'. -/
def censusClosesCard : Claim7 := { stood := { row := censusClosesRow, standIns := [], harness := (true, "a2e43bca736a955e3367de0eb095d7690e34817d199cb8c9036cf694619d2620"), looks := false }, kinds := [], alts := [], laidByText := true, laidKinds := [.data], laidTests := true, laidLooks := .later }
def CensusClosesCardSaid : Prop := Claim7.holds Tryz.pinned (.plain (OpenSpec.ofChange censusClosesSpec)) censusClosesCard

/-- THE TIED CARD OF 'plexuslaw29.CensusExtends'. -/
def censusExtendsCard : Claim7 := { stood := { row := censusExtendsRow, standIns := [], harness := (true, "a2e43bca736a955e3367de0eb095d7690e34817d199cb8c9036cf694619d2620"), looks := false }, kinds := [], alts := [], laidByText := true, laidKinds := [.data], laidTests := true, laidLooks := .later }
def CensusExtendsCardSaid : Prop := Claim7.holds Tryz.pinned (.plain (OpenSpec.ofChange censusExtendsSpec)) censusExtendsCard

/-- THE SECOND FORM's CARD OF 'plexuslaw29.CensusMatchesReference'. -/
def censusMatchesReferenceUptoCard : Claim7 := { stood := { row := censusMatchesReferenceUptoRow, standIns := [], harness := (true, "a2e43bca736a955e3367de0eb095d7690e34817d199cb8c9036cf694619d2620"), looks := false }, kinds := [], alts := [], laidByText := true, laidKinds := [.data], laidTests := true, laidLooks := .later }
def CensusMatchesReferenceUptoCardSaid : Prop := Claim7.holds Tryz.pinned (.plain (OpenSpec.upto censusMatchesReferenceSpec)) censusMatchesReferenceUptoCard

/-- THE SECOND FORM's CARD OF 'plexuslaw29.CensusLabels'. -/
def censusLabelsUptoCard : Claim7 := { stood := { row := censusLabelsUptoRow, standIns := [], harness := (true, "a2e43bca736a955e3367de0eb095d7690e34817d199cb8c9036cf694619d2620"), looks := false }, kinds := [], alts := [], laidByText := true, laidKinds := [.data], laidTests := true, laidLooks := .later }
def CensusLabelsUptoCardSaid : Prop := Claim7.holds Tryz.pinned (.plain (OpenSpec.upto censusLabelsSpec)) censusLabelsUptoCard

/-- THE SECOND FORM's CARD OF 'plexuslaw29.CensusWeights'. -/
def censusWeightsUptoCard : Claim7 := { stood := { row := censusWeightsUptoRow, standIns := [], harness := (true, "a2e43bca736a955e3367de0eb095d7690e34817d199cb8c9036cf694619d2620"), looks := false }, kinds := [], alts := [], laidByText := true, laidKinds := [.data], laidTests := true, laidLooks := .later }
def CensusWeightsUptoCardSaid : Prop := Claim7.holds Tryz.pinned (.plain (OpenSpec.upto censusWeightsSpec)) censusWeightsUptoCard

/-- THE SECOND FORM's CARD OF 'plexuslaw29.CensusCloses'. -/
def censusClosesUptoCard : Claim7 := { stood := { row := censusClosesUptoRow, standIns := [], harness := (true, "a2e43bca736a955e3367de0eb095d7690e34817d199cb8c9036cf694619d2620"), looks := false }, kinds := [], alts := [], laidByText := true, laidKinds := [.data], laidTests := true, laidLooks := .later }
def CensusClosesUptoCardSaid : Prop := Claim7.holds Tryz.pinned (.plain (OpenSpec.upto censusClosesSpec)) censusClosesUptoCard

/-- THE SECOND FORM's CARD OF 'plexuslaw29.CensusExtends'. -/
def censusExtendsUptoCard : Claim7 := { stood := { row := censusExtendsUptoRow, standIns := [], harness := (true, "a2e43bca736a955e3367de0eb095d7690e34817d199cb8c9036cf694619d2620"), looks := false }, kinds := [], alts := [], laidByText := true, laidKinds := [.data], laidTests := true, laidLooks := .later }
def CensusExtendsUptoCardSaid : Prop := Claim7.holds Tryz.pinned (.plain (OpenSpec.upto censusExtendsSpec)) censusExtendsUptoCard
end Rows
end Go.Proofs.YtbpifoakbkmblaaGreatDoor
