/-
  DERIVED. GIVEN WITH THE SEED: THE CARDS: each row of YtbpifoakbkmblaaDoorRows.lean that lists a variable, with what it lists TIED to the program's text (the seventh form; the later family's looks); each row that meets fmt, with fmt's text TOLD by the authors' own Lean function (tested against real Go, not proved from fmt's source: count such statements apart). THE CARD IS WHAT COUNTS. Prove the row's statement (the work); the ties are given (YtbpifoakbkmblaaDoorTie.lean); close each card by the builder's one call (the guide's Derived/Test/ToyasCard.lean, 'card_holds'). Laid BY PROGRAM, IN A SANDBOX (cutbox-door.mjs). By AI agents, Wed Nov 11 2026. No macro, syntax, notation, axiom, sorry.
-/
import Derived.Test.YtbpifoakbkmblaaDoorRows
import GoSem.ClaimSeven
namespace Go.Proofs.YtbpifoakbkmblaaDoor
namespace Rows

/-- THE TIED CARD OF 'plexuslaw29.CensusPairs'. -/
def censusPairsCard : Claim7 := { stood := { row := censusPairsRow, standIns := [], harness := (true, "22fe41f9bd0ab86cd73293b3fe8d27cbf61eb1a6d8ed73f417dbc389f3f190f5"), looks := false }, kinds := [], alts := [], laidByText := true, laidKinds := [.data], laidTests := true, laidLooks := .later }
def CensusPairsCardSaid : Prop := Claim7.holds Tryd.pinned (.plain (OpenSpec.ofChange censusPairsSpec)) censusPairsCard

/-- THE TIED CARD OF 'plexuslaw28.AugmentClasses'. -/
def augmentClassesCard : Claim7 := { stood := { row := augmentClassesRow, standIns := [], harness := (true, "22fe41f9bd0ab86cd73293b3fe8d27cbf61eb1a6d8ed73f417dbc389f3f190f5"), looks := false }, kinds := [], alts := [], laidByText := true, laidKinds := [.data], laidTests := true, laidLooks := .later }
def AugmentClassesCardSaid : Prop := Claim7.holds Tryd.pinned (.plain (OpenSpec.ofChange augmentClassesSpec)) augmentClassesCard

/-- THE TIED CARD OF 'plexuslaw28.AugmentComplete'. -/
def augmentCompleteCard : Claim7 := { stood := { row := augmentCompleteRow, standIns := [], harness := (true, "22fe41f9bd0ab86cd73293b3fe8d27cbf61eb1a6d8ed73f417dbc389f3f190f5"), looks := false }, kinds := [], alts := [], laidByText := true, laidKinds := [.data], laidTests := true, laidLooks := .later }
def AugmentCompleteCardSaid : Prop := Claim7.holds Tryd.pinned (.plain (OpenSpec.ofChange augmentCompleteSpec)) augmentCompleteCard

/-- THE TIED CARD OF 'plexuslaw28.AugmentMatchesReference'. -/
def augmentMatchesReferenceCard : Claim7 := { stood := { row := augmentMatchesReferenceRow, standIns := [], harness := (true, "22fe41f9bd0ab86cd73293b3fe8d27cbf61eb1a6d8ed73f417dbc389f3f190f5"), looks := false }, kinds := [], alts := [], laidByText := true, laidKinds := [.data], laidTests := true, laidLooks := .later }
def AugmentMatchesReferenceCardSaid : Prop := Claim7.holds Tryd.pinned (.plain (OpenSpec.ofChange augmentMatchesReferenceSpec)) augmentMatchesReferenceCard

/-- THE TIED CARD OF 'plexuslaw28.AugmentParents'. -/
def augmentParentsCard : Claim7 := { stood := { row := augmentParentsRow, standIns := [], harness := (true, "22fe41f9bd0ab86cd73293b3fe8d27cbf61eb1a6d8ed73f417dbc389f3f190f5"), looks := false }, kinds := [], alts := [], laidByText := true, laidKinds := [.data], laidTests := true, laidLooks := .later }
def AugmentParentsCardSaid : Prop := Claim7.holds Tryd.pinned (.plain (OpenSpec.ofChange augmentParentsSpec)) augmentParentsCard

/-- THE TIED CARD OF 'plexuslaw28.AugmentPartition'. -/
def augmentPartitionCard : Claim7 := { stood := { row := augmentPartitionRow, standIns := [], harness := (true, "22fe41f9bd0ab86cd73293b3fe8d27cbf61eb1a6d8ed73f417dbc389f3f190f5"), looks := false }, kinds := [], alts := [], laidByText := true, laidKinds := [.data], laidTests := true, laidLooks := .later }
def AugmentPartitionCardSaid : Prop := Claim7.holds Tryd.pinned (.plain (OpenSpec.ofChange augmentPartitionSpec)) augmentPartitionCard

/-- THE TIED CARD OF 'plexuslaw28.AugmentIsomorphic'. -/
def augmentIsomorphicCard : Claim7 := { stood := { row := augmentIsomorphicRow, standIns := [], harness := (true, "22fe41f9bd0ab86cd73293b3fe8d27cbf61eb1a6d8ed73f417dbc389f3f190f5"), looks := false }, kinds := [], alts := [], laidByText := true, laidKinds := [.data], laidTests := true, laidLooks := .later }
def AugmentIsomorphicCardSaid : Prop := Claim7.holds Tryd.pinned (.plain (OpenSpec.ofChange augmentIsomorphicSpec)) augmentIsomorphicCard

/-- THE TIED CARD OF 'plexuslaw28.AugmentRefuses'. -/
def augmentRefusesCard : Claim7 := { stood := { row := augmentRefusesRow, standIns := [], harness := (true, "22fe41f9bd0ab86cd73293b3fe8d27cbf61eb1a6d8ed73f417dbc389f3f190f5"), looks := false }, kinds := [], alts := [], laidByText := true, laidKinds := [.data], laidTests := true, laidLooks := .later }
def AugmentRefusesCardSaid : Prop := Claim7.holds Tryd.pinned (.plain (OpenSpec.ofChange augmentRefusesSpec)) augmentRefusesCard

/-- THE SECOND FORM's CARD OF 'plexuslaw29.CensusPairs'. -/
def censusPairsUptoCard : Claim7 := { stood := { row := censusPairsUptoRow, standIns := [], harness := (true, "22fe41f9bd0ab86cd73293b3fe8d27cbf61eb1a6d8ed73f417dbc389f3f190f5"), looks := false }, kinds := [], alts := [], laidByText := true, laidKinds := [.data], laidTests := true, laidLooks := .later }
def CensusPairsUptoCardSaid : Prop := Claim7.holds Tryd.pinned (.plain (OpenSpec.upto censusPairsSpec)) censusPairsUptoCard

/-- THE SECOND FORM's CARD OF 'plexuslaw28.AugmentClasses'. -/
def augmentClassesUptoCard : Claim7 := { stood := { row := augmentClassesUptoRow, standIns := [], harness := (true, "22fe41f9bd0ab86cd73293b3fe8d27cbf61eb1a6d8ed73f417dbc389f3f190f5"), looks := false }, kinds := [], alts := [], laidByText := true, laidKinds := [.data], laidTests := true, laidLooks := .later }
def AugmentClassesUptoCardSaid : Prop := Claim7.holds Tryd.pinned (.plain (OpenSpec.upto augmentClassesSpec)) augmentClassesUptoCard

/-- THE SECOND FORM's CARD OF 'plexuslaw28.AugmentComplete'. -/
def augmentCompleteUptoCard : Claim7 := { stood := { row := augmentCompleteUptoRow, standIns := [], harness := (true, "22fe41f9bd0ab86cd73293b3fe8d27cbf61eb1a6d8ed73f417dbc389f3f190f5"), looks := false }, kinds := [], alts := [], laidByText := true, laidKinds := [.data], laidTests := true, laidLooks := .later }
def AugmentCompleteUptoCardSaid : Prop := Claim7.holds Tryd.pinned (.plain (OpenSpec.upto augmentCompleteSpec)) augmentCompleteUptoCard

/-- THE SECOND FORM's CARD OF 'plexuslaw28.AugmentMatchesReference'. -/
def augmentMatchesReferenceUptoCard : Claim7 := { stood := { row := augmentMatchesReferenceUptoRow, standIns := [], harness := (true, "22fe41f9bd0ab86cd73293b3fe8d27cbf61eb1a6d8ed73f417dbc389f3f190f5"), looks := false }, kinds := [], alts := [], laidByText := true, laidKinds := [.data], laidTests := true, laidLooks := .later }
def AugmentMatchesReferenceUptoCardSaid : Prop := Claim7.holds Tryd.pinned (.plain (OpenSpec.upto augmentMatchesReferenceSpec)) augmentMatchesReferenceUptoCard

/-- THE SECOND FORM's CARD OF 'plexuslaw28.AugmentParents'. -/
def augmentParentsUptoCard : Claim7 := { stood := { row := augmentParentsUptoRow, standIns := [], harness := (true, "22fe41f9bd0ab86cd73293b3fe8d27cbf61eb1a6d8ed73f417dbc389f3f190f5"), looks := false }, kinds := [], alts := [], laidByText := true, laidKinds := [.data], laidTests := true, laidLooks := .later }
def AugmentParentsUptoCardSaid : Prop := Claim7.holds Tryd.pinned (.plain (OpenSpec.upto augmentParentsSpec)) augmentParentsUptoCard

/-- THE SECOND FORM's CARD OF 'plexuslaw28.AugmentPartition'. -/
def augmentPartitionUptoCard : Claim7 := { stood := { row := augmentPartitionUptoRow, standIns := [], harness := (true, "22fe41f9bd0ab86cd73293b3fe8d27cbf61eb1a6d8ed73f417dbc389f3f190f5"), looks := false }, kinds := [], alts := [], laidByText := true, laidKinds := [.data], laidTests := true, laidLooks := .later }
def AugmentPartitionUptoCardSaid : Prop := Claim7.holds Tryd.pinned (.plain (OpenSpec.upto augmentPartitionSpec)) augmentPartitionUptoCard

/-- THE SECOND FORM's CARD OF 'plexuslaw28.AugmentIsomorphic'. -/
def augmentIsomorphicUptoCard : Claim7 := { stood := { row := augmentIsomorphicUptoRow, standIns := [], harness := (true, "22fe41f9bd0ab86cd73293b3fe8d27cbf61eb1a6d8ed73f417dbc389f3f190f5"), looks := false }, kinds := [], alts := [], laidByText := true, laidKinds := [.data], laidTests := true, laidLooks := .later }
def AugmentIsomorphicUptoCardSaid : Prop := Claim7.holds Tryd.pinned (.plain (OpenSpec.upto augmentIsomorphicSpec)) augmentIsomorphicUptoCard

/-- THE SECOND FORM's CARD OF 'plexuslaw28.AugmentRefuses'. -/
def augmentRefusesUptoCard : Claim7 := { stood := { row := augmentRefusesUptoRow, standIns := [], harness := (true, "22fe41f9bd0ab86cd73293b3fe8d27cbf61eb1a6d8ed73f417dbc389f3f190f5"), looks := false }, kinds := [], alts := [], laidByText := true, laidKinds := [.data], laidTests := true, laidLooks := .later }
def AugmentRefusesUptoCardSaid : Prop := Claim7.holds Tryd.pinned (.plain (OpenSpec.upto augmentRefusesSpec)) augmentRefusesUptoCard
end Rows
end Go.Proofs.YtbpifoakbkmblaaDoor
