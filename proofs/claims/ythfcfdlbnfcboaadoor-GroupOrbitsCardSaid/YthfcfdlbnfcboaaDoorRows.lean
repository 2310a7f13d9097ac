/-
  NARROWER THAN 'FOR EVERY INPUT', by the rows' own cells (each row's printed sentence says how): GroupProves: laid · GroupBothSides: laid · GroupImages: laid · GroupOrbits: laid.
  DERIVED. THE GIVEN ROWS OF THIS SEAT. 4 by the template 'for every input the law returns true; each argument reads behind the call as it read before'; 0 by the template 'total and deterministic' (their statements: YthfcfdlbnfcboaaDoorTotals.lean).
  GIVEN WITH THE SEED: the statements are not yours to turn. If you find one false, say at which input.
  Laid BY PROGRAM, IN A SANDBOX (cutbox-rows.mjs): the forced cells as the released guide's own fill.sh prints them over the translation fea6e3db31071197… (all of the seat's roots in one cut). By AI agents, Wed Nov 11 2026. No macro, syntax, notation, axiom, sorry.
-/
import Derived.Test.YthfcfdlbnfcboaaDoorChecked
import GoSem.Claim
import GoSem.ClaimJoined
import GoSem.ClaimMapViews
import Derived.JoinedTies
import Derived.KernelRfl
namespace Go.Proofs.YthfcfdlbnfcboaaDoor
/- THE CELL 'sum', in the pinned program and in every row, IS THE sha256 OF THE DUMP (.gsa) THAT YthfcfdlbnfcboaaDoorProg.lean LOADS. Nothing in Lean hashes anything: it is a label: what it is worth is what the hold of that sum in a sandbox is worth. -/
noncomputable def Tryd.pinned : Pinned := { name := "ythfcfdlbnfcboaadoor", sum := "fea6e3db3107119732002a973dee66047a2d6cc577e7b5b3ca134805c530dd36", checked := Tryd.checked }
namespace Rows
def none {H : Type} : Left H := { results := [], args := [] }

/- WHAT THE LISTED PACKAGE-LEVEL VARIABLES READ AS WHEN THE CALL BEGINS. Each datum BY PROGRAM (the guide's laid-datum.mjs) off the statement by which the dump's own 'gosem.cut.vars' lays the variable. In a bare row this is a premise. The card (YthfcfdlbnfcboaaDoorCards.lean) ties it to the program's text. -/
def laid_math_bits_deBruijn64tab {H : Type} : DataW H := .agg [.lit (.int .u8 0), .lit (.int .u8 1), .lit (.int .u8 56), .lit (.int .u8 2), .lit (.int .u8 57), .lit (.int .u8 49), .lit (.int .u8 28), .lit (.int .u8 3), .lit (.int .u8 61), .lit (.int .u8 58), .lit (.int .u8 42), .lit (.int .u8 50), .lit (.int .u8 38), .lit (.int .u8 29), .lit (.int .u8 17), .lit (.int .u8 4), .lit (.int .u8 62), .lit (.int .u8 47), .lit (.int .u8 59), .lit (.int .u8 36), .lit (.int .u8 45), .lit (.int .u8 43), .lit (.int .u8 51), .lit (.int .u8 22), .lit (.int .u8 53), .lit (.int .u8 39), .lit (.int .u8 33), .lit (.int .u8 30), .lit (.int .u8 24), .lit (.int .u8 18), .lit (.int .u8 12), .lit (.int .u8 5), .lit (.int .u8 63), .lit (.int .u8 55), .lit (.int .u8 48), .lit (.int .u8 27), .lit (.int .u8 60), .lit (.int .u8 41), .lit (.int .u8 37), .lit (.int .u8 16), .lit (.int .u8 46), .lit (.int .u8 35), .lit (.int .u8 44), .lit (.int .u8 21), .lit (.int .u8 52), .lit (.int .u8 32), .lit (.int .u8 23), .lit (.int .u8 11), .lit (.int .u8 54), .lit (.int .u8 26), .lit (.int .u8 40), .lit (.int .u8 15), .lit (.int .u8 34), .lit (.int .u8 20), .lit (.int .u8 31), .lit (.int .u8 10), .lit (.int .u8 25), .lit (.int .u8 14), .lit (.int .u8 19), .lit (.int .u8 9), .lit (.int .u8 13), .lit (.int .u8 8), .lit (.int .u8 7), .lit (.int .u8 6)]

/-- 'plexuslaw20.GroupProves': WHATEVER THE INPUT: true; the input reads as it did. -/
def groupProvesSpec : ChangeSpec := { name := "groupProves", fn := fun _ => fun
  | [d] => { results := [.lit (.bool true)], args := [d] }
  | _ => none }
def groupProvesRow : OpenClaim := { program := "ythfcfdlbnfcboaadoor", sum := "fea6e3db3107119732002a973dee66047a2d6cc577e7b5b3ca134805c530dd36", func := "plexus/plexuslaw20.GroupProves", spec := "groupProves", unfollowed := true, recurses := true, named := ["math/bits.deBruijn64tab"], apart := false, laid := [("math/bits.deBruijn64tab", laid_math_bits_deBruijn64tab)] }
def GroupProvesSaid : Prop := groupProvesRow.holds Tryd.pinned (OpenSpec.ofChange groupProvesSpec)

/-- ITS FALSE NEIGHBOUR: 'it returns false'. Refute it at one input. -/
def groupProvesWrong : ChangeSpec := { name := "groupProves", fn := fun _ => fun
  | [d] => { results := [.lit (.bool false)], args := [d] }
  | _ => none }
def GroupProvesWrongFalsely : Prop := groupProvesRow.holds Tryd.pinned (OpenSpec.ofChange groupProvesWrong)

/-- 'plexuslaw20.GroupBothSides': WHATEVER THE INPUT: true; the input reads as it did. -/
def groupBothSidesSpec : ChangeSpec := { name := "groupBothSides", fn := fun _ => fun
  | [d1, d2, d3] => { results := [.lit (.bool true)], args := [d1, d2, d3] }
  | _ => none }
def groupBothSidesRow : OpenClaim := { program := "ythfcfdlbnfcboaadoor", sum := "fea6e3db3107119732002a973dee66047a2d6cc577e7b5b3ca134805c530dd36", func := "plexus/plexuslaw20.GroupBothSides", spec := "groupBothSides", unfollowed := true, recurses := true, named := ["math/bits.deBruijn64tab"], apart := false, laid := [("math/bits.deBruijn64tab", laid_math_bits_deBruijn64tab)] }
def GroupBothSidesSaid : Prop := groupBothSidesRow.holds Tryd.pinned (OpenSpec.ofChange groupBothSidesSpec)

/-- ITS FALSE NEIGHBOUR: 'it returns false'. Refute it at one input. -/
def groupBothSidesWrong : ChangeSpec := { name := "groupBothSides", fn := fun _ => fun
  | [d1, d2, d3] => { results := [.lit (.bool false)], args := [d1, d2, d3] }
  | _ => none }
def GroupBothSidesWrongFalsely : Prop := groupBothSidesRow.holds Tryd.pinned (OpenSpec.ofChange groupBothSidesWrong)

/-- 'plexuslaw20.GroupImages': WHATEVER THE INPUT: true; the input reads as it did. -/
def groupImagesSpec : ChangeSpec := { name := "groupImages", fn := fun _ => fun
  | [d1, d2, d3] => { results := [.lit (.bool true)], args := [d1, d2, d3] }
  | _ => none }
def groupImagesRow : OpenClaim := { program := "ythfcfdlbnfcboaadoor", sum := "fea6e3db3107119732002a973dee66047a2d6cc577e7b5b3ca134805c530dd36", func := "plexus/plexuslaw20.GroupImages", spec := "groupImages", unfollowed := true, recurses := true, named := ["math/bits.deBruijn64tab"], apart := false, laid := [("math/bits.deBruijn64tab", laid_math_bits_deBruijn64tab)] }
def GroupImagesSaid : Prop := groupImagesRow.holds Tryd.pinned (OpenSpec.ofChange groupImagesSpec)

/-- ITS FALSE NEIGHBOUR: 'it returns false'. Refute it at one input. -/
def groupImagesWrong : ChangeSpec := { name := "groupImages", fn := fun _ => fun
  | [d1, d2, d3] => { results := [.lit (.bool false)], args := [d1, d2, d3] }
  | _ => none }
def GroupImagesWrongFalsely : Prop := groupImagesRow.holds Tryd.pinned (OpenSpec.ofChange groupImagesWrong)

/-- 'plexuslaw20.GroupOrbits': WHATEVER THE INPUT: true; the input reads as it did. -/
def groupOrbitsSpec : ChangeSpec := { name := "groupOrbits", fn := fun _ => fun
  | [d] => { results := [.lit (.bool true)], args := [d] }
  | _ => none }
def groupOrbitsRow : OpenClaim := { program := "ythfcfdlbnfcboaadoor", sum := "fea6e3db3107119732002a973dee66047a2d6cc577e7b5b3ca134805c530dd36", func := "plexus/plexuslaw20.GroupOrbits", spec := "groupOrbits", unfollowed := true, recurses := true, named := ["math/bits.deBruijn64tab"], apart := false, laid := [("math/bits.deBruijn64tab", laid_math_bits_deBruijn64tab)] }
def GroupOrbitsSaid : Prop := groupOrbitsRow.holds Tryd.pinned (OpenSpec.ofChange groupOrbitsSpec)

/-- ITS FALSE NEIGHBOUR: 'it returns false'. Refute it at one input. -/
def groupOrbitsWrong : ChangeSpec := { name := "groupOrbits", fn := fun _ => fun
  | [d] => { results := [.lit (.bool false)], args := [d] }
  | _ => none }
def GroupOrbitsWrongFalsely : Prop := groupOrbitsRow.holds Tryd.pinned (OpenSpec.ofChange groupOrbitsWrong)

/- THE SECOND FORM. 'bulk': how many values and letters a reading holds, each counted each time it is reached (what is shared counts as often as it is met; a slice's spare places count too). A statement '..UptoSaid' is the law's where the arguments, and the package variables that the reading takes, are together of bulk at most 1048576: NARROWER than '..Said'. Prove '..Said' where nothing that the law and all that it calls make is longer than what came in: it says more and counts as full. Else prove '..UptoSaid'. A law counts once. -/
mutual
def uptoBulk {H : Type} : DataW H → Nat
  | .lit (.string bytes) => bytes.length + 1
  | .lit _ => 1
  | .nil => 1
  | .ptr d => uptoBulk d + 1
  | .slice elems spare => uptoBulkAll elems + uptoBulkAll spare + 1
  | .agg parts => uptoBulkAll parts + 1
  | .iface _ d => uptoBulk d + 1
  | .map entries => uptoBulkEntries entries + 1
  | .held _ => 1
def uptoBulkAll {H : Type} : List (DataW H) → Nat
  | [] => 0
  | d :: r => uptoBulk d + uptoBulkAll r
def uptoBulkEntries {H : Type} : List (Lit × DataW H) → Nat
  | [] => 0
  | x :: r => uptoBulkEntry x + uptoBulkEntries r
def uptoBulkEntry {H : Type} : Lit × DataW H → Nat
  | (.string bytes, d) => bytes.length + uptoBulk d + 1
  | (_, d) => uptoBulk d + 1
 end
def uptoSmall : (H : Type) → List (DataW H) → Bool := fun _ ds => decide (uptoBulkAll ds ≤ 1048576)
def OpenSpec.upto (s : _root_.Go.ChangeSpec) : _root_.Go.OpenSpec := { _root_.Go.OpenSpec.ofChange s with cond := some uptoSmall }

/-- 'plexuslaw20.GroupProves', WHERE WHAT IT READS IS OF BULK AT MOST 1048576: true; the input reads as it did. -/
def groupProvesUptoRow : OpenClaim := { program := "ythfcfdlbnfcboaadoor", sum := "fea6e3db3107119732002a973dee66047a2d6cc577e7b5b3ca134805c530dd36", func := "plexus/plexuslaw20.GroupProves", spec := "groupProves", unfollowed := true, recurses := true, named := ["math/bits.deBruijn64tab"], apart := false, laid := [("math/bits.deBruijn64tab", laid_math_bits_deBruijn64tab)], narrowed := true }
def GroupProvesUptoSaid : Prop := groupProvesUptoRow.holds Tryd.pinned (OpenSpec.upto groupProvesSpec)

/-- 'plexuslaw20.GroupBothSides', WHERE WHAT IT READS IS OF BULK AT MOST 1048576: true; the input reads as it did. -/
def groupBothSidesUptoRow : OpenClaim := { program := "ythfcfdlbnfcboaadoor", sum := "fea6e3db3107119732002a973dee66047a2d6cc577e7b5b3ca134805c530dd36", func := "plexus/plexuslaw20.GroupBothSides", spec := "groupBothSides", unfollowed := true, recurses := true, named := ["math/bits.deBruijn64tab"], apart := false, laid := [("math/bits.deBruijn64tab", laid_math_bits_deBruijn64tab)], narrowed := true }
def GroupBothSidesUptoSaid : Prop := groupBothSidesUptoRow.holds Tryd.pinned (OpenSpec.upto groupBothSidesSpec)

/-- 'plexuslaw20.GroupImages', WHERE WHAT IT READS IS OF BULK AT MOST 1048576: true; the input reads as it did. -/
def groupImagesUptoRow : OpenClaim := { program := "ythfcfdlbnfcboaadoor", sum := "fea6e3db3107119732002a973dee66047a2d6cc577e7b5b3ca134805c530dd36", func := "plexus/plexuslaw20.GroupImages", spec := "groupImages", unfollowed := true, recurses := true, named := ["math/bits.deBruijn64tab"], apart := false, laid := [("math/bits.deBruijn64tab", laid_math_bits_deBruijn64tab)], narrowed := true }
def GroupImagesUptoSaid : Prop := groupImagesUptoRow.holds Tryd.pinned (OpenSpec.upto groupImagesSpec)

/-- 'plexuslaw20.GroupOrbits', WHERE WHAT IT READS IS OF BULK AT MOST 1048576: true; the input reads as it did. -/
def groupOrbitsUptoRow : OpenClaim := { program := "ythfcfdlbnfcboaadoor", sum := "fea6e3db3107119732002a973dee66047a2d6cc577e7b5b3ca134805c530dd36", func := "plexus/plexuslaw20.GroupOrbits", spec := "groupOrbits", unfollowed := true, recurses := true, named := ["math/bits.deBruijn64tab"], apart := false, laid := [("math/bits.deBruijn64tab", laid_math_bits_deBruijn64tab)], narrowed := true }
def GroupOrbitsUptoSaid : Prop := groupOrbitsUptoRow.holds Tryd.pinned (OpenSpec.upto groupOrbitsSpec)

end Rows
end Go.Proofs.YthfcfdlbnfcboaaDoor
