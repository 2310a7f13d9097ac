/-
  NARROWER THAN 'FOR EVERY INPUT', by the rows' own cells (each row's printed sentence says how): CensusPairs: laid · AugmentClasses: laid · AugmentComplete: laid · AugmentMatchesReference: laid · AugmentParents: laid · AugmentPartition: laid · AugmentIsomorphic: laid · AugmentRefuses: laid.
  DERIVED. THE GIVEN ROWS OF THIS SEAT. 8 by the template 'for every input the law returns true; each argument reads behind the call as it read before'; 0 by the template 'total and deterministic' (their statements: YtbpifoakbkmblaaDoorTotals.lean).
  GIVEN WITH THE SEED: the statements are not yours to turn. If you find one false, say at which input.
  Laid BY PROGRAM, IN A SANDBOX (cutbox-rows.mjs): the forced cells as the released guide's own fill.sh prints them over the translation 204d610d2156dea3… (all of the seat's roots in one cut). By AI agents, Wed Nov 11 2026. No macro, syntax, notation, axiom, sorry.
-/
import Derived.Test.YtbpifoakbkmblaaDoorChecked
import GoSem.Claim
import GoSem.ClaimJoined
import GoSem.ClaimMapViews
import Derived.JoinedTies
import Derived.KernelRfl
namespace Go.Proofs.YtbpifoakbkmblaaDoor
/- THE CELL 'sum', in the pinned program and in every row, IS THE sha256 OF THE DUMP (.gsa) THAT YtbpifoakbkmblaaDoorProg.lean LOADS. Nothing in Lean hashes anything: it is a label: what it is worth is what the hold of that sum in a sandbox is worth. -/
noncomputable def Tryd.pinned : Pinned := { name := "ytbpifoakbkmblaadoor", sum := "204d610d2156dea369e7f881a3436ec4dc009efe573aed8804144a93a0c75efe", checked := Tryd.checked }
namespace Rows
def none {H : Type} : Left H := { results := [], args := [] }

/- WHAT THE LISTED PACKAGE-LEVEL VARIABLES READ AS WHEN THE CALL BEGINS. Each datum BY PROGRAM (the guide's laid-datum.mjs) off the statement by which the dump's own 'gosem.cut.vars' lays the variable. In a bare row this is a premise. The card (YtbpifoakbkmblaaDoorCards.lean) ties it to the program's text. -/
def laid_math_bits_deBruijn64tab {H : Type} : DataW H := .agg [.lit (.int .u8 0), .lit (.int .u8 1), .lit (.int .u8 56), .lit (.int .u8 2), .lit (.int .u8 57), .lit (.int .u8 49), .lit (.int .u8 28), .lit (.int .u8 3), .lit (.int .u8 61), .lit (.int .u8 58), .lit (.int .u8 42), .lit (.int .u8 50), .lit (.int .u8 38), .lit (.int .u8 29), .lit (.int .u8 17), .lit (.int .u8 4), .lit (.int .u8 62), .lit (.int .u8 47), .lit (.int .u8 59), .lit (.int .u8 36), .lit (.int .u8 45), .lit (.int .u8 43), .lit (.int .u8 51), .lit (.int .u8 22), .lit (.int .u8 53), .lit (.int .u8 39), .lit (.int .u8 33), .lit (.int .u8 30), .lit (.int .u8 24), .lit (.int .u8 18), .lit (.int .u8 12), .lit (.int .u8 5), .lit (.int .u8 63), .lit (.int .u8 55), .lit (.int .u8 48), .lit (.int .u8 27), .lit (.int .u8 60), .lit (.int .u8 41), .lit (.int .u8 37), .lit (.int .u8 16), .lit (.int .u8 46), .lit (.int .u8 35), .lit (.int .u8 44), .lit (.int .u8 21), .lit (.int .u8 52), .lit (.int .u8 32), .lit (.int .u8 23), .lit (.int .u8 11), .lit (.int .u8 54), .lit (.int .u8 26), .lit (.int .u8 40), .lit (.int .u8 15), .lit (.int .u8 34), .lit (.int .u8 20), .lit (.int .u8 31), .lit (.int .u8 10), .lit (.int .u8 25), .lit (.int .u8 14), .lit (.int .u8 19), .lit (.int .u8 9), .lit (.int .u8 13), .lit (.int .u8 8), .lit (.int .u8 7), .lit (.int .u8 6)]

/-- 'plexuslaw29.CensusPairs': WHATEVER THE INPUT: true; the input reads as it did. -/
def censusPairsSpec : ChangeSpec := { name := "censusPairs", fn := fun _ => fun
  | [d1, d2] => { results := [.lit (.bool true)], args := [d1, d2] }
  | _ => none }
def censusPairsRow : OpenClaim := { program := "ytbpifoakbkmblaadoor", sum := "204d610d2156dea369e7f881a3436ec4dc009efe573aed8804144a93a0c75efe", func := "plexus/plexuslaw29.CensusPairs", spec := "censusPairs", unfollowed := true, recurses := true, named := ["math/bits.deBruijn64tab"], plainKeys := false, apart := false, laid := [("math/bits.deBruijn64tab", laid_math_bits_deBruijn64tab)] }
def CensusPairsSaid : Prop := censusPairsRow.holds Tryd.pinned (OpenSpec.ofChange censusPairsSpec)

/-- ITS FALSE NEIGHBOUR: 'it returns false'. Refute it at one input. -/
def censusPairsWrong : ChangeSpec := { name := "censusPairs", fn := fun _ => fun
  | [d1, d2] => { results := [.lit (.bool false)], args := [d1, d2] }
  | _ => none }
def CensusPairsWrongFalsely : Prop := censusPairsRow.holds Tryd.pinned (OpenSpec.ofChange censusPairsWrong)

/-- 'plexuslaw28.AugmentClasses': WHATEVER THE INPUT: true; the input reads as it did. -/
def augmentClassesSpec : ChangeSpec := { name := "augmentClasses", fn := fun _ => fun
  | [d1, d2] => { results := [.lit (.bool true)], args := [d1, d2] }
  | _ => none }
def augmentClassesRow : OpenClaim := { program := "ytbpifoakbkmblaadoor", sum := "204d610d2156dea369e7f881a3436ec4dc009efe573aed8804144a93a0c75efe", func := "plexus/plexuslaw28.AugmentClasses", spec := "augmentClasses", unfollowed := true, recurses := true, named := ["math/bits.deBruijn64tab"], plainKeys := false, apart := false, laid := [("math/bits.deBruijn64tab", laid_math_bits_deBruijn64tab)] }
def AugmentClassesSaid : Prop := augmentClassesRow.holds Tryd.pinned (OpenSpec.ofChange augmentClassesSpec)

/-- ITS FALSE NEIGHBOUR: 'it returns false'. Refute it at one input. -/
def augmentClassesWrong : ChangeSpec := { name := "augmentClasses", fn := fun _ => fun
  | [d1, d2] => { results := [.lit (.bool false)], args := [d1, d2] }
  | _ => none }
def AugmentClassesWrongFalsely : Prop := augmentClassesRow.holds Tryd.pinned (OpenSpec.ofChange augmentClassesWrong)

/-- 'plexuslaw28.AugmentComplete': WHATEVER THE INPUT: true; the input reads as it did. -/
def augmentCompleteSpec : ChangeSpec := { name := "augmentComplete", fn := fun _ => fun
  | [d1, d2] => { results := [.lit (.bool true)], args := [d1, d2] }
  | _ => none }
def augmentCompleteRow : OpenClaim := { program := "ytbpifoakbkmblaadoor", sum := "204d610d2156dea369e7f881a3436ec4dc009efe573aed8804144a93a0c75efe", func := "plexus/plexuslaw28.AugmentComplete", spec := "augmentComplete", unfollowed := true, recurses := true, named := ["math/bits.deBruijn64tab"], plainKeys := false, apart := false, laid := [("math/bits.deBruijn64tab", laid_math_bits_deBruijn64tab)] }
def AugmentCompleteSaid : Prop := augmentCompleteRow.holds Tryd.pinned (OpenSpec.ofChange augmentCompleteSpec)

/-- ITS FALSE NEIGHBOUR: 'it returns false'. Refute it at one input. -/
def augmentCompleteWrong : ChangeSpec := { name := "augmentComplete", fn := fun _ => fun
  | [d1, d2] => { results := [.lit (.bool false)], args := [d1, d2] }
  | _ => none }
def AugmentCompleteWrongFalsely : Prop := augmentCompleteRow.holds Tryd.pinned (OpenSpec.ofChange augmentCompleteWrong)

/-- 'plexuslaw28.AugmentMatchesReference': WHATEVER THE INPUT: true; the input reads as it did. -/
def augmentMatchesReferenceSpec : ChangeSpec := { name := "augmentMatchesReference", fn := fun _ => fun
  | [d1, d2, d3] => { results := [.lit (.bool true)], args := [d1, d2, d3] }
  | _ => none }
def augmentMatchesReferenceRow : OpenClaim := { program := "ytbpifoakbkmblaadoor", sum := "204d610d2156dea369e7f881a3436ec4dc009efe573aed8804144a93a0c75efe", func := "plexus/plexuslaw28.AugmentMatchesReference", spec := "augmentMatchesReference", unfollowed := true, recurses := true, named := ["math/bits.deBruijn64tab"], plainKeys := false, apart := false, laid := [("math/bits.deBruijn64tab", laid_math_bits_deBruijn64tab)] }
def AugmentMatchesReferenceSaid : Prop := augmentMatchesReferenceRow.holds Tryd.pinned (OpenSpec.ofChange augmentMatchesReferenceSpec)

/-- ITS FALSE NEIGHBOUR: 'it returns false'. Refute it at one input. -/
def augmentMatchesReferenceWrong : ChangeSpec := { name := "augmentMatchesReference", fn := fun _ => fun
  | [d1, d2, d3] => { results := [.lit (.bool false)], args := [d1, d2, d3] }
  | _ => none }
def AugmentMatchesReferenceWrongFalsely : Prop := augmentMatchesReferenceRow.holds Tryd.pinned (OpenSpec.ofChange augmentMatchesReferenceWrong)

/-- 'plexuslaw28.AugmentParents': WHATEVER THE INPUT: true; the input reads as it did. -/
def augmentParentsSpec : ChangeSpec := { name := "augmentParents", fn := fun _ => fun
  | [d1, d2] => { results := [.lit (.bool true)], args := [d1, d2] }
  | _ => none }
def augmentParentsRow : OpenClaim := { program := "ytbpifoakbkmblaadoor", sum := "204d610d2156dea369e7f881a3436ec4dc009efe573aed8804144a93a0c75efe", func := "plexus/plexuslaw28.AugmentParents", spec := "augmentParents", unfollowed := true, recurses := true, named := ["math/bits.deBruijn64tab"], plainKeys := false, apart := false, laid := [("math/bits.deBruijn64tab", laid_math_bits_deBruijn64tab)] }
def AugmentParentsSaid : Prop := augmentParentsRow.holds Tryd.pinned (OpenSpec.ofChange augmentParentsSpec)

/-- ITS FALSE NEIGHBOUR: 'it returns false'. Refute it at one input. -/
def augmentParentsWrong : ChangeSpec := { name := "augmentParents", fn := fun _ => fun
  | [d1, d2] => { results := [.lit (.bool false)], args := [d1, d2] }
  | _ => none }
def AugmentParentsWrongFalsely : Prop := augmentParentsRow.holds Tryd.pinned (OpenSpec.ofChange augmentParentsWrong)

/-- 'plexuslaw28.AugmentPartition': WHATEVER THE INPUT: true; the input reads as it did. -/
def augmentPartitionSpec : ChangeSpec := { name := "augmentPartition", fn := fun _ => fun
  | [d1, d2] => { results := [.lit (.bool true)], args := [d1, d2] }
  | _ => none }
def augmentPartitionRow : OpenClaim := { program := "ytbpifoakbkmblaadoor", sum := "204d610d2156dea369e7f881a3436ec4dc009efe573aed8804144a93a0c75efe", func := "plexus/plexuslaw28.AugmentPartition", spec := "augmentPartition", unfollowed := true, recurses := true, named := ["math/bits.deBruijn64tab"], plainKeys := false, apart := false, laid := [("math/bits.deBruijn64tab", laid_math_bits_deBruijn64tab)] }
def AugmentPartitionSaid : Prop := augmentPartitionRow.holds Tryd.pinned (OpenSpec.ofChange augmentPartitionSpec)

/-- ITS FALSE NEIGHBOUR: 'it returns false'. Refute it at one input. -/
def augmentPartitionWrong : ChangeSpec := { name := "augmentPartition", fn := fun _ => fun
  | [d1, d2] => { results := [.lit (.bool false)], args := [d1, d2] }
  | _ => none }
def AugmentPartitionWrongFalsely : Prop := augmentPartitionRow.holds Tryd.pinned (OpenSpec.ofChange augmentPartitionWrong)

/-- 'plexuslaw28.AugmentIsomorphic': WHATEVER THE INPUT: true; the input reads as it did. -/
def augmentIsomorphicSpec : ChangeSpec := { name := "augmentIsomorphic", fn := fun _ => fun
  | [d1, d2, d3] => { results := [.lit (.bool true)], args := [d1, d2, d3] }
  | _ => none }
def augmentIsomorphicRow : OpenClaim := { program := "ytbpifoakbkmblaadoor", sum := "204d610d2156dea369e7f881a3436ec4dc009efe573aed8804144a93a0c75efe", func := "plexus/plexuslaw28.AugmentIsomorphic", spec := "augmentIsomorphic", unfollowed := true, recurses := true, named := ["math/bits.deBruijn64tab"], plainKeys := false, apart := false, laid := [("math/bits.deBruijn64tab", laid_math_bits_deBruijn64tab)] }
def AugmentIsomorphicSaid : Prop := augmentIsomorphicRow.holds Tryd.pinned (OpenSpec.ofChange augmentIsomorphicSpec)

/-- ITS FALSE NEIGHBOUR: 'it returns false'. Refute it at one input. -/
def augmentIsomorphicWrong : ChangeSpec := { name := "augmentIsomorphic", fn := fun _ => fun
  | [d1, d2, d3] => { results := [.lit (.bool false)], args := [d1, d2, d3] }
  | _ => none }
def AugmentIsomorphicWrongFalsely : Prop := augmentIsomorphicRow.holds Tryd.pinned (OpenSpec.ofChange augmentIsomorphicWrong)

/-- 'plexuslaw28.AugmentRefuses': WHATEVER THE INPUT: true; the input reads as it did. -/
def augmentRefusesSpec : ChangeSpec := { name := "augmentRefuses", fn := fun _ => fun
  | [d1, d2, d3] => { results := [.lit (.bool true)], args := [d1, d2, d3] }
  | _ => none }
def augmentRefusesRow : OpenClaim := { program := "ytbpifoakbkmblaadoor", sum := "204d610d2156dea369e7f881a3436ec4dc009efe573aed8804144a93a0c75efe", func := "plexus/plexuslaw28.AugmentRefuses", spec := "augmentRefuses", unfollowed := true, recurses := true, named := ["math/bits.deBruijn64tab"], plainKeys := false, apart := false, laid := [("math/bits.deBruijn64tab", laid_math_bits_deBruijn64tab)] }
def AugmentRefusesSaid : Prop := augmentRefusesRow.holds Tryd.pinned (OpenSpec.ofChange augmentRefusesSpec)

/-- ITS FALSE NEIGHBOUR: 'it returns false'. Refute it at one input. -/
def augmentRefusesWrong : ChangeSpec := { name := "augmentRefuses", fn := fun _ => fun
  | [d1, d2, d3] => { results := [.lit (.bool false)], args := [d1, d2, d3] }
  | _ => none }
def AugmentRefusesWrongFalsely : Prop := augmentRefusesRow.holds Tryd.pinned (OpenSpec.ofChange augmentRefusesWrong)

/- THE SECOND FORM. 'bulk': how many values and letters a reading holds, each counted each time it is reached (what is shared counts as often as it is met; a slice's spare places count too). A statement '..UptoSaid' is the law's where the arguments, and the package variables that the reading takes, are together of bulk at most 1048576: NARROWER than '..Said'. Prove '..Said' where nothing that the law and all that it calls make is longer than what came in: it says more and counts as full. Else prove '..UptoSaid'. A law counts once. -/
mutual
def uptoBulk {H : Type} : DataW H → Nat
  | .lit (.string bytes) => bytes.length + 1
  | .lit _ => 1
  | .nil => 1
  | .ptr d => uptoBulk d + 1
  | .slice elems spare => uptoBulkAll elems + uptoBulkAll spare + 1
  | .agg parts => uptoBulkAll parts + 1
  | .iface _ d => uptoBulk d + 1
  | .map entries => uptoBulkEntries entries + 1
  | .held _ => 1
def uptoBulkAll {H : Type} : List (DataW H) → Nat
  | [] => 0
  | d :: r => uptoBulk d + uptoBulkAll r
def uptoBulkEntries {H : Type} : List (Lit × DataW H) → Nat
  | [] => 0
  | x :: r => uptoBulkEntry x + uptoBulkEntries r
def uptoBulkEntry {H : Type} : Lit × DataW H → Nat
  | (.string bytes, d) => bytes.length + uptoBulk d + 1
  | (_, d) => uptoBulk d + 1
 end
def uptoSmall : (H : Type) → List (DataW H) → Bool := fun _ ds => decide (uptoBulkAll ds ≤ 1048576)
def OpenSpec.upto (s : _root_.Go.ChangeSpec) : _root_.Go.OpenSpec := { _root_.Go.OpenSpec.ofChange s with cond := some uptoSmall }

/-- 'plexuslaw29.CensusPairs', WHERE WHAT IT READS IS OF BULK AT MOST 1048576: true; the input reads as it did. -/
def censusPairsUptoRow : OpenClaim := { program := "ytbpifoakbkmblaadoor", sum := "204d610d2156dea369e7f881a3436ec4dc009efe573aed8804144a93a0c75efe", func := "plexus/plexuslaw29.CensusPairs", spec := "censusPairs", unfollowed := true, recurses := true, named := ["math/bits.deBruijn64tab"], plainKeys := false, apart := false, laid := [("math/bits.deBruijn64tab", laid_math_bits_deBruijn64tab)], narrowed := true }
def CensusPairsUptoSaid : Prop := censusPairsUptoRow.holds Tryd.pinned (OpenSpec.upto censusPairsSpec)

/-- 'plexuslaw28.AugmentClasses', WHERE WHAT IT READS IS OF BULK AT MOST 1048576: true; the input reads as it did. -/
def augmentClassesUptoRow : OpenClaim := { program := "ytbpifoakbkmblaadoor", sum := "204d610d2156dea369e7f881a3436ec4dc009efe573aed8804144a93a0c75efe", func := "plexus/plexuslaw28.AugmentClasses", spec := "augmentClasses", unfollowed := true, recurses := true, named := ["math/bits.deBruijn64tab"], plainKeys := false, apart := false, laid := [("math/bits.deBruijn64tab", laid_math_bits_deBruijn64tab)], narrowed := true }
def AugmentClassesUptoSaid : Prop := augmentClassesUptoRow.holds Tryd.pinned (OpenSpec.upto augmentClassesSpec)

/-- 'plexuslaw28.AugmentComplete', WHERE WHAT IT READS IS OF BULK AT MOST 1048576: true; the input reads as it did. -/
def augmentCompleteUptoRow : OpenClaim := { program := "ytbpifoakbkmblaadoor", sum := "204d610d2156dea369e7f881a3436ec4dc009efe573aed8804144a93a0c75efe", func := "plexus/plexuslaw28.AugmentComplete", spec := "augmentComplete", unfollowed := true, recurses := true, named := ["math/bits.deBruijn64tab"], plainKeys := false, apart := false, laid := [("math/bits.deBruijn64tab", laid_math_bits_deBruijn64tab)], narrowed := true }
def AugmentCompleteUptoSaid : Prop := augmentCompleteUptoRow.holds Tryd.pinned (OpenSpec.upto augmentCompleteSpec)

/-- 'plexuslaw28.AugmentMatchesReference', WHERE WHAT IT READS IS OF BULK AT MOST 1048576: true; the input reads as it did. -/
def augmentMatchesReferenceUptoRow : OpenClaim := { program := "ytbpifoakbkmblaadoor", sum := "204d610d2156dea369e7f881a3436ec4dc009efe573aed8804144a93a0c75efe", func := "plexus/plexuslaw28.AugmentMatchesReference", spec := "augmentMatchesReference", unfollowed := true, recurses := true, named := ["math/bits.deBruijn64tab"], plainKeys := false, apart := false, laid := [("math/bits.deBruijn64tab", laid_math_bits_deBruijn64tab)], narrowed := true }
def AugmentMatchesReferenceUptoSaid : Prop := augmentMatchesReferenceUptoRow.holds Tryd.pinned (OpenSpec.upto augmentMatchesReferenceSpec)

/-- 'plexuslaw28.AugmentParents', WHERE WHAT IT READS IS OF BULK AT MOST 1048576: true; the input reads as it did. -/
def augmentParentsUptoRow : OpenClaim := { program := "ytbpifoakbkmblaadoor", sum := "204d610d2156dea369e7f881a3436ec4dc009efe573aed8804144a93a0c75efe", func := "plexus/plexuslaw28.AugmentParents", spec := "augmentParents", unfollowed := true, recurses := true, named := ["math/bits.deBruijn64tab"], plainKeys := false, apart := false, laid := [("math/bits.deBruijn64tab", laid_math_bits_deBruijn64tab)], narrowed := true }
def AugmentParentsUptoSaid : Prop := augmentParentsUptoRow.holds Tryd.pinned (OpenSpec.upto augmentParentsSpec)

/-- 'plexuslaw28.AugmentPartition', WHERE WHAT IT READS IS OF BULK AT MOST 1048576: true; the input reads as it did. -/
def augmentPartitionUptoRow : OpenClaim := { program := "ytbpifoakbkmblaadoor", sum := "204d610d2156dea369e7f881a3436ec4dc009efe573aed8804144a93a0c75efe", func := "plexus/plexuslaw28.AugmentPartition", spec := "augmentPartition", unfollowed := true, recurses := true, named := ["math/bits.deBruijn64tab"], plainKeys := false, apart := false, laid := [("math/bits.deBruijn64tab", laid_math_bits_deBruijn64tab)], narrowed := true }
def AugmentPartitionUptoSaid : Prop := augmentPartitionUptoRow.holds Tryd.pinned (OpenSpec.upto augmentPartitionSpec)

/-- 'plexuslaw28.AugmentIsomorphic', WHERE WHAT IT READS IS OF BULK AT MOST 1048576: true; the input reads as it did. -/
def augmentIsomorphicUptoRow : OpenClaim := { program := "ytbpifoakbkmblaadoor", sum := "204d610d2156dea369e7f881a3436ec4dc009efe573aed8804144a93a0c75efe", func := "plexus/plexuslaw28.AugmentIsomorphic", spec := "augmentIsomorphic", unfollowed := true, recurses := true, named := ["math/bits.deBruijn64tab"], plainKeys := false, apart := false, laid := [("math/bits.deBruijn64tab", laid_math_bits_deBruijn64tab)], narrowed := true }
def AugmentIsomorphicUptoSaid : Prop := augmentIsomorphicUptoRow.holds Tryd.pinned (OpenSpec.upto augmentIsomorphicSpec)

/-- 'plexuslaw28.AugmentRefuses', WHERE WHAT IT READS IS OF BULK AT MOST 1048576: true; the input reads as it did. -/
def augmentRefusesUptoRow : OpenClaim := { program := "ytbpifoakbkmblaadoor", sum := "204d610d2156dea369e7f881a3436ec4dc009efe573aed8804144a93a0c75efe", func := "plexus/plexuslaw28.AugmentRefuses", spec := "augmentRefuses", unfollowed := true, recurses := true, named := ["math/bits.deBruijn64tab"], plainKeys := false, apart := false, laid := [("math/bits.deBruijn64tab", laid_math_bits_deBruijn64tab)], narrowed := true }
def AugmentRefusesUptoSaid : Prop := augmentRefusesUptoRow.holds Tryd.pinned (OpenSpec.upto augmentRefusesSpec)

end Rows
end Go.Proofs.YtbpifoakbkmblaaDoor
