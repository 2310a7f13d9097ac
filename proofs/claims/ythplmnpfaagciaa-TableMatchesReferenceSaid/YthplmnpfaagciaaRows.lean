/-
  No cell of these rows narrows 'for every input' (looked for: loops, veiled, ifaces, maps, wideKeys, modest, calm, conditions, laid).
  DERIVED. THE GIVEN ROWS OF THIS SEAT. 6 by the template 'for every input the law returns true; each argument reads behind the call as it read before'; 0 by the template 'total and deterministic' (their statements: YthplmnpfaagciaaTotals.lean).
  GIVEN WITH THE SEED: the statements are not yours to turn. If you find one false, say at which input.
  Laid BY PROGRAM, IN A SANDBOX (cutbox-rows.mjs): the forced cells as the released guide's own fill.sh prints them over the translation cfa77388eebc9578… (all of the seat's roots in one cut). By AI agents, Wed Nov 11 2026. No macro, syntax, notation, axiom, sorry.
-/
import Derived.Test.YthplmnpfaagciaaChecked
import GoSem.Claim
import GoSem.ClaimJoined
import GoSem.ClaimMapViews
import Derived.JoinedTies
import Derived.KernelRfl
namespace Go.Proofs.Ythplmnpfaagciaa
/- THE CELL 'sum', in the pinned program and in every row, IS THE sha256 OF THE DUMP (.gsa) THAT YthplmnpfaagciaaProg.lean LOADS. Nothing in Lean hashes anything: it is a label: what it is worth is what the hold of that sum in a sandbox is worth. -/
noncomputable def Try.pinned : Pinned := { name := "ythplmnpfaagciaa", sum := "cfa77388eebc95783de3fed8bbfff33b0da0cab0e3a39e6325618b1ef5a4f146", checked := Try.checked }
namespace Rows
def none {H : Type} : Left H := { results := [], args := [] }

/-- 'plexuslaw27.TableMatchesReference': WHATEVER THE INPUT: true; the input reads as it did. -/
def tableMatchesReferenceSpec : ChangeSpec := { name := "tableMatchesReference", fn := fun _ => fun
  | [d1, d2] => { results := [.lit (.bool true)], args := [d1, d2] }
  | _ => none }
def tableMatchesReferenceRow : OpenClaim := { program := "ythplmnpfaagciaa", sum := "cfa77388eebc95783de3fed8bbfff33b0da0cab0e3a39e6325618b1ef5a4f146", func := "plexus/plexuslaw27.TableMatchesReference", spec := "tableMatchesReference", unfollowed := true, recurses := true, plainKeys := false, apart := false }
def TableMatchesReferenceSaid : Prop := tableMatchesReferenceRow.holds Try.pinned (OpenSpec.ofChange tableMatchesReferenceSpec)

/-- ITS FALSE NEIGHBOUR: 'it returns false'. Refute it at one input. -/
def tableMatchesReferenceWrong : ChangeSpec := { name := "tableMatchesReference", fn := fun _ => fun
  | [d1, d2] => { results := [.lit (.bool false)], args := [d1, d2] }
  | _ => none }
def TableMatchesReferenceWrongFalsely : Prop := tableMatchesReferenceRow.holds Try.pinned (OpenSpec.ofChange tableMatchesReferenceWrong)

/-- 'plexuslaw27.TableTrue': WHATEVER THE INPUT: true; the input reads as it did. -/
def tableTrueSpec : ChangeSpec := { name := "tableTrue", fn := fun _ => fun
  | [d1, d2] => { results := [.lit (.bool true)], args := [d1, d2] }
  | _ => none }
def tableTrueRow : OpenClaim := { program := "ythplmnpfaagciaa", sum := "cfa77388eebc95783de3fed8bbfff33b0da0cab0e3a39e6325618b1ef5a4f146", func := "plexus/plexuslaw27.TableTrue", spec := "tableTrue", unfollowed := true, recurses := true, plainKeys := false, apart := false }
def TableTrueSaid : Prop := tableTrueRow.holds Try.pinned (OpenSpec.ofChange tableTrueSpec)

/-- ITS FALSE NEIGHBOUR: 'it returns false'. Refute it at one input. -/
def tableTrueWrong : ChangeSpec := { name := "tableTrue", fn := fun _ => fun
  | [d1, d2] => { results := [.lit (.bool false)], args := [d1, d2] }
  | _ => none }
def TableTrueWrongFalsely : Prop := tableTrueRow.holds Try.pinned (OpenSpec.ofChange tableTrueWrong)

/-- 'plexuslaw27.TableWithdraws': WHATEVER THE INPUT: true; the input reads as it did. -/
def tableWithdrawsSpec : ChangeSpec := { name := "tableWithdraws", fn := fun _ => fun
  | [d1, d2, d3] => { results := [.lit (.bool true)], args := [d1, d2, d3] }
  | _ => none }
def tableWithdrawsRow : OpenClaim := { program := "ythplmnpfaagciaa", sum := "cfa77388eebc95783de3fed8bbfff33b0da0cab0e3a39e6325618b1ef5a4f146", func := "plexus/plexuslaw27.TableWithdraws", spec := "tableWithdraws", unfollowed := true, recurses := true, plainKeys := false, apart := false }
def TableWithdrawsSaid : Prop := tableWithdrawsRow.holds Try.pinned (OpenSpec.ofChange tableWithdrawsSpec)

/-- ITS FALSE NEIGHBOUR: 'it returns false'. Refute it at one input. -/
def tableWithdrawsWrong : ChangeSpec := { name := "tableWithdraws", fn := fun _ => fun
  | [d1, d2, d3] => { results := [.lit (.bool false)], args := [d1, d2, d3] }
  | _ => none }
def TableWithdrawsWrongFalsely : Prop := tableWithdrawsRow.holds Try.pinned (OpenSpec.ofChange tableWithdrawsWrong)

/-- 'plexuslaw27.TableMore': WHATEVER THE INPUT: true; the input reads as it did. -/
def tableMoreSpec : ChangeSpec := { name := "tableMore", fn := fun _ => fun
  | [d1, d2, d3] => { results := [.lit (.bool true)], args := [d1, d2, d3] }
  | _ => none }
def tableMoreRow : OpenClaim := { program := "ythplmnpfaagciaa", sum := "cfa77388eebc95783de3fed8bbfff33b0da0cab0e3a39e6325618b1ef5a4f146", func := "plexus/plexuslaw27.TableMore", spec := "tableMore", unfollowed := true, recurses := true, plainKeys := false, apart := false }
def TableMoreSaid : Prop := tableMoreRow.holds Try.pinned (OpenSpec.ofChange tableMoreSpec)

/-- ITS FALSE NEIGHBOUR: 'it returns false'. Refute it at one input. -/
def tableMoreWrong : ChangeSpec := { name := "tableMore", fn := fun _ => fun
  | [d1, d2, d3] => { results := [.lit (.bool false)], args := [d1, d2, d3] }
  | _ => none }
def TableMoreWrongFalsely : Prop := tableMoreRow.holds Try.pinned (OpenSpec.ofChange tableMoreWrong)

/-- 'plexuslaw27.TableReasons': WHATEVER THE INPUT: true; the input reads as it did. -/
def tableReasonsSpec : ChangeSpec := { name := "tableReasons", fn := fun _ => fun
  | [d1, d2, d3] => { results := [.lit (.bool true)], args := [d1, d2, d3] }
  | _ => none }
def tableReasonsRow : OpenClaim := { program := "ythplmnpfaagciaa", sum := "cfa77388eebc95783de3fed8bbfff33b0da0cab0e3a39e6325618b1ef5a4f146", func := "plexus/plexuslaw27.TableReasons", spec := "tableReasons", unfollowed := true, recurses := true, plainKeys := false, apart := false }
def TableReasonsSaid : Prop := tableReasonsRow.holds Try.pinned (OpenSpec.ofChange tableReasonsSpec)

/-- ITS FALSE NEIGHBOUR: 'it returns false'. Refute it at one input. -/
def tableReasonsWrong : ChangeSpec := { name := "tableReasons", fn := fun _ => fun
  | [d1, d2, d3] => { results := [.lit (.bool false)], args := [d1, d2, d3] }
  | _ => none }
def TableReasonsWrongFalsely : Prop := tableReasonsRow.holds Try.pinned (OpenSpec.ofChange tableReasonsWrong)

/-- 'plexuslaw27.TableClosed': WHATEVER THE INPUT: true; the input reads as it did. -/
def tableClosedSpec : ChangeSpec := { name := "tableClosed", fn := fun _ => fun
  | [d1, d2] => { results := [.lit (.bool true)], args := [d1, d2] }
  | _ => none }
def tableClosedRow : OpenClaim := { program := "ythplmnpfaagciaa", sum := "cfa77388eebc95783de3fed8bbfff33b0da0cab0e3a39e6325618b1ef5a4f146", func := "plexus/plexuslaw27.TableClosed", spec := "tableClosed", unfollowed := true, recurses := true, plainKeys := false, apart := false }
def TableClosedSaid : Prop := tableClosedRow.holds Try.pinned (OpenSpec.ofChange tableClosedSpec)

/-- ITS FALSE NEIGHBOUR: 'it returns false'. Refute it at one input. -/
def tableClosedWrong : ChangeSpec := { name := "tableClosed", fn := fun _ => fun
  | [d1, d2] => { results := [.lit (.bool false)], args := [d1, d2] }
  | _ => none }
def TableClosedWrongFalsely : Prop := tableClosedRow.holds Try.pinned (OpenSpec.ofChange tableClosedWrong)

/- THE SECOND FORM. 'bulk': how many values and letters a reading holds, each counted each time it is reached (what is shared counts as often as it is met; a slice's spare places count too). A statement '..UptoSaid' is the law's where the arguments, and the package variables that the reading takes, are together of bulk at most 1048576: NARROWER than '..Said'. Prove '..Said' where nothing that the law and all that it calls make is longer than what came in: it says more and counts as full. Else prove '..UptoSaid'. A law counts once. -/
mutual
def uptoBulk {H : Type} : DataW H → Nat
  | .lit (.string bytes) => bytes.length + 1
  | .lit _ => 1
  | .nil => 1
  | .ptr d => uptoBulk d + 1
  | .slice elems spare => uptoBulkAll elems + uptoBulkAll spare + 1
  | .agg parts => uptoBulkAll parts + 1
  | .iface _ d => uptoBulk d + 1
  | .map entries => uptoBulkEntries entries + 1
  | .held _ => 1
def uptoBulkAll {H : Type} : List (DataW H) → Nat
  | [] => 0
  | d :: r => uptoBulk d + uptoBulkAll r
def uptoBulkEntries {H : Type} : List (Lit × DataW H) → Nat
  | [] => 0
  | x :: r => uptoBulkEntry x + uptoBulkEntries r
def uptoBulkEntry {H : Type} : Lit × DataW H → Nat
  | (.string bytes, d) => bytes.length + uptoBulk d + 1
  | (_, d) => uptoBulk d + 1
 end
def uptoSmall : (H : Type) → List (DataW H) → Bool := fun _ ds => decide (uptoBulkAll ds ≤ 1048576)
def OpenSpec.upto (s : _root_.Go.ChangeSpec) : _root_.Go.OpenSpec := { _root_.Go.OpenSpec.ofChange s with cond := some uptoSmall }

/-- 'plexuslaw27.TableMatchesReference', WHERE WHAT IT READS IS OF BULK AT MOST 1048576: true; the input reads as it did. -/
def tableMatchesReferenceUptoRow : OpenClaim := { program := "ythplmnpfaagciaa", sum := "cfa77388eebc95783de3fed8bbfff33b0da0cab0e3a39e6325618b1ef5a4f146", func := "plexus/plexuslaw27.TableMatchesReference", spec := "tableMatchesReference", unfollowed := true, recurses := true, plainKeys := false, apart := false, narrowed := true }
def TableMatchesReferenceUptoSaid : Prop := tableMatchesReferenceUptoRow.holds Try.pinned (OpenSpec.upto tableMatchesReferenceSpec)

/-- 'plexuslaw27.TableTrue', WHERE WHAT IT READS IS OF BULK AT MOST 1048576: true; the input reads as it did. -/
def tableTrueUptoRow : OpenClaim := { program := "ythplmnpfaagciaa", sum := "cfa77388eebc95783de3fed8bbfff33b0da0cab0e3a39e6325618b1ef5a4f146", func := "plexus/plexuslaw27.TableTrue", spec := "tableTrue", unfollowed := true, recurses := true, plainKeys := false, apart := false, narrowed := true }
def TableTrueUptoSaid : Prop := tableTrueUptoRow.holds Try.pinned (OpenSpec.upto tableTrueSpec)

/-- 'plexuslaw27.TableWithdraws', WHERE WHAT IT READS IS OF BULK AT MOST 1048576: true; the input reads as it did. -/
def tableWithdrawsUptoRow : OpenClaim := { program := "ythplmnpfaagciaa", sum := "cfa77388eebc95783de3fed8bbfff33b0da0cab0e3a39e6325618b1ef5a4f146", func := "plexus/plexuslaw27.TableWithdraws", spec := "tableWithdraws", unfollowed := true, recurses := true, plainKeys := false, apart := false, narrowed := true }
def TableWithdrawsUptoSaid : Prop := tableWithdrawsUptoRow.holds Try.pinned (OpenSpec.upto tableWithdrawsSpec)

/-- 'plexuslaw27.TableMore', WHERE WHAT IT READS IS OF BULK AT MOST 1048576: true; the input reads as it did. -/
def tableMoreUptoRow : OpenClaim := { program := "ythplmnpfaagciaa", sum := "cfa77388eebc95783de3fed8bbfff33b0da0cab0e3a39e6325618b1ef5a4f146", func := "plexus/plexuslaw27.TableMore", spec := "tableMore", unfollowed := true, recurses := true, plainKeys := false, apart := false, narrowed := true }
def TableMoreUptoSaid : Prop := tableMoreUptoRow.holds Try.pinned (OpenSpec.upto tableMoreSpec)

/-- 'plexuslaw27.TableReasons', WHERE WHAT IT READS IS OF BULK AT MOST 1048576: true; the input reads as it did. -/
def tableReasonsUptoRow : OpenClaim := { program := "ythplmnpfaagciaa", sum := "cfa77388eebc95783de3fed8bbfff33b0da0cab0e3a39e6325618b1ef5a4f146", func := "plexus/plexuslaw27.TableReasons", spec := "tableReasons", unfollowed := true, recurses := true, plainKeys := false, apart := false, narrowed := true }
def TableReasonsUptoSaid : Prop := tableReasonsUptoRow.holds Try.pinned (OpenSpec.upto tableReasonsSpec)

/-- 'plexuslaw27.TableClosed', WHERE WHAT IT READS IS OF BULK AT MOST 1048576: true; the input reads as it did. -/
def tableClosedUptoRow : OpenClaim := { program := "ythplmnpfaagciaa", sum := "cfa77388eebc95783de3fed8bbfff33b0da0cab0e3a39e6325618b1ef5a4f146", func := "plexus/plexuslaw27.TableClosed", spec := "tableClosed", unfollowed := true, recurses := true, plainKeys := false, apart := false, narrowed := true }
def TableClosedUptoSaid : Prop := tableClosedUptoRow.holds Try.pinned (OpenSpec.upto tableClosedSpec)

end Rows
end Go.Proofs.Ythplmnpfaagciaa
