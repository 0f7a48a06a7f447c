/-
  No cell of these rows narrows 'for every input' (looked for: loops, veiled, ifaces, maps, wideKeys, modest, calm, conditions, laid).
  DERIVED. THE GIVEN ROWS OF THIS SEAT. 5 by the template 'for every input the law returns true; each argument reads behind the call as it read before'; 0 by the template 'total and deterministic' (their statements: YtiecnmojbdogfaaTotals.lean).
  GIVEN WITH THE SEED: the statements are not yours to turn. If you find one false, say at which input.
  Laid BY PROGRAM, IN A SANDBOX (cutbox-rows.mjs): the forced cells as the released guide's own fill.sh prints them over the translation 71ce4b8aa678756e… (all of the seat's roots in one cut). By AI agents, Wed Nov 11 2026. No macro, syntax, notation, axiom, sorry.
-/
import Derived.Test.YtiecnmojbdogfaaChecked
import GoSem.Claim
import GoSem.ClaimJoined
import GoSem.ClaimMapViews
import Derived.JoinedTies
import Derived.KernelRfl
namespace Go.Proofs.Ytiecnmojbdogfaa
/- THE CELL 'sum', in the pinned program and in every row, IS THE sha256 OF THE DUMP (.gsa) THAT YtiecnmojbdogfaaProg.lean LOADS. Nothing in Lean hashes anything: it is a label: what it is worth is what the hold of that sum in a sandbox is worth. -/
noncomputable def Try.pinned : Pinned := { name := "ytiecnmojbdogfaa", sum := "71ce4b8aa678756e94ae06f75caba76adefe6ed26c77dcb494770d62ee6a7265", checked := Try.checked }
namespace Rows
def none {H : Type} : Left H := { results := [], args := [] }

/-- 'masklaw3.CutTables': WHATEVER THE INPUT: true; the input reads as it did. -/
def cutTablesSpec : ChangeSpec := { name := "cutTables", fn := fun _ => fun
  | [d1, d2, d3, d4] => { results := [.lit (.bool true)], args := [d1, d2, d3, d4] }
  | _ => none }
def cutTablesRow : OpenClaim := { program := "ytiecnmojbdogfaa", sum := "71ce4b8aa678756e94ae06f75caba76adefe6ed26c77dcb494770d62ee6a7265", func := "maskwright/masklaw3.CutTables", spec := "cutTables", unfollowed := true, recurses := true, apart := false }
def CutTablesSaid : Prop := cutTablesRow.holds Try.pinned (OpenSpec.ofChange cutTablesSpec)

/-- ITS FALSE NEIGHBOUR: 'it returns false'. Refute it at one input. -/
def cutTablesWrong : ChangeSpec := { name := "cutTables", fn := fun _ => fun
  | [d1, d2, d3, d4] => { results := [.lit (.bool false)], args := [d1, d2, d3, d4] }
  | _ => none }
def CutTablesWrongFalsely : Prop := cutTablesRow.holds Try.pinned (OpenSpec.ofChange cutTablesWrong)

/-- 'masklaw3.CutMoves': WHATEVER THE INPUT: true; the input reads as it did. -/
def cutMovesSpec : ChangeSpec := { name := "cutMoves", fn := fun _ => fun
  | [d1, d2, d3, d4] => { results := [.lit (.bool true)], args := [d1, d2, d3, d4] }
  | _ => none }
def cutMovesRow : OpenClaim := { program := "ytiecnmojbdogfaa", sum := "71ce4b8aa678756e94ae06f75caba76adefe6ed26c77dcb494770d62ee6a7265", func := "maskwright/masklaw3.CutMoves", spec := "cutMoves", unfollowed := true, recurses := true, apart := false }
def CutMovesSaid : Prop := cutMovesRow.holds Try.pinned (OpenSpec.ofChange cutMovesSpec)

/-- ITS FALSE NEIGHBOUR: 'it returns false'. Refute it at one input. -/
def cutMovesWrong : ChangeSpec := { name := "cutMoves", fn := fun _ => fun
  | [d1, d2, d3, d4] => { results := [.lit (.bool false)], args := [d1, d2, d3, d4] }
  | _ => none }
def CutMovesWrongFalsely : Prop := cutMovesRow.holds Try.pinned (OpenSpec.ofChange cutMovesWrong)

/-- 'masklaw3.CutNodes': WHATEVER THE INPUT: true; the input reads as it did. -/
def cutNodesSpec : ChangeSpec := { name := "cutNodes", fn := fun _ => fun
  | [d1, d2, d3] => { results := [.lit (.bool true)], args := [d1, d2, d3] }
  | _ => none }
def cutNodesRow : OpenClaim := { program := "ytiecnmojbdogfaa", sum := "71ce4b8aa678756e94ae06f75caba76adefe6ed26c77dcb494770d62ee6a7265", func := "maskwright/masklaw3.CutNodes", spec := "cutNodes", unfollowed := true, recurses := true, apart := false }
def CutNodesSaid : Prop := cutNodesRow.holds Try.pinned (OpenSpec.ofChange cutNodesSpec)

/-- ITS FALSE NEIGHBOUR: 'it returns false'. Refute it at one input. -/
def cutNodesWrong : ChangeSpec := { name := "cutNodes", fn := fun _ => fun
  | [d1, d2, d3] => { results := [.lit (.bool false)], args := [d1, d2, d3] }
  | _ => none }
def CutNodesWrongFalsely : Prop := cutNodesRow.holds Try.pinned (OpenSpec.ofChange cutNodesWrong)

/-- 'masklaw3.SatChecks': WHATEVER THE INPUT: true; the input reads as it did. -/
def satChecksSpec : ChangeSpec := { name := "satChecks", fn := fun _ => fun
  | [d1, d2, d3] => { results := [.lit (.bool true)], args := [d1, d2, d3] }
  | _ => none }
def satChecksRow : OpenClaim := { program := "ytiecnmojbdogfaa", sum := "71ce4b8aa678756e94ae06f75caba76adefe6ed26c77dcb494770d62ee6a7265", func := "maskwright/masklaw3.SatChecks", spec := "satChecks", unfollowed := true, recurses := true, apart := false }
def SatChecksSaid : Prop := satChecksRow.holds Try.pinned (OpenSpec.ofChange satChecksSpec)

/-- ITS FALSE NEIGHBOUR: 'it returns false'. Refute it at one input. -/
def satChecksWrong : ChangeSpec := { name := "satChecks", fn := fun _ => fun
  | [d1, d2, d3] => { results := [.lit (.bool false)], args := [d1, d2, d3] }
  | _ => none }
def SatChecksWrongFalsely : Prop := satChecksRow.holds Try.pinned (OpenSpec.ofChange satChecksWrong)

/-- 'masklaw3.SatInputs': WHATEVER THE INPUT: true; the input reads as it did. -/
def satInputsSpec : ChangeSpec := { name := "satInputs", fn := fun _ => fun
  | [d1, d2, d3] => { results := [.lit (.bool true)], args := [d1, d2, d3] }
  | _ => none }
def satInputsRow : OpenClaim := { program := "ytiecnmojbdogfaa", sum := "71ce4b8aa678756e94ae06f75caba76adefe6ed26c77dcb494770d62ee6a7265", func := "maskwright/masklaw3.SatInputs", spec := "satInputs", unfollowed := true, recurses := true, apart := false }
def SatInputsSaid : Prop := satInputsRow.holds Try.pinned (OpenSpec.ofChange satInputsSpec)

/-- ITS FALSE NEIGHBOUR: 'it returns false'. Refute it at one input. -/
def satInputsWrong : ChangeSpec := { name := "satInputs", fn := fun _ => fun
  | [d1, d2, d3] => { results := [.lit (.bool false)], args := [d1, d2, d3] }
  | _ => none }
def SatInputsWrongFalsely : Prop := satInputsRow.holds Try.pinned (OpenSpec.ofChange satInputsWrong)

/- THE SECOND FORM. 'bulk': how many values and letters a reading holds, each counted each time it is reached (what is shared counts as often as it is met; a slice's spare places count too). A statement '..UptoSaid' is the law's where the arguments, and the package variables that the reading takes, are together of bulk at most 1048576: NARROWER than '..Said'. Prove '..Said' where nothing that the law and all that it calls make is longer than what came in: it says more and counts as full. Else prove '..UptoSaid'. A law counts once. -/
mutual
def uptoBulk {H : Type} : DataW H → Nat
  | .lit (.string bytes) => bytes.length + 1
  | .lit _ => 1
  | .nil => 1
  | .ptr d => uptoBulk d + 1
  | .slice elems spare => uptoBulkAll elems + uptoBulkAll spare + 1
  | .agg parts => uptoBulkAll parts + 1
  | .iface _ d => uptoBulk d + 1
  | .map entries => uptoBulkEntries entries + 1
  | .held _ => 1
def uptoBulkAll {H : Type} : List (DataW H) → Nat
  | [] => 0
  | d :: r => uptoBulk d + uptoBulkAll r
def uptoBulkEntries {H : Type} : List (Lit × DataW H) → Nat
  | [] => 0
  | x :: r => uptoBulkEntry x + uptoBulkEntries r
def uptoBulkEntry {H : Type} : Lit × DataW H → Nat
  | (.string bytes, d) => bytes.length + uptoBulk d + 1
  | (_, d) => uptoBulk d + 1
 end
def uptoSmall : (H : Type) → List (DataW H) → Bool := fun _ ds => decide (uptoBulkAll ds ≤ 1048576)
def OpenSpec.upto (s : _root_.Go.ChangeSpec) : _root_.Go.OpenSpec := { _root_.Go.OpenSpec.ofChange s with cond := some uptoSmall }

/-- 'masklaw3.CutTables', WHERE WHAT IT READS IS OF BULK AT MOST 1048576: true; the input reads as it did. -/
def cutTablesUptoRow : OpenClaim := { program := "ytiecnmojbdogfaa", sum := "71ce4b8aa678756e94ae06f75caba76adefe6ed26c77dcb494770d62ee6a7265", func := "maskwright/masklaw3.CutTables", spec := "cutTables", unfollowed := true, recurses := true, apart := false, narrowed := true }
def CutTablesUptoSaid : Prop := cutTablesUptoRow.holds Try.pinned (OpenSpec.upto cutTablesSpec)

/-- 'masklaw3.CutMoves', WHERE WHAT IT READS IS OF BULK AT MOST 1048576: true; the input reads as it did. -/
def cutMovesUptoRow : OpenClaim := { program := "ytiecnmojbdogfaa", sum := "71ce4b8aa678756e94ae06f75caba76adefe6ed26c77dcb494770d62ee6a7265", func := "maskwright/masklaw3.CutMoves", spec := "cutMoves", unfollowed := true, recurses := true, apart := false, narrowed := true }
def CutMovesUptoSaid : Prop := cutMovesUptoRow.holds Try.pinned (OpenSpec.upto cutMovesSpec)

/-- 'masklaw3.CutNodes', WHERE WHAT IT READS IS OF BULK AT MOST 1048576: true; the input reads as it did. -/
def cutNodesUptoRow : OpenClaim := { program := "ytiecnmojbdogfaa", sum := "71ce4b8aa678756e94ae06f75caba76adefe6ed26c77dcb494770d62ee6a7265", func := "maskwright/masklaw3.CutNodes", spec := "cutNodes", unfollowed := true, recurses := true, apart := false, narrowed := true }
def CutNodesUptoSaid : Prop := cutNodesUptoRow.holds Try.pinned (OpenSpec.upto cutNodesSpec)

/-- 'masklaw3.SatChecks', WHERE WHAT IT READS IS OF BULK AT MOST 1048576: true; the input reads as it did. -/
def satChecksUptoRow : OpenClaim := { program := "ytiecnmojbdogfaa", sum := "71ce4b8aa678756e94ae06f75caba76adefe6ed26c77dcb494770d62ee6a7265", func := "maskwright/masklaw3.SatChecks", spec := "satChecks", unfollowed := true, recurses := true, apart := false, narrowed := true }
def SatChecksUptoSaid : Prop := satChecksUptoRow.holds Try.pinned (OpenSpec.upto satChecksSpec)

/-- 'masklaw3.SatInputs', WHERE WHAT IT READS IS OF BULK AT MOST 1048576: true; the input reads as it did. -/
def satInputsUptoRow : OpenClaim := { program := "ytiecnmojbdogfaa", sum := "71ce4b8aa678756e94ae06f75caba76adefe6ed26c77dcb494770d62ee6a7265", func := "maskwright/masklaw3.SatInputs", spec := "satInputs", unfollowed := true, recurses := true, apart := false, narrowed := true }
def SatInputsUptoSaid : Prop := satInputsUptoRow.holds Try.pinned (OpenSpec.upto satInputsSpec)

end Rows
end Go.Proofs.Ytiecnmojbdogfaa
