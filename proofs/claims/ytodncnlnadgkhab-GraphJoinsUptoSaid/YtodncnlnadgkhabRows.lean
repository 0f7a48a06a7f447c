/-
  No cell of these rows narrows 'for every input' (looked for: loops, veiled, ifaces, maps, wideKeys, modest, calm, conditions, laid).
  DERIVED. THE GIVEN ROWS OF THIS SEAT. 12 by the template 'for every input the law returns true; each argument reads behind the call as it read before'; 0 by the template 'total and deterministic' (their statements: YtodncnlnadgkhabTotals.lean).
  GIVEN WITH THE SEED: the statements are not yours to turn. If you find one false, say at which input.
  Laid BY PROGRAM, IN A SANDBOX (cutbox-rows.mjs): the forced cells as the released guide's own fill.sh prints them over the translation 088fcb7d6243454c… (all of the seat's roots in one cut). By AI agents, Wed Nov 11 2026. No macro, syntax, notation, axiom, sorry.
-/
import Derived.Test.YtodncnlnadgkhabChecked
import GoSem.Claim
import GoSem.ClaimJoined
import GoSem.ClaimMapViews
import Derived.JoinedTies
import Derived.KernelRfl
namespace Go.Proofs.Ytodncnlnadgkhab
/- THE CELL 'sum', in the pinned program and in every row, IS THE sha256 OF THE DUMP (.gsa) THAT YtodncnlnadgkhabProg.lean LOADS. Nothing in Lean hashes anything: it is a label: what it is worth is what the hold of that sum in a sandbox is worth. -/
noncomputable def Try.pinned : Pinned := { name := "ytodncnlnadgkhab", sum := "088fcb7d6243454cdc3aaf907f9a87ae786da7b1762546e3324a9bdf8cd6a148", checked := Try.checked }
namespace Rows
def none {H : Type} : Left H := { results := [], args := [] }

/-- 'masklaw3.GraphNames': WHATEVER THE INPUT: true; the input reads as it did. -/
def graphNamesSpec : ChangeSpec := { name := "graphNames", fn := fun _ => fun
  | [d] => { results := [.lit (.bool true)], args := [d] }
  | _ => none }
def graphNamesRow : OpenClaim := { program := "ytodncnlnadgkhab", sum := "088fcb7d6243454cdc3aaf907f9a87ae786da7b1762546e3324a9bdf8cd6a148", func := "maskwright/masklaw3.GraphNames", spec := "graphNames", plainKeys := false, apart := false }
def GraphNamesSaid : Prop := graphNamesRow.holds Try.pinned (OpenSpec.ofChange graphNamesSpec)

/-- ITS FALSE NEIGHBOUR: 'it returns false'. Refute it at one input. -/
def graphNamesWrong : ChangeSpec := { name := "graphNames", fn := fun _ => fun
  | [d] => { results := [.lit (.bool false)], args := [d] }
  | _ => none }
def GraphNamesWrongFalsely : Prop := graphNamesRow.holds Try.pinned (OpenSpec.ofChange graphNamesWrong)

/-- 'masklaw3.GraphLits': WHATEVER THE INPUT: true; the input reads as it did. -/
def graphLitsSpec : ChangeSpec := { name := "graphLits", fn := fun _ => fun
  | [d1, d2, d3, d4] => { results := [.lit (.bool true)], args := [d1, d2, d3, d4] }
  | _ => none }
def graphLitsRow : OpenClaim := { program := "ytodncnlnadgkhab", sum := "088fcb7d6243454cdc3aaf907f9a87ae786da7b1762546e3324a9bdf8cd6a148", func := "maskwright/masklaw3.GraphLits", spec := "graphLits", plainKeys := false, apart := false }
def GraphLitsSaid : Prop := graphLitsRow.holds Try.pinned (OpenSpec.ofChange graphLitsSpec)

/-- ITS FALSE NEIGHBOUR: 'it returns false'. Refute it at one input. -/
def graphLitsWrong : ChangeSpec := { name := "graphLits", fn := fun _ => fun
  | [d1, d2, d3, d4] => { results := [.lit (.bool false)], args := [d1, d2, d3, d4] }
  | _ => none }
def GraphLitsWrongFalsely : Prop := graphLitsRow.holds Try.pinned (OpenSpec.ofChange graphLitsWrong)

/-- 'masklaw3.GraphChecks': WHATEVER THE INPUT: true; the input reads as it did. -/
def graphChecksSpec : ChangeSpec := { name := "graphChecks", fn := fun _ => fun
  | [d1, d2] => { results := [.lit (.bool true)], args := [d1, d2] }
  | _ => none }
def graphChecksRow : OpenClaim := { program := "ytodncnlnadgkhab", sum := "088fcb7d6243454cdc3aaf907f9a87ae786da7b1762546e3324a9bdf8cd6a148", func := "maskwright/masklaw3.GraphChecks", spec := "graphChecks", unfollowed := true, recurses := true, plainKeys := false, apart := false }
def GraphChecksSaid : Prop := graphChecksRow.holds Try.pinned (OpenSpec.ofChange graphChecksSpec)

/-- ITS FALSE NEIGHBOUR: 'it returns false'. Refute it at one input. -/
def graphChecksWrong : ChangeSpec := { name := "graphChecks", fn := fun _ => fun
  | [d1, d2] => { results := [.lit (.bool false)], args := [d1, d2] }
  | _ => none }
def GraphChecksWrongFalsely : Prop := graphChecksRow.holds Try.pinned (OpenSpec.ofChange graphChecksWrong)

/-- 'masklaw3.GraphPrefixes': WHATEVER THE INPUT: true; the input reads as it did. -/
def graphPrefixesSpec : ChangeSpec := { name := "graphPrefixes", fn := fun _ => fun
  | [d1, d2] => { results := [.lit (.bool true)], args := [d1, d2] }
  | _ => none }
def graphPrefixesRow : OpenClaim := { program := "ytodncnlnadgkhab", sum := "088fcb7d6243454cdc3aaf907f9a87ae786da7b1762546e3324a9bdf8cd6a148", func := "maskwright/masklaw3.GraphPrefixes", spec := "graphPrefixes", unfollowed := true, recurses := true, plainKeys := false, apart := false }
def GraphPrefixesSaid : Prop := graphPrefixesRow.holds Try.pinned (OpenSpec.ofChange graphPrefixesSpec)

/-- ITS FALSE NEIGHBOUR: 'it returns false'. Refute it at one input. -/
def graphPrefixesWrong : ChangeSpec := { name := "graphPrefixes", fn := fun _ => fun
  | [d1, d2] => { results := [.lit (.bool false)], args := [d1, d2] }
  | _ => none }
def GraphPrefixesWrongFalsely : Prop := graphPrefixesRow.holds Try.pinned (OpenSpec.ofChange graphPrefixesWrong)

/-- 'masklaw3.GraphLevels': WHATEVER THE INPUT: true; the input reads as it did. -/
def graphLevelsSpec : ChangeSpec := { name := "graphLevels", fn := fun _ => fun
  | [d] => { results := [.lit (.bool true)], args := [d] }
  | _ => none }
def graphLevelsRow : OpenClaim := { program := "ytodncnlnadgkhab", sum := "088fcb7d6243454cdc3aaf907f9a87ae786da7b1762546e3324a9bdf8cd6a148", func := "maskwright/masklaw3.GraphLevels", spec := "graphLevels", unfollowed := true, recurses := true, plainKeys := false, apart := false }
def GraphLevelsSaid : Prop := graphLevelsRow.holds Try.pinned (OpenSpec.ofChange graphLevelsSpec)

/-- ITS FALSE NEIGHBOUR: 'it returns false'. Refute it at one input. -/
def graphLevelsWrong : ChangeSpec := { name := "graphLevels", fn := fun _ => fun
  | [d] => { results := [.lit (.bool false)], args := [d] }
  | _ => none }
def GraphLevelsWrongFalsely : Prop := graphLevelsRow.holds Try.pinned (OpenSpec.ofChange graphLevelsWrong)

/-- 'masklaw3.GraphStrashes': WHATEVER THE INPUT: true; the input reads as it did. -/
def graphStrashesSpec : ChangeSpec := { name := "graphStrashes", fn := fun _ => fun
  | [d] => { results := [.lit (.bool true)], args := [d] }
  | _ => none }
def graphStrashesRow : OpenClaim := { program := "ytodncnlnadgkhab", sum := "088fcb7d6243454cdc3aaf907f9a87ae786da7b1762546e3324a9bdf8cd6a148", func := "maskwright/masklaw3.GraphStrashes", spec := "graphStrashes", unfollowed := true, recurses := true, plainKeys := false, apart := false }
def GraphStrashesSaid : Prop := graphStrashesRow.holds Try.pinned (OpenSpec.ofChange graphStrashesSpec)

/-- ITS FALSE NEIGHBOUR: 'it returns false'. Refute it at one input. -/
def graphStrashesWrong : ChangeSpec := { name := "graphStrashes", fn := fun _ => fun
  | [d] => { results := [.lit (.bool false)], args := [d] }
  | _ => none }
def GraphStrashesWrongFalsely : Prop := graphStrashesRow.holds Try.pinned (OpenSpec.ofChange graphStrashesWrong)

/-- 'masklaw3.GraphValues': WHATEVER THE INPUT: true; the input reads as it did. -/
def graphValuesSpec : ChangeSpec := { name := "graphValues", fn := fun _ => fun
  | [d1, d2, d3, d4] => { results := [.lit (.bool true)], args := [d1, d2, d3, d4] }
  | _ => none }
def graphValuesRow : OpenClaim := { program := "ytodncnlnadgkhab", sum := "088fcb7d6243454cdc3aaf907f9a87ae786da7b1762546e3324a9bdf8cd6a148", func := "maskwright/masklaw3.GraphValues", spec := "graphValues", unfollowed := true, recurses := true, plainKeys := false, apart := false }
def GraphValuesSaid : Prop := graphValuesRow.holds Try.pinned (OpenSpec.ofChange graphValuesSpec)

/-- ITS FALSE NEIGHBOUR: 'it returns false'. Refute it at one input. -/
def graphValuesWrong : ChangeSpec := { name := "graphValues", fn := fun _ => fun
  | [d1, d2, d3, d4] => { results := [.lit (.bool false)], args := [d1, d2, d3, d4] }
  | _ => none }
def GraphValuesWrongFalsely : Prop := graphValuesRow.holds Try.pinned (OpenSpec.ofChange graphValuesWrong)

/-- 'masklaw3.GraphCones': WHATEVER THE INPUT: true; the input reads as it did. -/
def graphConesSpec : ChangeSpec := { name := "graphCones", fn := fun _ => fun
  | [d1, d2] => { results := [.lit (.bool true)], args := [d1, d2] }
  | _ => none }
def graphConesRow : OpenClaim := { program := "ytodncnlnadgkhab", sum := "088fcb7d6243454cdc3aaf907f9a87ae786da7b1762546e3324a9bdf8cd6a148", func := "maskwright/masklaw3.GraphCones", spec := "graphCones", unfollowed := true, recurses := true, plainKeys := false, apart := false }
def GraphConesSaid : Prop := graphConesRow.holds Try.pinned (OpenSpec.ofChange graphConesSpec)

/-- ITS FALSE NEIGHBOUR: 'it returns false'. Refute it at one input. -/
def graphConesWrong : ChangeSpec := { name := "graphCones", fn := fun _ => fun
  | [d1, d2] => { results := [.lit (.bool false)], args := [d1, d2] }
  | _ => none }
def GraphConesWrongFalsely : Prop := graphConesRow.holds Try.pinned (OpenSpec.ofChange graphConesWrong)

/-- 'masklaw3.GraphCleans': WHATEVER THE INPUT: true; the input reads as it did. -/
def graphCleansSpec : ChangeSpec := { name := "graphCleans", fn := fun _ => fun
  | [d] => { results := [.lit (.bool true)], args := [d] }
  | _ => none }
def graphCleansRow : OpenClaim := { program := "ytodncnlnadgkhab", sum := "088fcb7d6243454cdc3aaf907f9a87ae786da7b1762546e3324a9bdf8cd6a148", func := "maskwright/masklaw3.GraphCleans", spec := "graphCleans", unfollowed := true, recurses := true, plainKeys := false, apart := false }
def GraphCleansSaid : Prop := graphCleansRow.holds Try.pinned (OpenSpec.ofChange graphCleansSpec)

/-- ITS FALSE NEIGHBOUR: 'it returns false'. Refute it at one input. -/
def graphCleansWrong : ChangeSpec := { name := "graphCleans", fn := fun _ => fun
  | [d] => { results := [.lit (.bool false)], args := [d] }
  | _ => none }
def GraphCleansWrongFalsely : Prop := graphCleansRow.holds Try.pinned (OpenSpec.ofChange graphCleansWrong)

/-- 'masklaw3.GraphEvals': WHATEVER THE INPUT: true; the input reads as it did. -/
def graphEvalsSpec : ChangeSpec := { name := "graphEvals", fn := fun _ => fun
  | [d1, d2, d3] => { results := [.lit (.bool true)], args := [d1, d2, d3] }
  | _ => none }
def graphEvalsRow : OpenClaim := { program := "ytodncnlnadgkhab", sum := "088fcb7d6243454cdc3aaf907f9a87ae786da7b1762546e3324a9bdf8cd6a148", func := "maskwright/masklaw3.GraphEvals", spec := "graphEvals", unfollowed := true, recurses := true, plainKeys := false, apart := false }
def GraphEvalsSaid : Prop := graphEvalsRow.holds Try.pinned (OpenSpec.ofChange graphEvalsSpec)

/-- ITS FALSE NEIGHBOUR: 'it returns false'. Refute it at one input. -/
def graphEvalsWrong : ChangeSpec := { name := "graphEvals", fn := fun _ => fun
  | [d1, d2, d3] => { results := [.lit (.bool false)], args := [d1, d2, d3] }
  | _ => none }
def GraphEvalsWrongFalsely : Prop := graphEvalsRow.holds Try.pinned (OpenSpec.ofChange graphEvalsWrong)

/-- 'masklaw3.GraphRuns': WHATEVER THE INPUT: true; the input reads as it did. -/
def graphRunsSpec : ChangeSpec := { name := "graphRuns", fn := fun _ => fun
  | [d1, d2] => { results := [.lit (.bool true)], args := [d1, d2] }
  | _ => none }
def graphRunsRow : OpenClaim := { program := "ytodncnlnadgkhab", sum := "088fcb7d6243454cdc3aaf907f9a87ae786da7b1762546e3324a9bdf8cd6a148", func := "maskwright/masklaw3.GraphRuns", spec := "graphRuns", unfollowed := true, recurses := true, plainKeys := false, apart := false }
def GraphRunsSaid : Prop := graphRunsRow.holds Try.pinned (OpenSpec.ofChange graphRunsSpec)

/-- ITS FALSE NEIGHBOUR: 'it returns false'. Refute it at one input. -/
def graphRunsWrong : ChangeSpec := { name := "graphRuns", fn := fun _ => fun
  | [d1, d2] => { results := [.lit (.bool false)], args := [d1, d2] }
  | _ => none }
def GraphRunsWrongFalsely : Prop := graphRunsRow.holds Try.pinned (OpenSpec.ofChange graphRunsWrong)

/-- 'masklaw3.GraphJoins': WHATEVER THE INPUT: true; the input reads as it did. -/
def graphJoinsSpec : ChangeSpec := { name := "graphJoins", fn := fun _ => fun
  | [d1, d2] => { results := [.lit (.bool true)], args := [d1, d2] }
  | _ => none }
def graphJoinsRow : OpenClaim := { program := "ytodncnlnadgkhab", sum := "088fcb7d6243454cdc3aaf907f9a87ae786da7b1762546e3324a9bdf8cd6a148", func := "maskwright/masklaw3.GraphJoins", spec := "graphJoins", unfollowed := true, recurses := true, plainKeys := false, apart := false }
def GraphJoinsSaid : Prop := graphJoinsRow.holds Try.pinned (OpenSpec.ofChange graphJoinsSpec)

/-- ITS FALSE NEIGHBOUR: 'it returns false'. Refute it at one input. -/
def graphJoinsWrong : ChangeSpec := { name := "graphJoins", fn := fun _ => fun
  | [d1, d2] => { results := [.lit (.bool false)], args := [d1, d2] }
  | _ => none }
def GraphJoinsWrongFalsely : Prop := graphJoinsRow.holds Try.pinned (OpenSpec.ofChange graphJoinsWrong)

/- THE SECOND FORM. 'bulk': how many values and letters a reading holds, each counted each time it is reached (what is shared counts as often as it is met; a slice's spare places count too). A statement '..UptoSaid' is the law's where the arguments, and the package variables that the reading takes, are together of bulk at most 1048576: NARROWER than '..Said'. Prove '..Said' where nothing that the law and all that it calls make is longer than what came in: it says more and counts as full. Else prove '..UptoSaid'. A law counts once. -/
mutual
def uptoBulk {H : Type} : DataW H → Nat
  | .lit (.string bytes) => bytes.length + 1
  | .lit _ => 1
  | .nil => 1
  | .ptr d => uptoBulk d + 1
  | .slice elems spare => uptoBulkAll elems + uptoBulkAll spare + 1
  | .agg parts => uptoBulkAll parts + 1
  | .iface _ d => uptoBulk d + 1
  | .map entries => uptoBulkEntries entries + 1
  | .held _ => 1
def uptoBulkAll {H : Type} : List (DataW H) → Nat
  | [] => 0
  | d :: r => uptoBulk d + uptoBulkAll r
def uptoBulkEntries {H : Type} : List (Lit × DataW H) → Nat
  | [] => 0
  | x :: r => uptoBulkEntry x + uptoBulkEntries r
def uptoBulkEntry {H : Type} : Lit × DataW H → Nat
  | (.string bytes, d) => bytes.length + uptoBulk d + 1
  | (_, d) => uptoBulk d + 1
 end
def uptoSmall : (H : Type) → List (DataW H) → Bool := fun _ ds => decide (uptoBulkAll ds ≤ 1048576)
def OpenSpec.upto (s : _root_.Go.ChangeSpec) : _root_.Go.OpenSpec := { _root_.Go.OpenSpec.ofChange s with cond := some uptoSmall }

/-- 'masklaw3.GraphNames', WHERE WHAT IT READS IS OF BULK AT MOST 1048576: true; the input reads as it did. -/
def graphNamesUptoRow : OpenClaim := { program := "ytodncnlnadgkhab", sum := "088fcb7d6243454cdc3aaf907f9a87ae786da7b1762546e3324a9bdf8cd6a148", func := "maskwright/masklaw3.GraphNames", spec := "graphNames", plainKeys := false, apart := false, narrowed := true }
def GraphNamesUptoSaid : Prop := graphNamesUptoRow.holds Try.pinned (OpenSpec.upto graphNamesSpec)

/-- 'masklaw3.GraphLits', WHERE WHAT IT READS IS OF BULK AT MOST 1048576: true; the input reads as it did. -/
def graphLitsUptoRow : OpenClaim := { program := "ytodncnlnadgkhab", sum := "088fcb7d6243454cdc3aaf907f9a87ae786da7b1762546e3324a9bdf8cd6a148", func := "maskwright/masklaw3.GraphLits", spec := "graphLits", plainKeys := false, apart := false, narrowed := true }
def GraphLitsUptoSaid : Prop := graphLitsUptoRow.holds Try.pinned (OpenSpec.upto graphLitsSpec)

/-- 'masklaw3.GraphChecks', WHERE WHAT IT READS IS OF BULK AT MOST 1048576: true; the input reads as it did. -/
def graphChecksUptoRow : OpenClaim := { program := "ytodncnlnadgkhab", sum := "088fcb7d6243454cdc3aaf907f9a87ae786da7b1762546e3324a9bdf8cd6a148", func := "maskwright/masklaw3.GraphChecks", spec := "graphChecks", unfollowed := true, recurses := true, plainKeys := false, apart := false, narrowed := true }
def GraphChecksUptoSaid : Prop := graphChecksUptoRow.holds Try.pinned (OpenSpec.upto graphChecksSpec)

/-- 'masklaw3.GraphPrefixes', WHERE WHAT IT READS IS OF BULK AT MOST 1048576: true; the input reads as it did. -/
def graphPrefixesUptoRow : OpenClaim := { program := "ytodncnlnadgkhab", sum := "088fcb7d6243454cdc3aaf907f9a87ae786da7b1762546e3324a9bdf8cd6a148", func := "maskwright/masklaw3.GraphPrefixes", spec := "graphPrefixes", unfollowed := true, recurses := true, plainKeys := false, apart := false, narrowed := true }
def GraphPrefixesUptoSaid : Prop := graphPrefixesUptoRow.holds Try.pinned (OpenSpec.upto graphPrefixesSpec)

/-- 'masklaw3.GraphLevels', WHERE WHAT IT READS IS OF BULK AT MOST 1048576: true; the input reads as it did. -/
def graphLevelsUptoRow : OpenClaim := { program := "ytodncnlnadgkhab", sum := "088fcb7d6243454cdc3aaf907f9a87ae786da7b1762546e3324a9bdf8cd6a148", func := "maskwright/masklaw3.GraphLevels", spec := "graphLevels", unfollowed := true, recurses := true, plainKeys := false, apart := false, narrowed := true }
def GraphLevelsUptoSaid : Prop := graphLevelsUptoRow.holds Try.pinned (OpenSpec.upto graphLevelsSpec)

/-- 'masklaw3.GraphStrashes', WHERE WHAT IT READS IS OF BULK AT MOST 1048576: true; the input reads as it did. -/
def graphStrashesUptoRow : OpenClaim := { program := "ytodncnlnadgkhab", sum := "088fcb7d6243454cdc3aaf907f9a87ae786da7b1762546e3324a9bdf8cd6a148", func := "maskwright/masklaw3.GraphStrashes", spec := "graphStrashes", unfollowed := true, recurses := true, plainKeys := false, apart := false, narrowed := true }
def GraphStrashesUptoSaid : Prop := graphStrashesUptoRow.holds Try.pinned (OpenSpec.upto graphStrashesSpec)

/-- 'masklaw3.GraphValues', WHERE WHAT IT READS IS OF BULK AT MOST 1048576: true; the input reads as it did. -/
def graphValuesUptoRow : OpenClaim := { program := "ytodncnlnadgkhab", sum := "088fcb7d6243454cdc3aaf907f9a87ae786da7b1762546e3324a9bdf8cd6a148", func := "maskwright/masklaw3.GraphValues", spec := "graphValues", unfollowed := true, recurses := true, plainKeys := false, apart := false, narrowed := true }
def GraphValuesUptoSaid : Prop := graphValuesUptoRow.holds Try.pinned (OpenSpec.upto graphValuesSpec)

/-- 'masklaw3.GraphCones', WHERE WHAT IT READS IS OF BULK AT MOST 1048576: true; the input reads as it did. -/
def graphConesUptoRow : OpenClaim := { program := "ytodncnlnadgkhab", sum := "088fcb7d6243454cdc3aaf907f9a87ae786da7b1762546e3324a9bdf8cd6a148", func := "maskwright/masklaw3.GraphCones", spec := "graphCones", unfollowed := true, recurses := true, plainKeys := false, apart := false, narrowed := true }
def GraphConesUptoSaid : Prop := graphConesUptoRow.holds Try.pinned (OpenSpec.upto graphConesSpec)

/-- 'masklaw3.GraphCleans', WHERE WHAT IT READS IS OF BULK AT MOST 1048576: true; the input reads as it did. -/
def graphCleansUptoRow : OpenClaim := { program := "ytodncnlnadgkhab", sum := "088fcb7d6243454cdc3aaf907f9a87ae786da7b1762546e3324a9bdf8cd6a148", func := "maskwright/masklaw3.GraphCleans", spec := "graphCleans", unfollowed := true, recurses := true, plainKeys := false, apart := false, narrowed := true }
def GraphCleansUptoSaid : Prop := graphCleansUptoRow.holds Try.pinned (OpenSpec.upto graphCleansSpec)

/-- 'masklaw3.GraphEvals', WHERE WHAT IT READS IS OF BULK AT MOST 1048576: true; the input reads as it did. -/
def graphEvalsUptoRow : OpenClaim := { program := "ytodncnlnadgkhab", sum := "088fcb7d6243454cdc3aaf907f9a87ae786da7b1762546e3324a9bdf8cd6a148", func := "maskwright/masklaw3.GraphEvals", spec := "graphEvals", unfollowed := true, recurses := true, plainKeys := false, apart := false, narrowed := true }
def GraphEvalsUptoSaid : Prop := graphEvalsUptoRow.holds Try.pinned (OpenSpec.upto graphEvalsSpec)

/-- 'masklaw3.GraphRuns', WHERE WHAT IT READS IS OF BULK AT MOST 1048576: true; the input reads as it did. -/
def graphRunsUptoRow : OpenClaim := { program := "ytodncnlnadgkhab", sum := "088fcb7d6243454cdc3aaf907f9a87ae786da7b1762546e3324a9bdf8cd6a148", func := "maskwright/masklaw3.GraphRuns", spec := "graphRuns", unfollowed := true, recurses := true, plainKeys := false, apart := false, narrowed := true }
def GraphRunsUptoSaid : Prop := graphRunsUptoRow.holds Try.pinned (OpenSpec.upto graphRunsSpec)

/-- 'masklaw3.GraphJoins', WHERE WHAT IT READS IS OF BULK AT MOST 1048576: true; the input reads as it did. -/
def graphJoinsUptoRow : OpenClaim := { program := "ytodncnlnadgkhab", sum := "088fcb7d6243454cdc3aaf907f9a87ae786da7b1762546e3324a9bdf8cd6a148", func := "maskwright/masklaw3.GraphJoins", spec := "graphJoins", unfollowed := true, recurses := true, plainKeys := false, apart := false, narrowed := true }
def GraphJoinsUptoSaid : Prop := graphJoinsUptoRow.holds Try.pinned (OpenSpec.upto graphJoinsSpec)

end Rows
end Go.Proofs.Ytodncnlnadgkhab
