/-
  No cell of these rows narrows 'for every input' (looked for: loops, veiled, ifaces, maps, wideKeys, modest, calm, conditions, laid).
  DERIVED. THE GIVEN ROWS OF THIS SEAT. 3 by the template 'for every input the law returns true; each argument reads behind the call as it read before'; 0 by the template 'total and deterministic' (their statements: YtodncnlnadgkhacTotals.lean).
  GIVEN WITH THE SEED: the statements are not yours to turn. If you find one false, say at which input.
  Laid BY PROGRAM, IN A SANDBOX (cutbox-rows.mjs): the forced cells as the released guide's own fill.sh prints them over the translation 84e97afb80748817… (all of the seat's roots in one cut). By AI agents, Wed Nov 11 2026. No macro, syntax, notation, axiom, sorry.
-/
import Derived.Test.YtodncnlnadgkhacChecked
import GoSem.Claim
import GoSem.ClaimJoined
import GoSem.ClaimMapViews
import Derived.JoinedTies
import Derived.KernelRfl
namespace Go.Proofs.Ytodncnlnadgkhac
/- THE CELL 'sum', in the pinned program and in every row, IS THE sha256 OF THE DUMP (.gsa) THAT YtodncnlnadgkhacProg.lean LOADS. Nothing in Lean hashes anything: it is a label: what it is worth is what the hold of that sum in a sandbox is worth. -/
noncomputable def Try.pinned : Pinned := { name := "ytodncnlnadgkhac", sum := "84e97afb80748817bbd08d27b5723b4f0f4ac3f0186580f90765180832560712", checked := Try.checked }
namespace Rows
def none {H : Type} : Left H := { results := [], args := [] }

/-- 'masklaw3.GraphMakes': WHATEVER THE INPUT: true; the input reads as it did. -/
def graphMakesSpec : ChangeSpec := { name := "graphMakes", fn := fun _ => fun
  | [d1, d2, d3, d4] => { results := [.lit (.bool true)], args := [d1, d2, d3, d4] }
  | _ => none }
def graphMakesRow : OpenClaim := { program := "ytodncnlnadgkhac", sum := "84e97afb80748817bbd08d27b5723b4f0f4ac3f0186580f90765180832560712", func := "maskwright/masklaw3.GraphMakes", spec := "graphMakes", unfollowed := true, recurses := true, plainKeys := false, apart := false }
def GraphMakesSaid : Prop := graphMakesRow.holds Try.pinned (OpenSpec.ofChange graphMakesSpec)

/-- ITS FALSE NEIGHBOUR: 'it returns false'. Refute it at one input. -/
def graphMakesWrong : ChangeSpec := { name := "graphMakes", fn := fun _ => fun
  | [d1, d2, d3, d4] => { results := [.lit (.bool false)], args := [d1, d2, d3, d4] }
  | _ => none }
def GraphMakesWrongFalsely : Prop := graphMakesRow.holds Try.pinned (OpenSpec.ofChange graphMakesWrong)

/-- 'masklaw3.GraphRefuses': WHATEVER THE INPUT: true; the input reads as it did. -/
def graphRefusesSpec : ChangeSpec := { name := "graphRefuses", fn := fun _ => fun
  | [d1, d2, d3, d4, d5, d6, d7, d8, d9] => { results := [.lit (.bool true)], args := [d1, d2, d3, d4, d5, d6, d7, d8, d9] }
  | _ => none }
def graphRefusesRow : OpenClaim := { program := "ytodncnlnadgkhac", sum := "84e97afb80748817bbd08d27b5723b4f0f4ac3f0186580f90765180832560712", func := "maskwright/masklaw3.GraphRefuses", spec := "graphRefuses", unfollowed := true, recurses := true, plainKeys := false, apart := false }
def GraphRefusesSaid : Prop := graphRefusesRow.holds Try.pinned (OpenSpec.ofChange graphRefusesSpec)

/-- ITS FALSE NEIGHBOUR: 'it returns false'. Refute it at one input. -/
def graphRefusesWrong : ChangeSpec := { name := "graphRefuses", fn := fun _ => fun
  | [d1, d2, d3, d4, d5, d6, d7, d8, d9] => { results := [.lit (.bool false)], args := [d1, d2, d3, d4, d5, d6, d7, d8, d9] }
  | _ => none }
def GraphRefusesWrongFalsely : Prop := graphRefusesRow.holds Try.pinned (OpenSpec.ofChange graphRefusesWrong)

/-- 'masklaw3.GatingGates': WHATEVER THE INPUT: true; the input reads as it did. -/
def gatingGatesSpec : ChangeSpec := { name := "gatingGates", fn := fun _ => fun
  | [d] => { results := [.lit (.bool true)], args := [d] }
  | _ => none }
def gatingGatesRow : OpenClaim := { program := "ytodncnlnadgkhac", sum := "84e97afb80748817bbd08d27b5723b4f0f4ac3f0186580f90765180832560712", func := "maskwright/masklaw3.GatingGates", spec := "gatingGates", unfollowed := true, recurses := true, plainKeys := false, apart := false }
def GatingGatesSaid : Prop := gatingGatesRow.holds Try.pinned (OpenSpec.ofChange gatingGatesSpec)

/-- ITS FALSE NEIGHBOUR: 'it returns false'. Refute it at one input. -/
def gatingGatesWrong : ChangeSpec := { name := "gatingGates", fn := fun _ => fun
  | [d] => { results := [.lit (.bool false)], args := [d] }
  | _ => none }
def GatingGatesWrongFalsely : Prop := gatingGatesRow.holds Try.pinned (OpenSpec.ofChange gatingGatesWrong)

/- THE SECOND FORM. 'bulk': how many values and letters a reading holds, each counted each time it is reached (what is shared counts as often as it is met; a slice's spare places count too). A statement '..UptoSaid' is the law's where the arguments, and the package variables that the reading takes, are together of bulk at most 1048576: NARROWER than '..Said'. Prove '..Said' where nothing that the law and all that it calls make is longer than what came in: it says more and counts as full. Else prove '..UptoSaid'. A law counts once. -/
mutual
def uptoBulk {H : Type} : DataW H → Nat
  | .lit (.string bytes) => bytes.length + 1
  | .lit _ => 1
  | .nil => 1
  | .ptr d => uptoBulk d + 1
  | .slice elems spare => uptoBulkAll elems + uptoBulkAll spare + 1
  | .agg parts => uptoBulkAll parts + 1
  | .iface _ d => uptoBulk d + 1
  | .map entries => uptoBulkEntries entries + 1
  | .held _ => 1
def uptoBulkAll {H : Type} : List (DataW H) → Nat
  | [] => 0
  | d :: r => uptoBulk d + uptoBulkAll r
def uptoBulkEntries {H : Type} : List (Lit × DataW H) → Nat
  | [] => 0
  | x :: r => uptoBulkEntry x + uptoBulkEntries r
def uptoBulkEntry {H : Type} : Lit × DataW H → Nat
  | (.string bytes, d) => bytes.length + uptoBulk d + 1
  | (_, d) => uptoBulk d + 1
 end
def uptoSmall : (H : Type) → List (DataW H) → Bool := fun _ ds => decide (uptoBulkAll ds ≤ 1048576)
def OpenSpec.upto (s : _root_.Go.ChangeSpec) : _root_.Go.OpenSpec := { _root_.Go.OpenSpec.ofChange s with cond := some uptoSmall }

/-- 'masklaw3.GraphMakes', WHERE WHAT IT READS IS OF BULK AT MOST 1048576: true; the input reads as it did. -/
def graphMakesUptoRow : OpenClaim := { program := "ytodncnlnadgkhac", sum := "84e97afb80748817bbd08d27b5723b4f0f4ac3f0186580f90765180832560712", func := "maskwright/masklaw3.GraphMakes", spec := "graphMakes", unfollowed := true, recurses := true, plainKeys := false, apart := false, narrowed := true }
def GraphMakesUptoSaid : Prop := graphMakesUptoRow.holds Try.pinned (OpenSpec.upto graphMakesSpec)

/-- 'masklaw3.GraphRefuses', WHERE WHAT IT READS IS OF BULK AT MOST 1048576: true; the input reads as it did. -/
def graphRefusesUptoRow : OpenClaim := { program := "ytodncnlnadgkhac", sum := "84e97afb80748817bbd08d27b5723b4f0f4ac3f0186580f90765180832560712", func := "maskwright/masklaw3.GraphRefuses", spec := "graphRefuses", unfollowed := true, recurses := true, plainKeys := false, apart := false, narrowed := true }
def GraphRefusesUptoSaid : Prop := graphRefusesUptoRow.holds Try.pinned (OpenSpec.upto graphRefusesSpec)

/-- 'masklaw3.GatingGates', WHERE WHAT IT READS IS OF BULK AT MOST 1048576: true; the input reads as it did. -/
def gatingGatesUptoRow : OpenClaim := { program := "ytodncnlnadgkhac", sum := "84e97afb80748817bbd08d27b5723b4f0f4ac3f0186580f90765180832560712", func := "maskwright/masklaw3.GatingGates", spec := "gatingGates", unfollowed := true, recurses := true, plainKeys := false, apart := false, narrowed := true }
def GatingGatesUptoSaid : Prop := gatingGatesUptoRow.holds Try.pinned (OpenSpec.upto gatingGatesSpec)

end Rows
end Go.Proofs.Ytodncnlnadgkhac
