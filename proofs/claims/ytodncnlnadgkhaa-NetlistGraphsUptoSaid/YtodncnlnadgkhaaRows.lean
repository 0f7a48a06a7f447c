/-
  No cell of these rows narrows 'for every input' (looked for: loops, veiled, ifaces, maps, wideKeys, modest, calm, conditions, laid).
  DERIVED. THE GIVEN ROWS OF THIS SEAT. 12 by the template 'for every input the law returns true; each argument reads behind the call as it read before'; 0 by the template 'total and deterministic' (their statements: YtodncnlnadgkhaaTotals.lean).
  GIVEN WITH THE SEED: the statements are not yours to turn. If you find one false, say at which input.
  Laid BY PROGRAM, IN A SANDBOX (cutbox-rows.mjs): the forced cells as the released guide's own fill.sh prints them over the translation a1e295c90acd5ecc… (all of the seat's roots in one cut). By AI agents, Wed Nov 11 2026. No macro, syntax, notation, axiom, sorry.
-/
import Derived.Test.YtodncnlnadgkhaaChecked
import GoSem.Claim
import GoSem.ClaimJoined
import GoSem.ClaimMapViews
import Derived.JoinedTies
import Derived.KernelRfl
namespace Go.Proofs.Ytodncnlnadgkhaa
/- THE CELL 'sum', in the pinned program and in every row, IS THE sha256 OF THE DUMP (.gsa) THAT YtodncnlnadgkhaaProg.lean LOADS. Nothing in Lean hashes anything: it is a label: what it is worth is what the hold of that sum in a sandbox is worth. -/
noncomputable def Try.pinned : Pinned := { name := "ytodncnlnadgkhaa", sum := "a1e295c90acd5eccfacec97aef2972763931e51f8caacfacd5ca2266dbfc6eee", checked := Try.checked }
namespace Rows
def none {H : Type} : Left H := { results := [], args := [] }

/-- 'masklaw3.NetlistLooks': WHATEVER THE INPUT: true; the input reads as it did. -/
def netlistLooksSpec : ChangeSpec := { name := "netlistLooks", fn := fun _ => fun
  | [d1, d2, d3] => { results := [.lit (.bool true)], args := [d1, d2, d3] }
  | _ => none }
def netlistLooksRow : OpenClaim := { program := "ytodncnlnadgkhaa", sum := "a1e295c90acd5eccfacec97aef2972763931e51f8caacfacd5ca2266dbfc6eee", func := "maskwright/masklaw3.NetlistLooks", spec := "netlistLooks", plainKeys := false, apart := false }
def NetlistLooksSaid : Prop := netlistLooksRow.holds Try.pinned (OpenSpec.ofChange netlistLooksSpec)

/-- ITS FALSE NEIGHBOUR: 'it returns false'. Refute it at one input. -/
def netlistLooksWrong : ChangeSpec := { name := "netlistLooks", fn := fun _ => fun
  | [d1, d2, d3] => { results := [.lit (.bool false)], args := [d1, d2, d3] }
  | _ => none }
def NetlistLooksWrongFalsely : Prop := netlistLooksRow.holds Try.pinned (OpenSpec.ofChange netlistLooksWrong)

/-- 'masklaw3.NetlistLoads': WHATEVER THE INPUT: true; the input reads as it did. -/
def netlistLoadsSpec : ChangeSpec := { name := "netlistLoads", fn := fun _ => fun
  | [d] => { results := [.lit (.bool true)], args := [d] }
  | _ => none }
def netlistLoadsRow : OpenClaim := { program := "ytodncnlnadgkhaa", sum := "a1e295c90acd5eccfacec97aef2972763931e51f8caacfacd5ca2266dbfc6eee", func := "maskwright/masklaw3.NetlistLoads", spec := "netlistLoads", unfollowed := true, recurses := true, plainKeys := false, apart := false }
def NetlistLoadsSaid : Prop := netlistLoadsRow.holds Try.pinned (OpenSpec.ofChange netlistLoadsSpec)

/-- ITS FALSE NEIGHBOUR: 'it returns false'. Refute it at one input. -/
def netlistLoadsWrong : ChangeSpec := { name := "netlistLoads", fn := fun _ => fun
  | [d] => { results := [.lit (.bool false)], args := [d] }
  | _ => none }
def NetlistLoadsWrongFalsely : Prop := netlistLoadsRow.holds Try.pinned (OpenSpec.ofChange netlistLoadsWrong)

/-- 'masklaw3.NetlistForms': WHATEVER THE INPUT: true; the input reads as it did. -/
def netlistFormsSpec : ChangeSpec := { name := "netlistForms", fn := fun _ => fun
  | [d1, d2, d3] => { results := [.lit (.bool true)], args := [d1, d2, d3] }
  | _ => none }
def netlistFormsRow : OpenClaim := { program := "ytodncnlnadgkhaa", sum := "a1e295c90acd5eccfacec97aef2972763931e51f8caacfacd5ca2266dbfc6eee", func := "maskwright/masklaw3.NetlistForms", spec := "netlistForms", unfollowed := true, recurses := true, plainKeys := false, apart := false }
def NetlistFormsSaid : Prop := netlistFormsRow.holds Try.pinned (OpenSpec.ofChange netlistFormsSpec)

/-- ITS FALSE NEIGHBOUR: 'it returns false'. Refute it at one input. -/
def netlistFormsWrong : ChangeSpec := { name := "netlistForms", fn := fun _ => fun
  | [d1, d2, d3] => { results := [.lit (.bool false)], args := [d1, d2, d3] }
  | _ => none }
def NetlistFormsWrongFalsely : Prop := netlistFormsRow.holds Try.pinned (OpenSpec.ofChange netlistFormsWrong)

/-- 'masklaw3.NetlistChecks': WHATEVER THE INPUT: true; the input reads as it did. -/
def netlistChecksSpec : ChangeSpec := { name := "netlistChecks", fn := fun _ => fun
  | [d1, d2] => { results := [.lit (.bool true)], args := [d1, d2] }
  | _ => none }
def netlistChecksRow : OpenClaim := { program := "ytodncnlnadgkhaa", sum := "a1e295c90acd5eccfacec97aef2972763931e51f8caacfacd5ca2266dbfc6eee", func := "maskwright/masklaw3.NetlistChecks", spec := "netlistChecks", unfollowed := true, recurses := true, plainKeys := false, apart := false }
def NetlistChecksSaid : Prop := netlistChecksRow.holds Try.pinned (OpenSpec.ofChange netlistChecksSpec)

/-- ITS FALSE NEIGHBOUR: 'it returns false'. Refute it at one input. -/
def netlistChecksWrong : ChangeSpec := { name := "netlistChecks", fn := fun _ => fun
  | [d1, d2] => { results := [.lit (.bool false)], args := [d1, d2] }
  | _ => none }
def NetlistChecksWrongFalsely : Prop := netlistChecksRow.holds Try.pinned (OpenSpec.ofChange netlistChecksWrong)

/-- 'masklaw3.NetlistLevels': WHATEVER THE INPUT: true; the input reads as it did. -/
def netlistLevelsSpec : ChangeSpec := { name := "netlistLevels", fn := fun _ => fun
  | [d] => { results := [.lit (.bool true)], args := [d] }
  | _ => none }
def netlistLevelsRow : OpenClaim := { program := "ytodncnlnadgkhaa", sum := "a1e295c90acd5eccfacec97aef2972763931e51f8caacfacd5ca2266dbfc6eee", func := "maskwright/masklaw3.NetlistLevels", spec := "netlistLevels", unfollowed := true, recurses := true, plainKeys := false, apart := false }
def NetlistLevelsSaid : Prop := netlistLevelsRow.holds Try.pinned (OpenSpec.ofChange netlistLevelsSpec)

/-- ITS FALSE NEIGHBOUR: 'it returns false'. Refute it at one input. -/
def netlistLevelsWrong : ChangeSpec := { name := "netlistLevels", fn := fun _ => fun
  | [d] => { results := [.lit (.bool false)], args := [d] }
  | _ => none }
def NetlistLevelsWrongFalsely : Prop := netlistLevelsRow.holds Try.pinned (OpenSpec.ofChange netlistLevelsWrong)

/-- 'masklaw3.NetlistAreas': WHATEVER THE INPUT: true; the input reads as it did. -/
def netlistAreasSpec : ChangeSpec := { name := "netlistAreas", fn := fun _ => fun
  | [d1, d2] => { results := [.lit (.bool true)], args := [d1, d2] }
  | _ => none }
def netlistAreasRow : OpenClaim := { program := "ytodncnlnadgkhaa", sum := "a1e295c90acd5eccfacec97aef2972763931e51f8caacfacd5ca2266dbfc6eee", func := "maskwright/masklaw3.NetlistAreas", spec := "netlistAreas", unfollowed := true, recurses := true, plainKeys := false, apart := false }
def NetlistAreasSaid : Prop := netlistAreasRow.holds Try.pinned (OpenSpec.ofChange netlistAreasSpec)

/-- ITS FALSE NEIGHBOUR: 'it returns false'. Refute it at one input. -/
def netlistAreasWrong : ChangeSpec := { name := "netlistAreas", fn := fun _ => fun
  | [d1, d2] => { results := [.lit (.bool false)], args := [d1, d2] }
  | _ => none }
def NetlistAreasWrongFalsely : Prop := netlistAreasRow.holds Try.pinned (OpenSpec.ofChange netlistAreasWrong)

/-- 'masklaw3.NetlistValues': WHATEVER THE INPUT: true; the input reads as it did. -/
def netlistValuesSpec : ChangeSpec := { name := "netlistValues", fn := fun _ => fun
  | [d1, d2, d3, d4] => { results := [.lit (.bool true)], args := [d1, d2, d3, d4] }
  | _ => none }
def netlistValuesRow : OpenClaim := { program := "ytodncnlnadgkhaa", sum := "a1e295c90acd5eccfacec97aef2972763931e51f8caacfacd5ca2266dbfc6eee", func := "maskwright/masklaw3.NetlistValues", spec := "netlistValues", unfollowed := true, recurses := true, plainKeys := false, apart := false }
def NetlistValuesSaid : Prop := netlistValuesRow.holds Try.pinned (OpenSpec.ofChange netlistValuesSpec)

/-- ITS FALSE NEIGHBOUR: 'it returns false'. Refute it at one input. -/
def netlistValuesWrong : ChangeSpec := { name := "netlistValues", fn := fun _ => fun
  | [d1, d2, d3, d4] => { results := [.lit (.bool false)], args := [d1, d2, d3, d4] }
  | _ => none }
def NetlistValuesWrongFalsely : Prop := netlistValuesRow.holds Try.pinned (OpenSpec.ofChange netlistValuesWrong)

/-- 'masklaw3.NetlistCleans': WHATEVER THE INPUT: true; the input reads as it did. -/
def netlistCleansSpec : ChangeSpec := { name := "netlistCleans", fn := fun _ => fun
  | [d] => { results := [.lit (.bool true)], args := [d] }
  | _ => none }
def netlistCleansRow : OpenClaim := { program := "ytodncnlnadgkhaa", sum := "a1e295c90acd5eccfacec97aef2972763931e51f8caacfacd5ca2266dbfc6eee", func := "maskwright/masklaw3.NetlistCleans", spec := "netlistCleans", unfollowed := true, recurses := true, plainKeys := false, apart := false }
def NetlistCleansSaid : Prop := netlistCleansRow.holds Try.pinned (OpenSpec.ofChange netlistCleansSpec)

/-- ITS FALSE NEIGHBOUR: 'it returns false'. Refute it at one input. -/
def netlistCleansWrong : ChangeSpec := { name := "netlistCleans", fn := fun _ => fun
  | [d] => { results := [.lit (.bool false)], args := [d] }
  | _ => none }
def NetlistCleansWrongFalsely : Prop := netlistCleansRow.holds Try.pinned (OpenSpec.ofChange netlistCleansWrong)

/-- 'masklaw3.NetlistRuns': WHATEVER THE INPUT: true; the input reads as it did. -/
def netlistRunsSpec : ChangeSpec := { name := "netlistRuns", fn := fun _ => fun
  | [d1, d2, d3, d4] => { results := [.lit (.bool true)], args := [d1, d2, d3, d4] }
  | _ => none }
def netlistRunsRow : OpenClaim := { program := "ytodncnlnadgkhaa", sum := "a1e295c90acd5eccfacec97aef2972763931e51f8caacfacd5ca2266dbfc6eee", func := "maskwright/masklaw3.NetlistRuns", spec := "netlistRuns", unfollowed := true, recurses := true, plainKeys := false, apart := false }
def NetlistRunsSaid : Prop := netlistRunsRow.holds Try.pinned (OpenSpec.ofChange netlistRunsSpec)

/-- ITS FALSE NEIGHBOUR: 'it returns false'. Refute it at one input. -/
def netlistRunsWrong : ChangeSpec := { name := "netlistRuns", fn := fun _ => fun
  | [d1, d2, d3, d4] => { results := [.lit (.bool false)], args := [d1, d2, d3, d4] }
  | _ => none }
def NetlistRunsWrongFalsely : Prop := netlistRunsRow.holds Try.pinned (OpenSpec.ofChange netlistRunsWrong)

/-- 'masklaw3.NetlistGraphs': WHATEVER THE INPUT: true; the input reads as it did. -/
def netlistGraphsSpec : ChangeSpec := { name := "netlistGraphs", fn := fun _ => fun
  | [d1, d2] => { results := [.lit (.bool true)], args := [d1, d2] }
  | _ => none }
def netlistGraphsRow : OpenClaim := { program := "ytodncnlnadgkhaa", sum := "a1e295c90acd5eccfacec97aef2972763931e51f8caacfacd5ca2266dbfc6eee", func := "maskwright/masklaw3.NetlistGraphs", spec := "netlistGraphs", unfollowed := true, recurses := true, plainKeys := false, apart := false }
def NetlistGraphsSaid : Prop := netlistGraphsRow.holds Try.pinned (OpenSpec.ofChange netlistGraphsSpec)

/-- ITS FALSE NEIGHBOUR: 'it returns false'. Refute it at one input. -/
def netlistGraphsWrong : ChangeSpec := { name := "netlistGraphs", fn := fun _ => fun
  | [d1, d2] => { results := [.lit (.bool false)], args := [d1, d2] }
  | _ => none }
def NetlistGraphsWrongFalsely : Prop := netlistGraphsRow.holds Try.pinned (OpenSpec.ofChange netlistGraphsWrong)

/-- 'masklaw3.NetlistWiths': WHATEVER THE INPUT: true; the input reads as it did. -/
def netlistWithsSpec : ChangeSpec := { name := "netlistWiths", fn := fun _ => fun
  | [d1, d2, d3] => { results := [.lit (.bool true)], args := [d1, d2, d3] }
  | _ => none }
def netlistWithsRow : OpenClaim := { program := "ytodncnlnadgkhaa", sum := "a1e295c90acd5eccfacec97aef2972763931e51f8caacfacd5ca2266dbfc6eee", func := "maskwright/masklaw3.NetlistWiths", spec := "netlistWiths", unfollowed := true, recurses := true, plainKeys := false, apart := false }
def NetlistWithsSaid : Prop := netlistWithsRow.holds Try.pinned (OpenSpec.ofChange netlistWithsSpec)

/-- ITS FALSE NEIGHBOUR: 'it returns false'. Refute it at one input. -/
def netlistWithsWrong : ChangeSpec := { name := "netlistWiths", fn := fun _ => fun
  | [d1, d2, d3] => { results := [.lit (.bool false)], args := [d1, d2, d3] }
  | _ => none }
def NetlistWithsWrongFalsely : Prop := netlistWithsRow.holds Try.pinned (OpenSpec.ofChange netlistWithsWrong)

/-- 'masklaw3.GatingEnables': WHATEVER THE INPUT: true; the input reads as it did. -/
def gatingEnablesSpec : ChangeSpec := { name := "gatingEnables", fn := fun _ => fun
  | [d] => { results := [.lit (.bool true)], args := [d] }
  | _ => none }
def gatingEnablesRow : OpenClaim := { program := "ytodncnlnadgkhaa", sum := "a1e295c90acd5eccfacec97aef2972763931e51f8caacfacd5ca2266dbfc6eee", func := "maskwright/masklaw3.GatingEnables", spec := "gatingEnables", unfollowed := true, recurses := true, plainKeys := false, apart := false }
def GatingEnablesSaid : Prop := gatingEnablesRow.holds Try.pinned (OpenSpec.ofChange gatingEnablesSpec)

/-- ITS FALSE NEIGHBOUR: 'it returns false'. Refute it at one input. -/
def gatingEnablesWrong : ChangeSpec := { name := "gatingEnables", fn := fun _ => fun
  | [d] => { results := [.lit (.bool false)], args := [d] }
  | _ => none }
def GatingEnablesWrongFalsely : Prop := gatingEnablesRow.holds Try.pinned (OpenSpec.ofChange gatingEnablesWrong)

/- THE SECOND FORM. 'bulk': how many values and letters a reading holds, each counted each time it is reached (what is shared counts as often as it is met; a slice's spare places count too). A statement '..UptoSaid' is the law's where the arguments, and the package variables that the reading takes, are together of bulk at most 1048576: NARROWER than '..Said'. Prove '..Said' where nothing that the law and all that it calls make is longer than what came in: it says more and counts as full. Else prove '..UptoSaid'. A law counts once. -/
mutual
def uptoBulk {H : Type} : DataW H → Nat
  | .lit (.string bytes) => bytes.length + 1
  | .lit _ => 1
  | .nil => 1
  | .ptr d => uptoBulk d + 1
  | .slice elems spare => uptoBulkAll elems + uptoBulkAll spare + 1
  | .agg parts => uptoBulkAll parts + 1
  | .iface _ d => uptoBulk d + 1
  | .map entries => uptoBulkEntries entries + 1
  | .held _ => 1
def uptoBulkAll {H : Type} : List (DataW H) → Nat
  | [] => 0
  | d :: r => uptoBulk d + uptoBulkAll r
def uptoBulkEntries {H : Type} : List (Lit × DataW H) → Nat
  | [] => 0
  | x :: r => uptoBulkEntry x + uptoBulkEntries r
def uptoBulkEntry {H : Type} : Lit × DataW H → Nat
  | (.string bytes, d) => bytes.length + uptoBulk d + 1
  | (_, d) => uptoBulk d + 1
 end
def uptoSmall : (H : Type) → List (DataW H) → Bool := fun _ ds => decide (uptoBulkAll ds ≤ 1048576)
def OpenSpec.upto (s : _root_.Go.ChangeSpec) : _root_.Go.OpenSpec := { _root_.Go.OpenSpec.ofChange s with cond := some uptoSmall }

/-- 'masklaw3.NetlistLooks', WHERE WHAT IT READS IS OF BULK AT MOST 1048576: true; the input reads as it did. -/
def netlistLooksUptoRow : OpenClaim := { program := "ytodncnlnadgkhaa", sum := "a1e295c90acd5eccfacec97aef2972763931e51f8caacfacd5ca2266dbfc6eee", func := "maskwright/masklaw3.NetlistLooks", spec := "netlistLooks", plainKeys := false, apart := false, narrowed := true }
def NetlistLooksUptoSaid : Prop := netlistLooksUptoRow.holds Try.pinned (OpenSpec.upto netlistLooksSpec)

/-- 'masklaw3.NetlistLoads', WHERE WHAT IT READS IS OF BULK AT MOST 1048576: true; the input reads as it did. -/
def netlistLoadsUptoRow : OpenClaim := { program := "ytodncnlnadgkhaa", sum := "a1e295c90acd5eccfacec97aef2972763931e51f8caacfacd5ca2266dbfc6eee", func := "maskwright/masklaw3.NetlistLoads", spec := "netlistLoads", unfollowed := true, recurses := true, plainKeys := false, apart := false, narrowed := true }
def NetlistLoadsUptoSaid : Prop := netlistLoadsUptoRow.holds Try.pinned (OpenSpec.upto netlistLoadsSpec)

/-- 'masklaw3.NetlistForms', WHERE WHAT IT READS IS OF BULK AT MOST 1048576: true; the input reads as it did. -/
def netlistFormsUptoRow : OpenClaim := { program := "ytodncnlnadgkhaa", sum := "a1e295c90acd5eccfacec97aef2972763931e51f8caacfacd5ca2266dbfc6eee", func := "maskwright/masklaw3.NetlistForms", spec := "netlistForms", unfollowed := true, recurses := true, plainKeys := false, apart := false, narrowed := true }
def NetlistFormsUptoSaid : Prop := netlistFormsUptoRow.holds Try.pinned (OpenSpec.upto netlistFormsSpec)

/-- 'masklaw3.NetlistChecks', WHERE WHAT IT READS IS OF BULK AT MOST 1048576: true; the input reads as it did. -/
def netlistChecksUptoRow : OpenClaim := { program := "ytodncnlnadgkhaa", sum := "a1e295c90acd5eccfacec97aef2972763931e51f8caacfacd5ca2266dbfc6eee", func := "maskwright/masklaw3.NetlistChecks", spec := "netlistChecks", unfollowed := true, recurses := true, plainKeys := false, apart := false, narrowed := true }
def NetlistChecksUptoSaid : Prop := netlistChecksUptoRow.holds Try.pinned (OpenSpec.upto netlistChecksSpec)

/-- 'masklaw3.NetlistLevels', WHERE WHAT IT READS IS OF BULK AT MOST 1048576: true; the input reads as it did. -/
def netlistLevelsUptoRow : OpenClaim := { program := "ytodncnlnadgkhaa", sum := "a1e295c90acd5eccfacec97aef2972763931e51f8caacfacd5ca2266dbfc6eee", func := "maskwright/masklaw3.NetlistLevels", spec := "netlistLevels", unfollowed := true, recurses := true, plainKeys := false, apart := false, narrowed := true }
def NetlistLevelsUptoSaid : Prop := netlistLevelsUptoRow.holds Try.pinned (OpenSpec.upto netlistLevelsSpec)

/-- 'masklaw3.NetlistAreas', WHERE WHAT IT READS IS OF BULK AT MOST 1048576: true; the input reads as it did. -/
def netlistAreasUptoRow : OpenClaim := { program := "ytodncnlnadgkhaa", sum := "a1e295c90acd5eccfacec97aef2972763931e51f8caacfacd5ca2266dbfc6eee", func := "maskwright/masklaw3.NetlistAreas", spec := "netlistAreas", unfollowed := true, recurses := true, plainKeys := false, apart := false, narrowed := true }
def NetlistAreasUptoSaid : Prop := netlistAreasUptoRow.holds Try.pinned (OpenSpec.upto netlistAreasSpec)

/-- 'masklaw3.NetlistValues', WHERE WHAT IT READS IS OF BULK AT MOST 1048576: true; the input reads as it did. -/
def netlistValuesUptoRow : OpenClaim := { program := "ytodncnlnadgkhaa", sum := "a1e295c90acd5eccfacec97aef2972763931e51f8caacfacd5ca2266dbfc6eee", func := "maskwright/masklaw3.NetlistValues", spec := "netlistValues", unfollowed := true, recurses := true, plainKeys := false, apart := false, narrowed := true }
def NetlistValuesUptoSaid : Prop := netlistValuesUptoRow.holds Try.pinned (OpenSpec.upto netlistValuesSpec)

/-- 'masklaw3.NetlistCleans', WHERE WHAT IT READS IS OF BULK AT MOST 1048576: true; the input reads as it did. -/
def netlistCleansUptoRow : OpenClaim := { program := "ytodncnlnadgkhaa", sum := "a1e295c90acd5eccfacec97aef2972763931e51f8caacfacd5ca2266dbfc6eee", func := "maskwright/masklaw3.NetlistCleans", spec := "netlistCleans", unfollowed := true, recurses := true, plainKeys := false, apart := false, narrowed := true }
def NetlistCleansUptoSaid : Prop := netlistCleansUptoRow.holds Try.pinned (OpenSpec.upto netlistCleansSpec)

/-- 'masklaw3.NetlistRuns', WHERE WHAT IT READS IS OF BULK AT MOST 1048576: true; the input reads as it did. -/
def netlistRunsUptoRow : OpenClaim := { program := "ytodncnlnadgkhaa", sum := "a1e295c90acd5eccfacec97aef2972763931e51f8caacfacd5ca2266dbfc6eee", func := "maskwright/masklaw3.NetlistRuns", spec := "netlistRuns", unfollowed := true, recurses := true, plainKeys := false, apart := false, narrowed := true }
def NetlistRunsUptoSaid : Prop := netlistRunsUptoRow.holds Try.pinned (OpenSpec.upto netlistRunsSpec)

/-- 'masklaw3.NetlistGraphs', WHERE WHAT IT READS IS OF BULK AT MOST 1048576: true; the input reads as it did. -/
def netlistGraphsUptoRow : OpenClaim := { program := "ytodncnlnadgkhaa", sum := "a1e295c90acd5eccfacec97aef2972763931e51f8caacfacd5ca2266dbfc6eee", func := "maskwright/masklaw3.NetlistGraphs", spec := "netlistGraphs", unfollowed := true, recurses := true, plainKeys := false, apart := false, narrowed := true }
def NetlistGraphsUptoSaid : Prop := netlistGraphsUptoRow.holds Try.pinned (OpenSpec.upto netlistGraphsSpec)

/-- 'masklaw3.NetlistWiths', WHERE WHAT IT READS IS OF BULK AT MOST 1048576: true; the input reads as it did. -/
def netlistWithsUptoRow : OpenClaim := { program := "ytodncnlnadgkhaa", sum := "a1e295c90acd5eccfacec97aef2972763931e51f8caacfacd5ca2266dbfc6eee", func := "maskwright/masklaw3.NetlistWiths", spec := "netlistWiths", unfollowed := true, recurses := true, plainKeys := false, apart := false, narrowed := true }
def NetlistWithsUptoSaid : Prop := netlistWithsUptoRow.holds Try.pinned (OpenSpec.upto netlistWithsSpec)

/-- 'masklaw3.GatingEnables', WHERE WHAT IT READS IS OF BULK AT MOST 1048576: true; the input reads as it did. -/
def gatingEnablesUptoRow : OpenClaim := { program := "ytodncnlnadgkhaa", sum := "a1e295c90acd5eccfacec97aef2972763931e51f8caacfacd5ca2266dbfc6eee", func := "maskwright/masklaw3.GatingEnables", spec := "gatingEnables", unfollowed := true, recurses := true, plainKeys := false, apart := false, narrowed := true }
def GatingEnablesUptoSaid : Prop := gatingEnablesUptoRow.holds Try.pinned (OpenSpec.upto gatingEnablesSpec)

end Rows
end Go.Proofs.Ytodncnlnadgkhaa
