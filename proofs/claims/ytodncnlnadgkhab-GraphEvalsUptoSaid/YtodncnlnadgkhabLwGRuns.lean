/- Runs of graphs, plainly. -/
import Derived.Test.YtodncnlnadgkhabLwGValues
import Derived.Test.YtodncnlnadgkhabLwRuns
set_option linter.unusedSimpArgs false
set_option linter.unusedVariables false
namespace Go.Ab
open Go
noncomputable def runG (G : Gra) (T : Nat) (L : Nat → Nat) : Int := if graphF G ≠ 0 then graphF G else traceF T L G.ni
/-- The state before cycle i. -/
def stG (G : Gra) (t : Nat → Nat → Bool) : Nat → Nat → Bool
  | 0, j => (G.reg j).init
  | i + 1, j => litB G (t i) (stG G t i) (G.reg j).next
/-- What is shown in cycle i. -/
def shownG (G : Gra) (t : Nat → Nat → Bool) (i k : Nat) : Bool := litB G (t i) (stG G t i) (G.outs k)
end Go.Ab
