/- The uses of nets, in the order in which Loads gathers them. -/
import Derived.Test.YtodncnlnadgkhaaLwNet
set_option linter.unusedVariables false
namespace Go.Ab
open Go

/-- The uses by the first k pins of gate i, by the first i gates, flip-flops and outputs. -/
def pU (N : Net) (i : Nat) : Nat → List (Nat × Int × Int × Int)
  | 0 => []
  | k + 1 => pU N i k ++ [(((N.gate i).ins k).toNat, ((0, (i : Int), (k : Int)) : Int × Int × Int))]
def gU (N : Net) : Nat → List (Nat × Int × Int × Int)
  | 0 => []
  | i + 1 => gU N i ++ pU N i (N.gate i).n
def fU (N : Net) : Nat → List (Nat × Int × Int × Int)
  | 0 => gU N N.ng
  | i + 1 => fU N i ++ [((N.flop i).d.toNat, ((1, (i : Int), 0) : Int × Int × Int))] ++ [((N.flop i).en.toNat, ((2, (i : Int), 0) : Int × Int × Int))]
def oU (N : Net) : Nat → List (Nat × Int × Int × Int)
  | 0 => fU N N.nf
  | i + 1 => oU N i ++ [((N.outs i).toNat, ((3, (i : Int), 0) : Int × Int × Int))]
end Go.Ab
