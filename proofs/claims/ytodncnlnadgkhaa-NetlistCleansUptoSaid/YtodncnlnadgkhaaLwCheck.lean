/- Cells of a library, plainly. -/
import Derived.Test.YtodncnlnadgkhaaLwNet
set_option linter.unusedSimpArgs false
set_option linter.unusedVariables false
namespace Go.Ab
open Go

structure CellV where
  flop : Bool
  ins : Int
  table : Int
  area : Int
instance : Inhabited CellV := ⟨⟨false, 0, 0, 0⟩⟩
/-- v stands for a cell. -/
def CellA (v : AV) (c : CellV) : Prop := ∃ nm n1 f1 n2 f2 n3 f3 x y z, v = .agg [.str nm, .bool c.flop, .int .i64 c.ins, .int .u64 c.table, .int .i64 c.area, .fs n1 f1, .fs n2 f2, .fs n3 f3, .int .i64 x, .int .i64 y, .int .i64 z]
def gateErr (nl : Nat) (lib : Nat → CellV) (g : GateV) : Int :=
  if g.cell = -1 then 0 else if g.cell < -1 ∨ nl ≤ g.cell then 7 else if (lib g.cell.toNat).flop = true then 8
  else if (lib g.cell.toNat).ins ≠ g.n ∨ (lib g.cell.toNat).table ≠ g.table then 4 else 0
def flopErr (nl : Nat) (lib : Nat → CellV) (f : FlopV) : Int :=
  if f.cell = -1 then 0 else if f.cell < -1 ∨ nl ≤ f.cell then 7 else if (lib f.cell.toNat).flop = false then 8
  else if (lib f.cell.toNat).ins = 1 ∧ f.en ≠ 1 then 4 else 0
noncomputable def checkF (N : Net) (nl : Nat) (lib : Nat → CellV) : Int :=
  if formF N ≠ 0 then formF N
  else if scan (fun i => gateErr nl lib (N.gate i)) N.ng ≠ 0 then scan (fun i => gateErr nl lib (N.gate i)) N.ng
  else scan (fun i => flopErr nl lib (N.flop i)) N.nf
end Go.Ab
