/- Netlists, plainly. -/
import Derived.Test.YtodncnlnadgkhabLwBit
set_option linter.unusedSimpArgs false
set_option linter.unusedVariables false
namespace Go.Ab
open Go

structure FlopV where
  name : ByteArray
  cell : Int
  d : Int
  en : Int
  init : Bool
instance : Inhabited FlopV := ⟨⟨⟨#[]⟩, 0, 0, 0, false⟩⟩
structure GateV where
  cell : Int
  table : Int
  n : Nat
  ins : Nat → Int
instance : Inhabited GateV := ⟨⟨0, 0, 0, fun _ => 0⟩⟩
structure Net where
  ni : Nat
  inn : Nat → ByteArray
  no : Nat
  out : Nat → ByteArray
  nf : Nat
  flop : Nat → FlopV
  ng : Nat
  gate : Nat → GateV
  nk : Nat
  outs : Nat → Int

def I64 (a : Int) : Prop := -9223372036854775808 ≤ a ∧ a ≤ 9223372036854775807
def FlopV.av (f : FlopV) : AV := .agg [.str f.name, .int .i64 f.cell, .int .i64 f.d, .int .i64 f.en, .bool f.init]
/-- v stands for a gate. -/
def GateA (v : AV) (g : GateV) : Prop := ∃ f, v = .agg [.int .i64 g.cell, .int .u64 g.table, .fs g.n f] ∧ ∀ i, i < g.n → f i = .int .i64 (g.ins i)
/-- The cells of v stand for a netlist. -/
def NetC (cs : List AV) (N : Net) : Prop := ∃ f0 f1 f2 f3 f4, cs = [.fs N.ni f0, .fs N.no f1, .fs N.nf f2, .fs N.ng f3, .fs N.nk f4] ∧ (∀ i, i < N.ni → f0 i = .str (N.inn i)) ∧ (∀ i, i < N.no → f1 i = .str (N.out i)) ∧ (∀ i, i < N.nf → f2 i = (N.flop i).av) ∧ (∀ i, i < N.ng → GateA (f3 i) (N.gate i)) ∧ (∀ i, i < N.nk → f4 i = .int .i64 (N.outs i))
def NetA (v : AV) (N : Net) : Prop := ∃ cs, v = .agg cs ∧ NetC cs N
/-- What is known of a netlist that is read. -/
structure Net.Ok (N : Net) : Prop where
  ni : N.ni ≤ 1048576
  no : N.no ≤ 1048576
  nf : N.nf ≤ 1048576
  ng : N.ng ≤ 1048576
  nk : N.nk ≤ 1048576
  inn : ∀ i, i < N.ni → (N.inn i).size ≤ 1048576
  out : ∀ i, i < N.no → (N.out i).size ≤ 1048576
  flop : ∀ i, i < N.nf → (N.flop i).name.size ≤ 1048576 ∧ I64 (N.flop i).cell ∧ I64 (N.flop i).d ∧ I64 (N.flop i).en
  gate : ∀ i, i < N.ng → (N.gate i).n ≤ 1048576 ∧ I64 (N.gate i).cell ∧ U64 (N.gate i).table ∧ ∀ k, k < (N.gate i).n → I64 ((N.gate i).ins k)
  outs : ∀ i, i < N.nk → I64 (N.outs i)

def Net.first (N : Net) : Nat := 2 + N.ni + N.nf
def Net.nets (N : Net) : Nat := N.first + N.ng
/-- The names of inputs and then of flip-flops. -/
def Net.names (N : Net) (i : Nat) : ByteArray := if i < N.ni then N.inn i else (N.flop (i - N.ni)).name
def badNet (lim : Int) (k : Int) : Int := if k < 0 ∨ lim ≤ k then 2 else 0
def maskF (n : Int) : Int := if n < 0 then 0 else if n > 6 then 0 else if n = 6 then 18446744073709551615 else IntKind.u64.wrap (IntKind.u64.wrap (1 * 2 ^ min (IntKind.u64.wrap (1 * 2 ^ min n.toNat 64)).toNat 64) - 1)
def gateAt (N : Net) (i : Nat) : Int :=
  if 6 < (N.gate i).n then 3 else if bitop .andNot .u64 (N.gate i).table (maskF (N.gate i).n) ≠ 0 then 4 else scan (fun k => badNet (N.first + i : Nat) ((N.gate i).ins k)) (N.gate i).n
def flopAt (N : Net) (i : Nat) : Int := if badNet N.nets (N.flop i).d ≠ 0 then 2 else badNet N.nets (N.flop i).en
/-- The error of a netlist without its cells. -/
noncomputable def formF (N : Net) : Int :=
  if 128 < N.ni ∨ 128 < N.no ∨ 288 < N.nf ∨ 1200 < N.ng then 3
  else if N.no ≠ N.nk then 4
  else if namesF N.names (N.ni + N.nf) ≠ 0 then namesF N.names (N.ni + N.nf)
  else if namesF N.out N.no ≠ 0 then namesF N.out N.no
  else if scan (gateAt N) N.ng ≠ 0 then scan (gateAt N) N.ng
  else if scan (flopAt N) N.nf ≠ 0 then 2
  else scan (fun i => badNet N.nets (N.outs i)) N.nk
theorem u64_maskF (n : Int) : U64 (maskF n) := by
  unfold maskF
  split
  · exact ⟨by decide, by decide⟩
  · split
    · exact ⟨by decide, by decide⟩
    · split
      · exact ⟨by decide, by decide⟩
      · rw [IntKind.wrap_u64]; constructor <;> omega
end Go.Ab
