/- Levels of nets, plainly. -/
import Derived.Test.YtiecnmojbdogfaaLwBit
set_option linter.unusedSimpArgs false
set_option linter.unusedVariables false
namespace Go.Ab
open Go
structure FlopV where
  name : ByteArray
  cell : Int
  d : Int
  en : Int
  init : Bool
instance : Inhabited FlopV := ⟨⟨⟨#[]⟩, 0, 0, 0, false⟩⟩
structure GateV where
  cell : Int
  table : Int
  n : Nat
  ins : Nat → Int
instance : Inhabited GateV := ⟨⟨0, 0, 0, fun _ => 0⟩⟩
structure Net where
  ni : Nat
  inn : Nat → ByteArray
  no : Nat
  out : Nat → ByteArray
  nf : Nat
  flop : Nat → FlopV
  ng : Nat
  gate : Nat → GateV
  nk : Nat
  outs : Nat → Int

def I64 (a : Int) : Prop := -9223372036854775808 ≤ a ∧ a ≤ 9223372036854775807
def FlopV.av (f : FlopV) : AV := .agg [.str f.name, .int .i64 f.cell, .int .i64 f.d, .int .i64 f.en, .bool f.init]
/-- v stands for a gate. -/
def GateA (v : AV) (g : GateV) : Prop := ∃ f, v = .agg [.int .i64 g.cell, .int .u64 g.table, .fs g.n f] ∧ ∀ i, i < g.n → f i = .int .i64 (g.ins i)
/-- The cells of v stand for a netlist. -/
def NetC (cs : List AV) (N : Net) : Prop := ∃ f0 f1 f2 f3 f4, cs = [.fs N.ni f0, .fs N.no f1, .fs N.nf f2, .fs N.ng f3, .fs N.nk f4] ∧ (∀ i, i < N.ni → f0 i = .str (N.inn i)) ∧ (∀ i, i < N.no → f1 i = .str (N.out i)) ∧ (∀ i, i < N.nf → f2 i = (N.flop i).av) ∧ (∀ i, i < N.ng → GateA (f3 i) (N.gate i)) ∧ (∀ i, i < N.nk → f4 i = .int .i64 (N.outs i))
def NetA (v : AV) (N : Net) : Prop := ∃ cs, v = .agg cs ∧ NetC cs N
/-- What is known of a netlist that is read. -/
structure Net.Ok (N : Net) : Prop where
  ni : N.ni ≤ 1048576
  no : N.no ≤ 1048576
  nf : N.nf ≤ 1048576
  ng : N.ng ≤ 1048576
  nk : N.nk ≤ 1048576
  inn : ∀ i, i < N.ni → (N.inn i).size ≤ 1048576
  out : ∀ i, i < N.no → (N.out i).size ≤ 1048576
  flop : ∀ i, i < N.nf → (N.flop i).name.size ≤ 1048576 ∧ I64 (N.flop i).cell ∧ I64 (N.flop i).d ∧ I64 (N.flop i).en
  gate : ∀ i, i < N.ng → (N.gate i).n ≤ 1048576 ∧ I64 (N.gate i).cell ∧ U64 (N.gate i).table ∧ ∀ k, k < (N.gate i).n → I64 ((N.gate i).ins k)
  outs : ∀ i, i < N.nk → I64 (N.outs i)

def Net.first (N : Net) : Nat := 2 + N.ni + N.nf
def Net.nets (N : Net) : Nat := N.first + N.ng
/-- The names of inputs and then of flip-flops. -/
def Net.names (N : Net) (i : Nat) : ByteArray := if i < N.ni then N.inn i else (N.flop (i - N.ni)).name
def badNet (lim : Int) (k : Int) : Int := if k < 0 ∨ lim ≤ k then 2 else 0
def maskF (n : Int) : Int := if n < 0 then 0 else if n > 6 then 0 else if n = 6 then 18446744073709551615 else IntKind.u64.wrap (IntKind.u64.wrap (1 * 2 ^ min (IntKind.u64.wrap (1 * 2 ^ min n.toNat 64)).toNat 64) - 1)
def gateAt (N : Net) (i : Nat) : Int :=
  if 6 < (N.gate i).n then 3 else if bitop .andNot .u64 (N.gate i).table (maskF (N.gate i).n) ≠ 0 then 4 else scan (fun k => badNet (N.first + i : Nat) ((N.gate i).ins k)) (N.gate i).n
def flopAt (N : Net) (i : Nat) : Int := if badNet N.nets (N.flop i).d ≠ 0 then 2 else badNet N.nets (N.flop i).en
/-- The error of a netlist without its cells. -/
noncomputable def formF (N : Net) : Int :=
  if 128 < N.ni ∨ 128 < N.no ∨ 288 < N.nf ∨ 1200 < N.ng then 3
  else if N.no ≠ N.nk then 4
  else if namesF N.names (N.ni + N.nf) ≠ 0 then namesF N.names (N.ni + N.nf)
  else if namesF N.out N.no ≠ 0 then namesF N.out N.no
  else if scan (gateAt N) N.ng ≠ 0 then scan (gateAt N) N.ng
  else if scan (flopAt N) N.nf ≠ 0 then 2
  else scan (fun i => badNet N.nets (N.outs i)) N.nk
theorem u64_maskF (n : Int) : U64 (maskF n) := by
  unfold maskF
  split
  · exact ⟨by decide, by decide⟩
  · split
    · exact ⟨by decide, by decide⟩
    · split
      · exact ⟨by decide, by decide⟩
      · rw [IntKind.wrap_u64]; constructor <;> omega
end Go.Ab
namespace Go.Ab
open Go
structure CellV where
  flop : Bool
  ins : Int
  table : Int
  area : Int
instance : Inhabited CellV := ⟨⟨false, 0, 0, 0⟩⟩
/-- v stands for a cell. -/
def CellA (v : AV) (c : CellV) : Prop := ∃ nm n1 f1 n2 f2 n3 f3 x y z, v = .agg [.str nm, .bool c.flop, .int .i64 c.ins, .int .u64 c.table, .int .i64 c.area, .fs n1 f1, .fs n2 f2, .fs n3 f3, .int .i64 x, .int .i64 y, .int .i64 z]
def gateErr (nl : Nat) (lib : Nat → CellV) (g : GateV) : Int :=
  if g.cell = -1 then 0 else if g.cell < -1 ∨ nl ≤ g.cell then 7 else if (lib g.cell.toNat).flop = true then 8
  else if (lib g.cell.toNat).ins ≠ g.n ∨ (lib g.cell.toNat).table ≠ g.table then 4 else 0
def flopErr (nl : Nat) (lib : Nat → CellV) (f : FlopV) : Int :=
  if f.cell = -1 then 0 else if f.cell < -1 ∨ nl ≤ f.cell then 7 else if (lib f.cell.toNat).flop = false then 8
  else if (lib f.cell.toNat).ins = 1 ∧ f.en ≠ 1 then 4 else 0
noncomputable def checkF (N : Net) (nl : Nat) (lib : Nat → CellV) : Int :=
  if formF N ≠ 0 then formF N
  else if scan (fun i => gateErr nl lib (N.gate i)) N.ng ≠ 0 then scan (fun i => gateErr nl lib (N.gate i)) N.ng
  else scan (fun i => flopErr nl lib (N.flop i)) N.nf
end Go.Ab
namespace Go.Ab
open Go
/-- What is known of a netlist without a fault of form. -/
structure Net.Good (N : Net) : Prop where
  ni : N.ni ≤ 128
  no : N.no ≤ 128
  nf : N.nf ≤ 288
  ng : N.ng ≤ 1200
  nk : N.nk = N.no
  ins : ∀ i, i < N.ng → (N.gate i).n ≤ 6 ∧ bitop .andNot .u64 (N.gate i).table (maskF (N.gate i).n) = 0 ∧ ∀ k, k < (N.gate i).n → 0 ≤ (N.gate i).ins k ∧ (N.gate i).ins k < (N.first + i : Nat)
  flops : ∀ i, i < N.nf → (0 ≤ (N.flop i).d ∧ (N.flop i).d < N.nets) ∧ 0 ≤ (N.flop i).en ∧ (N.flop i).en < N.nets
  outs : ∀ i, i < N.nk → 0 ≤ N.outs i ∧ N.outs i < N.nets
theorem badNet_zero {L k : Int} (h : badNet L k = 0) : 0 ≤ k ∧ k < L := by
  unfold badNet at h
  split at h
  · cases h
  · omega
theorem Net.good {N : Net} (h : formF N = 0) : N.Good := by
  unfold formF at h
  split at h
  · cases h
  rename_i h0
  split at h
  · cases h
  rename_i h1
  split at h
  · rename_i h2; exact absurd h h2
  split at h
  · rename_i h2; exact absurd h h2
  split at h
  · rename_i h2; exact absurd h h2
  rename_i hg
  split at h
  · cases h
  rename_i hf
  have hg := Classical.not_not.1 hg
  have hf := Classical.not_not.1 hf
  refine ⟨by omega, by omega, by omega, by omega, by omega, fun i hi => ?_, fun i hi => ?_, fun i hi => badNet_zero (scan_zero h i hi)⟩
  · have g := scan_zero hg i hi
    unfold gateAt at g
    split at g
    · cases g
    split at g
    · cases g
    rename_i a1 a2
    exact ⟨by omega, Classical.not_not.1 a2, fun k hk => badNet_zero (scan_zero g k hk)⟩
  · have g := scan_zero hf i hi
    unfold flopAt at g
    split at g
    · cases g
    rename_i a1
    exact ⟨badNet_zero (Classical.not_not.1 a1), badNet_zero g⟩

def mx (a b : Int) : Int := if b > a then b else a
/-- The greatest of h at the first n of x, at least 0. -/
def mxL (h : Nat → Int) (x : Nat → Int) : Nat → Int
  | 0 => 0
  | j + 1 => mx (mxL h x j) (h (x j).toNat)
/-- The levels of nets behind the first i gates. -/
def hts (N : Net) : Nat → Nat → Int
  | 0, _ => 0
  | i + 1, k => if k = N.first + i then mxL (hts N i) (N.gate i).ins (N.gate i).n + 1 else hts N i k
theorem mxL_bound {h : Nat → Int} {x : Nat → Int} {B : Int} (hB : 0 ≤ B) (hh : ∀ k, 0 ≤ h k ∧ h k ≤ B) : ∀ n, 0 ≤ mxL h x n ∧ mxL h x n ≤ B
  | 0 => ⟨Int.le_refl _, hB⟩
  | n + 1 => by
    have ih := mxL_bound (x := x) hB hh n
    have := hh (x n).toNat
    simp only [mxL, mx]
    split <;> omega
theorem hts_bound (N : Net) : ∀ i k, 0 ≤ hts N i k ∧ hts N i k ≤ i
  | 0, k => ⟨Int.le_refl _, Int.le_refl _⟩
  | i + 1, k => by
    simp only [hts]
    have ih := hts_bound N i
    have := mxL_bound (x := (N.gate i).ins) (B := i) (by omega) ih (N.gate i).n
    have := ih k
    split <;> omega
/-- The nets that count. -/
def ends (N : Net) (k : Nat) : Int := if k < N.nk then N.outs k else if (k - N.nk) % 2 = 0 then (N.flop ((k - N.nk) / 2)).d else (N.flop ((k - N.nk) / 2)).en
def depthF (N : Net) : Int := mxL (hts N N.ng) (ends N) (N.nk + 2 * N.nf)
theorem ends_d (N : Net) (i : Nat) : ends N (N.nk + 2 * i) = (N.flop i).d := by
  unfold ends
  rw [if_neg (by omega), if_pos (by omega)]
  congr 2; omega
theorem ends_en (N : Net) (i : Nat) : ends N (N.nk + 2 * i + 1) = (N.flop i).en := by
  unfold ends
  rw [if_neg (by omega), if_neg (by omega)]
  congr 2; omega
theorem ends_lt {N : Net} (g : N.Good) (k : Nat) (h : k < N.nk + 2 * N.nf) : 0 ≤ ends N k ∧ ends N k < N.nets := by
  unfold ends
  split
  · rename_i h1; exact g.outs k h1
  · split
    · exact (g.flops _ (by omega)).1
    · exact (g.flops _ (by omega)).2
theorem mxL_one {h : Nat → Int} {x : Nat → Int} (n : Nat) : mx (mxL h x n + 1) (h (x n).toNat + 1) = mxL h x (n + 1) + 1 := by
  simp only [mxL, mx]
  split <;> split <;> omega
end Go.Ab
