/- Graphs, plainly. -/
import Derived.Test.YtodncnlnadgkhacLwBit
set_option linter.unusedSimpArgs false
set_option linter.unusedVariables false
namespace Go.Ab
open Go

structure RegV where
  name : ByteArray
  next : Int
  init : Bool
instance : Inhabited RegV := ⟨⟨⟨#[]⟩, 0, false⟩⟩
structure Gra where
  ni : Nat
  inn : Nat → ByteArray
  no : Nat
  out : Nat → ByteArray
  nr : Nat
  reg : Nat → RegV
  na : Nat
  A : Nat → Int
  B : Nat → Int
  nk : Nat
  outs : Nat → Int

def L64 (a : Int) : Prop := -9223372036854775808 ≤ a ∧ a ≤ 9223372036854775807
def RegV.av (f : RegV) : AV := .agg [.str f.name, .int .i64 f.next, .bool f.init]
/-- The cells of v stand for a graph. -/
def GraC (cs : List AV) (G : Gra) : Prop := ∃ f0 f1 f2 f3 f4, cs = [.fs G.ni f0, .fs G.no f1, .fs G.nr f2, .fs G.na f3, .fs G.nk f4] ∧ (∀ i, i < G.ni → f0 i = .str (G.inn i)) ∧ (∀ i, i < G.no → f1 i = .str (G.out i)) ∧ (∀ i, i < G.nr → f2 i = (G.reg i).av) ∧ (∀ i, i < G.na → f3 i = .agg [.int .i64 (G.A i), .int .i64 (G.B i)]) ∧ (∀ i, i < G.nk → f4 i = .int .i64 (G.outs i))
/-- What is known of a graph that is read. -/
structure Gra.Ok (G : Gra) : Prop where
  ni : G.ni ≤ 1048576
  no : G.no ≤ 1048576
  nr : G.nr ≤ 1048576
  na : G.na ≤ 1048576
  nk : G.nk ≤ 1048576
  inn : ∀ i, i < G.ni → (G.inn i).size ≤ 1048576
  out : ∀ i, i < G.no → (G.out i).size ≤ 1048576
  reg : ∀ i, i < G.nr → (G.reg i).name.size ≤ 1048576 ∧ L64 (G.reg i).next
  A : ∀ i, i < G.na → L64 (G.A i)
  B : ∀ i, i < G.na → L64 (G.B i)
  outs : ∀ i, i < G.nk → L64 (G.outs i)

def Gra.base (G : Gra) : Nat := 1 + G.ni + G.nr
def Gra.nodes (G : Gra) : Nat := G.base + G.na
/-- The names of inputs and then of registers. -/
def Gra.names (G : Gra) (i : Nat) : ByteArray := if i < G.ni then G.inn i else (G.reg (i - G.ni)).name
/-- A literal of one of the first n nodes. -/
def litOk (n : Nat) (l : Int) : Prop := 0 ≤ l ∧ l < 2 * (n : Int)
instance (n : Nat) (l : Int) : Decidable (litOk n l) := by unfold litOk; exact inferInstance
def badLit (n : Nat) (l : Int) : Int := if litOk n l then 0 else 2
def andAt (G : Gra) (i : Nat) : Int := if litOk (G.base + i) (G.A i) ∧ litOk (G.base + i) (G.B i) then 0 else 2
/-- The error of a graph. -/
noncomputable def graphF (G : Gra) : Int :=
  if 128 < G.ni ∨ 128 < G.no ∨ 288 < G.nr ∨ 4000 < G.na then 3
  else if G.no ≠ G.nk then 4
  else if namesF G.names (G.ni + G.nr) ≠ 0 then namesF G.names (G.ni + G.nr)
  else if namesF G.out G.no ≠ 0 then namesF G.out G.no
  else if scan (andAt G) G.na ≠ 0 then 2
  else if scan (fun i => badLit G.nodes (G.reg i).next) G.nr ≠ 0 then 2
  else scan (fun i => badLit G.nodes (G.outs i)) G.nk
/-- What is known of a valid graph. -/
structure Gra.Good (G : Gra) : Prop where
  ni : G.ni ≤ 128
  no : G.no ≤ 128
  nr : G.nr ≤ 288
  na : G.na ≤ 4000
  nk : G.nk = G.no
  A : ∀ i, i < G.na → litOk (G.base + i) (G.A i)
  B : ∀ i, i < G.na → litOk (G.base + i) (G.B i)
  next : ∀ i, i < G.nr → litOk G.nodes (G.reg i).next
  outs : ∀ i, i < G.nk → litOk G.nodes (G.outs i)
theorem badLit_zero {n : Nat} {l : Int} (h : badLit n l = 0) : litOk n l := by
  unfold badLit at h
  split at h
  · assumption
  · cases h
theorem badLit_in {n : Nat} {l : Int} : badLit n l = 0 ∨ badLit n l = 2 := by unfold badLit; split <;> simp
theorem andAt_in (G : Gra) (i : Nat) : andAt G i = 0 ∨ andAt G i = 2 := by unfold andAt; split <;> simp
theorem good_of {G : Gra} (h : graphF G = 0) : G.Good := by
  unfold graphF at h
  split at h
  · cases h
  · rename_i h1
    split at h
    · cases h
    · rename_i h2
      split at h
      · rename_i h3; exact absurd h h3
      · split at h
        · rename_i h3; exact absurd h h3
        · split at h
          · cases h
          · rename_i h5
            split at h
            · cases h
            · rename_i h6
              have q1 := scan_zero (Classical.not_not.1 h5)
              have q2 := scan_zero (Classical.not_not.1 h6)
              have q3 := scan_zero h
              have q : ∀ i, i < G.na → litOk (G.base + i) (G.A i) ∧ litOk (G.base + i) (G.B i) := fun i hi => by
                have := q1 i hi
                unfold andAt at this
                split at this
                · assumption
                · cases this
              exact ⟨by omega, by omega, by omega, by omega, by omega, fun i hi => (q i hi).1, fun i hi => (q i hi).2, fun i hi => badLit_zero (q2 i hi), fun i hi => badLit_zero (q3 i hi)⟩
end Go.Ab
