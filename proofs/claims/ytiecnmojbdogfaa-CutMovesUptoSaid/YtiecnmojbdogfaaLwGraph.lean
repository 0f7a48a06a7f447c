/- Levels of graphs, plainly. -/
import Derived.Test.YtiecnmojbdogfaaLwBit
import Derived.Test.YtiecnmojbdogfaaLwLevel
set_option linter.unusedSimpArgs false
set_option linter.unusedVariables false
namespace Go.Ab
open Go
structure RegV where
  name : ByteArray
  next : Int
  init : Bool
instance : Inhabited RegV := ⟨⟨⟨#[]⟩, 0, false⟩⟩
structure Gra where
  ni : Nat
  inn : Nat → ByteArray
  no : Nat
  out : Nat → ByteArray
  nr : Nat
  reg : Nat → RegV
  na : Nat
  A : Nat → Int
  B : Nat → Int
  nk : Nat
  outs : Nat → Int

def L64 (a : Int) : Prop := -9223372036854775808 ≤ a ∧ a ≤ 9223372036854775807
def RegV.av (f : RegV) : AV := .agg [.str f.name, .int .i64 f.next, .bool f.init]
/-- The cells of v stand for a graph. -/
def GraC (cs : List AV) (G : Gra) : Prop := ∃ f0 f1 f2 f3 f4, cs = [.fs G.ni f0, .fs G.no f1, .fs G.nr f2, .fs G.na f3, .fs G.nk f4] ∧ (∀ i, i < G.ni → f0 i = .str (G.inn i)) ∧ (∀ i, i < G.no → f1 i = .str (G.out i)) ∧ (∀ i, i < G.nr → f2 i = (G.reg i).av) ∧ (∀ i, i < G.na → f3 i = .agg [.int .i64 (G.A i), .int .i64 (G.B i)]) ∧ (∀ i, i < G.nk → f4 i = .int .i64 (G.outs i))
/-- What is known of a graph that is read. -/
structure Gra.Ok (G : Gra) : Prop where
  ni : G.ni ≤ 1048576
  no : G.no ≤ 1048576
  nr : G.nr ≤ 1048576
  na : G.na ≤ 1048576
  nk : G.nk ≤ 1048576
  inn : ∀ i, i < G.ni → (G.inn i).size ≤ 1048576
  out : ∀ i, i < G.no → (G.out i).size ≤ 1048576
  reg : ∀ i, i < G.nr → (G.reg i).name.size ≤ 1048576 ∧ L64 (G.reg i).next
  A : ∀ i, i < G.na → L64 (G.A i)
  B : ∀ i, i < G.na → L64 (G.B i)
  outs : ∀ i, i < G.nk → L64 (G.outs i)

def Gra.base (G : Gra) : Nat := 1 + G.ni + G.nr
def Gra.nodes (G : Gra) : Nat := G.base + G.na
/-- The names of inputs and then of registers. -/
def Gra.names (G : Gra) (i : Nat) : ByteArray := if i < G.ni then G.inn i else (G.reg (i - G.ni)).name
/-- A literal of one of the first n nodes. -/
def litOk (n : Nat) (l : Int) : Prop := 0 ≤ l ∧ l < 2 * (n : Int)
instance (n : Nat) (l : Int) : Decidable (litOk n l) := by unfold litOk; exact inferInstance
def badLit (n : Nat) (l : Int) : Int := if litOk n l then 0 else 2
def andAt (G : Gra) (i : Nat) : Int := if litOk (G.base + i) (G.A i) ∧ litOk (G.base + i) (G.B i) then 0 else 2
/-- The error of a graph. -/
noncomputable def graphF (G : Gra) : Int :=
  if 128 < G.ni ∨ 128 < G.no ∨ 288 < G.nr ∨ 4000 < G.na then 3
  else if G.no ≠ G.nk then 4
  else if namesF G.names (G.ni + G.nr) ≠ 0 then namesF G.names (G.ni + G.nr)
  else if namesF G.out G.no ≠ 0 then namesF G.out G.no
  else if scan (andAt G) G.na ≠ 0 then 2
  else if scan (fun i => badLit G.nodes (G.reg i).next) G.nr ≠ 0 then 2
  else scan (fun i => badLit G.nodes (G.outs i)) G.nk
/-- What is known of a valid graph. -/
structure Gra.Good (G : Gra) : Prop where
  ni : G.ni ≤ 128
  no : G.no ≤ 128
  nr : G.nr ≤ 288
  na : G.na ≤ 4000
  nk : G.nk = G.no
  A : ∀ i, i < G.na → litOk (G.base + i) (G.A i)
  B : ∀ i, i < G.na → litOk (G.base + i) (G.B i)
  next : ∀ i, i < G.nr → litOk G.nodes (G.reg i).next
  outs : ∀ i, i < G.nk → litOk G.nodes (G.outs i)
theorem badLit_zero {n : Nat} {l : Int} (h : badLit n l = 0) : litOk n l := by
  unfold badLit at h
  split at h
  · assumption
  · cases h
theorem badLit_in {n : Nat} {l : Int} : badLit n l = 0 ∨ badLit n l = 2 := by unfold badLit; split <;> simp
theorem andAt_in (G : Gra) (i : Nat) : andAt G i = 0 ∨ andAt G i = 2 := by unfold andAt; split <;> simp
theorem good_of {G : Gra} (h : graphF G = 0) : G.Good := by
  unfold graphF at h
  split at h
  · cases h
  · rename_i h1
    split at h
    · cases h
    · rename_i h2
      split at h
      · rename_i h3; exact absurd h h3
      · split at h
        · rename_i h3; exact absurd h h3
        · split at h
          · cases h
          · rename_i h5
            split at h
            · cases h
            · rename_i h6
              have q1 := scan_zero (Classical.not_not.1 h5)
              have q2 := scan_zero (Classical.not_not.1 h6)
              have q3 := scan_zero h
              have q : ∀ i, i < G.na → litOk (G.base + i) (G.A i) ∧ litOk (G.base + i) (G.B i) := fun i hi => by
                have := q1 i hi
                unfold andAt at this
                split at this
                · assumption
                · cases this
              exact ⟨by omega, by omega, by omega, by omega, by omega, fun i hi => (q i hi).1, fun i hi => (q i hi).2, fun i hi => badLit_zero (q2 i hi), fun i hi => badLit_zero (q3 i hi)⟩
end Go.Ab
namespace Go.Ab
open Go
/-- The node of a literal. -/
def ndx (l : Int) : Nat := (l / 2).toNat
theorem ndx_lt {n : Nat} {l : Int} (h : litOk n l) : ndx l < n := by unfold ndx; have := h.1; have := h.2; omega
theorem ndx_val {n : Nat} {l : Int} (h : litOk n l) : l / 2 = (ndx l : Nat) := by unfold ndx; have := h.1; omega
theorem ndx_quo {n : Nat} {l : Int} (h : litOk n l) (hn : n ≤ 4194304) : IntKind.i64.wrap (l.tdiv 2) = (ndx l : Nat) := by
  have h1 := h.1; have h2 := h.2
  rw [tdiv_two h1, wI (by omega) (by omega), ndx_val h]
theorem ndx_shr {n : Nat} {l : Int} (h : litOk n l) : l.fdiv (2 ^ min 1 64) = (ndx l : Nat) := by
  rw [← ndx_val h]; exact shr_one h.1
/-- The literals that a graph is for. -/
def rootAt (G : Gra) (i : Nat) : Int := if i < G.nk then G.outs i else (G.reg (i - G.nk)).next
theorem root_ok {G : Gra} (gd : G.Good) (k : Nat) (h : k < G.nk + G.nr) : litOk G.nodes (rootAt G k) := by
  unfold rootAt
  split
  · rename_i h1; exact gd.outs k h1
  · exact gd.next _ (by omega)
/-- The levels of nodes behind the first i ands. -/
def hgt (G : Gra) : Nat → Nat → Int
  | 0, _ => 0
  | i + 1, k => if k = G.base + i then 1 + mx (hgt G i (ndx (G.A i))) (hgt G i (ndx (G.B i))) else hgt G i k
theorem hgt_bound (G : Gra) : ∀ i k, 0 ≤ hgt G i k ∧ hgt G i k ≤ i
  | 0, k => ⟨Int.le_refl _, Int.le_refl _⟩
  | i + 1, k => by
    simp only [hgt, mx]
    have h1 := hgt_bound G i (ndx (G.A i))
    have h2 := hgt_bound G i (ndx (G.B i))
    have h3 := hgt_bound G i k
    split <;> (try split) <;> omega
theorem hgt_far (G : Gra) : ∀ i k, G.base + i ≤ k → hgt G i k = 0
  | 0, k, _ => rfl
  | i + 1, k, h => by
    simp only [hgt]
    rw [if_neg (by omega)]
    exact hgt_far G i k (by omega)
/-- The greatest of h at the nodes of the first n of x, at least 0. -/
def mxN (h : Nat → Int) (x : Nat → Int) : Nat → Int
  | 0 => 0
  | j + 1 => mx (mxN h x j) (h (ndx (x j)))
def depthG (G : Gra) : Int := mxN (hgt G G.na) (rootAt G) (G.nk + G.nr)
end Go.Ab
