/- Levels of graphs, plainly. -/
import Derived.Test.YtodncnlnadgkhabLwGraph
import Derived.Test.YtodncnlnadgkhabLwBit
import Derived.Test.YtodncnlnadgkhabLwLevel
set_option linter.unusedSimpArgs false
set_option linter.unusedVariables false
namespace Go.Ab
open Go
/-- The node of a literal. -/
def ndx (l : Int) : Nat := (l / 2).toNat
theorem ndx_lt {n : Nat} {l : Int} (h : litOk n l) : ndx l < n := by unfold ndx; have := h.1; have := h.2; omega
theorem ndx_val {n : Nat} {l : Int} (h : litOk n l) : l / 2 = (ndx l : Nat) := by unfold ndx; have := h.1; omega
theorem ndx_quo {n : Nat} {l : Int} (h : litOk n l) (hn : n ≤ 4194304) : IntKind.i64.wrap (l.tdiv 2) = (ndx l : Nat) := by
  have h1 := h.1; have h2 := h.2
  rw [tdiv_two h1, wI (by omega) (by omega), ndx_val h]
theorem ndx_shr {n : Nat} {l : Int} (h : litOk n l) : l.fdiv (2 ^ min 1 64) = (ndx l : Nat) := by
  rw [← ndx_val h]; exact shr_one h.1
/-- The literals that a graph is for. -/
def rootAt (G : Gra) (i : Nat) : Int := if i < G.nk then G.outs i else (G.reg (i - G.nk)).next
theorem root_ok {G : Gra} (gd : G.Good) (k : Nat) (h : k < G.nk + G.nr) : litOk G.nodes (rootAt G k) := by
  unfold rootAt
  split
  · rename_i h1; exact gd.outs k h1
  · exact gd.next _ (by omega)
/-- The levels of nodes behind the first i ands. -/
def hgt (G : Gra) : Nat → Nat → Int
  | 0, _ => 0
  | i + 1, k => if k = G.base + i then 1 + mx (hgt G i (ndx (G.A i))) (hgt G i (ndx (G.B i))) else hgt G i k
theorem hgt_bound (G : Gra) : ∀ i k, 0 ≤ hgt G i k ∧ hgt G i k ≤ i
  | 0, k => ⟨Int.le_refl _, Int.le_refl _⟩
  | i + 1, k => by
    simp only [hgt, mx]
    have h1 := hgt_bound G i (ndx (G.A i))
    have h2 := hgt_bound G i (ndx (G.B i))
    have h3 := hgt_bound G i k
    split <;> (try split) <;> omega
theorem hgt_far (G : Gra) : ∀ i k, G.base + i ≤ k → hgt G i k = 0
  | 0, k, _ => rfl
  | i + 1, k, h => by
    simp only [hgt]
    rw [if_neg (by omega)]
    exact hgt_far G i k (by omega)
/-- The greatest of h at the nodes of the first n of x, at least 0. -/
def mxN (h : Nat → Int) (x : Nat → Int) : Nat → Int
  | 0 => 0
  | j + 1 => mx (mxN h x j) (h (ndx (x j)))
def depthG (G : Gra) : Int := mxN (hgt G G.na) (rootAt G) (G.nk + G.nr)
end Go.Ab
