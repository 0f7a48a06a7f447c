/- Registers with enables: the plain law. -/
import Derived.Test.YtodncnlnadgkhaaLwGraph
import Derived.Test.YtodncnlnadgkhaaLwLit
set_option linter.unusedSimpArgs false
set_option linter.unusedVariables false
namespace Go.Ab
open Go

/-- Is it the literal of an and? -/
def isAnd (G : Gra) (l : Int) : Bool := decide (2 * (G.base : Int) ≤ l) && decide (l % 2 = 0)
def sIx (G : Gra) (l : Int) : Nat := (l / 2).toNat - G.base
def sA (G : Gra) (l : Int) : Int := bif isAnd G l then G.A (sIx G l) else 0
def sB (G : Gra) (l : Int) : Int := bif isAnd G l then G.B (sIx G l) else 0

theorem isAnd_iff {G : Gra} {l : Int} : isAnd G l = true ↔ 2 * (G.base : Int) ≤ l ∧ l % 2 = 0 := by simp [isAnd]
theorem sIx_lt {G : Gra} {l : Int} (hl : litOk G.nodes l) (h : isAnd G l = true) : sIx G l < G.na := by
  obtain ⟨h1, h2⟩ := isAnd_iff.1 h
  obtain ⟨h3, h4⟩ := hl
  unfold sIx Gra.nodes at *
  omega
theorem litOk_mono {n m : Nat} {l : Int} (h : litOk n l) (hm : n ≤ m) : litOk m l := ⟨h.1, by have := h.2; omega⟩
theorem sA_ok {G : Gra} (g : G.Good) {l : Int} (hl : litOk G.nodes l) : litOk G.nodes (sA G l) := by
  unfold sA
  cases h : isAnd G l with
  | false => exact ⟨Int.le_refl _, by show (0 : Int) < _; unfold Gra.nodes Gra.base; omega⟩
  | true => exact litOk_mono (g.A _ (sIx_lt hl h)) (by have := sIx_lt hl h; unfold Gra.nodes; omega)
theorem sB_ok {G : Gra} (g : G.Good) {l : Int} (hl : litOk G.nodes l) : litOk G.nodes (sB G l) := by
  unfold sB
  cases h : isAnd G l with
  | false => exact ⟨Int.le_refl _, by show (0 : Int) < _; unfold Gra.nodes Gra.base; omega⟩
  | true => exact litOk_mono (g.B _ (sIx_lt hl h)) (by have := sIx_lt hl h; unfold Gra.nodes; omega)
theorem Gra.Good.nodes_le {G : Gra} (g : G.Good) : G.nodes ≤ 4417 := by
  have := g.ni; have := g.nr; have := g.na
  unfold Gra.nodes Gra.base; omega
theorem x1_ok {G : Gra} (g : G.Good) {l : Int} (hl : litOk G.nodes l) : litOk G.nodes (x1 l) := by
  have := g.nodes_le
  obtain ⟨h1, h2⟩ := hl
  rw [x1_val h1 (by omega)]
  unfold litOk
  split <;> omega

/-- Do the two literals of the other and fit an enable? -/
def hitG (y z e q : Int) : Bool := (decide (y = x1 e) && decide (z = q)) || (decide (y = q) && decide (z = x1 e))
def mux4 (a b c d q : Int) : Option (Int × Int) :=
  bif hitG c d a q then some (a, b) else bif hitG c d b q then some (b, a) else bif hitG a b c q then some (c, d) else bif hitG a b d q then some (d, c) else none
def muxG (G : Gra) (n q : Int) : Option (Int × Int) :=
  bif isAnd G (x1 n) && (isAnd G (x1 (sA G (x1 n))) && isAnd G (x1 (sB G (x1 n)))) then
    mux4 (sA G (x1 (sA G (x1 n)))) (sB G (x1 (sA G (x1 n)))) (sA G (x1 (sB G (x1 n)))) (sB G (x1 (sB G (x1 n)))) q else none
def sideG (G : Gra) (n q : Int) : Option Int :=
  bif isAnd G n then (if sA G n = q then some (sB G n) else if sB G n = q then some (sA G n) else none) else none
/-- The enable and the literal of a register. -/
def keptG (G : Gra) (n q : Int) : Int × Int :=
  if n = q then (0, 0) else match muxG G n q with
  | some s => s
  | none => match sideG G n q with
    | some b => (x1 b, 0)
    | none => match sideG G (x1 n) (x1 q) with
      | some b => (x1 b, 1)
      | none => (1, n)
end Go.Ab
