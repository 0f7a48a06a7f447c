/- Registers with enables: the plain law. -/
import Derived.Test.YtodncnlnadgkhacLwGraph
import Derived.Test.YtodncnlnadgkhacLwBit
set_option linter.unusedSimpArgs false
set_option linter.unusedVariables false
namespace Go.Ab
open Go

/-- Is it the literal of an and? -/
def isAnd (G : Gra) (l : Int) : Bool := decide (2 * (G.base : Int) ≤ l) && decide (l % 2 = 0)
def sIx (G : Gra) (l : Int) : Nat := (l / 2).toNat - G.base
def sA (G : Gra) (l : Int) : Int := bif isAnd G l then G.A (sIx G l) else 0
def sB (G : Gra) (l : Int) : Int := bif isAnd G l then G.B (sIx G l) else 0

theorem isAnd_iff {G : Gra} {l : Int} : isAnd G l = true ↔ 2 * (G.base : Int) ≤ l ∧ l % 2 = 0 := by simp [isAnd]
theorem sIx_lt {G : Gra} {l : Int} (hl : litOk G.nodes l) (h : isAnd G l = true) : sIx G l < G.na := by
  obtain ⟨h1, h2⟩ := isAnd_iff.1 h
  obtain ⟨h3, h4⟩ := hl
  unfold sIx Gra.nodes at *
  omega
theorem litOk_mono {n m : Nat} {l : Int} (h : litOk n l) (hm : n ≤ m) : litOk m l := ⟨h.1, by have := h.2; omega⟩
theorem sA_ok {G : Gra} (g : G.Good) {l : Int} (hl : litOk G.nodes l) : litOk G.nodes (sA G l) := by
  unfold sA
  cases h : isAnd G l with
  | false => exact ⟨Int.le_refl _, by show (0 : Int) < _; unfold Gra.nodes Gra.base; omega⟩
  | true => exact litOk_mono (g.A _ (sIx_lt hl h)) (by have := sIx_lt hl h; unfold Gra.nodes; omega)
theorem sB_ok {G : Gra} (g : G.Good) {l : Int} (hl : litOk G.nodes l) : litOk G.nodes (sB G l) := by
  unfold sB
  cases h : isAnd G l with
  | false => exact ⟨Int.le_refl _, by show (0 : Int) < _; unfold Gra.nodes Gra.base; omega⟩
  | true => exact litOk_mono (g.B _ (sIx_lt hl h)) (by have := sIx_lt hl h; unfold Gra.nodes; omega)
theorem Gra.Good.nodes_le {G : Gra} (g : G.Good) : G.nodes ≤ 4417 := by
  have := g.ni; have := g.nr; have := g.na
  unfold Gra.nodes Gra.base; omega
theorem x1_ok {G : Gra} (g : G.Good) {l : Int} (hl : litOk G.nodes l) : litOk G.nodes (x1 l) := by
  have := g.nodes_le
  obtain ⟨h1, h2⟩ := hl
  rw [x1_val h1 (by omega)]
  unfold litOk
  split <;> omega

/-- Do the two literals of the other and fit an enable? -/
def hitG (y z e q : Int) : Bool := (decide (y = x1 e) && decide (z = q)) || (decide (y = q) && decide (z = x1 e))
def mux4 (a b c d q : Int) : Option (Int × Int) :=
  bif hitG c d a q then some (a, b) else bif hitG c d b q then some (b, a) else bif hitG a b c q then some (c, d) else bif hitG a b d q then some (d, c) else none
def muxG (G : Gra) (n q : Int) : Option (Int × Int) :=
  bif isAnd G (x1 n) && (isAnd G (x1 (sA G (x1 n))) && isAnd G (x1 (sB G (x1 n)))) then
    mux4 (sA G (x1 (sA G (x1 n)))) (sB G (x1 (sA G (x1 n)))) (sA G (x1 (sB G (x1 n)))) (sB G (x1 (sB G (x1 n)))) q else none
def sideG (G : Gra) (n q : Int) : Option Int :=
  bif isAnd G n then (if sA G n = q then some (sB G n) else if sB G n = q then some (sA G n) else none) else none
/-- The enable and the literal of a register. -/
def keptG (G : Gra) (n q : Int) : Int × Int :=
  if n = q then (0, 0) else match muxG G n q with
  | some s => s
  | none => match sideG G n q with
    | some b => (x1 b, 0)
    | none => match sideG G (x1 n) (x1 q) with
      | some b => (x1 b, 1)
      | none => (1, n)
theorem mux4_ok {P : Int → Prop} {a b c d q : Int} {s : Int × Int} (ha : P a) (hb : P b) (hc : P c) (hd : P d) (h : mux4 a b c d q = some s) : P s.1 ∧ P s.2 := by
  unfold mux4 at h
  cases h1 : hitG c d a q with
  | true => rw [h1] at h; cases h; exact ⟨ha, hb⟩
  | false =>
    rw [h1] at h
    cases h2 : hitG c d b q with
    | true => rw [h2] at h; cases h; exact ⟨hb, ha⟩
    | false =>
      rw [h2] at h
      cases h3 : hitG a b c q with
      | true => rw [h3] at h; cases h; exact ⟨hc, hd⟩
      | false =>
        rw [h3] at h
        cases h4 : hitG a b d q with
        | true => rw [h4] at h; cases h; exact ⟨hd, hc⟩
        | false => rw [h4] at h; cases h
theorem sideG_ok {G : Gra} (g : G.Good) {m r b : Int} (hm : litOk G.nodes m) (h : sideG G m r = some b) : litOk G.nodes b := by
  unfold sideG at h
  cases hi : isAnd G m with
  | false => rw [hi] at h; cases h
  | true =>
    rw [hi, cond_true] at h
    split at h
    · cases h; exact sB_ok g hm
    · split at h
      · cases h; exact sA_ok g hm
      · cases h
theorem kept_ok {G : Gra} (g : G.Good) {n q : Int} (hn : litOk G.nodes n) : litOk G.nodes (keptG G n q).1 ∧ litOk G.nodes (keptG G n q).2 := by
  have z0 : litOk G.nodes 0 := ⟨Int.le_refl _, by show (0 : Int) < _; unfold Gra.nodes Gra.base; omega⟩
  have z1 : litOk G.nodes 1 := ⟨by decide, by show (1 : Int) < _; unfold Gra.nodes Gra.base; omega⟩
  have k1 := x1_ok g hn
  unfold keptG
  by_cases h : n = q
  · rw [if_pos h]; exact ⟨z0, z0⟩
  · rw [if_neg h]
    cases hm : muxG G n q with
    | some s =>
      unfold muxG at hm
      cases hb : (isAnd G (x1 n) && (isAnd G (x1 (sA G (x1 n))) && isAnd G (x1 (sB G (x1 n))))) with
      | false => rw [hb] at hm; cases hm
      | true =>
        rw [hb, cond_true] at hm
        have a1 := x1_ok g (sA_ok g k1)
        have b1 := x1_ok g (sB_ok g k1)
        exact mux4_ok (P := litOk G.nodes) (sA_ok g a1) (sB_ok g a1) (sA_ok g b1) (sB_ok g b1) hm
    | none =>
      cases hs : sideG G n q with
      | some b => exact ⟨x1_ok g (sideG_ok g hn hs), z0⟩
      | none =>
        cases ht : sideG G (x1 n) (x1 q) with
        | some b => exact ⟨x1_ok g (sideG_ok g k1 ht), z1⟩
        | none => exact ⟨z1, hn⟩
end Go.Ab
