/- Areas, plainly. -/
import Derived.Test.YtodncnlnadgkhaaLwLevel
set_option linter.unusedSimpArgs false
set_option linter.unusedVariables false
namespace Go.Ab
open Go

def cellAt (N : Net) (k : Nat) : Int := if k < N.ng then (N.gate k).cell else (N.flop (k - N.ng)).cell
def areaErr (lib : Nat → CellV) (c : Int) : Int := if c < 0 then 8 else if (lib c.toNat).area < 0 ∨ 64 < (lib c.toNat).area then 2 else 0
def sumF (N : Net) (lib : Nat → CellV) : Nat → Int
  | 0 => 0
  | k + 1 => sumF N lib k + (lib (cellAt N k).toNat).area
def areaAt (N : Net) (lib : Nat → CellV) (k : Nat) : Int := areaErr lib (cellAt N k)
theorem areaAt_zero {N : Net} {lib : Nat → CellV} {k : Nat} (h : areaAt N lib k = 0) : 0 ≤ cellAt N k ∧ 0 ≤ (lib (cellAt N k).toNat).area ∧ (lib (cellAt N k).toNat).area ≤ 64 := by
  unfold areaAt areaErr at h
  split at h
  · cases h
  split at h
  · cases h
  omega
theorem sumF_bound {N : Net} {lib : Nat → CellV} : ∀ n, scan (areaAt N lib) n = 0 → 0 ≤ sumF N lib n ∧ sumF N lib n ≤ 64 * n
  | 0, _ => ⟨Int.le_refl _, Int.le_refl _⟩
  | n + 1, h => by
    have h1 : scan (areaAt N lib) n = 0 := by
      simp only [scan] at h
      by_cases e : scan (areaAt N lib) n = 0
      · exact e
      · rw [if_neg e] at h; exact h
    have ih := sumF_bound n h1
    have := areaAt_zero (scan_zero h n (by omega))
    simp only [sumF]; omega
theorem cells_good {N : Net} {nl : Nat} {lib : Nat → CellV} (h : checkF N nl lib = 0) : ∀ k, k < N.ng + N.nf → cellAt N k = -1 ∨ (0 ≤ cellAt N k ∧ cellAt N k < nl) := fun k hk => by
  unfold checkF at h
  split at h
  · rename_i h1; exact absurd h h1
  split at h
  · rename_i h1; exact absurd h h1
  rename_i h1
  unfold cellAt
  split
  · rename_i h2
    have := scan_zero (Classical.not_not.1 h1) k h2
    simp only [gateErr] at this
    split at this
    · exact .inl (by assumption)
    split at this
    · cases this
    · right; omega
  · have := scan_zero h (k - N.ng) (by omega)
    simp only [flopErr] at this
    split at this
    · exact .inl (by assumption)
    split at this
    · cases this
    · right; omega
/-- The error of Area. -/
noncomputable def areaF (N : Net) (nl : Nat) (lib : Nat → CellV) (k : Nat) : Int := if checkF N nl lib ≠ 0 then checkF N nl lib else scan (areaAt N lib) k
end Go.Ab
