/- Runs of netlists, plainly. -/
import Derived.Test.YtodncnlnadgkhaaLwValues
set_option linter.unusedSimpArgs false
set_option linter.unusedVariables false
namespace Go.Ab
open Go

def laneW (b : Bool) : Int := if b = true then 1 else 0
theorem u64_laneW (b : Bool) : U64 (laneW b) := by cases b <;> exact ⟨by decide, by decide⟩
theorem bit_laneW (b : Bool) : bit (laneW b) 0 = b := by cases b <;> decide
theorem and_one_w {a : Int} (ha : U64 a) : decide (bitop .and .u64 a 1 = 1) = bit a 0 := by
  have h := shift_and_one ha 0 (by decide)
  have e : a.fdiv (2 ^ min 0 64) = a := by simp
  rw [e] at h
  rw [h]
  cases bit a 0 <;> rfl
def traceAt (L : Nat → Nat) (ni : Nat) (i : Nat) : Int := if L i ≠ ni then 20 else 0
def traceF (T : Nat) (L : Nat → Nat) (ni : Nat) : Int := if 64 < T then 3 else scan (traceAt L ni) T
theorem traceF_zero {T : Nat} {L : Nat → Nat} {ni : Nat} (h : traceF T L ni = 0) : T ≤ 64 ∧ ∀ i, i < T → L i = ni := by
  unfold traceF at h
  split at h
  · cases h
  · refine ⟨by omega, fun i hi => ?_⟩
    have := scan_zero h i hi
    unfold traceAt at this
    split at this
    · cases this
    · rename_i h2; exact Classical.not_not.1 h2
noncomputable def runF (N : Net) (T : Nat) (L : Nat → Nat) : Int := if formF N ≠ 0 then formF N else traceF T L N.ni
/-- The state before cycle i. -/
def st (N : Net) (t : Nat → Nat → Bool) : Nat → Nat → Bool
  | 0, j => (N.flop j).init
  | i + 1, j => nextB N (bv N (t i) (st N t i) N.ng) j
/-- What is shown in cycle i. -/
def shown (N : Net) (t : Nat → Nat → Bool) (i k : Nat) : Bool := bv N (t i) (st N t i) N.ng (N.outs k).toNat
end Go.Ab
