/- The graph of nothing; rows that grow. -/
import Derived.Test.YtodncnlnadgkhacLwGraph
set_option linter.unusedSimpArgs false
set_option linter.unusedVariables false
namespace Go.Ab
open Go
/-- The graph of nothing. -/
def nilG : Gra := ⟨0, fun _ => default, 0, fun _ => default, 0, fun _ => default, 0, fun _ => 0, fun _ => 0, 0, fun _ => 0⟩
theorem nilG_ok : nilG.Ok := ⟨by decide, by decide, by decide, by decide, by decide, fun i hi => absurd hi (Nat.not_lt_zero _), fun i hi => absurd hi (Nat.not_lt_zero _), fun i hi => absurd hi (Nat.not_lt_zero _), fun i hi => absurd hi (Nat.not_lt_zero _), fun i hi => absurd hi (Nat.not_lt_zero _), fun i hi => absurd hi (Nat.not_lt_zero _)⟩
theorem nilG_c (h0 h1 h2 h3 h4 : Nat → AV) : GraC [.fs 0 h0, .fs 0 h1, .fs 0 h2, .fs 0 h3, .fs 0 h4] nilG :=
  ⟨h0, h1, h2, h3, h4, rfl, fun i hi => absurd hi (Nat.not_lt_zero _), fun i hi => absurd hi (Nat.not_lt_zero _), fun i hi => absurd hi (Nat.not_lt_zero _), fun i hi => absurd hi (Nat.not_lt_zero _), fun i hi => absurd hi (Nat.not_lt_zero _)⟩

theorem pushF {i : Nat} {g : Nat → AV} {p : Nat → AV} {x : AV} (hg : ∀ k, k < i → g k = p k) (hx : x = p i) : ∀ k, k < i + 1 → (bif decide (k < i) then g k else [x].getD (k - i) .undef) = p k := fun k hk => by
  by_cases h : k < i
  · simp only [h, decide_true, cond_true]; exact hg k h
  · obtain rfl : k = i := by omega
    simp only [Nat.lt_irrefl, decide_false, cond_false, Nat.sub_self, List.getD_cons_zero]; exact hx
end Go.Ab
