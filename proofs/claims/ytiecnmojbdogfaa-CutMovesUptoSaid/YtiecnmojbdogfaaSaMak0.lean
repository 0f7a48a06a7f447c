/- Walks: a literal of the first nodes. -/
import Derived.Test.YtiecnmojbdogfaaSaBase
import Derived.Test.YtiecnmojbdogfaaLwBit
set_option linter.unusedSimpArgs false
set_option linter.unusedVariables false
namespace Go.Ab
open Go
def a59 : AC := (.seq (.ops [⟨(some 4), none, (.v (.mv (.c (.bool false))))⟩]) (.seq (.ops [⟨(some 5), none, (.v (.mv (.t 0)))⟩, ⟨(some 6), none, (.v (.bin .geq (.t 5) (.c (.int .i64 0))))⟩, ⟨(some 7), none, (.v (.mv (.t 6)))⟩, ⟨(some 8), (some (7, true)), (.v (.mv (.t 0)))⟩, ⟨(some 9), (some (7, true)), (.v (.mv (.t 1)))⟩, ⟨(some 10), (some (7, true)), (.v (.bin .mul (.c (.int .i64 2)) (.t 9)))⟩, ⟨(some 11), (some (7, true)), (.v (.bin .lss (.t 8) (.t 10)))⟩, ⟨(some 12), none, (.v (.pick (.t 7) (.t 11) (.c (.bool false))))⟩, ⟨(some 4), none, (.v (.mv (.t 12)))⟩]) .ret))
def r59 : List AI := [(.mv (.t 4))]
theorem f59 : Fn PP 59 2 a59 r59 := Fn.of (fn := Go.Proofs.Try.f59) (by kernel_rfl) (by kernel_rfl) (by kernel_rfl)
def a56 : AC := (.seq (.ops [⟨(some 2), none, (.v (.mv (.c .cap0)))⟩]) (.seq (.seq (.ops [⟨(some 3), none, (.v (.mv (.t 0)))⟩, ⟨(some 4), none, (.isnil false (.t 3))⟩]) (.cond (.t 4) (.seq (.ops [⟨(some 2), none, (.v (.mv (.c .cap0)))⟩]) .ret) .skip)) (.seq (.ops [⟨(some 5), none, (.e (.lit 5 9 1 0 [(.str ⟨#[]⟩)] []))⟩, ⟨(some 6), none, (.v (.mv (.t 0)))⟩, ⟨(some 7), none, (.e (.app 7 9 1 16 (.t 5) (.t 6)))⟩, ⟨(some 2), none, (.v (.mv (.t 7)))⟩]) .ret)))
def r56 : List AI := [(.mv (.t 2))]
theorem f56 : Fn PP 56 1 a56 r56 := Fn.of (fn := Go.Proofs.Try.f56) (by kernel_rfl) (by kernel_rfl) (by kernel_rfl)
theorem p59 (l n : Int) (h0 : 0 ≤ n) (h1 : n ≤ 4294967296) : Pure PP 59 [.int .i64 l, .int .i64 n] fun r => r = .bool (decide (0 ≤ l ∧ l < 2 * n)) := by
  refine Fn.pure fmix f59 ?_
  unfold a59 r59
  simp -implicitDefEqProofs only [vqa, Nat.reduceEqDiff, Nat.reduceAdd, reduceIte, Nat.reduceLeDiff, Nat.reduceBEq, Nat.reduceLT, Nat.reduceSub, Int.reduceLT, Int.reduceLE, Int.reduceEq, Int.reduceToNat, Nat.reduceMul, eq_self, implies_true, forall_const]
  rw [wI (n := 2 * n) (by omega) (by omega)]
  exact ⟨fun k => by simp [k], fun k => by simp [k]⟩
end Go.Ab
