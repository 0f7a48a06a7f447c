/- Walks: a literal of the first nodes; Make. -/
import Derived.Test.YtodncnlnadgkhacSaBase
import Derived.Test.YtodncnlnadgkhacLwBit
set_option linter.unusedSimpArgs false
set_option linter.unusedVariables false
namespace Go.Ab
open Go
def a81 : AC := (.seq (.ops [⟨(some 4), none, (.v (.mv (.c (.bool false))))⟩]) (.seq (.ops [⟨(some 5), none, (.v (.mv (.t 0)))⟩, ⟨(some 6), none, (.v (.bin .geq (.t 5) (.c (.int .i64 0))))⟩, ⟨(some 7), none, (.v (.mv (.t 6)))⟩, ⟨(some 8), (some (7, true)), (.v (.mv (.t 0)))⟩, ⟨(some 9), (some (7, true)), (.v (.mv (.t 1)))⟩, ⟨(some 10), (some (7, true)), (.v (.bin .mul (.c (.int .i64 2)) (.t 9)))⟩, ⟨(some 11), (some (7, true)), (.v (.bin .lss (.t 8) (.t 10)))⟩, ⟨(some 12), none, (.v (.pick (.t 7) (.t 11) (.c (.bool false))))⟩, ⟨(some 4), none, (.v (.mv (.t 12)))⟩]) .ret))
def r81 : List AI := [(.mv (.t 4))]
theorem f81 : Fn PP 81 2 a81 r81 := Fn.of (fn := Go.Proofs.Try.f81) (by kernel_rfl) (by kernel_rfl) (by kernel_rfl)
def a40 : AC := (.seq (.ops [⟨(some 2), none, (.v (.mv (.c .cap0)))⟩]) (.seq (.seq (.ops [⟨(some 3), none, (.v (.mv (.t 0)))⟩, ⟨(some 4), none, (.isnil false (.t 3))⟩]) (.cond (.t 4) (.seq (.ops [⟨(some 2), none, (.v (.mv (.c .cap0)))⟩]) .ret) .skip)) (.seq (.ops [⟨(some 5), none, (.e (.lit 5 9 1 0 [(.str ⟨#[]⟩)] []))⟩, ⟨(some 6), none, (.v (.mv (.t 0)))⟩, ⟨(some 7), none, (.e (.app 7 9 1 16 (.t 5) (.t 6)))⟩, ⟨(some 2), none, (.v (.mv (.t 7)))⟩]) .ret)))
def r40 : List AI := [(.mv (.t 2))]
theorem f40 : Fn PP 40 1 a40 r40 := Fn.of (fn := Go.Proofs.Try.f40) (by kernel_rfl) (by kernel_rfl) (by kernel_rfl)
theorem p81 (l n : Int) (h0 : 0 ≤ n) (h1 : n ≤ 4294967296) : Pure PP 81 [.int .i64 l, .int .i64 n] fun r => r = .bool (decide (0 ≤ l ∧ l < 2 * n)) := by
  refine Fn.pure fmix f81 ?_
  unfold a81 r81
  simp -implicitDefEqProofs only [vqa, Nat.reduceEqDiff, Nat.reduceAdd, reduceIte, Nat.reduceLeDiff, Nat.reduceBEq, Nat.reduceLT, Nat.reduceSub, Int.reduceLT, Int.reduceLE, Int.reduceEq, Int.reduceToNat, Nat.reduceMul, eq_self, implies_true, forall_const]
  rw [wI (n := 2 * n) (by omega) (by omega)]
  exact ⟨fun k => by simp [k], fun k => by simp [k]⟩
end Go.Ab
namespace Go.Ab
open Go
def a86 : AC := (.seq (.ops [⟨(some 4), none, (.v (.mv (.c (.int .i64 0))))⟩]) (.seq (.seq (.ops [⟨(some 6), none, (.v (.mv (.t 0)))⟩, ⟨(some 7), none, (.v (.bin .lss (.t 6) (.c (.int .i64 0))))⟩, ⟨(some 8), none, (.v (.mv (.t 7)))⟩, ⟨(some 9), (some (8, false)), (.v (.mv (.t 0)))⟩, ⟨(some 10), (some (8, false)), (.v (.bin .gtr (.t 9) (.c (.int .i64 4416))))⟩, ⟨(some 11), none, (.v (.pick (.t 8) (.c (.bool true)) (.t 10)))⟩]) (.cond (.t 11) (.seq (.ops [⟨(some 4), none, (.v (.mv (.c (.int .i64 0))))⟩]) .ret) .skip)) (.seq (.ops [⟨(some 12), none, (.v (.mv (.t 0)))⟩, ⟨(some 13), none, (.v (.bin .mul (.c (.int .i64 2)) (.t 12)))⟩, ⟨(some 5), none, (.v (.mv (.t 13)))⟩]) (.seq (.seq (.ops [⟨(some 14), none, (.v (.mv (.t 1)))⟩]) (.cond (.t 14) (.ops [⟨(some 15), none, (.v (.mv (.t 5)))⟩, ⟨(some 16), none, (.v (.bin .add (.t 15) (.c (.int .i64 1))))⟩, ⟨(some 5), none, (.v (.mv (.t 16)))⟩]) .skip)) (.seq (.ops [⟨(some 17), none, (.v (.mv (.t 5)))⟩, ⟨(some 4), none, (.v (.mv (.t 17)))⟩]) .ret)))))
def r86 : List AI := [(.mv (.t 4))]
theorem f86 : Fn PP 86 2 a86 r86 := Fn.of (fn := Go.Proofs.Try.f86) (by kernel_rfl) (by kernel_rfl) (by kernel_rfl)
def makeF (n : Int) (t : Bool) : Int := if n < 0 ∨ 4416 < n then 0 else match t with | true => 2 * n + 1 | false => 2 * n
theorem p86 (n : Int) (t : Bool) : Pure PP 86 [.int .i64 n, .bool t] fun r => r = .int .i64 (makeF n t) := by
  refine Fn.pure fmix f86 ?_
  unfold a86 r86
  cases t with
  | true =>
    simp -implicitDefEqProofs only [vqa, Nat.reduceEqDiff, Nat.reduceAdd, reduceIte, Nat.reduceLeDiff, Nat.reduceBEq, Nat.reduceLT, Nat.reduceSub, Int.reduceLT, Int.reduceLE, Int.reduceEq, Int.reduceToNat, Nat.reduceMul, eq_self, implies_true, forall_const]
    refine ⟨fun h1 => ⟨fun h2 => ?_, fun h2 => ?_⟩, fun h1 => ?_⟩
    · unfold makeF; rw [if_pos (.inr h2)]
    · rw [wI (n := 2 * n) (by omega) (by omega), wI (n := 2 * n + 1) (by omega) (by omega)]
      unfold makeF; rw [if_neg (by omega)]
    · unfold makeF; rw [if_pos (.inl h1)]
  | false =>
    simp -implicitDefEqProofs only [vqa, Nat.reduceEqDiff, Nat.reduceAdd, reduceIte, Nat.reduceLeDiff, Nat.reduceBEq, Nat.reduceLT, Nat.reduceSub, Int.reduceLT, Int.reduceLE, Int.reduceEq, Int.reduceToNat, Nat.reduceMul, eq_self, implies_true, forall_const]
    refine ⟨fun h1 => ⟨fun h2 => ?_, fun h2 => ?_⟩, fun h1 => ?_⟩
    · unfold makeF; rw [if_pos (.inr h2)]
    · rw [wI (n := 2 * n) (by omega) (by omega)]
      unfold makeF; rw [if_neg (by omega)]
    · unfold makeF; rw [if_pos (.inl h1)]
end Go.Ab
