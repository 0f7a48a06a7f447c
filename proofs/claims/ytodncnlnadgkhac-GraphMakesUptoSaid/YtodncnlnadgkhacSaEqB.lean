/- Walks: Equal of truths. -/
import Derived.Test.YtodncnlnadgkhacSaBase
set_option linter.unusedSimpArgs false
set_option linter.unusedVariables false
namespace Go.Ab
open Go
def a19_0 : AC := (.seq (.ops [⟨(some 14), none, (.v (.bin .lss (.t 13) (.t 12)))⟩]) (.seq (.cond (.t 14) .skip (.exit 0)) (.seq (.block 1 (.seq (.ops [⟨(some 15), none, (.v (.mv (.t 13)))⟩, ⟨(some 5), none, (.v (.mv (.t 15)))⟩]) (.seq (.any [⟨(some 16), none, (.v (.mv (.t 0)))⟩, ⟨(some 17), none, (.v (.mv (.t 5)))⟩, ⟨(some 18), none, (.v (.idx 1 (.t 16) (.t 17)))⟩, ⟨(some 19), none, (.v (.load 1 false (.t 18)))⟩, ⟨(some 20), none, (.v (.mv (.t 1)))⟩, ⟨(some 21), none, (.v (.mv (.t 5)))⟩, ⟨(some 22), none, (.v (.idx 1 (.t 20) (.t 21)))⟩, ⟨(some 23), none, (.v (.load 1 false (.t 22)))⟩, ⟨(some 24), none, (.v (.beq true (.t 19) (.t 23)))⟩] [[], [], [0, 1], [2], [], [], [4, 5], [6], [3, 7]]) (.cond (.t 24) (.seq (.ops [⟨(some 4), none, (.v (.mv (.c (.bool false))))⟩]) .ret) .skip)))) (.ops [⟨(some 25), none, (.v (.bin .add (.t 13) (.c (.int .i64 1))))⟩, ⟨(some 13), none, (.v (.mv (.t 25)))⟩]))))
def a19 : AC := (.seq (.ops [⟨(some 4), none, (.v (.mv (.c (.bool false))))⟩]) (.seq (.seq (.ops [⟨(some 6), none, (.v (.mv (.t 0)))⟩, ⟨(some 7), none, (.v (.len (.t 6)))⟩, ⟨(some 8), none, (.v (.mv (.t 1)))⟩, ⟨(some 9), none, (.v (.len (.t 8)))⟩, ⟨(some 10), none, (.v (.bin .neq (.t 7) (.t 9)))⟩]) (.cond (.t 10) (.seq (.ops [⟨(some 4), none, (.v (.mv (.c (.bool false))))⟩]) .ret) .skip)) (.seq (.seq (.ops [⟨(some 11), none, (.v (.mv (.t 0)))⟩, ⟨(some 12), none, (.v (.len (.t 11)))⟩, ⟨(some 13), none, (.v (.mv (.c (.int .i64 0))))⟩]) (.block 0 (.loop a19_0))) (.seq (.ops [⟨(some 4), none, (.v (.mv (.c (.bool true))))⟩]) .ret))))
def r19 : List AI := [(.mv (.t 4))]
theorem f19 : Fn PP 19 2 a19 r19 := Fn.of (fn := Go.Proofs.Try.f19) (by kernel_rfl) (by kernel_rfl) (by kernel_rfl)
theorem p19 (n m : Nat) (x y : Nat → Bool) (f g : Nat → AV) (hf : ∀ i, i < n → f i = .bool (x i)) (hg : ∀ i, i < m → g i = .bool (y i)) (hn : n ≤ 1048576) (hm : m ≤ 1048576) :
    Pure PP 19 [.fs n f, .fs m g] fun r => ∃ b, r = .bool b ∧ (b = true ↔ n = m ∧ ∀ i, i < n → x i = y i) := by
  refine Fn.pure fmix f19 ?_
  unfold a19 r19
  simp -implicitDefEqProofs only [vqa, Nat.reduceEqDiff, Nat.reduceAdd, reduceIte, Nat.reduceLeDiff, Nat.reduceBEq, Nat.reduceLT, Nat.reduceSub, Int.reduceLT, Int.reduceLE, Int.reduceEq, Int.reduceToNat, Nat.reduceMul, eq_self, implies_true, forall_const]
  refine ⟨fun h => ⟨_, rfl, ⟨fun e => Bool.noConfusion e, fun e => absurd (congrArg Nat.cast e.1) h⟩⟩, fun h => ?_⟩
  obtain rfl : n = m := by omega
  refine vFor n (fun i e mm => e 0 = .fs n f ∧ e 1 = .fs n g ∧ e 12 = .int .i64 n ∧ e 13 = .int .i64 i ∧ ∀ j, j < i → x j = y j) ?_ ?_ ?_
  · simp -implicitDefEqProofs only [vqa, Nat.reduceEqDiff, Nat.reduceAdd, reduceIte, Nat.reduceLeDiff, Nat.reduceBEq, Nat.reduceLT, Nat.reduceSub, Int.reduceLT, Int.reduceLE, Int.reduceEq, Int.reduceToNat, Nat.reduceMul, eq_self, implies_true, forall_const]
  · rintro i e mm hi hi' ⟨h0, h1, h12, h13, hs⟩
    unfold a19_0
    simp -implicitDefEqProofs only [vqa, Nat.reduceEqDiff, Nat.reduceAdd, reduceIte, Nat.reduceLeDiff, Nat.reduceBEq, Nat.reduceLT, Nat.reduceSub, Int.reduceLT, Int.reduceLE, Int.reduceEq, Int.reduceToNat, Nat.reduceMul, eq_self, implies_true, forall_const, h0, h1, h12, h13, hi']
    refine vAny [0, 1, 2, 3, 4, 5, 6, 7, 8] 9 allL rfl rfl ?_
    simp -implicitDefEqProofs only [vqa, Nat.reduceEqDiff, Nat.reduceAdd, reduceIte, Nat.reduceLeDiff, Nat.reduceBEq, Nat.reduceLT, Nat.reduceSub, Int.reduceLT, Int.reduceLE, Int.reduceEq, Int.reduceToNat, Nat.reduceMul, eq_self, implies_true, forall_const, h0, h1, h12, h13, hf i hi, hg i hi]
    refine ⟨by omega, by omega, ?_⟩
    cases hb : (x i == y i) with
    | true =>
      simp -implicitDefEqProofs only [vqa, Nat.reduceEqDiff, Nat.reduceAdd, reduceIte, Nat.reduceLeDiff, Nat.reduceBEq, Nat.reduceLT, Nat.reduceSub, Int.reduceLT, Int.reduceLE, Int.reduceEq, Int.reduceToNat, Nat.reduceMul, eq_self, implies_true, forall_const, h0, h1, h12, h13]
      refine ⟨hi, wI (by omega) (by omega), fun j hj => ?_⟩
      by_cases e : j = i
      · subst e; simpa using hb
      · exact hs j (by omega)
    | false =>
      simp -implicitDefEqProofs only [vqa, Nat.reduceEqDiff, Nat.reduceAdd, reduceIte, Nat.reduceLeDiff, Nat.reduceBEq, Nat.reduceLT, Nat.reduceSub, Int.reduceLT, Int.reduceLE, Int.reduceEq, Int.reduceToNat, Nat.reduceMul, eq_self, implies_true, forall_const, h0, h1, h12, h13]
      exact ⟨_, rfl, ⟨fun e => Bool.noConfusion e, fun e => absurd (e i hi) (by simpa using hb)⟩⟩
  · rintro e mm ⟨h0, h1, h12, h13, hs⟩
    unfold a19_0
    simp -implicitDefEqProofs only [vqa, Nat.reduceEqDiff, Nat.reduceAdd, reduceIte, Nat.reduceLeDiff, Nat.reduceBEq, Nat.reduceLT, Nat.reduceSub, Int.reduceLT, Int.reduceLE, Int.reduceEq, Int.reduceToNat, Nat.reduceMul, eq_self, implies_true, forall_const, h0, h1, h12, h13]
    exact ⟨_, rfl, ⟨fun _ => hs, fun _ => rfl⟩⟩
end Go.Ab
