/- Walk: slices.Clone of strings. -/
import Derived.Test.YtodncnlnadgkhacSaBase
import Derived.Test.YtodncnlnadgkhacSaMak0
set_option linter.unusedSimpArgs false
set_option linter.unusedVariables false
namespace Go.Ab
open Go
def a46_0 : AC := (.seq (.ops [⟨(some 9), none, (.v (.bin .lss (.t 8) (.t 7)))⟩]) (.seq (.cond (.t 9) .skip (.exit 0)) (.seq (.block 1 (.seq (.ops [⟨(some 10), none, (.v (.idx 1 (.t 6) (.t 8)))⟩, ⟨(some 11), none, (.v (.load 1 false (.t 10)))⟩, ⟨(some 5), none, (.v (.mv (.t 11)))⟩]) (.seq (.ops [⟨(some 12), none, (.v (.mv (.t 5)))⟩, ⟨(some 13), none, (.v (.mv (.t 3)))⟩, ⟨(some 14), none, (.v (.bin .neq (.t 12) (.t 13)))⟩]) (.cond (.t 14) (.seq (.ops [⟨(some 15), none, (.v (.mv (.t 5)))⟩, ⟨(some 2), none, (.v (.mv (.t 15)))⟩]) .ret) .skip)))) (.ops [⟨(some 16), none, (.v (.bin .add (.t 8) (.c (.int .i64 1))))⟩, ⟨(some 8), none, (.v (.mv (.t 16)))⟩]))))
def a46 : AC := (.seq (.ops [⟨(some 2), none, (.v (.mv (.c (.int .i64 0))))⟩]) (.seq (.ops [⟨(some 3), none, (.v (.mv (.c (.int .i64 0))))⟩]) (.seq (.seq (.ops [⟨(some 6), none, (.v (.mv (.t 0)))⟩, ⟨(some 7), none, (.v (.len (.t 6)))⟩, ⟨(some 8), none, (.v (.mv (.c (.int .i64 0))))⟩]) (.block 0 (.loop a46_0))) (.seq (.ops [⟨(some 17), none, (.v (.mv (.t 3)))⟩, ⟨(some 2), none, (.v (.mv (.t 17)))⟩]) .ret))))
def r46 : List AI := [(.mv (.t 2))]
theorem f46 : Fn PP 46 1 a46 r46 := Fn.of (fn := Go.Proofs.Try.f46) (by kernel_rfl) (by kernel_rfl) (by kernel_rfl)
theorem p46 (a b : Int) (f : Nat → AV) (hf : f 0 = .int .i64 a ∧ f 1 = .int .i64 b) : Pure PP 46 [.fs 2 f] fun r => r = .int .i64 (if a ≠ 0 then a else b) := by
  refine Fn.pure fmix f46 ?_
  unfold a46 r46
  simp -implicitDefEqProofs only [vqa, Nat.reduceEqDiff, Nat.reduceAdd, reduceIte, Nat.reduceLeDiff, Nat.reduceBEq, Nat.reduceLT, Nat.reduceSub, Int.reduceLT, Int.reduceLE, Int.reduceEq, Int.reduceToNat, Nat.reduceMul, eq_self, implies_true, forall_const]
  refine vFor 2 (fun i e m => e 3 = .int .i64 0 ∧ e 6 = .fs 2 f ∧ e 7 = .int .i64 2 ∧ e 8 = .int .i64 i ∧ (0 < i → a = 0) ∧ (1 < i → b = 0)) ?_ ?_ ?_
  · simp -implicitDefEqProofs only [vqa, Nat.reduceEqDiff, Nat.reduceAdd, reduceIte, Nat.reduceLeDiff, Nat.reduceBEq, Nat.reduceLT, Nat.reduceSub, Int.reduceLT, Int.reduceLE, Int.reduceEq, Int.reduceToNat, Nat.reduceMul, eq_self, implies_true, forall_const]
  · rintro i e m hi hi' ⟨h3, h6, h7, h8, ha, hb⟩
    unfold a46_0
    have h2 : (i : Int) < 2 := by omega
    rcases (show i = 0 ∨ i = 1 by omega) with h | h
    · subst h
      simp -implicitDefEqProofs only [vqa, Nat.reduceEqDiff, Nat.reduceAdd, reduceIte, Nat.reduceLeDiff, Nat.reduceBEq, Nat.reduceLT, Nat.reduceSub, Int.reduceLT, Int.reduceLE, Int.reduceEq, Int.reduceToNat, Nat.reduceMul, eq_self, implies_true, forall_const, h3, h6, h7, h8, hf.1]
      exact ⟨fun h => (if_pos h).symm, fun h => ⟨by decide, Classical.not_not.1 h⟩⟩
    · subst h
      simp -implicitDefEqProofs only [vqa, Nat.reduceEqDiff, Nat.reduceAdd, reduceIte, Nat.reduceLeDiff, Nat.reduceBEq, Nat.reduceLT, Nat.reduceSub, Int.reduceLT, Int.reduceLE, Int.reduceEq, Int.reduceToNat, Nat.reduceMul, eq_self, implies_true, forall_const, h3, h6, h7, h8, hf.2]
      have ha0 := ha (by decide)
      exact ⟨fun h => by rw [if_neg (by simp [ha0])], fun h => ⟨by decide, ha0, Classical.not_not.1 h⟩⟩
  · rintro e m ⟨h3, h6, h7, h8, ha, hb⟩
    unfold a46_0
    simp -implicitDefEqProofs only [vqa, Nat.reduceEqDiff, Nat.reduceAdd, reduceIte, Nat.reduceLeDiff, Nat.reduceBEq, Nat.reduceLT, Nat.reduceSub, Int.reduceLT, Int.reduceLE, Int.reduceEq, Int.reduceToNat, Nat.reduceMul, eq_self, implies_true, forall_const, h3, h6, h7, h8]
    rw [ha (by omega), hb (by omega)]; rfl
end Go.Ab
namespace Go.Ab
open Go
theorem p40z (n : Nat) (f : Nat → AV) (hf : ∀ i, i < n → (f i).cells.length = 1 ∧ (f i).cells.all AV.isCell = true) (hn : n ≤ 1048576) : Pure PP 40 [.fs n f] fun r => ∃ g, r = .fs n g ∧ ∀ i, i < n → g i = f i := by
  refine Fn.pure fmix f40 ?_
  unfold a40 r40
  simp -implicitDefEqProofs only [vqa, Nat.reduceEqDiff, Nat.reduceAdd, reduceIte, Nat.reduceLeDiff, Nat.reduceBEq, Nat.reduceLT, Nat.reduceSub, Int.reduceLT, Int.reduceLE, Int.reduceEq, Int.reduceToNat, Nat.reduceMul, eq_self, implies_true, forall_const]
  refine ⟨?_, fun h => ⟨_, by rw [h], fun i hi => absurd hi (by omega)⟩⟩
  cases n with
  | zero => simp -implicitDefEqProofs only [vqa, Nat.reduceEqDiff, Nat.reduceAdd, reduceIte, Nat.reduceLeDiff, Nat.reduceBEq, Nat.reduceLT, Nat.reduceSub, Int.reduceLT, Int.reduceLE, Int.reduceEq, Int.reduceToNat, Nat.reduceMul, eq_self, implies_true, forall_const]; exact ⟨_, rfl⟩
  | succ n =>
    simp -implicitDefEqProofs only [vqa, Nat.reduceEqDiff, Nat.reduceAdd, reduceIte, Nat.reduceLeDiff, Nat.reduceBEq, Nat.reduceLT, Nat.reduceSub, Int.reduceLT, Int.reduceLE, Int.reduceEq, Int.reduceToNat, Nat.reduceMul, eq_self, implies_true, forall_const]
    exact ⟨⟨hf, by omega, by omega⟩, _, rfl, fun i hi => rfl⟩
end Go.Ab
