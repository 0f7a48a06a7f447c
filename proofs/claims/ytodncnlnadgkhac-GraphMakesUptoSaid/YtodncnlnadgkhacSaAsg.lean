/- Walks: Assigned. -/
import Derived.Test.YtodncnlnadgkhacSaBase
set_option linter.unusedSimpArgs false
set_option linter.unusedVariables false
namespace Go.Ab
open Go
def a10_0 : AC := (.seq (.ops [⟨(some 9), none, (.v (.bin .lss (.t 8) (.t 7)))⟩]) (.seq (.cond (.t 9) .skip (.exit 0)) (.seq (.block 1 (.seq (.ops [⟨(some 10), none, (.v (.mv (.t 8)))⟩, ⟨(some 6), none, (.v (.mv (.t 10)))⟩]) (.ops [⟨(some 11), none, (.v (.mv (.t 5)))⟩, ⟨(some 12), none, (.v (.mv (.t 0)))⟩, ⟨(some 13), none, (.v (.mv (.t 6)))⟩, ⟨(some 14), none, (.v (.bin .shr (.t 12) (.t 13)))⟩, ⟨(some 15), none, (.v (.bin .and (.t 14) (.c (.int .i64 1))))⟩, ⟨(some 16), none, (.v (.bin .eql (.t 15) (.c (.int .i64 1))))⟩, ⟨(some 17), none, (.e (.lit 17 4 1 1 [(.bool false)] [(0, (.t 16))]))⟩, ⟨(some 18), none, (.e (.app 18 4 1 1 (.t 11) (.t 17)))⟩, ⟨(some 5), none, (.v (.mv (.t 18)))⟩]))) (.ops [⟨(some 19), none, (.v (.bin .add (.t 8) (.c (.int .i64 1))))⟩, ⟨(some 8), none, (.v (.mv (.t 19)))⟩]))))
def a10 : AC := (.seq (.ops [⟨(some 4), none, (.v (.mv (.c .cap0)))⟩]) (.seq (.ops [⟨(some 5), none, (.v (.mv (.c .cap0)))⟩]) (.seq (.seq (.ops [⟨(some 7), none, (.v (.mv (.t 1)))⟩, ⟨(some 8), none, (.v (.mv (.c (.int .i64 0))))⟩]) (.block 0 (.loop a10_0))) (.seq (.ops [⟨(some 20), none, (.v (.mv (.t 5)))⟩, ⟨(some 4), none, (.v (.mv (.t 20)))⟩]) .ret))))
def r10 : List AI := [(.mv (.t 4))]
theorem f10 : Fn PP 10 2 a10 r10 := Fn.of (fn := Go.Proofs.Try.f10) (by kernel_rfl) (by kernel_rfl) (by kernel_rfl)
theorem p10 (k : Int) (n : Nat) (hn : n ≤ 1048576) : Pure PP 10 [.int .i64 k, .int .i64 (n : Nat)] fun r => ∃ f, r = .fs n f ∧ ∀ i, i < n → ∃ b, f i = .bool b := by
  refine Fn.pure fmix f10 ?_
  unfold a10 r10
  simp -implicitDefEqProofs only [vqa, Nat.reduceEqDiff, Nat.reduceAdd, reduceIte, Nat.reduceLeDiff, Nat.reduceBEq, Nat.reduceLT, Nat.reduceSub, Int.reduceLT, Int.reduceLE, Int.reduceEq, Int.reduceToNat, Nat.reduceMul, eq_self, implies_true, forall_const]
  refine vFor n (fun i e m => e 0 = .int .i64 k ∧ e 7 = .int .i64 n ∧ e 8 = .int .i64 i ∧ Acc 18 4 1 i (fun _ a => ∃ b, a = .bool b) (e 5) m) ?_ ?_ ?_
  · simp -implicitDefEqProofs only [vqa, Nat.reduceEqDiff, Nat.reduceAdd, reduceIte, Nat.reduceLeDiff, Nat.reduceBEq, Nat.reduceLT, Nat.reduceSub, Int.reduceLT, Int.reduceLE, Int.reduceEq, Int.reduceToNat, Nat.reduceMul, eq_self, implies_true, forall_const]
    exact .none
  · rintro i e m hi hi' ⟨h0, h7, h8, hA⟩
    unfold a10_0
    rcases hA with ⟨hz, h3⟩ | ⟨ver, g, h3, hm3, hg⟩
    · simp -implicitDefEqProofs only [vqa, Nat.reduceEqDiff, Nat.reduceAdd, reduceIte, Nat.reduceLeDiff, Nat.reduceBEq, Nat.reduceLT, Nat.reduceSub, Int.reduceLT, Int.reduceLE, Int.reduceEq, Int.reduceToNat, Nat.reduceMul, eq_self, implies_true, forall_const, h0, h7, h8, h3, hi']
      subst hz
      exact ⟨by omega, hi, wI (by omega) (by omega), .first ⟨_, rfl⟩⟩
    · simp -implicitDefEqProofs only [vqa, Nat.reduceEqDiff, Nat.reduceAdd, reduceIte, Nat.reduceLeDiff, Nat.reduceBEq, Nat.reduceLT, Nat.reduceSub, Int.reduceLT, Int.reduceLE, Int.reduceEq, Int.reduceToNat, Nat.reduceMul, eq_self, implies_true, forall_const, h0, h7, h8, h3, hm3, hi']
      exact ⟨by omega, ⟨by omega, by omega⟩, hi, wI (by omega) (by omega), .push hg ⟨_, rfl⟩⟩
  · rintro e m ⟨h0, h7, h8, hA⟩
    unfold a10_0
    rcases hA with ⟨hz, h3⟩ | ⟨ver, g, h3, hm3, hg⟩
    · simp -implicitDefEqProofs only [vqa, Nat.reduceEqDiff, Nat.reduceAdd, reduceIte, Nat.reduceLeDiff, Nat.reduceBEq, Nat.reduceLT, Nat.reduceSub, Int.reduceLT, Int.reduceLE, Int.reduceEq, Int.reduceToNat, Nat.reduceMul, eq_self, implies_true, forall_const, h0, h7, h8, h3]
      exact ⟨_, by rw [hz], fun j hj => absurd hj (by omega)⟩
    · simp -implicitDefEqProofs only [vqa, Nat.reduceEqDiff, Nat.reduceAdd, reduceIte, Nat.reduceLeDiff, Nat.reduceBEq, Nat.reduceLT, Nat.reduceSub, Int.reduceLT, Int.reduceLE, Int.reduceEq, Int.reduceToNat, Nat.reduceMul, eq_self, implies_true, forall_const, h0, h7, h8, h3, hm3]
      exact ⟨g, rfl, hg⟩
end Go.Ab
