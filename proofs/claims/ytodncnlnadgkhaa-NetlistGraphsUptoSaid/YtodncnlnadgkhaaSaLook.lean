/- Walk: netlists(). -/
import Derived.Test.YtodncnlnadgkhaaSaBase
import Derived.Test.YtodncnlnadgkhaaLwValues
import Derived.Test.YtodncnlnadgkhaaSaWords
import Derived.Test.YtodncnlnadgkhaaSaForm
set_option linter.unusedSimpArgs false
set_option linter.unusedVariables false
namespace Go.Ab
open Go
def a68_1 : AC := (.seq (.ops [⟨(some 24), none, (.v (.bin .lss (.t 23) (.t 22)))⟩]) (.seq (.cond (.t 24) .skip (.exit 2)) (.seq (.block 3 (.seq (.ops [⟨(some 25), none, (.v (.mv (.t 23)))⟩, ⟨(some 26), none, (.v (.idx 1 (.t 21) (.t 23)))⟩, ⟨(some 27), none, (.v (.load 1 false (.t 26)))⟩, ⟨(some 8), none, (.v (.mv (.t 25)))⟩, ⟨(some 9), none, (.v (.mv (.t 27)))⟩]) (.seq (.ops [⟨(some 28), none, (.v (.mv (.t 6)))⟩, ⟨(some 29), none, (.v (.mv (.t 8)))⟩, ⟨(some 30), none, (.v (.bin .shr (.t 28) (.t 29)))⟩, ⟨(some 31), none, (.v (.bin .and (.t 30) (.c (.int .i64 1))))⟩, ⟨(some 32), none, (.v (.bin .eql (.t 31) (.c (.int .i64 1))))⟩]) (.cond (.t 32) (.ops [⟨(some 33), none, (.v (.mv (.t 7)))⟩, ⟨(some 34), none, (.v (.mv (.t 9)))⟩, ⟨(some 35), none, (.v (.bin .and (.t 33) (.t 34)))⟩, ⟨(some 7), none, (.v (.mv (.t 35)))⟩]) (.ops [⟨(some 36), none, (.v (.mv (.t 7)))⟩, ⟨(some 37), none, (.v (.mv (.t 9)))⟩, ⟨(some 38), none, (.v (.bin .andNot (.t 36) (.t 37)))⟩, ⟨(some 7), none, (.v (.mv (.t 38)))⟩]))))) (.ops [⟨(some 39), none, (.v (.bin .add (.t 23) (.c (.int .i64 1))))⟩, ⟨(some 23), none, (.v (.mv (.t 39)))⟩]))))
def a68_0 : AC := (.seq (.ops [⟨(some 14), none, (.v (.bin .lss (.t 13) (.t 12)))⟩]) (.seq (.cond (.t 14) .skip (.exit 0)) (.seq (.block 1 (.seq (.ops [⟨(some 15), none, (.v (.mv (.t 13)))⟩, ⟨(some 6), none, (.v (.mv (.t 15)))⟩]) (.seq (.seq (.ops [⟨(some 16), none, (.v (.mv (.t 0)))⟩, ⟨(some 17), none, (.v (.mv (.t 6)))⟩, ⟨(some 18), none, (.v (.bin .shr (.t 16) (.t 17)))⟩, ⟨(some 19), none, (.v (.bin .and (.t 18) (.c (.int .u64 1))))⟩, ⟨(some 20), none, (.v (.bin .eql (.t 19) (.c (.int .u64 0))))⟩]) (.cond (.t 20) (.exit 1) .skip)) (.seq (.ops [⟨(some 7), none, (.v (.mv (.c (.int .u64 18446744073709551615))))⟩]) (.seq (.seq (.ops [⟨(some 21), none, (.v (.mv (.t 1)))⟩, ⟨(some 22), none, (.v (.len (.t 21)))⟩, ⟨(some 23), none, (.v (.mv (.c (.int .i64 0))))⟩]) (.block 2 (.loop a68_1))) (.ops [⟨(some 40), none, (.v (.mv (.t 5)))⟩, ⟨(some 41), none, (.v (.mv (.t 7)))⟩, ⟨(some 42), none, (.v (.bin .or (.t 40) (.t 41)))⟩, ⟨(some 5), none, (.v (.mv (.t 42)))⟩])))))) (.ops [⟨(some 43), none, (.v (.bin .add (.t 13) (.c (.int .i64 1))))⟩, ⟨(some 13), none, (.v (.mv (.t 43)))⟩]))))
def a68 : AC := (.seq (.ops [⟨(some 4), none, (.v (.mv (.c (.int .u64 0))))⟩]) (.seq (.ops [⟨(some 5), none, (.v (.mv (.c (.int .u64 0))))⟩]) (.seq (.seq (.ops [⟨(some 10), none, (.v (.mv (.t 1)))⟩, ⟨(some 11), none, (.v (.len (.t 10)))⟩, ⟨(some 12), none, (.v (.bin .shl (.c (.int .i64 1)) (.t 11)))⟩, ⟨(some 13), none, (.v (.mv (.c (.int .i64 0))))⟩]) (.block 0 (.loop a68_0))) (.seq (.ops [⟨(some 44), none, (.v (.mv (.t 5)))⟩, ⟨(some 4), none, (.v (.mv (.t 44)))⟩]) .ret))))
def r68 : List AI := [(.mv (.t 4))]
theorem f68 : Fn PP 68 2 a68 r68 := Fn.of (fn := Go.Proofs.Try.f68) (by kernel_rfl) (by kernel_rfl) (by kernel_rfl)
def a15 : AC := (.seq (.ops [⟨(some 4), none, (.v (.mv (.c (.int .u64 0))))⟩]) (.seq (.seq (.ops [⟨(some 5), none, (.v (.mv (.t 1)))⟩, ⟨(some 6), none, (.v (.len (.t 5)))⟩, ⟨(some 7), none, (.v (.bin .gtr (.t 6) (.c (.int .i64 6))))⟩]) (.cond (.t 7) (.seq (.ops [⟨(some 4), none, (.v (.mv (.c (.int .u64 0))))⟩]) .ret) .skip)) (.seq (.ops [⟨(some 8), none, (.v (.mv (.t 0)))⟩, ⟨(some 9), none, (.v (.mv (.t 1)))⟩, ⟨(some 10), none, (.call (.c (.fn 68 [])) [(.t 8), (.t 9)])⟩, ⟨(some 4), none, (.v (.mv (.t 10)))⟩]) .ret)))
def r15 : List AI := [(.mv (.t 4))]
theorem f15 : Fn PP 15 2 a15 r15 := Fn.of (fn := Go.Proofs.Try.f15) (by kernel_rfl) (by kernel_rfl) (by kernel_rfl)
theorem p68 (t : Int) (n : Nat) (x : Nat → Int) (f : Nat → AV) (hf : ∀ i, i < n → f i = .int .u64 (x i)) (hn : n ≤ 6) : Pure PP 68 [.int .u64 t, .fs n f] fun r => r = .int .u64 (accL t n x (2 ^ n)) := by
  refine Fn.pure fmix f68 ?_
  unfold a68 r68
  simp -implicitDefEqProofs only [vqa, Nat.reduceEqDiff, Nat.reduceAdd, reduceIte, Nat.reduceLeDiff, Nat.reduceBEq, Nat.reduceLT, Nat.reduceSub, Int.reduceLT, Int.reduceLE, Int.reduceEq, Int.reduceToNat, Nat.reduceMul, eq_self, implies_true, forall_const]
  have h2n : IntKind.i64.wrap (1 * 2 ^ min n 64) = ((2 ^ n : Nat) : Int) := by
    have : n = 0 ∨ n = 1 ∨ n = 2 ∨ n = 3 ∨ n = 4 ∨ n = 5 ∨ n = 6 := by omega
    rcases this with h | h | h | h | h | h | h <;> subst h <;> decide +kernel
  have h64 : 2 ^ n ≤ 64 := by
    have := Nat.pow_le_pow_right (show 0 < 2 by decide) hn
    simpa using this
  rw [h2n]
  refine ⟨by omega, vFor (2 ^ n) (fun r e m => m = mem0 ∧ e 0 = .int .u64 t ∧ e 1 = .fs n f ∧ e 12 = .int .i64 ((2 ^ n : Nat) : Int) ∧ e 13 = .int .i64 r ∧ e 5 = .int .u64 (accL t n x r)) ?_ ?_ ?_⟩
  · simp -implicitDefEqProofs only [vqa, Nat.reduceEqDiff, Nat.reduceAdd, reduceIte, Nat.reduceLeDiff, Nat.reduceBEq, Nat.reduceLT, Nat.reduceSub, Int.reduceLT, Int.reduceLE, Int.reduceEq, Int.reduceToNat, Nat.reduceMul, eq_self, implies_true, forall_const]
    ((repeat' first | (with_reducible refine And.intro ?_ ?_) | intro _) <;> first | (with_reducible rfl) | assumption | omega | rfl | exact wI (by omega) (by omega) | exact .none | exact .first rfl | exact .push (by assumption) rfl)
  · rintro r e m hr hr' ⟨rfl, h0, h1, h12, h13, h5⟩
    unfold a68_0
    simp -implicitDefEqProofs only [vqa, Nat.reduceEqDiff, Nat.reduceAdd, reduceIte, Nat.reduceLeDiff, Nat.reduceBEq, Nat.reduceLT, Nat.reduceSub, Int.reduceLT, Int.reduceLE, Int.reduceEq, Int.reduceToNat, Nat.reduceMul, eq_self, implies_true, forall_const, h0, h1, h12, h13, h5, hr']
    refine ⟨by omega, fun h => ⟨by omega, wI (by omega) (by omega), ?_⟩, fun h => ?_⟩
    · simp only [accL]; rw [if_pos h]
    · refine vFor n (fun i e' m => m = mem0 ∧ e' 0 = .int .u64 t ∧ e' 1 = .fs n f ∧ e' 12 = .int .i64 ((2 ^ n : Nat) : Int) ∧ e' 13 = .int .i64 r ∧ e' 5 = .int .u64 (accL t n x r) ∧ e' 6 = .int .i64 r ∧ e' 21 = .fs n f ∧ e' 22 = .int .i64 n ∧ e' 23 = .int .i64 i ∧ e' 7 = .int .u64 (term x r i)) ?_ ?_ ?_
      · simp -implicitDefEqProofs only [vqa, Nat.reduceEqDiff, Nat.reduceAdd, reduceIte, Nat.reduceLeDiff, Nat.reduceBEq, Nat.reduceLT, Nat.reduceSub, Int.reduceLT, Int.reduceLE, Int.reduceEq, Int.reduceToNat, Nat.reduceMul, eq_self, implies_true, forall_const, h0, h1, h12, h13, h5, term]
        try ((repeat' first | (with_reducible refine And.intro ?_ ?_) | intro _) <;> first | (with_reducible rfl) | assumption | omega | rfl | exact wI (by omega) (by omega) | exact .none | exact .first rfl | exact .push (by assumption) rfl)
      · rintro i e' m hi hi' ⟨rfl, k0, k1, k12, k13, k5, k6, k21, k22, k23, k7⟩
        unfold a68_1
        simp -implicitDefEqProofs only [vqa, Nat.reduceEqDiff, Nat.reduceAdd, reduceIte, Nat.reduceLeDiff, Nat.reduceBEq, Nat.reduceLT, Nat.reduceSub, Int.reduceLT, Int.reduceLE, Int.reduceEq, Int.reduceToNat, Nat.reduceMul, eq_self, implies_true, forall_const, k0, k1, k12, k13, k5, k6, k21, k22, k23, k7, hi', hf i hi]
        refine ⟨by omega, by omega, fun hb => ⟨by omega, wI (by omega) (by omega), ?_⟩, fun hb => ⟨by omega, wI (by omega) (by omega), ?_⟩⟩
        · simp only [term]; rw [if_pos hb]
        · simp only [term]; rw [if_neg hb]
      · rintro e' m ⟨rfl, k0, k1, k12, k13, k5, k6, k21, k22, k23, k7⟩
        unfold a68_1
        simp -implicitDefEqProofs only [vqa, Nat.reduceEqDiff, Nat.reduceAdd, reduceIte, Nat.reduceLeDiff, Nat.reduceBEq, Nat.reduceLT, Nat.reduceSub, Int.reduceLT, Int.reduceLE, Int.reduceEq, Int.reduceToNat, Nat.reduceMul, eq_self, implies_true, forall_const, k0, k1, k12, k13, k5, k6, k21, k22, k23, k7]
        refine ⟨by omega, wI (by omega) (by omega), ?_⟩
        simp only [accL]; rw [if_neg h]
  · rintro e m ⟨rfl, h0, h1, h12, h13, h5⟩
    unfold a68_0
    simp -implicitDefEqProofs only [vqa, Nat.reduceEqDiff, Nat.reduceAdd, reduceIte, Nat.reduceLeDiff, Nat.reduceBEq, Nat.reduceLT, Nat.reduceSub, Int.reduceLT, Int.reduceLE, Int.reduceEq, Int.reduceToNat, Nat.reduceMul, eq_self, implies_true, forall_const, h0, h1, h12, h13, h5]

theorem p15 (t : Int) (n : Nat) (x : Nat → Int) (f : Nat → AV) (hf : ∀ i, i < n → f i = .int .u64 (x i)) : Pure PP 15 [.int .u64 t, .fs n f] fun r => r = .int .u64 (lookF t n x) := by
  refine Fn.pure fmix f15 ?_
  unfold a15 r15
  simp -implicitDefEqProofs only [vqa, Nat.reduceEqDiff, Nat.reduceAdd, reduceIte, Nat.reduceLeDiff, Nat.reduceBEq, Nat.reduceLT, Nat.reduceSub, Int.reduceLT, Int.reduceLE, Int.reduceEq, Int.reduceToNat, Nat.reduceMul, eq_self, implies_true, forall_const]
  refine ⟨fun h => ?_, fun h => CallW.sc (p68 t n x f hf (by omega)) rfl ⟨trivial, trivial, trivial⟩ fun r hr => ?_⟩
  · unfold lookF; rw [if_neg (by omega)]
  · subst hr
    refine ⟨rfl, ?_⟩
    simp -implicitDefEqProofs only [vqa, Nat.reduceEqDiff, Nat.reduceAdd, reduceIte, Nat.reduceLeDiff, Nat.reduceBEq, Nat.reduceLT, Nat.reduceSub, Int.reduceLT, Int.reduceLE, Int.reduceEq, Int.reduceToNat, Nat.reduceMul, eq_self, implies_true, forall_const]
    unfold lookF; rw [if_pos (by omega)]
end Go.Ab
namespace Go.Ab
open Go
def a16 : AC := (.seq (.ops [⟨(some 0), none, (.v (.mv (.c (.bool false))))⟩]) (.seq (.ops [⟨(some 1), none, (.call (.c (.fn 22 [])) [(.c (.int .i64 2))])⟩, ⟨(some 2), none, (.v (.bin .eql (.t 1) (.c (.int .u64 15))))⟩, ⟨(some 3), none, (.v (.mv (.t 2)))⟩, ⟨(some 4), (some (3, true)), (.e (.lit 4 22 1 2 [(.int .u64 0)] [(0, (.c (.int .u64 5))), (1, (.c (.int .u64 3)))]))⟩, ⟨(some 5), (some (3, true)), (.call (.c (.fn 15 [])) [(.c (.int .u64 6)), (.t 4)])⟩, ⟨(some 6), (some (3, true)), (.v (.bin .eql (.t 5) (.c (.int .u64 6))))⟩, ⟨(some 7), none, (.v (.pick (.t 3) (.t 6) (.c (.bool false))))⟩, ⟨(some 8), none, (.v (.mv (.t 7)))⟩, ⟨(some 9), (some (8, true)), (.e (.lit 9 9 1 1 [(.str ⟨#[]⟩)] [(0, (.c (.str ⟨#[111]⟩)))]))⟩, ⟨(some 10), (some (8, true)), (.v (.build [.cap0, .cap0, .cap0, .cap0, .cap0] [(1, (1, (.t 9)))]))⟩, ⟨(some 11), (some (8, true)), (.call (.c (.fn 24 [])) [(.t 10)])⟩, ⟨(some 12), (some (8, true)), (.v (.bin .eql (.t 11) (.c (.int .i64 4))))⟩, ⟨(some 13), none, (.v (.pick (.t 8) (.t 12) (.c (.bool false))))⟩, ⟨(some 0), none, (.v (.mv (.t 13)))⟩]) .ret))
def r16 : List AI := [(.mv (.t 0))]
theorem f16 : Fn PP 16 0 a16 r16 := Fn.of (fn := Go.Proofs.Try.f16) (by kernel_rfl) (by kernel_rfl) (by kernel_rfl)
theorem p24e (f0 f1 f2 f3 f4 : Nat → AV) : Pure PP 24 [.agg [.fs 0 f0, .fs 1 f1, .fs 0 f2, .fs 0 f3, .fs 0 f4]] fun r => r = .int .i64 4 := by
  refine Fn.pure fmix f24 ?_
  unfold a24 r24
  simp -implicitDefEqProofs only [vqa, Nat.reduceEqDiff, Nat.reduceAdd, reduceIte, Nat.reduceLeDiff, Nat.reduceBEq, Nat.reduceLT, Nat.reduceSub, Int.reduceLT, Int.reduceLE, Int.reduceEq, Int.reduceToNat, Nat.reduceMul, eq_self, implies_true, forall_const]

theorem p16 : Pure PP 16 [] fun r => r = .bool true := by
  refine Fn.pure fmix f16 ?_
  unfold a16 r16
  have m2 : maskF 2 = 15 := by decide +kernel
  have l6 : lookF 6 2 (fun i => [5, 3].getD i 0) = 6 := by decide +kernel
  simp -implicitDefEqProofs only [vqa, Nat.reduceEqDiff, Nat.reduceAdd, reduceIte, Nat.reduceLeDiff, Nat.reduceBEq, Nat.reduceLT, Nat.reduceSub, Int.reduceLT, Int.reduceLE, Int.reduceEq, Int.reduceToNat, Nat.reduceMul, eq_self, implies_true, forall_const]
  refine CallW.sc (p22 2) rfl ⟨trivial, trivial⟩ fun r hr => ⟨by subst hr; rfl, ?_⟩
  subst hr
  simp -implicitDefEqProofs only [vqa, Nat.reduceEqDiff, Nat.reduceAdd, reduceIte, Nat.reduceLeDiff, Nat.reduceBEq, Nat.reduceLT, Nat.reduceSub, Int.reduceLT, Int.reduceLE, Int.reduceEq, Int.reduceToNat, Nat.reduceMul, eq_self, implies_true, forall_const, m2]
  refine CallW.sc (p15 6 2 (fun i => [5, 3].getD i 0) (fun i => [.int .u64 5, .int .u64 3].getD i .undef) ?_) rfl ?_ fun r hr => ⟨by subst hr; rfl, ?_⟩
  · intro i hi
    have : i = 0 ∨ i = 1 := by omega
    rcases this with h | h <;> subst h <;> rfl
  · exact ⟨trivial, rfl, trivial⟩
  subst hr
  simp -implicitDefEqProofs only [vqa, Nat.reduceEqDiff, Nat.reduceAdd, reduceIte, Nat.reduceLeDiff, Nat.reduceBEq, Nat.reduceLT, Nat.reduceSub, Int.reduceLT, Int.reduceLE, Int.reduceEq, Int.reduceToNat, Nat.reduceMul, eq_self, implies_true, forall_const, l6, AI.val, fillA]
  refine CallW.sc (p24e _ _ _ _ _) rfl ?_ fun r hr => ⟨by subst hr; rfl, ?_⟩
  · simp only [rsC, rs2, rs0, vqa, Nat.reduceEqDiff, Nat.reduceAdd, reduceIte, Nat.reduceLeDiff, Nat.reduceBEq, Nat.reduceLT, Nat.reduceSub, Int.reduceLT, Int.reduceLE, Int.reduceEq, Int.reduceToNat, Nat.reduceMul, eq_self, implies_true, forall_const]
  subst hr
  simp -implicitDefEqProofs only [vqa, Nat.reduceEqDiff, Nat.reduceAdd, reduceIte, Nat.reduceLeDiff, Nat.reduceBEq, Nat.reduceLT, Nat.reduceSub, Int.reduceLT, Int.reduceLE, Int.reduceEq, Int.reduceToNat, Nat.reduceMul, eq_self, implies_true, forall_const]
end Go.Ab
