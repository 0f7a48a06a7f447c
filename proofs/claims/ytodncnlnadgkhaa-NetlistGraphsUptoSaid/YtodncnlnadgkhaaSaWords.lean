/- Walks: lists of words and of bits. -/
import Derived.Test.YtodncnlnadgkhaaSaBase
import Derived.Test.YtodncnlnadgkhaaLwValues
set_option linter.unusedSimpArgs false
set_option linter.unusedVariables false
namespace Go.Ab
open Go
def a17_0 : AC := (.seq (.ops [⟨(some 11), none, (.v (.bin .lss (.t 10) (.t 9)))⟩]) (.seq (.cond (.t 11) .skip (.exit 0)) (.seq (.block 1 (.seq (.ops [⟨(some 12), none, (.v (.idx 1 (.t 8) (.t 10)))⟩, ⟨(some 13), none, (.v (.load 1 false (.t 12)))⟩, ⟨(some 7), none, (.v (.mv (.t 13)))⟩]) (.ops [⟨(some 14), none, (.v (.mv (.t 5)))⟩, ⟨(some 15), none, (.v (.mv (.t 7)))⟩, ⟨(some 16), none, (.v (.mv (.t 1)))⟩, ⟨(some 17), none, (.v (.bin .shr (.t 15) (.t 16)))⟩, ⟨(some 18), none, (.v (.bin .and (.t 17) (.c (.int .u64 1))))⟩, ⟨(some 19), none, (.v (.bin .eql (.t 18) (.c (.int .u64 1))))⟩, ⟨(some 20), none, (.e (.lit 20 4 1 1 [(.bool false)] [(0, (.t 19))]))⟩, ⟨(some 21), none, (.e (.app 21 4 1 1 (.t 14) (.t 20)))⟩, ⟨(some 5), none, (.v (.mv (.t 21)))⟩]))) (.ops [⟨(some 22), none, (.v (.bin .add (.t 10) (.c (.int .i64 1))))⟩, ⟨(some 10), none, (.v (.mv (.t 22)))⟩]))))
def a17 : AC := (.seq (.ops [⟨(some 4), none, (.v (.mv (.c .cap0)))⟩]) (.seq (.ops [⟨(some 5), none, (.v (.mv (.c .cap0)))⟩]) (.seq (.seq (.ops [⟨(some 8), none, (.v (.mv (.t 0)))⟩, ⟨(some 9), none, (.v (.len (.t 8)))⟩, ⟨(some 10), none, (.v (.mv (.c (.int .i64 0))))⟩]) (.block 0 (.loop a17_0))) (.seq (.ops [⟨(some 23), none, (.v (.mv (.t 5)))⟩, ⟨(some 4), none, (.v (.mv (.t 23)))⟩]) .ret))))
def r17 : List AI := [(.mv (.t 4))]
theorem f17 : Fn PP 17 2 a17 r17 := Fn.of (fn := Go.Proofs.Try.f17) (by kernel_rfl) (by kernel_rfl) (by kernel_rfl)
def a42_0 : AC := (.seq (.ops [⟨(some 14), none, (.v (.bin .lss (.t 13) (.t 12)))⟩]) (.seq (.cond (.t 14) .skip (.exit 0)) (.seq (.block 1 (.seq (.ops [⟨(some 15), none, (.v (.mv (.t 13)))⟩, ⟨(some 5), none, (.v (.mv (.t 15)))⟩]) (.seq (.any [⟨(some 16), none, (.v (.mv (.t 0)))⟩, ⟨(some 17), none, (.v (.mv (.t 5)))⟩, ⟨(some 18), none, (.v (.idx 1 (.t 16) (.t 17)))⟩, ⟨(some 19), none, (.v (.load 1 false (.t 18)))⟩, ⟨(some 20), none, (.v (.mv (.t 1)))⟩, ⟨(some 21), none, (.v (.mv (.t 5)))⟩, ⟨(some 22), none, (.v (.idx 1 (.t 20) (.t 21)))⟩, ⟨(some 23), none, (.v (.load 1 false (.t 22)))⟩, ⟨(some 24), none, (.v (.beq true (.t 19) (.t 23)))⟩] [[], [], [0, 1], [2], [], [], [4, 5], [6], [3, 7]]) (.cond (.t 24) (.seq (.ops [⟨(some 4), none, (.v (.mv (.c (.bool false))))⟩]) .ret) .skip)))) (.ops [⟨(some 25), none, (.v (.bin .add (.t 13) (.c (.int .i64 1))))⟩, ⟨(some 13), none, (.v (.mv (.t 25)))⟩]))))
def a42 : AC := (.seq (.ops [⟨(some 4), none, (.v (.mv (.c (.bool false))))⟩]) (.seq (.seq (.ops [⟨(some 6), none, (.v (.mv (.t 0)))⟩, ⟨(some 7), none, (.v (.len (.t 6)))⟩, ⟨(some 8), none, (.v (.mv (.t 1)))⟩, ⟨(some 9), none, (.v (.len (.t 8)))⟩, ⟨(some 10), none, (.v (.bin .neq (.t 7) (.t 9)))⟩]) (.cond (.t 10) (.seq (.ops [⟨(some 4), none, (.v (.mv (.c (.bool false))))⟩]) .ret) .skip)) (.seq (.seq (.ops [⟨(some 11), none, (.v (.mv (.t 0)))⟩, ⟨(some 12), none, (.v (.len (.t 11)))⟩, ⟨(some 13), none, (.v (.mv (.c (.int .i64 0))))⟩]) (.block 0 (.loop a42_0))) (.seq (.ops [⟨(some 4), none, (.v (.mv (.c (.bool true))))⟩]) .ret))))
def r42 : List AI := [(.mv (.t 4))]
theorem f42 : Fn PP 42 2 a42 r42 := Fn.of (fn := Go.Proofs.Try.f42) (by kernel_rfl) (by kernel_rfl) (by kernel_rfl)
def a94_0 : AC := (.seq (.ops [⟨(some 12), none, (.v (.bin .lss (.t 11) (.t 10)))⟩]) (.seq (.cond (.t 12) .skip (.exit 0)) (.seq (.block 1 (.seq (.ops [⟨(some 13), none, (.v (.mv (.t 11)))⟩, ⟨(some 14), none, (.v (.idx 1 (.t 9) (.t 11)))⟩, ⟨(some 15), none, (.v (.load 1 false (.t 14)))⟩, ⟨(some 4), none, (.v (.mv (.t 13)))⟩, ⟨(some 5), none, (.v (.mv (.t 15)))⟩]) (.seq (.ops [⟨(some 16), none, (.v (.mv (.t 5)))⟩]) (.cond (.t 16) (.ops [⟨(some 17), none, (.v (.mv (.t 3)))⟩, ⟨(some 18), none, (.v (.mv (.t 4)))⟩, ⟨(some 19), none, (.v (.idx 1 (.t 17) (.t 18)))⟩, ⟨none, none, (.e (.store 1 (.t 19) (.c (.int .u64 1))))⟩]) .skip)))) (.ops [⟨(some 20), none, (.v (.bin .add (.t 11) (.c (.int .i64 1))))⟩, ⟨(some 11), none, (.v (.mv (.t 20)))⟩]))))
def a94 : AC := (.seq (.ops [⟨(some 2), none, (.v (.mv (.c .cap0)))⟩]) (.seq (.ops [⟨(some 6), none, (.v (.mv (.t 0)))⟩, ⟨(some 7), none, (.v (.len (.t 6)))⟩, ⟨(some 8), none, (.e (.make 8 22 1 8 [(.int .u64 0)] (.t 7) (.t 7)))⟩, ⟨(some 3), none, (.v (.mv (.t 8)))⟩]) (.seq (.seq (.ops [⟨(some 9), none, (.v (.mv (.t 0)))⟩, ⟨(some 10), none, (.v (.len (.t 9)))⟩, ⟨(some 11), none, (.v (.mv (.c (.int .i64 0))))⟩]) (.block 0 (.loop a94_0))) (.seq (.ops [⟨(some 21), none, (.v (.mv (.t 3)))⟩, ⟨(some 2), none, (.v (.mv (.t 21)))⟩]) .ret))))
def r94 : List AI := [(.mv (.t 2))]
theorem f94 : Fn PP 94 1 a94 r94 := Fn.of (fn := Go.Proofs.Try.f94) (by kernel_rfl) (by kernel_rfl) (by kernel_rfl)
def a95_0 : AC := (.seq (.ops [⟨(some 12), none, (.v (.bin .lss (.t 11) (.t 10)))⟩]) (.seq (.cond (.t 12) .skip (.exit 0)) (.seq (.block 1 (.seq (.ops [⟨(some 13), none, (.v (.mv (.t 11)))⟩, ⟨(some 14), none, (.v (.idx 1 (.t 9) (.t 11)))⟩, ⟨(some 15), none, (.v (.load 1 false (.t 14)))⟩, ⟨(some 4), none, (.v (.mv (.t 13)))⟩, ⟨(some 5), none, (.v (.mv (.t 15)))⟩]) (.ops [⟨(some 16), none, (.v (.mv (.t 3)))⟩, ⟨(some 17), none, (.v (.mv (.t 4)))⟩, ⟨(some 18), none, (.v (.mv (.t 5)))⟩, ⟨(some 19), none, (.v (.bin .and (.t 18) (.c (.int .u64 1))))⟩, ⟨(some 20), none, (.v (.bin .eql (.t 19) (.c (.int .u64 1))))⟩, ⟨(some 21), none, (.v (.idx 1 (.t 16) (.t 17)))⟩, ⟨none, none, (.e (.store 1 (.t 21) (.t 20)))⟩]))) (.ops [⟨(some 22), none, (.v (.bin .add (.t 11) (.c (.int .i64 1))))⟩, ⟨(some 11), none, (.v (.mv (.t 22)))⟩]))))
def a95 : AC := (.seq (.ops [⟨(some 2), none, (.v (.mv (.c .cap0)))⟩]) (.seq (.ops [⟨(some 6), none, (.v (.mv (.t 0)))⟩, ⟨(some 7), none, (.v (.len (.t 6)))⟩, ⟨(some 8), none, (.e (.make 8 4 1 1 [(.bool false)] (.t 7) (.t 7)))⟩, ⟨(some 3), none, (.v (.mv (.t 8)))⟩]) (.seq (.seq (.ops [⟨(some 9), none, (.v (.mv (.t 0)))⟩, ⟨(some 10), none, (.v (.len (.t 9)))⟩, ⟨(some 11), none, (.v (.mv (.c (.int .i64 0))))⟩]) (.block 0 (.loop a95_0))) (.seq (.ops [⟨(some 23), none, (.v (.mv (.t 3)))⟩, ⟨(some 2), none, (.v (.mv (.t 23)))⟩]) .ret))))
def r95 : List AI := [(.mv (.t 2))]
theorem f95 : Fn PP 95 1 a95 r95 := Fn.of (fn := Go.Proofs.Try.f95) (by kernel_rfl) (by kernel_rfl) (by kernel_rfl)
def a50_0 : AC := (.seq (.ops [⟨(some 13), none, (.v (.bin .lss (.t 12) (.t 11)))⟩]) (.seq (.cond (.t 13) .skip (.exit 0)) (.seq (.block 1 (.seq (.ops [⟨(some 14), none, (.v (.idx 1 (.t 10) (.t 12)))⟩, ⟨(some 15), none, (.v (.load 1 false (.t 14)))⟩, ⟨(some 6), none, (.v (.mv (.t 15)))⟩]) (.seq (.ops [⟨(some 16), none, (.v (.mv (.t 6)))⟩, ⟨(some 17), none, (.v (.len (.t 16)))⟩, ⟨(some 18), none, (.v (.mv (.t 1)))⟩, ⟨(some 19), none, (.v (.bin .neq (.t 17) (.t 18)))⟩]) (.cond (.t 19) (.seq (.ops [⟨(some 4), none, (.v (.mv (.c (.int .i64 20))))⟩]) .ret) .skip)))) (.ops [⟨(some 20), none, (.v (.bin .add (.t 12) (.c (.int .i64 1))))⟩, ⟨(some 12), none, (.v (.mv (.t 20)))⟩]))))
def a50 : AC := (.seq (.ops [⟨(some 4), none, (.v (.mv (.c (.int .i64 0))))⟩]) (.seq (.seq (.ops [⟨(some 7), none, (.v (.mv (.t 0)))⟩, ⟨(some 8), none, (.v (.len (.t 7)))⟩, ⟨(some 9), none, (.v (.bin .gtr (.t 8) (.c (.int .i64 64))))⟩]) (.cond (.t 9) (.seq (.ops [⟨(some 4), none, (.v (.mv (.c (.int .i64 3))))⟩]) .ret) .skip)) (.seq (.seq (.ops [⟨(some 10), none, (.v (.mv (.t 0)))⟩, ⟨(some 11), none, (.v (.len (.t 10)))⟩, ⟨(some 12), none, (.v (.mv (.c (.int .i64 0))))⟩]) (.block 0 (.loop a50_0))) (.seq (.ops [⟨(some 4), none, (.v (.mv (.c (.int .i64 0))))⟩]) .ret))))
def r50 : List AI := [(.mv (.t 4))]
theorem f50 : Fn PP 50 2 a50 r50 := Fn.of (fn := Go.Proofs.Try.f50) (by kernel_rfl) (by kernel_rfl) (by kernel_rfl)
def a96_0 : AC := (.seq (.ops [⟨(some 18), none, (.v (.bin .lss (.t 17) (.t 16)))⟩]) (.seq (.cond (.t 18) .skip (.exit 0)) (.seq (.block 1 (.seq (.ops [⟨(some 19), none, (.v (.mv (.t 17)))⟩, ⟨(some 20), none, (.v (.idx 1 (.t 15) (.t 17)))⟩, ⟨(some 21), none, (.v (.load 1 false (.t 20)))⟩, ⟨(some 7), none, (.v (.mv (.t 19)))⟩, ⟨(some 8), none, (.v (.mv (.t 21)))⟩]) (.seq (.ops [⟨(some 22), none, (.v (.mv (.t 1)))⟩, ⟨(some 23), none, (.v (.mv (.t 7)))⟩, ⟨(some 24), none, (.v (.idx 1 (.t 22) (.t 23)))⟩, ⟨(some 25), none, (.v (.load 1 false (.t 24)))⟩, ⟨(some 9), none, (.v (.mv (.t 25)))⟩]) (.seq (.ops [⟨(some 26), none, (.v (.mv (.t 2)))⟩, ⟨(some 27), none, (.v (.mv (.t 8)))⟩, ⟨(some 28), none, (.v (.mv (.t 9)))⟩, ⟨(some 29), none, (.call (.t 26) [(.t 27), (.t 28)])⟩, ⟨(some 30), none, (.v (.not (.t 29)))⟩]) (.cond (.t 30) (.seq (.ops [⟨(some 6), none, (.v (.mv (.c (.bool false))))⟩]) .ret) .skip))))) (.ops [⟨(some 31), none, (.v (.bin .add (.t 17) (.c (.int .i64 1))))⟩, ⟨(some 17), none, (.v (.mv (.t 31)))⟩]))))
def a96 : AC := (.seq (.ops [⟨(some 6), none, (.v (.mv (.c (.bool false))))⟩]) (.seq (.seq (.ops [⟨(some 10), none, (.v (.mv (.t 0)))⟩, ⟨(some 11), none, (.v (.len (.t 10)))⟩, ⟨(some 12), none, (.v (.mv (.t 1)))⟩, ⟨(some 13), none, (.v (.len (.t 12)))⟩, ⟨(some 14), none, (.v (.bin .neq (.t 11) (.t 13)))⟩]) (.cond (.t 14) (.seq (.ops [⟨(some 6), none, (.v (.mv (.c (.bool false))))⟩]) .ret) .skip)) (.seq (.seq (.ops [⟨(some 15), none, (.v (.mv (.t 0)))⟩, ⟨(some 16), none, (.v (.len (.t 15)))⟩, ⟨(some 17), none, (.v (.mv (.c (.int .i64 0))))⟩]) (.block 0 (.loop a96_0))) (.seq (.ops [⟨(some 6), none, (.v (.mv (.c (.bool true))))⟩]) .ret))))
def r96 : List AI := [(.mv (.t 6))]
theorem f96 : Fn PP 96 3 a96 r96 := Fn.of (fn := Go.Proofs.Try.f96) (by kernel_rfl) (by kernel_rfl) (by kernel_rfl)
def a51 : AC := (.seq (.ops [⟨(some 4), none, (.v (.mv (.c (.bool false))))⟩]) (.seq (.ops [⟨(some 5), none, (.v (.mv (.t 0)))⟩, ⟨(some 6), none, (.v (.mv (.t 1)))⟩, ⟨(some 7), none, (.call (.c (.fn 96 [])) [(.t 5), (.t 6), (.c (.fn 42 []))])⟩, ⟨(some 4), none, (.v (.mv (.t 7)))⟩]) .ret))
def r51 : List AI := [(.mv (.t 4))]
theorem f51 : Fn PP 51 2 a51 r51 := Fn.of (fn := Go.Proofs.Try.f51) (by kernel_rfl) (by kernel_rfl) (by kernel_rfl)

theorem p17 (n : Nat) (x : Nat → Int) (j : Int) (f : Nat → AV) (hf : ∀ i, i < n → f i = .int .u64 (x i)) (hj : 0 ≤ j) (hn : n ≤ 1048576) : Pure PP 17 [.fs n f, .int .i64 j] fun r => ∃ g, r = .fs n g ∧ ∀ i, i < n → g i = .bool (decide (colB x j i)) := by
  refine Fn.pure fmix f17 ?_
  unfold a17 r17
  simp -implicitDefEqProofs only [vqa, Nat.reduceEqDiff, Nat.reduceAdd, reduceIte, Nat.reduceLeDiff, Nat.reduceBEq, Nat.reduceLT, Nat.reduceSub, Int.reduceLT, Int.reduceLE, Int.reduceEq, Int.reduceToNat, Nat.reduceMul, eq_self, implies_true, forall_const]
  refine vFor n (fun i e m => e 0 = .fs n f ∧ e 1 = .int .i64 j ∧ e 8 = .fs n f ∧ e 9 = .int .i64 n ∧ e 10 = .int .i64 i ∧ Acc 21 4 1 i (fun k v => v = .bool (decide (colB x j k))) (e 5) m) ?_ ?_ ?_
  · simp -implicitDefEqProofs only [vqa, Nat.reduceEqDiff, Nat.reduceAdd, reduceIte, Nat.reduceLeDiff, Nat.reduceBEq, Nat.reduceLT, Nat.reduceSub, Int.reduceLT, Int.reduceLE, Int.reduceEq, Int.reduceToNat, Nat.reduceMul, eq_self, implies_true, forall_const]
    ((repeat' first | (with_reducible refine And.intro ?_ ?_) | intro _) <;> first | (with_reducible rfl) | assumption | omega | rfl | exact wI (by omega) (by omega) | exact .none | exact .first rfl | exact .push (by assumption) rfl)
  · rintro i e m hi hi' ⟨h0, h1, h8, h9, h10, hA⟩
    unfold a17_0
    rcases hA with ⟨rfl, h5⟩ | ⟨ver, g, h5, hm, hg⟩
    · simp -implicitDefEqProofs only [vqa, Nat.reduceEqDiff, Nat.reduceAdd, reduceIte, Nat.reduceLeDiff, Nat.reduceBEq, Nat.reduceLT, Nat.reduceSub, Int.reduceLT, Int.reduceLE, Int.reduceEq, Int.reduceToNat, Nat.reduceMul, eq_self, implies_true, forall_const, h0, h1, h8, h9, h10, h5, hi', hf 0 hi]
      ((repeat' first | (with_reducible refine And.intro ?_ ?_) | intro _) <;> first | (with_reducible rfl) | assumption | omega | rfl | exact wI (by omega) (by omega) | exact .none | exact .first rfl | exact .push (by assumption) rfl)
    · simp -implicitDefEqProofs only [vqa, Nat.reduceEqDiff, Nat.reduceAdd, reduceIte, Nat.reduceLeDiff, Nat.reduceBEq, Nat.reduceLT, Nat.reduceSub, Int.reduceLT, Int.reduceLE, Int.reduceEq, Int.reduceToNat, Nat.reduceMul, eq_self, implies_true, forall_const, h0, h1, h8, h9, h10, h5, hm, hi', hf i hi]
      ((repeat' first | (with_reducible refine And.intro ?_ ?_) | intro _) <;> first | (with_reducible rfl) | assumption | omega | rfl | exact wI (by omega) (by omega) | exact .none | exact .first rfl | exact .push (by assumption) rfl)
  · rintro e m ⟨h0, h1, h8, h9, h10, hA⟩
    unfold a17_0
    rcases hA with ⟨rfl, h5⟩ | ⟨ver, g, h5, hm, hg⟩
    · simp -implicitDefEqProofs only [vqa, Nat.reduceEqDiff, Nat.reduceAdd, reduceIte, Nat.reduceLeDiff, Nat.reduceBEq, Nat.reduceLT, Nat.reduceSub, Int.reduceLT, Int.reduceLE, Int.reduceEq, Int.reduceToNat, Nat.reduceMul, eq_self, implies_true, forall_const, h0, h1, h8, h9, h10, h5]
      exact ⟨_, rfl⟩
    · simp -implicitDefEqProofs only [vqa, Nat.reduceEqDiff, Nat.reduceAdd, reduceIte, Nat.reduceLeDiff, Nat.reduceBEq, Nat.reduceLT, Nat.reduceSub, Int.reduceLT, Int.reduceLE, Int.reduceEq, Int.reduceToNat, Nat.reduceMul, eq_self, implies_true, forall_const, h0, h1, h8, h9, h10, h5, hm]
      exact ⟨_, rfl, hg⟩

theorem p42 (n m : Nat) (x y : Nat → Bool) (f g : Nat → AV) (hf : ∀ i, i < n → f i = .bool (x i)) (hg : ∀ i, i < m → g i = .bool (y i)) (hn : n ≤ 1048576) (hm : m ≤ 1048576) :
    Pure PP 42 [.fs n f, .fs m g] fun r => ∃ b, r = .bool b ∧ (b = true ↔ n = m ∧ ∀ i, i < n → x i = y i) := by
  refine Fn.pure fmix f42 ?_
  unfold a42 r42
  simp -implicitDefEqProofs only [vqa, Nat.reduceEqDiff, Nat.reduceAdd, reduceIte, Nat.reduceLeDiff, Nat.reduceBEq, Nat.reduceLT, Nat.reduceSub, Int.reduceLT, Int.reduceLE, Int.reduceEq, Int.reduceToNat, Nat.reduceMul, eq_self, implies_true, forall_const]
  refine ⟨fun h => ⟨_, rfl, ⟨fun e => Bool.noConfusion e, fun e => absurd (congrArg Nat.cast e.1) h⟩⟩, fun h => ?_⟩
  obtain rfl : n = m := by omega
  refine vFor n (fun i e mm => e 0 = .fs n f ∧ e 1 = .fs n g ∧ e 12 = .int .i64 n ∧ e 13 = .int .i64 i ∧ ∀ j, j < i → x j = y j) ?_ ?_ ?_
  · simp -implicitDefEqProofs only [vqa, Nat.reduceEqDiff, Nat.reduceAdd, reduceIte, Nat.reduceLeDiff, Nat.reduceBEq, Nat.reduceLT, Nat.reduceSub, Int.reduceLT, Int.reduceLE, Int.reduceEq, Int.reduceToNat, Nat.reduceMul, eq_self, implies_true, forall_const]
  · rintro i e mm hi hi' ⟨h0, h1, h12, h13, hs⟩
    unfold a42_0
    simp -implicitDefEqProofs only [vqa, Nat.reduceEqDiff, Nat.reduceAdd, reduceIte, Nat.reduceLeDiff, Nat.reduceBEq, Nat.reduceLT, Nat.reduceSub, Int.reduceLT, Int.reduceLE, Int.reduceEq, Int.reduceToNat, Nat.reduceMul, eq_self, implies_true, forall_const, h0, h1, h12, h13, hi']
    refine vAny [0, 1, 2, 3, 4, 5, 6, 7, 8] 9 allL rfl rfl ?_
    simp -implicitDefEqProofs only [vqa, Nat.reduceEqDiff, Nat.reduceAdd, reduceIte, Nat.reduceLeDiff, Nat.reduceBEq, Nat.reduceLT, Nat.reduceSub, Int.reduceLT, Int.reduceLE, Int.reduceEq, Int.reduceToNat, Nat.reduceMul, eq_self, implies_true, forall_const, h0, h1, h12, h13, hf i hi, hg i hi]
    refine ⟨by omega, by omega, ?_⟩
    cases hb : (x i == y i) with
    | true =>
      simp -implicitDefEqProofs only [vqa, Nat.reduceEqDiff, Nat.reduceAdd, reduceIte, Nat.reduceLeDiff, Nat.reduceBEq, Nat.reduceLT, Nat.reduceSub, Int.reduceLT, Int.reduceLE, Int.reduceEq, Int.reduceToNat, Nat.reduceMul, eq_self, implies_true, forall_const, h0, h1, h12, h13]
      refine ⟨hi, wI (by omega) (by omega), fun j hj => ?_⟩
      by_cases e : j = i
      · subst e; simpa using hb
      · exact hs j (by omega)
    | false =>
      simp -implicitDefEqProofs only [vqa, Nat.reduceEqDiff, Nat.reduceAdd, reduceIte, Nat.reduceLeDiff, Nat.reduceBEq, Nat.reduceLT, Nat.reduceSub, Int.reduceLT, Int.reduceLE, Int.reduceEq, Int.reduceToNat, Nat.reduceMul, eq_self, implies_true, forall_const, h0, h1, h12, h13]
      exact ⟨_, rfl, ⟨fun e => Bool.noConfusion e, fun e => absurd (e i hi) (by simpa using hb)⟩⟩
  · rintro e mm ⟨h0, h1, h12, h13, hs⟩
    unfold a42_0
    simp -implicitDefEqProofs only [vqa, Nat.reduceEqDiff, Nat.reduceAdd, reduceIte, Nat.reduceLeDiff, Nat.reduceBEq, Nat.reduceLT, Nat.reduceSub, Int.reduceLT, Int.reduceLE, Int.reduceEq, Int.reduceToNat, Nat.reduceMul, eq_self, implies_true, forall_const, h0, h1, h12, h13]
    exact ⟨_, rfl, ⟨fun _ => hs, fun _ => rfl⟩⟩

theorem p17b (n : Nat) (x : Nat → Int) (z : Nat) (f : Nat → AV) (hf : ∀ i, i < n → f i = .int .u64 (x i)) (hU : ∀ k, U64 (x k)) (hz : z < 64) (hn : n ≤ 1048576) : Pure PP 17 [.fs n f, .int .i64 z] fun r => ∃ g, r = .fs n g ∧ ∀ i, i < n → g i = .bool (bit (x i) z) := by
  refine (p17 n x z f hf (by omega) hn).mono fun r m ⟨g, hr, hg⟩ => ⟨g, hr, fun i hi => ?_⟩
  rw [hg i hi]
  have := colB_iff (x := x) (i := i) hz (hU i)
  congr 1
  rw [Bool.eq_iff_iff]
  simpa using this

theorem p94 (n : Nat) (x : Nat → Bool) (f : Nat → AV) (hf : ∀ i, i < n → f i = .bool (x i)) (hn : n ≤ 1048576) : Pure PP 94 [.fs n f] fun r => ∃ g, r = .fs n g ∧ ∀ i, i < n → g i = .int .u64 (laneW (x i)) := by
  refine Fn.pure fmix f94 ?_
  unfold a94 r94
  simp -implicitDefEqProofs only [vqa, Nat.reduceEqDiff, Nat.reduceAdd, reduceIte, Nat.reduceLeDiff, Nat.reduceBEq, Nat.reduceLT, Nat.reduceSub, Int.reduceLT, Int.reduceLE, Int.reduceEq, Int.reduceToNat, Nat.reduceMul, eq_self, implies_true, forall_const]
  refine ⟨by omega, ?_⟩
  refine vFor n (fun i e m => e 9 = .fs n f ∧ e 10 = .int .i64 n ∧ e 11 = .int .i64 i ∧ ∃ V g, e 3 = .sl 8 V n ∧ m 8 = .row V 22 1 n g ∧ ∀ j, j < n → g j = .int .u64 (if j < i then laneW (x j) else 0)) ?_ ?_ ?_
  · simp -implicitDefEqProofs only [vqa, Nat.reduceEqDiff, Nat.reduceAdd, reduceIte, Nat.reduceLeDiff, Nat.reduceBEq, Nat.reduceLT, Nat.reduceSub, Int.reduceLT, Int.reduceLE, Int.reduceEq, Int.reduceToNat, Nat.reduceMul, eq_self, implies_true, forall_const]
    exact ⟨_, _, rfl, rfl, fun j hj => rfl⟩
  · rintro i e m hi hi' ⟨h9, h10, h11, V, g, h3, hm, hg⟩
    unfold a94_0
    cases hb : x i with
    | true =>
      simp -implicitDefEqProofs only [vqa, Nat.reduceEqDiff, Nat.reduceAdd, reduceIte, Nat.reduceLeDiff, Nat.reduceBEq, Nat.reduceLT, Nat.reduceSub, Int.reduceLT, Int.reduceLE, Int.reduceEq, Int.reduceToNat, Nat.reduceMul, eq_self, implies_true, forall_const, h9, h10, h11, h3, hm, hi', hf i hi, hb]
      refine ⟨by omega, by omega, hi, hi, wI (by omega) (by omega), _, _, rfl, rfl, fun j hj => ?_⟩
      by_cases e : j = i
      · subst e; simp only [decide_true, cond_true, if_pos (show j < j + 1 by omega), hb]; rfl
      · simp only [e, decide_false, cond_false]
        rw [hg j hj]
        by_cases h : j < i
        · rw [if_pos h, if_pos (by omega)]
        · rw [if_neg h, if_neg (by omega)]
    | false =>
      simp -implicitDefEqProofs only [vqa, Nat.reduceEqDiff, Nat.reduceAdd, reduceIte, Nat.reduceLeDiff, Nat.reduceBEq, Nat.reduceLT, Nat.reduceSub, Int.reduceLT, Int.reduceLE, Int.reduceEq, Int.reduceToNat, Nat.reduceMul, eq_self, implies_true, forall_const, h9, h10, h11, h3, hm, hi', hf i hi, hb]
      refine ⟨by omega, hi, wI (by omega) (by omega), _, _, rfl, rfl, fun j hj => ?_⟩
      rw [hg j hj]
      by_cases e : j = i
      · subst e; rw [if_neg (by omega), if_pos (by omega), hb]; rfl
      · by_cases h : j < i
        · rw [if_pos h, if_pos (by omega)]
        · rw [if_neg h, if_neg (by omega)]
  · rintro e m ⟨h9, h10, h11, V, g, h3, hm, hg⟩
    unfold a94_0
    simp -implicitDefEqProofs only [vqa, Nat.reduceEqDiff, Nat.reduceAdd, reduceIte, Nat.reduceLeDiff, Nat.reduceBEq, Nat.reduceLT, Nat.reduceSub, Int.reduceLT, Int.reduceLE, Int.reduceEq, Int.reduceToNat, Nat.reduceMul, eq_self, implies_true, forall_const, h9, h10, h11, h3, hm]
    exact ⟨_, rfl, fun i hi => by rw [hg i hi, if_pos hi]⟩

theorem p95 (n : Nat) (x : Nat → Int) (f : Nat → AV) (hf : ∀ i, i < n → f i = .int .u64 (x i)) (hU : ∀ i, U64 (x i)) (hn : n ≤ 1048576) : Pure PP 95 [.fs n f] fun r => ∃ g, r = .fs n g ∧ ∀ i, i < n → g i = .bool (bit (x i) 0) := by
  refine Fn.pure fmix f95 ?_
  unfold a95 r95
  simp -implicitDefEqProofs only [vqa, Nat.reduceEqDiff, Nat.reduceAdd, reduceIte, Nat.reduceLeDiff, Nat.reduceBEq, Nat.reduceLT, Nat.reduceSub, Int.reduceLT, Int.reduceLE, Int.reduceEq, Int.reduceToNat, Nat.reduceMul, eq_self, implies_true, forall_const]
  refine ⟨by omega, ?_⟩
  refine vFor n (fun i e m => e 9 = .fs n f ∧ e 10 = .int .i64 n ∧ e 11 = .int .i64 i ∧ ∃ V g, e 3 = .sl 8 V n ∧ m 8 = .row V 4 1 n g ∧ ∀ j, j < n → g j = .bool (if j < i then bit (x j) 0 else false)) ?_ ?_ ?_
  · simp -implicitDefEqProofs only [vqa, Nat.reduceEqDiff, Nat.reduceAdd, reduceIte, Nat.reduceLeDiff, Nat.reduceBEq, Nat.reduceLT, Nat.reduceSub, Int.reduceLT, Int.reduceLE, Int.reduceEq, Int.reduceToNat, Nat.reduceMul, eq_self, implies_true, forall_const]
    exact ⟨_, _, rfl, rfl, fun j hj => rfl⟩
  · rintro i e m hi hi' ⟨h9, h10, h11, V, g, h3, hm, hg⟩
    unfold a95_0
    simp -implicitDefEqProofs only [vqa, Nat.reduceEqDiff, Nat.reduceAdd, reduceIte, Nat.reduceLeDiff, Nat.reduceBEq, Nat.reduceLT, Nat.reduceSub, Int.reduceLT, Int.reduceLE, Int.reduceEq, Int.reduceToNat, Nat.reduceMul, eq_self, implies_true, forall_const, h9, h10, h11, h3, hm, hi', hf i hi]
    refine ⟨by omega, by omega, hi, hi, wI (by omega) (by omega), _, _, rfl, rfl, fun j hj => ?_⟩
    by_cases e : j = i
    · subst e; simp only [decide_true, cond_true, if_pos (show j < j + 1 by omega)]; rw [and_one_w (hU j)]
    · simp only [e, decide_false, cond_false]
      rw [hg j hj]
      by_cases h : j < i
      · rw [if_pos h, if_pos (by omega)]
      · rw [if_neg h, if_neg (by omega)]
  · rintro e m ⟨h9, h10, h11, V, g, h3, hm, hg⟩
    unfold a95_0
    simp -implicitDefEqProofs only [vqa, Nat.reduceEqDiff, Nat.reduceAdd, reduceIte, Nat.reduceLeDiff, Nat.reduceBEq, Nat.reduceLT, Nat.reduceSub, Int.reduceLT, Int.reduceLE, Int.reduceEq, Int.reduceToNat, Nat.reduceMul, eq_self, implies_true, forall_const, h9, h10, h11, h3, hm]
    exact ⟨_, rfl, fun i hi => by rw [hg i hi, if_pos hi]⟩

/-- A trace: T rows of truths. -/
def TraceA (q : Nat → AV) (T : Nat) (L : Nat → Nat) (h : Nat → Nat → AV) (t : Nat → Nat → Bool) : Prop := ∀ i, i < T → q i = .fs (L i) (h i) ∧ L i ≤ 1048576 ∧ ∀ j, j < L i → h i j = .bool (t i j)

theorem p50 {q : Nat → AV} {T : Nat} {L : Nat → Nat} {h : Nat → Nat → AV} {t : Nat → Nat → Bool} (hq : TraceA q T L h t) (hT : T ≤ 1048576) (ni : Nat) : Pure PP 50 [.fs T q, .int .i64 ni] fun r => r = .int .i64 (traceF T L ni) := by
  refine Fn.pure fmix f50 ?_
  unfold a50 r50
  simp -implicitDefEqProofs only [vqa, Nat.reduceEqDiff, Nat.reduceAdd, reduceIte, Nat.reduceLeDiff, Nat.reduceBEq, Nat.reduceLT, Nat.reduceSub, Int.reduceLT, Int.reduceLE, Int.reduceEq, Int.reduceToNat, Nat.reduceMul, eq_self, implies_true, forall_const]
  refine ⟨fun k1 => by unfold traceF; rw [if_pos (by omega)], fun k1 => ?_⟩
  have tE : traceF T L ni = scan (traceAt L ni) T := by unfold traceF; rw [if_neg (by omega)]
  refine vFor T (fun i e m => e 1 = .int .i64 ni ∧ e 10 = .fs T q ∧ e 11 = .int .i64 T ∧ e 12 = .int .i64 i ∧ scan (traceAt L ni) i = 0) ?_ ?_ ?_
  · simp -implicitDefEqProofs only [vqa, Nat.reduceEqDiff, Nat.reduceAdd, reduceIte, Nat.reduceLeDiff, Nat.reduceBEq, Nat.reduceLT, Nat.reduceSub, Int.reduceLT, Int.reduceLE, Int.reduceEq, Int.reduceToNat, Nat.reduceMul, eq_self, implies_true, forall_const]
    rfl
  · rintro i e m hi hi' ⟨h1, h10, h11, h12, hs⟩
    obtain ⟨q1, q2, q3⟩ := hq i hi
    unfold a50_0
    simp -implicitDefEqProofs only [vqa, Nat.reduceEqDiff, Nat.reduceAdd, reduceIte, Nat.reduceLeDiff, Nat.reduceBEq, Nat.reduceLT, Nat.reduceSub, Int.reduceLT, Int.reduceLE, Int.reduceEq, Int.reduceToNat, Nat.reduceMul, eq_self, implies_true, forall_const, h1, h10, h11, h12, hi', q1]
    refine ⟨by omega, fun k2 => ?_, fun k2 => ⟨hi, wI (by omega) (by omega), scan_step hs (by unfold traceAt; rw [if_neg (by omega)])⟩⟩
    rw [tE, scan_stop hs (show traceAt L ni i = 20 by unfold traceAt; rw [if_pos (by omega)]) (by decide) _ hi]
  · rintro e m ⟨h1, h10, h11, h12, hs⟩
    unfold a50_0
    simp -implicitDefEqProofs only [vqa, Nat.reduceEqDiff, Nat.reduceAdd, reduceIte, Nat.reduceLeDiff, Nat.reduceBEq, Nat.reduceLT, Nat.reduceSub, Int.reduceLT, Int.reduceLE, Int.reduceEq, Int.reduceToNat, Nat.reduceMul, eq_self, implies_true, forall_const, h1, h10, h11, h12]
    rw [tE, hs]

/-- Rows that are the same. -/
theorem p96 (T K : Nat) (x : Nat → Nat → Bool) (f g : Nat → AV) (hf : ∀ i, i < T → ∃ a, f i = .fs K a ∧ ∀ k, k < K → a k = .bool (x i k)) (hg : ∀ i, i < T → ∃ a, g i = .fs K a ∧ ∀ k, k < K → a k = .bool (x i k)) (hT : T ≤ 1048576) (hK : K ≤ 1048576) :
    Pure PP 96 [.fs T f, .fs T g, .fn 42 []] fun r => r = .bool true := by
  refine Fn.pure fmix f96 ?_
  unfold a96 r96
  simp -implicitDefEqProofs only [vqa, Nat.reduceEqDiff, Nat.reduceAdd, reduceIte, Nat.reduceLeDiff, Nat.reduceBEq, Nat.reduceLT, Nat.reduceSub, Int.reduceLT, Int.reduceLE, Int.reduceEq, Int.reduceToNat, Nat.reduceMul, eq_self, implies_true, forall_const]
  refine vFor T (fun i e m => e 1 = .fs T g ∧ e 2 = .fn 42 [] ∧ e 15 = .fs T f ∧ e 16 = .int .i64 T ∧ e 17 = .int .i64 i) ?_ ?_ ?_
  · simp -implicitDefEqProofs only [vqa, Nat.reduceEqDiff, Nat.reduceAdd, reduceIte, Nat.reduceLeDiff, Nat.reduceBEq, Nat.reduceLT, Nat.reduceSub, Int.reduceLT, Int.reduceLE, Int.reduceEq, Int.reduceToNat, Nat.reduceMul, eq_self, implies_true, forall_const]
  · rintro i e m hi hi' ⟨h1, h2, h15, h16, h17⟩
    obtain ⟨a, ha, hka⟩ := hf i hi
    obtain ⟨b, hb, hkb⟩ := hg i hi
    unfold a96_0
    simp -implicitDefEqProofs only [vqa, Nat.reduceEqDiff, Nat.reduceAdd, reduceIte, Nat.reduceLeDiff, Nat.reduceBEq, Nat.reduceLT, Nat.reduceSub, Int.reduceLT, Int.reduceLE, Int.reduceEq, Int.reduceToNat, Nat.reduceMul, eq_self, implies_true, forall_const, h1, h2, h15, h16, h17, hi', ha, hb]
    refine ⟨by omega, by omega, ?_⟩
    refine CallW.sc (p42 K K (x i) (x i) a b hka hkb hK hK) rfl ⟨trivial, trivial, trivial⟩ fun r ⟨b, hr, hb⟩ => ⟨by subst hr; rfl, ?_⟩
    obtain rfl : b = true := hb.2 ⟨rfl, fun k _ => rfl⟩
    subst hr
    simp -implicitDefEqProofs only [vqa, Nat.reduceEqDiff, Nat.reduceAdd, reduceIte, Nat.reduceLeDiff, Nat.reduceBEq, Nat.reduceLT, Nat.reduceSub, Int.reduceLT, Int.reduceLE, Int.reduceEq, Int.reduceToNat, Nat.reduceMul, eq_self, implies_true, forall_const, h1, h2, h15, h16, h17]
    exact ⟨hi, wI (by omega) (by omega)⟩
  · rintro e m ⟨h1, h2, h15, h16, h17⟩
    unfold a96_0
    simp -implicitDefEqProofs only [vqa, Nat.reduceEqDiff, Nat.reduceAdd, reduceIte, Nat.reduceLeDiff, Nat.reduceBEq, Nat.reduceLT, Nat.reduceSub, Int.reduceLT, Int.reduceLE, Int.reduceEq, Int.reduceToNat, Nat.reduceMul, eq_self, implies_true, forall_const, h1, h2, h15, h16, h17]
theorem p51 (T K : Nat) (x : Nat → Nat → Bool) (f g : Nat → AV) (hf : ∀ i, i < T → ∃ a, f i = .fs K a ∧ ∀ k, k < K → a k = .bool (x i k)) (hg : ∀ i, i < T → ∃ a, g i = .fs K a ∧ ∀ k, k < K → a k = .bool (x i k)) (hT : T ≤ 1048576) (hK : K ≤ 1048576) :
    Pure PP 51 [.fs T f, .fs T g] fun r => r = .bool true := by
  refine Fn.pure fmix f51 ?_
  unfold a51 r51
  simp -implicitDefEqProofs only [vqa, Nat.reduceEqDiff, Nat.reduceAdd, reduceIte, Nat.reduceLeDiff, Nat.reduceBEq, Nat.reduceLT, Nat.reduceSub, Int.reduceLT, Int.reduceLE, Int.reduceEq, Int.reduceToNat, Nat.reduceMul, eq_self, implies_true, forall_const]
  refine CallW.sc (p96 T K x f g hf hg hT hK) rfl ⟨trivial, trivial, ⟨trivial, trivial⟩⟩ fun r hr => ⟨by subst hr; rfl, ?_⟩
  subst hr
  simp -implicitDefEqProofs only [vqa, Nat.reduceEqDiff, Nat.reduceAdd, reduceIte, Nat.reduceLeDiff, Nat.reduceBEq, Nat.reduceLT, Nat.reduceSub, Int.reduceLT, Int.reduceLE, Int.reduceEq, Int.reduceToNat, Nat.reduceMul, eq_self, implies_true, forall_const]
end Go.Ab
