/- Walks: a stream of numbers, and the names that it makes. -/
import Derived.Test.YtodncnlnadgkhacSaBase
import Derived.Test.YtodncnlnadgkhacLwBit
set_option linter.unusedSimpArgs false
set_option linter.unusedVariables false
namespace Go.Ab
open Go
def a6 : AC := (.seq (.ops [⟨(some 4), none, (.v (.mv (.c (.int .i64 0))))⟩]) (.seq (.seq (.ops [⟨(some 5), none, (.v (.mv (.t 1)))⟩, ⟨(some 6), none, (.v (.bin .lss (.t 5) (.c (.int .i64 1))))⟩]) (.cond (.t 6) (.seq (.ops [⟨(some 4), none, (.v (.mv (.c (.int .i64 0))))⟩]) .ret) .skip)) (.seq (.ops [⟨(some 7), none, (.v (.mv (.t 0)))⟩, ⟨(some 8), none, (.v (.mv (.t 1)))⟩, ⟨(some 9), none, (.v (.bin .rem (.t 7) (.t 8)))⟩, ⟨(some 0), none, (.v (.mv (.t 9)))⟩]) (.seq (.seq (.ops [⟨(some 10), none, (.v (.mv (.t 0)))⟩, ⟨(some 11), none, (.v (.bin .lss (.t 10) (.c (.int .i64 0))))⟩]) (.cond (.t 11) (.ops [⟨(some 12), none, (.v (.mv (.t 0)))⟩, ⟨(some 13), none, (.v (.mv (.t 1)))⟩, ⟨(some 14), none, (.v (.bin .add (.t 12) (.t 13)))⟩, ⟨(some 0), none, (.v (.mv (.t 14)))⟩]) .skip)) (.seq (.ops [⟨(some 15), none, (.v (.mv (.t 0)))⟩, ⟨(some 4), none, (.v (.mv (.t 15)))⟩]) .ret)))))
def r6 : List AI := [(.mv (.t 4))]
theorem f6 : Fn PP 6 2 a6 r6 := Fn.of (fn := Go.Proofs.Try.f6) (by kernel_rfl) (by kernel_rfl) (by kernel_rfl)
def b39 (b : Nat) : AC := (.seq (.ops [⟨(some 4), none, (.v (.mv (.c (.int .i64 0))))⟩]) (.seq (.ops [⟨(some 7), none, (.v (.mv (.t 0)))⟩, ⟨(some 8), none, (.v (.nilck (.t 7)))⟩, ⟨(some 9), none, (.v (.fld 1 (.t 8)))⟩, ⟨(some 10), none, (.v (.load 1 false (.t 9)))⟩, ⟨(some 11), none, (.v (.bin .add (.t 10) (.c (.int .i64 1))))⟩, ⟨(some 12), none, (.v (.nilck (.t 7)))⟩, ⟨(some 13), none, (.v (.fld 1 (.t 12)))⟩, ⟨none, none, (.e (.store 1 (.t 13) (.t 11)))⟩]) (.seq (.seq (.ops [⟨(some 14), none, (.v (.mv (.t 0)))⟩, ⟨(some 15), none, (.v (.nilck (.t 14)))⟩, ⟨(some 16), none, (.v (.fld 0 (.t 15)))⟩, ⟨(some 17), none, (.v (.load 1 false (.t 16)))⟩, ⟨(some 18), none, (.v (.len (.t 17)))⟩, ⟨(some 19), none, (.v (.bin .eql (.t 18) (.c (.int .i64 0))))⟩]) (.cond (.t 19) (.seq (.ops [⟨(some 20), none, (.v (.mv (.t 0)))⟩, ⟨(some 21), none, (.v (.nilck (.t 20)))⟩, ⟨(some 22), none, (.v (.fld 1 (.t 21)))⟩, ⟨(some 23), none, (.v (.load 1 false (.t 22)))⟩, ⟨(some 24), none, (.v (.bin .mul (.t 23) (.c (.int .i64 7919))))⟩, ⟨(some 25), none, (.v (.mv (.t 1)))⟩, ⟨(some 26), none, (.call (.c (.fn 6 [])) [(.t 24), (.t 25)])⟩, ⟨(some 4), none, (.v (.mv (.t 26)))⟩]) .ret) .skip)) (.seq (.any [⟨(some 27), none, (.v (.mv (.t 0)))⟩, ⟨(some 28), none, (.v (.nilck (.t 27)))⟩, ⟨(some 29), none, (.v (.fld 1 (.t 28)))⟩, ⟨(some 30), none, (.v (.load 1 false (.t 29)))⟩, ⟨(some 31), none, (.v (.bin .sub (.t 30) (.c (.int .i64 1))))⟩, ⟨(some 32), none, (.v (.mv (.t 0)))⟩, ⟨(some 33), none, (.v (.nilck (.t 32)))⟩, ⟨(some 34), none, (.v (.fld 0 (.t 33)))⟩, ⟨(some 35), none, (.v (.load 1 false (.t 34)))⟩, ⟨(some 36), none, (.v (.len (.t 35)))⟩, ⟨(some 37), none, (.v (.bin .rem (.t 31) (.t 36)))⟩, ⟨(some 5), none, (.v (.mv (.t 37)))⟩] [[], [0], [1], [2], [3], [], [5], [6], [7], [8], [4, 9], [10, 0, 1, 2, 3, 4, 5, 6, 7, 8, 9, 10]]) (.seq (.any [⟨(some 38), none, (.v (.mv (.t 0)))⟩, ⟨(some 39), none, (.v (.nilck (.t 38)))⟩, ⟨(some 40), none, (.v (.fld 1 (.t 39)))⟩, ⟨(some 41), none, (.v (.load 1 false (.t 40)))⟩, ⟨(some 42), none, (.v (.bin .sub (.t 41) (.c (.int .i64 1))))⟩, ⟨(some 43), none, (.v (.mv (.t 0)))⟩, ⟨(some 44), none, (.v (.nilck (.t 43)))⟩, ⟨(some 45), none, (.v (.fld 0 (.t 44)))⟩, ⟨(some 46), none, (.v (.load 1 false (.t 45)))⟩, ⟨(some 47), none, (.v (.len (.t 46)))⟩, ⟨(some 48), none, (.v (.bin .quo (.t 42) (.t 47)))⟩, ⟨(some 6), none, (.v (.mv (.t 48)))⟩] [[], [0], [1], [2], [3], [], [5], [6], [7], [8], [4, 9], [10, 0, 1, 2, 3, 4, 5, 6, 7, 8, 9, 10]]) (.seq (.ops [⟨(some 49), none, (.v (.mv (.t 0)))⟩, ⟨(some 50), none, (.v (.nilck (.t 49)))⟩, ⟨(some 51), none, (.v (.fld 0 (.t 50)))⟩, ⟨(some 52), none, (.v (.load 1 false (.t 51)))⟩, ⟨(some 53), none, (.v (.mv (.t 5)))⟩, ⟨(some 54), none, (.v (.idx 1 (.t 52) (.t 53)))⟩, ⟨(some 55), none, (.v (.load 1 false (.t 54)))⟩, ⟨(some 56), none, (.call (.c (.fn 6 [])) [(.t 55), (.c (.int .i64 1073741824))])⟩, ⟨(some 57), none, (.v (.mv (.t 6)))⟩, ⟨(some 58), none, (.v (.mv (.t 5)))⟩, ⟨(some 59), none, (.v (.bin .add (.c (.int .i64 7919)) (.t 58)))⟩, ⟨(some 60), none, (.v (.bin .mul (.t 57) (.t 59)))⟩, ⟨(some 61), none, (.v (.bin .add (.t 56) (.t 60)))⟩, ⟨(some 62), none, (.v (.mv (.t 1)))⟩, ⟨(some 63), none, (.call (.c (.fn 6 [])) [(.t 61), (.t 62)])⟩, ⟨(some 4), none, (.v (.mv (.t 63)))⟩]) .ret))))))
def q39 : List AI := [(.mv (.t 4))]
theorem g39 (b : Nat) : Fn PP 39 2 (b39 b) q39 := Fn.ofB b (fn := Go.Proofs.Try.f39) (by kernel_rfl) (by kernel_rfl) (by kernel_rfl)
theorem p6g (x n : Int) (h1 : 1 ≤ n) (h2 : n ≤ 9223372036854775807) : Pure PP 6 [.int .i64 x, .int .i64 n] fun r => ∃ j : Int, r = .int .i64 j ∧ 0 ≤ j ∧ j < n := by
  have q1 := Int.tmod_lt_of_pos x (show 0 < n by omega)
  have q2 := Int.lt_tmod_of_pos x (show 0 < n by omega)
  refine Fn.pure fmix f6 ?_
  unfold a6 r6
  simp -implicitDefEqProofs only [vqa, Nat.reduceEqDiff, Nat.reduceAdd, reduceIte, Nat.reduceLeDiff, Nat.reduceBEq, Nat.reduceLT, Nat.reduceSub, Int.reduceLT, Int.reduceLE, Int.reduceEq, Int.reduceToNat, Nat.reduceMul, eq_self, implies_true, forall_const]
  refine ⟨fun h => absurd h (by omega), fun _ => ⟨by omega, fun h => ⟨_, rfl, ?_⟩, fun h => ⟨_, rfl, by omega, by omega⟩⟩⟩
  rw [wI (by omega) (by omega)]; omega
theorem p39 (b : Nat) {mem : Mem} {o v id ver : Nat} {a n : Int} {f : Nat → AV} (ho : o < b) (hm : mem o = .var v [.sl id ver 2, .int .i64 a]) (hi : mem id = .row ver 3 1 2 f) (hf : ∀ i, i < 2 → ∃ x, f i = .int .i64 x) (ha : 0 ≤ a) (ha' : a ≤ 1000000) (h1 : 1 ≤ n) (h2 : n ≤ 9223372036854775807) :
    CallW PP 39 [.ptr o v 0, .int .i64 n] mem fun r m => ∃ j : Int, r = .int .i64 j ∧ 0 ≤ j ∧ j < n ∧ m = Mem.set o (.var v [.sl id ver 2, .int .i64 (a + 1)]) mem := by
  have hid : id ≠ o := fun e => by rw [e, hm] at hi; cases hi
  refine Fn.call fmix (g39 b) ?_
  unfold b39 q39
  have w1 : IntKind.i64.wrap (a + 1) = a + 1 := wI (by omega) (by omega)
  have w2 : IntKind.i64.wrap (a + 1 - 1) = a := by rw [wI (by omega) (by omega)]; omega
  simp -implicitDefEqProofs only [vqa, Nat.reduceEqDiff, Nat.reduceAdd, reduceIte, Nat.reduceLeDiff, Nat.reduceBEq, Nat.reduceLT, Nat.reduceSub, Int.reduceLT, Int.reduceLE, Int.reduceEq, Int.reduceToNat, Nat.reduceMul, eq_self, implies_true, forall_const, hm, hi, hid, w1]
  have t1 := Int.tmod_lt_of_pos a (show (0 : Int) < 2 by decide)
  have t2 := Int.tmod_nonneg 2 ha
  obtain ⟨x, hx⟩ := hf (a.tmod 2).toNat (by omega)
  refine vAny [0, 1, 2, 3, 4, 5, 6, 7, 8, 9, 10, 11] 12 allL (by kernel_rfl) (by kernel_rfl) ?_
  simp -implicitDefEqProofs only [vqa, Nat.reduceEqDiff, Nat.reduceAdd, reduceIte, Nat.reduceLeDiff, Nat.reduceBEq, Nat.reduceLT, Nat.reduceSub, Int.reduceLT, Int.reduceLE, Int.reduceEq, Int.reduceToNat, Nat.reduceMul, eq_self, implies_true, forall_const, hm, hi, hid, w1, w2]
  refine ⟨by decide, ?_⟩
  refine vAny [0, 1, 2, 3, 4, 5, 6, 7, 8, 9, 10, 11] 12 allL (by kernel_rfl) (by kernel_rfl) ?_
  simp -implicitDefEqProofs only [vqa, Nat.reduceEqDiff, Nat.reduceAdd, reduceIte, Nat.reduceLeDiff, Nat.reduceBEq, Nat.reduceLT, Nat.reduceSub, Int.reduceLT, Int.reduceLE, Int.reduceEq, Int.reduceToNat, Nat.reduceMul, eq_self, implies_true, forall_const, hm, hi, hid, w1, w2]
  refine ⟨by decide, ?_⟩
  simp -implicitDefEqProofs only [vqa, Nat.reduceEqDiff, Nat.reduceAdd, reduceIte, Nat.reduceLeDiff, Nat.reduceBEq, Nat.reduceLT, Nat.reduceSub, Int.reduceLT, Int.reduceLE, Int.reduceEq, Int.reduceToNat, Nat.reduceMul, eq_self, implies_true, forall_const, hm, hi, hid, w1, w2, hx]
  refine ⟨⟨t2, t1⟩, by omega, ?_⟩
  refine CallW.sc (p6g x 1073741824 (by decide) (by decide)) rfl ⟨trivial, trivial, trivial⟩ fun r ⟨j1, hr, _, _⟩ => ⟨by subst hr; rfl, ?_⟩
  subst hr
  simp -implicitDefEqProofs only [vqa, Nat.reduceEqDiff, Nat.reduceAdd, reduceIte, Nat.reduceLeDiff, Nat.reduceBEq, Nat.reduceLT, Nat.reduceSub, Int.reduceLT, Int.reduceLE, Int.reduceEq, Int.reduceToNat, Nat.reduceMul, eq_self, implies_true, forall_const, hm, hi, hid, w1, w2, hx]
  refine CallW.sc (p6g _ n h1 h2) rfl ⟨trivial, trivial, trivial⟩ fun r ⟨j2, hr, g1, g2⟩ => ⟨by subst hr; rfl, ?_⟩
  subst hr
  simp -implicitDefEqProofs only [vqa, Nat.reduceEqDiff, Nat.reduceAdd, reduceIte, Nat.reduceLeDiff, Nat.reduceBEq, Nat.reduceLT, Nat.reduceSub, Int.reduceLT, Int.reduceLE, Int.reduceEq, Int.reduceToNat, Nat.reduceMul, eq_self, implies_true, forall_const]
  exact ⟨_, rfl, g1, g2⟩
end Go.Ab
