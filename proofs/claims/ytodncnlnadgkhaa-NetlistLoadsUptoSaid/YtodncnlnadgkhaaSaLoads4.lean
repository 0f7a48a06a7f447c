/- Walk: the uses of a net, and the equality of rows of loads. -/
import Derived.Test.YtodncnlnadgkhaaSaLoads3
set_option linter.unusedSimpArgs false
set_option linter.unusedVariables false
namespace Go.Ab
open Go
def a20_0 : AC := (.seq (.ops [⟨(some 14), none, (.v (.bin .lss (.t 13) (.t 12)))⟩]) (.seq (.cond (.t 14) .skip (.exit 0)) (.seq (.block 1 (.seq (.ops [⟨(some 15), none, (.v (.mv (.t 13)))⟩, ⟨(some 5), none, (.v (.mv (.t 15)))⟩]) (.seq (.any [⟨(some 16), none, (.v (.mv (.t 0)))⟩, ⟨(some 17), none, (.v (.mv (.t 5)))⟩, ⟨(some 18), none, (.v (.idx 3 (.t 16) (.t 17)))⟩, ⟨(some 19), none, (.v (.load 3 true (.t 18)))⟩, ⟨(some 20), none, (.v (.mv (.t 1)))⟩, ⟨(some 21), none, (.v (.mv (.t 5)))⟩, ⟨(some 22), none, (.v (.idx 3 (.t 20) (.t 21)))⟩, ⟨(some 23), none, (.v (.load 3 true (.t 22)))⟩, ⟨(some 24), none, (.v (.aeq [.int, .int, .int] true (.t 19) (.t 23)))⟩] [[], [], [0, 1], [2], [], [], [4, 5], [6], [3, 7]]) (.cond (.t 24) (.seq (.ops [⟨(some 4), none, (.v (.mv (.c (.bool false))))⟩]) .ret) .skip)))) (.ops [⟨(some 25), none, (.v (.bin .add (.t 13) (.c (.int .i64 1))))⟩, ⟨(some 13), none, (.v (.mv (.t 25)))⟩]))))
def a20 : AC := (.seq (.ops [⟨(some 4), none, (.v (.mv (.c (.bool false))))⟩]) (.seq (.seq (.ops [⟨(some 6), none, (.v (.mv (.t 0)))⟩, ⟨(some 7), none, (.v (.len (.t 6)))⟩, ⟨(some 8), none, (.v (.mv (.t 1)))⟩, ⟨(some 9), none, (.v (.len (.t 8)))⟩, ⟨(some 10), none, (.v (.bin .neq (.t 7) (.t 9)))⟩]) (.cond (.t 10) (.seq (.ops [⟨(some 4), none, (.v (.mv (.c (.bool false))))⟩]) .ret) .skip)) (.seq (.seq (.ops [⟨(some 11), none, (.v (.mv (.t 0)))⟩, ⟨(some 12), none, (.v (.len (.t 11)))⟩, ⟨(some 13), none, (.v (.mv (.c (.int .i64 0))))⟩]) (.block 0 (.loop a20_0))) (.seq (.ops [⟨(some 4), none, (.v (.mv (.c (.bool true))))⟩]) .ret))))
def r20 : List AI := [(.mv (.t 4))]
theorem f20 : Fn PP 20 2 a20 r20 := Fn.of (fn := Go.Proofs.Try.f20) (by kernel_rfl) (by kernel_rfl) (by kernel_rfl)
def a21_1 : AC := (.seq (.ops [⟨(some 26), none, (.v (.bin .lss (.t 25) (.t 24)))⟩]) (.seq (.cond (.t 26) .skip (.exit 2)) (.seq (.block 3 (.seq (.ops [⟨(some 27), none, (.v (.mv (.t 25)))⟩, ⟨(some 28), none, (.v (.idx 1 (.t 23) (.t 25)))⟩, ⟨(some 29), none, (.v (.load 1 false (.t 28)))⟩, ⟨(some 8), none, (.v (.mv (.t 27)))⟩, ⟨(some 9), none, (.v (.mv (.t 29)))⟩]) (.seq (.ops [⟨(some 30), none, (.v (.mv (.t 9)))⟩, ⟨(some 31), none, (.v (.mv (.t 1)))⟩, ⟨(some 32), none, (.v (.bin .eql (.t 30) (.t 31)))⟩]) (.cond (.t 32) (.ops [⟨(some 33), none, (.v (.mv (.t 5)))⟩, ⟨(some 34), none, (.v (.mv (.t 6)))⟩, ⟨(some 35), none, (.v (.mv (.t 8)))⟩, ⟨(some 36), none, (.v (.build [(.int .i64 0), (.int .i64 0), (.int .i64 0)] [(0, (1, (.c (.int .i64 0)))), (1, (1, (.t 34))), (2, (1, (.t 35)))]))⟩, ⟨(some 37), none, (.e (.lit 37 43 3 1 [(.int .i64 0), (.int .i64 0), (.int .i64 0)] [(0, (.t 36))]))⟩, ⟨(some 38), none, (.e (.app 38 43 3 24 (.t 33) (.t 37)))⟩, ⟨(some 5), none, (.v (.mv (.t 38)))⟩]) .skip)))) (.ops [⟨(some 39), none, (.v (.bin .add (.t 25) (.c (.int .i64 1))))⟩, ⟨(some 25), none, (.v (.mv (.t 39)))⟩]))))
def a21_0 : AC := (.seq (.ops [⟨(some 18), none, (.v (.bin .lss (.t 17) (.t 16)))⟩]) (.seq (.cond (.t 18) .skip (.exit 0)) (.seq (.block 1 (.seq (.ops [⟨(some 19), none, (.v (.mv (.t 17)))⟩, ⟨(some 20), none, (.v (.idx 3 (.t 15) (.t 17)))⟩, ⟨(some 21), none, (.v (.load 3 true (.t 20)))⟩, ⟨(some 7), none, (.e (.alloc 7 [(.int .i64 0), (.int .u64 0), .cap0]))⟩, ⟨(some 6), none, (.v (.mv (.t 19)))⟩, ⟨none, none, (.e (.store 3 (.t 7) (.t 21)))⟩]) (.seq (.ops [⟨(some 22), none, (.v (.fld 2 (.t 7)))⟩, ⟨(some 23), none, (.v (.load 1 false (.t 22)))⟩, ⟨(some 24), none, (.v (.len (.t 23)))⟩, ⟨(some 25), none, (.v (.mv (.c (.int .i64 0))))⟩]) (.block 2 (.loop a21_1))))) (.ops [⟨(some 40), none, (.v (.bin .add (.t 17) (.c (.int .i64 1))))⟩, ⟨(some 17), none, (.v (.mv (.t 40)))⟩]))))
def a21_2 : AC := (.seq (.ops [⟨(some 45), none, (.v (.bin .lss (.t 44) (.t 43)))⟩]) (.seq (.cond (.t 45) .skip (.exit 4)) (.seq (.block 5 (.seq (.ops [⟨(some 46), none, (.v (.mv (.t 44)))⟩, ⟨(some 47), none, (.v (.idx 5 (.t 42) (.t 44)))⟩, ⟨(some 48), none, (.v (.load 5 true (.t 47)))⟩, ⟨(some 11), none, (.e (.alloc 11 [(.str ⟨#[]⟩), (.int .i64 0), (.int .i64 0), (.int .i64 0), (.bool false)]))⟩, ⟨(some 10), none, (.v (.mv (.t 46)))⟩, ⟨none, none, (.e (.store 5 (.t 11) (.t 48)))⟩]) (.seq (.seq (.ops [⟨(some 49), none, (.v (.fld 2 (.t 11)))⟩, ⟨(some 50), none, (.v (.load 1 false (.t 49)))⟩, ⟨(some 51), none, (.v (.mv (.t 1)))⟩, ⟨(some 52), none, (.v (.bin .eql (.t 50) (.t 51)))⟩]) (.cond (.t 52) (.ops [⟨(some 53), none, (.v (.mv (.t 5)))⟩, ⟨(some 54), none, (.v (.mv (.t 10)))⟩, ⟨(some 55), none, (.v (.build [(.int .i64 0), (.int .i64 0), (.int .i64 0)] [(0, (1, (.c (.int .i64 1)))), (1, (1, (.t 54)))]))⟩, ⟨(some 56), none, (.e (.lit 56 43 3 1 [(.int .i64 0), (.int .i64 0), (.int .i64 0)] [(0, (.t 55))]))⟩, ⟨(some 57), none, (.e (.app 57 43 3 24 (.t 53) (.t 56)))⟩, ⟨(some 5), none, (.v (.mv (.t 57)))⟩]) .skip)) (.seq (.ops [⟨(some 58), none, (.v (.fld 3 (.t 11)))⟩, ⟨(some 59), none, (.v (.load 1 false (.t 58)))⟩, ⟨(some 60), none, (.v (.mv (.t 1)))⟩, ⟨(some 61), none, (.v (.bin .eql (.t 59) (.t 60)))⟩]) (.cond (.t 61) (.ops [⟨(some 62), none, (.v (.mv (.t 5)))⟩, ⟨(some 63), none, (.v (.mv (.t 10)))⟩, ⟨(some 64), none, (.v (.build [(.int .i64 0), (.int .i64 0), (.int .i64 0)] [(0, (1, (.c (.int .i64 2)))), (1, (1, (.t 63)))]))⟩, ⟨(some 65), none, (.e (.lit 65 43 3 1 [(.int .i64 0), (.int .i64 0), (.int .i64 0)] [(0, (.t 64))]))⟩, ⟨(some 66), none, (.e (.app 66 43 3 24 (.t 62) (.t 65)))⟩, ⟨(some 5), none, (.v (.mv (.t 66)))⟩]) .skip))))) (.ops [⟨(some 67), none, (.v (.bin .add (.t 44) (.c (.int .i64 1))))⟩, ⟨(some 44), none, (.v (.mv (.t 67)))⟩]))))
def a21_3 : AC := (.seq (.ops [⟨(some 72), none, (.v (.bin .lss (.t 71) (.t 70)))⟩]) (.seq (.cond (.t 72) .skip (.exit 6)) (.seq (.block 7 (.seq (.ops [⟨(some 73), none, (.v (.mv (.t 71)))⟩, ⟨(some 74), none, (.v (.idx 1 (.t 69) (.t 71)))⟩, ⟨(some 75), none, (.v (.load 1 false (.t 74)))⟩, ⟨(some 12), none, (.v (.mv (.t 73)))⟩, ⟨(some 13), none, (.v (.mv (.t 75)))⟩]) (.seq (.ops [⟨(some 76), none, (.v (.mv (.t 13)))⟩, ⟨(some 77), none, (.v (.mv (.t 1)))⟩, ⟨(some 78), none, (.v (.bin .eql (.t 76) (.t 77)))⟩]) (.cond (.t 78) (.ops [⟨(some 79), none, (.v (.mv (.t 5)))⟩, ⟨(some 80), none, (.v (.mv (.t 12)))⟩, ⟨(some 81), none, (.v (.build [(.int .i64 0), (.int .i64 0), (.int .i64 0)] [(0, (1, (.c (.int .i64 3)))), (1, (1, (.t 80)))]))⟩, ⟨(some 82), none, (.e (.lit 82 43 3 1 [(.int .i64 0), (.int .i64 0), (.int .i64 0)] [(0, (.t 81))]))⟩, ⟨(some 83), none, (.e (.app 83 43 3 24 (.t 79) (.t 82)))⟩, ⟨(some 5), none, (.v (.mv (.t 83)))⟩]) .skip)))) (.ops [⟨(some 84), none, (.v (.bin .add (.t 71) (.c (.int .i64 1))))⟩, ⟨(some 71), none, (.v (.mv (.t 84)))⟩]))))
def a21 : AC := (.seq (.ops [⟨(some 2), none, (.e (.box 2 0 (.t 0)))⟩, ⟨(some 4), none, (.v (.mv (.c .cap0)))⟩]) (.seq (.ops [⟨(some 5), none, (.v (.mv (.c .cap0)))⟩]) (.seq (.seq (.ops [⟨(some 14), none, (.v (.fld 3 (.t 2)))⟩, ⟨(some 15), none, (.v (.load 1 false (.t 14)))⟩, ⟨(some 16), none, (.v (.len (.t 15)))⟩, ⟨(some 17), none, (.v (.mv (.c (.int .i64 0))))⟩]) (.block 0 (.loop a21_0))) (.seq (.seq (.ops [⟨(some 41), none, (.v (.fld 2 (.t 2)))⟩, ⟨(some 42), none, (.v (.load 1 false (.t 41)))⟩, ⟨(some 43), none, (.v (.len (.t 42)))⟩, ⟨(some 44), none, (.v (.mv (.c (.int .i64 0))))⟩]) (.block 4 (.loop a21_2))) (.seq (.seq (.ops [⟨(some 68), none, (.v (.fld 4 (.t 2)))⟩, ⟨(some 69), none, (.v (.load 1 false (.t 68)))⟩, ⟨(some 70), none, (.v (.len (.t 69)))⟩, ⟨(some 71), none, (.v (.mv (.c (.int .i64 0))))⟩]) (.block 6 (.loop a21_3))) (.seq (.ops [⟨(some 85), none, (.v (.mv (.t 5)))⟩, ⟨(some 4), none, (.v (.mv (.t 85)))⟩]) .ret))))))
def r21 : List AI := [(.mv (.t 4))]
theorem f21 : Fn PP 21 2 a21 r21 := Fn.of (fn := Go.Proofs.Try.f21) (by kernel_rfl) (by kernel_rfl) (by kernel_rfl)
theorem p20 {a : AV} {L : List LdV} (ha : FrL a L) (hL : L.length ≤ 16777216) {h2 : Nat → AV} (hh : ∀ j, j < L.length → h2 j = (L.getD j (0, 0, 0)).av) : Pure PP 20 [a, .fs L.length h2] fun r => r = .bool true := by
  refine Fn.pure fmix f20 ?_
  unfold a20 r20
  obtain ⟨rfl, rfl⟩ | ⟨f, rfl, hf⟩ := ha
  · simp -implicitDefEqProofs only [vq0, vq1, vq2, vq3, vq4, vq5, vq6, vq7, vq8, vq9, vqc, vqj, vqf, AI.val, EI.run, binI, kEq, env0, RetF, retL, retV, frzAL, part?, List.drop, List.take, List.all, List.length, List.map, List.append, List.nil_append, List.cons_append, List.append_nil, List.getD_cons_zero, List.getD_cons_succ, List.getD_nil, Option.map_some, Option.map_none, cond_true, cond_false, Nat.reduceEqDiff, Nat.reduceAdd, reduceIte, eq_self, IntKind.bits, litA, appSrc, frzV, frzL, mkElt, List.replicate, List.set, Nat.reduceLeDiff, Nat.reduceBEq, Nat.reduceLT, decide_true, decide_false, List.getElem?_cons_zero, List.getElem?_cons_succ, List.getElem?_nil, Nat.reduceSub, gt_iff_lt, ge_iff_le, Int.reduceLT, Int.reduceLE, Int.reduceEq, Int.cast_ofNat_Int, Int.reduceToNat, implies_true, forall_const, Nat.reduceMul, keyV, elN, eqCells, binS, Ret, newElt, fillA, bound, aidxV]
    refine vFor 0 (fun i e mm => e 12 = .int .i64 (0 : Nat) ∧ e 13 = .int .i64 i) ?_ ?_ ?_
    · simp -implicitDefEqProofs only [vq0, vq1, vq2, vq3, vq4, vq5, vq6, vq7, vq8, vq9, vqc, vqj, vqf, AI.val, EI.run, binI, kEq, env0, RetF, retL, retV, frzAL, part?, List.drop, List.take, List.all, List.length, List.map, List.append, List.nil_append, List.cons_append, List.append_nil, List.getD_cons_zero, List.getD_cons_succ, List.getD_nil, Option.map_some, Option.map_none, cond_true, cond_false, Nat.reduceEqDiff, Nat.reduceAdd, reduceIte, eq_self, IntKind.bits, litA, appSrc, frzV, frzL, mkElt, List.replicate, List.set, Nat.reduceLeDiff, Nat.reduceBEq, Nat.reduceLT, decide_true, decide_false, List.getElem?_cons_zero, List.getElem?_cons_succ, List.getElem?_nil, Nat.reduceSub, gt_iff_lt, ge_iff_le, Int.reduceLT, Int.reduceLE, Int.reduceEq, Int.cast_ofNat_Int, Int.reduceToNat, implies_true, forall_const, Nat.reduceMul, keyV, elN, eqCells, binS, Ret, newElt, fillA, bound, aidxV]
    · rintro i e mm hi; omega
    · rintro e mm ⟨h12, h13⟩
      unfold a20_0
      simp -implicitDefEqProofs only [vq0, vq1, vq2, vq3, vq4, vq5, vq6, vq7, vq8, vq9, vqc, vqj, vqf, AI.val, EI.run, binI, kEq, env0, RetF, retL, retV, frzAL, part?, List.drop, List.take, List.all, List.length, List.map, List.append, List.nil_append, List.cons_append, List.append_nil, List.getD_cons_zero, List.getD_cons_succ, List.getD_nil, Option.map_some, Option.map_none, cond_true, cond_false, Nat.reduceEqDiff, Nat.reduceAdd, reduceIte, eq_self, IntKind.bits, litA, appSrc, frzV, frzL, mkElt, List.replicate, List.set, Nat.reduceLeDiff, Nat.reduceBEq, Nat.reduceLT, decide_true, decide_false, List.getElem?_cons_zero, List.getElem?_cons_succ, List.getElem?_nil, Nat.reduceSub, gt_iff_lt, ge_iff_le, Int.reduceLT, Int.reduceLE, Int.reduceEq, Int.cast_ofNat_Int, Int.reduceToNat, implies_true, forall_const, Nat.reduceMul, keyV, elN, eqCells, binS, Ret, newElt, fillA, bound, aidxV, h12, h13]
  · simp -implicitDefEqProofs only [vq0, vq1, vq2, vq3, vq4, vq5, vq6, vq7, vq8, vq9, vqc, vqj, vqf, AI.val, EI.run, binI, kEq, env0, RetF, retL, retV, frzAL, part?, List.drop, List.take, List.all, List.length, List.map, List.append, List.nil_append, List.cons_append, List.append_nil, List.getD_cons_zero, List.getD_cons_succ, List.getD_nil, Option.map_some, Option.map_none, cond_true, cond_false, Nat.reduceEqDiff, Nat.reduceAdd, reduceIte, eq_self, IntKind.bits, litA, appSrc, frzV, frzL, mkElt, List.replicate, List.set, Nat.reduceLeDiff, Nat.reduceBEq, Nat.reduceLT, decide_true, decide_false, List.getElem?_cons_zero, List.getElem?_cons_succ, List.getElem?_nil, Nat.reduceSub, gt_iff_lt, ge_iff_le, Int.reduceLT, Int.reduceLE, Int.reduceEq, Int.cast_ofNat_Int, Int.reduceToNat, implies_true, forall_const, Nat.reduceMul, keyV, elN, eqCells, binS, Ret, newElt, fillA, bound, aidxV]
    refine vFor L.length (fun i e mm => e 0 = .fs L.length f ∧ e 1 = .fs L.length h2 ∧ e 12 = .int .i64 L.length ∧ e 13 = .int .i64 i) ?_ ?_ ?_
    · simp -implicitDefEqProofs only [vq0, vq1, vq2, vq3, vq4, vq5, vq6, vq7, vq8, vq9, vqc, vqj, vqf, AI.val, EI.run, binI, kEq, env0, RetF, retL, retV, frzAL, part?, List.drop, List.take, List.all, List.length, List.map, List.append, List.nil_append, List.cons_append, List.append_nil, List.getD_cons_zero, List.getD_cons_succ, List.getD_nil, Option.map_some, Option.map_none, cond_true, cond_false, Nat.reduceEqDiff, Nat.reduceAdd, reduceIte, eq_self, IntKind.bits, litA, appSrc, frzV, frzL, mkElt, List.replicate, List.set, Nat.reduceLeDiff, Nat.reduceBEq, Nat.reduceLT, decide_true, decide_false, List.getElem?_cons_zero, List.getElem?_cons_succ, List.getElem?_nil, Nat.reduceSub, gt_iff_lt, ge_iff_le, Int.reduceLT, Int.reduceLE, Int.reduceEq, Int.cast_ofNat_Int, Int.reduceToNat, implies_true, forall_const, Nat.reduceMul, keyV, elN, eqCells, binS, Ret, newElt, fillA, bound, aidxV]
    · rintro i e mm hi hi' ⟨h0, h1, h12, h13⟩
      unfold a20_0
      simp -implicitDefEqProofs only [vq0, vq1, vq2, vq3, vq4, vq5, vq6, vq7, vq8, vq9, vqc, vqj, vqf, AI.val, EI.run, binI, kEq, env0, RetF, retL, retV, frzAL, part?, List.drop, List.take, List.all, List.length, List.map, List.append, List.nil_append, List.cons_append, List.append_nil, List.getD_cons_zero, List.getD_cons_succ, List.getD_nil, Option.map_some, Option.map_none, cond_true, cond_false, Nat.reduceEqDiff, Nat.reduceAdd, reduceIte, eq_self, IntKind.bits, litA, appSrc, frzV, frzL, mkElt, List.replicate, List.set, Nat.reduceLeDiff, Nat.reduceBEq, Nat.reduceLT, decide_true, decide_false, List.getElem?_cons_zero, List.getElem?_cons_succ, List.getElem?_nil, Nat.reduceSub, gt_iff_lt, ge_iff_le, Int.reduceLT, Int.reduceLE, Int.reduceEq, Int.cast_ofNat_Int, Int.reduceToNat, implies_true, forall_const, Nat.reduceMul, keyV, elN, eqCells, binS, Ret, newElt, fillA, bound, aidxV, h0, h1, h12, h13, hi']
      refine vAny [0, 1, 2, 3, 4, 5, 6, 7, 8] 9 allL (by kernel_rfl) (by kernel_rfl) ?_
      simp -implicitDefEqProofs only [vq0, vq1, vq2, vq3, vq4, vq5, vq6, vq7, vq8, vq9, vqc, vqj, vqf, AI.val, EI.run, binI, kEq, env0, RetF, retL, retV, frzAL, part?, List.drop, List.take, List.all, List.length, List.map, List.append, List.nil_append, List.cons_append, List.append_nil, List.getD_cons_zero, List.getD_cons_succ, List.getD_nil, Option.map_some, Option.map_none, cond_true, cond_false, Nat.reduceEqDiff, Nat.reduceAdd, reduceIte, eq_self, IntKind.bits, litA, appSrc, frzV, frzL, mkElt, List.replicate, List.set, Nat.reduceLeDiff, Nat.reduceBEq, Nat.reduceLT, decide_true, decide_false, List.getElem?_cons_zero, List.getElem?_cons_succ, List.getElem?_nil, Nat.reduceSub, gt_iff_lt, ge_iff_le, Int.reduceLT, Int.reduceLE, Int.reduceEq, Int.cast_ofNat_Int, Int.reduceToNat, implies_true, forall_const, Nat.reduceMul, keyV, elN, binS, Ret, newElt, fillA, bound, aidxV, h0, h1, h12, h13, hf i hi, hh i hi, LdV.av]
      simp only [eqCells, kEq, cond_true, Option.map_some, beq_self_eq_true, Bool.and_self, Bool.true_and, vq0, vq1, vq2, vq3, vq4, vq5, vq6, vq7, vq8, vq9, vqc, vqj, vqf, AI.val, EI.run, binI, kEq, env0, RetF, retL, retV, frzAL, part?, List.drop, List.take, List.all, List.length, List.map, List.append, List.nil_append, List.cons_append, List.append_nil, List.getD_cons_zero, List.getD_cons_succ, List.getD_nil, Option.map_some, Option.map_none, cond_true, cond_false, Nat.reduceEqDiff, Nat.reduceAdd, reduceIte, eq_self, IntKind.bits, litA, appSrc, frzV, frzL, mkElt, List.replicate, List.set, Nat.reduceLeDiff, Nat.reduceBEq, Nat.reduceLT, decide_true, decide_false, List.getElem?_cons_zero, List.getElem?_cons_succ, List.getElem?_nil, Nat.reduceSub, gt_iff_lt, ge_iff_le, Int.reduceLT, Int.reduceLE, Int.reduceEq, Int.cast_ofNat_Int, Int.reduceToNat, implies_true, forall_const, Nat.reduceMul, keyV, elN, binS, Ret, newElt, fillA, bound, aidxV, h0, h1, h12, h13]
      exact ⟨by omega, by omega, hi, wI (by omega) (by omega)⟩
    · rintro e mm ⟨h0, h1, h12, h13⟩
      unfold a20_0
      simp -implicitDefEqProofs only [vq0, vq1, vq2, vq3, vq4, vq5, vq6, vq7, vq8, vq9, vqc, vqj, vqf, AI.val, EI.run, binI, kEq, env0, RetF, retL, retV, frzAL, part?, List.drop, List.take, List.all, List.length, List.map, List.append, List.nil_append, List.cons_append, List.append_nil, List.getD_cons_zero, List.getD_cons_succ, List.getD_nil, Option.map_some, Option.map_none, cond_true, cond_false, Nat.reduceEqDiff, Nat.reduceAdd, reduceIte, eq_self, IntKind.bits, litA, appSrc, frzV, frzL, mkElt, List.replicate, List.set, Nat.reduceLeDiff, Nat.reduceBEq, Nat.reduceLT, decide_true, decide_false, List.getElem?_cons_zero, List.getElem?_cons_succ, List.getElem?_nil, Nat.reduceSub, gt_iff_lt, ge_iff_le, Int.reduceLT, Int.reduceLE, Int.reduceEq, Int.cast_ofNat_Int, Int.reduceToNat, implies_true, forall_const, Nat.reduceMul, keyV, elN, eqCells, binS, Ret, newElt, fillA, bound, aidxV, h0, h1, h12, h13]

/-- What is gathered: a list of loads. -/
def AccU (S : List Nat) (L : List LdV) (v : AV) (m : Mem) : Prop := (L = [] ∧ v = .cap0) ∨ ∃ s ver g, s ∈ S ∧ v = .sl s ver L.length ∧ m s = .row ver 43 3 L.length g ∧ ∀ j, j < L.length → g j = (L.getD j (0, 0, 0)).av
theorem AccU.keep {S : List Nat} {L : List LdV} {v : AV} {m m' : Mem} (h : AccU S L v m) (hm : ∀ s, s ∈ S → m' s = m s) : AccU S L v m' := by
  obtain h | ⟨s, ver, g, h1, h2, h3, h4⟩ := h
  · exact .inl h
  · exact .inr ⟨s, ver, g, h1, h2, (hm s h1).trans h3, h4⟩
theorem AccU.first {S : List Nat} {s V : Nat} {x : LdV} {m : Mem} {a : AV} (hs : s ∈ S) (ha : a = x.av) : AccU S [x] (.sl s V 1) (Mem.set s (.row V 43 3 1 fun k => [a].getD k .undef) m) := by
  subst ha
  refine .inr ⟨s, V, _, hs, rfl, set_same _ _ _, fun j hj => ?_⟩
  obtain rfl : j = 0 := by simpa using hj
  rfl
theorem AccU.push {S : List Nat} {s V : Nat} {L : List LdV} {x : LdV} {m : Mem} {a : AV} {g : Nat → AV} (hs : s ∈ S) (ha : a = x.av) (hg : ∀ j, j < L.length → g j = (L.getD j (0, 0, 0)).av) : AccU S (L ++ [x]) (.sl s V (L.length + 1)) (Mem.set s (.row V 43 3 (L.length + 1) fun k => bif decide (k < L.length) then g k else [a].getD (k - L.length) .undef) m) := by
  subst ha
  have hll : (L ++ [x]).length = L.length + 1 := by simp
  refine .inr ⟨s, V, _, hs, by rw [hll], by rw [hll]; exact set_same _ _ _, fun j hj => ?_⟩
  rw [hll] at hj
  by_cases ej : j < L.length
  · simp only [ej, decide_true, cond_true]
    rw [hg j ej, List.getD_eq_getElem?_getD, List.getD_eq_getElem?_getD, List.getElem?_append_left ej]
  · obtain rfl : j = L.length := by omega
    simp only [Nat.lt_irrefl, decide_false, cond_false, Nat.sub_self, List.getD_cons_zero]
    rw [List.getD_eq_getElem?_getD, List.getElem?_append_right (Nat.le_refl _)]
    simp
theorem AccU.push2 {S : List Nat} {s V : Nat} {L : List LdV} {x y : LdV} {m : Mem} {a b : AV} {g : Nat → AV} (hs : s ∈ S) (ha : a = x.av) (hb : b = y.av) (hg : ∀ j, j < L.length → g j = (L.getD j (0, 0, 0)).av) : AccU S (L ++ [x] ++ [y]) (.sl s V (L.length + 1 + 1)) (Mem.set s (.row V 43 3 (L.length + 1 + 1) fun k => bif decide (k < L.length + 1) then bif decide (k < L.length) then g k else [a].getD (k - L.length) .undef else [b].getD (k - (L.length + 1)) .undef) m) := by
  have h1 := AccU.push (m := m) (V := V) hs ha hg
  have hll : (L ++ [x]).length = L.length + 1 := by simp
  obtain ⟨h, _⟩ | ⟨s', ver, g', e1, e2, e3, e4⟩ := h1
  · simp at h
  · rw [hll] at e2 e3 e4
    cases e2
    rw [set_same] at e3
    cases e3
    rw [← hll] at e4
    have h2 := AccU.push (m := m) (V := V) (x := y) hs hb e4
    rw [hll] at h2
    exact h2
theorem selU_le (U : List (Nat × LdV)) (k : Nat) : (selU U k).length ≤ U.length := by
  unfold selU; rw [List.length_map]; exact List.length_filter_le _ _

theorem p21 {N : Net} {cs : List AV} (hN : NetC cs N) (gd : N.Good) (q : Nat) (hq : q < N.nets) : Pure PP 21 [.agg cs, .int .i64 q] fun r => ∃ h, r = .fs (selU (oU N N.nk) q).length h ∧ ∀ j, j < (selU (oU N N.nk) q).length → h j = ((selU (oU N N.nk) q).getD j (0, 0, 0)).av := by
  obtain ⟨f0, f1, f2, f3, f4, rfl, g0, g1, g2, g3, g4⟩ := hN
  refine Fn.pure fmix f21 ?_
  unfold a21 r21
  simp -implicitDefEqProofs only [vq0, vq1, vq2, vq3, vq4, vq5, vq6, vq7, vq8, vq9, vqc, vqj, vqf, AI.val, EI.run, binI, kEq, env0, RetF, retL, retV, frzAL, part?, List.drop, List.take, List.all, List.length, List.map, List.append, List.nil_append, List.cons_append, List.append_nil, List.getD_cons_zero, List.getD_cons_succ, List.getD_nil, Option.map_some, Option.map_none, cond_true, cond_false, Nat.reduceEqDiff, Nat.reduceAdd, reduceIte, eq_self, IntKind.bits, litA, appSrc, frzV, frzL, mkElt, List.replicate, List.set, Nat.reduceLeDiff, Nat.reduceBEq, Nat.reduceLT, decide_true, decide_false, List.getElem?_cons_zero, List.getElem?_cons_succ, List.getElem?_nil, Nat.reduceSub, gt_iff_lt, ge_iff_le, Int.reduceLT, Int.reduceLE, Int.reduceEq, Int.cast_ofNat_Int, Int.reduceToNat, implies_true, forall_const, Nat.reduceMul, keyV, elN, eqCells, binS, Ret, newElt, fillA, bound, aidxV]
  generalize (mem0 2).ver + 1 = V2
  have hng := gd.ng
  have hnf := gd.nf
  have hno := gd.no
  have hnk := gd.nk
  have SS : ∀ s, s ∈ [38, 57, 66, 83] → s ≠ 37 ∧ s ≠ 56 ∧ s ≠ 65 ∧ s ≠ 82 ∧ s ≠ 2 ∧ s ≠ 7 ∧ s ≠ 11 ∧ 2 ≠ s ∧ 7 ≠ s ∧ 11 ≠ s := by intro s hs; simp only [List.mem_cons, List.not_mem_nil, or_false] at hs; omega
  refine vFor N.ng (fun i e m => e 1 = .int .i64 q ∧ e 2 = .ptr 2 V2 0 ∧ m 2 = .var V2 [.fs N.ni f0, .fs N.no f1, .fs N.nf f2, .fs N.ng f3, .fs N.nk f4] ∧ e 15 = .fs N.ng f3 ∧ e 16 = .int .i64 N.ng ∧ e 17 = .int .i64 i ∧ AccU [38, 57, 66, 83] (selU (gU N i) q) (e 5) m) ?_ ?_ ?_
  · simp -implicitDefEqProofs only [vq0, vq1, vq2, vq3, vq4, vq5, vq6, vq7, vq8, vq9, vqc, vqj, vqf, AI.val, EI.run, binI, kEq, env0, RetF, retL, retV, frzAL, part?, List.drop, List.take, List.all, List.length, List.map, List.append, List.nil_append, List.cons_append, List.append_nil, List.getD_cons_zero, List.getD_cons_succ, List.getD_nil, Option.map_some, Option.map_none, cond_true, cond_false, Nat.reduceEqDiff, Nat.reduceAdd, reduceIte, eq_self, IntKind.bits, litA, appSrc, frzV, frzL, mkElt, List.replicate, List.set, Nat.reduceLeDiff, Nat.reduceBEq, Nat.reduceLT, decide_true, decide_false, List.getElem?_cons_zero, List.getElem?_cons_succ, List.getElem?_nil, Nat.reduceSub, gt_iff_lt, ge_iff_le, Int.reduceLT, Int.reduceLE, Int.reduceEq, Int.cast_ofNat_Int, Int.reduceToNat, implies_true, forall_const, Nat.reduceMul, keyV, elN, eqCells, binS, Ret, newElt, fillA, bound, aidxV]
    exact .inl ⟨rfl, rfl⟩
  · rintro i e m hi hi' ⟨h1, h2, m2, h15, h16, h17, hA⟩
    obtain ⟨fi, ei, hfi⟩ := g3 i hi
    have hin := (gd.ins i hi).1
    unfold a21_0
    simp -implicitDefEqProofs only [vq0, vq1, vq2, vq3, vq4, vq5, vq6, vq7, vq8, vq9, vqc, vqj, vqf, AI.val, EI.run, binI, kEq, env0, RetF, retL, retV, frzAL, part?, List.drop, List.take, List.all, List.length, List.map, List.append, List.nil_append, List.cons_append, List.append_nil, List.getD_cons_zero, List.getD_cons_succ, List.getD_nil, Option.map_some, Option.map_none, cond_true, cond_false, Nat.reduceEqDiff, Nat.reduceAdd, reduceIte, eq_self, IntKind.bits, litA, appSrc, frzV, frzL, mkElt, List.replicate, List.set, Nat.reduceLeDiff, Nat.reduceBEq, Nat.reduceLT, decide_true, decide_false, List.getElem?_cons_zero, List.getElem?_cons_succ, List.getElem?_nil, Nat.reduceSub, gt_iff_lt, ge_iff_le, Int.reduceLT, Int.reduceLE, Int.reduceEq, Int.cast_ofNat_Int, Int.reduceToNat, implies_true, forall_const, Nat.reduceMul, keyV, elN, eqCells, binS, Ret, newElt, fillA, bound, aidxV, h1, h2, m2, h15, h16, h17, hi', ei]
    refine ⟨by omega, ?_⟩
    generalize (m 7).ver + 1 = V7
    refine vFor (N.gate i).n (fun k e m => e 1 = .int .i64 q ∧ e 2 = .ptr 2 V2 0 ∧ m 2 = .var V2 [.fs N.ni f0, .fs N.no f1, .fs N.nf f2, .fs N.ng f3, .fs N.nk f4] ∧ e 6 = .int .i64 i ∧ e 15 = .fs N.ng f3 ∧ e 16 = .int .i64 N.ng ∧ e 17 = .int .i64 i ∧ e 23 = .fs (N.gate i).n fi ∧ e 24 = .int .i64 (N.gate i).n ∧ e 25 = .int .i64 k ∧ AccU [38, 57, 66, 83] (selU (gU N i ++ pU N i k) q) (e 5) m) ?_ ?_ ?_
    · simp -implicitDefEqProofs only [vq0, vq1, vq2, vq3, vq4, vq5, vq6, vq7, vq8, vq9, vqc, vqj, vqf, AI.val, EI.run, binI, kEq, env0, RetF, retL, retV, frzAL, part?, List.drop, List.take, List.all, List.length, List.map, List.append, List.nil_append, List.cons_append, List.append_nil, List.getD_cons_zero, List.getD_cons_succ, List.getD_nil, Option.map_some, Option.map_none, cond_true, cond_false, Nat.reduceEqDiff, Nat.reduceAdd, reduceIte, eq_self, IntKind.bits, litA, appSrc, frzV, frzL, mkElt, List.replicate, List.set, Nat.reduceLeDiff, Nat.reduceBEq, Nat.reduceLT, decide_true, decide_false, List.getElem?_cons_zero, List.getElem?_cons_succ, List.getElem?_nil, Nat.reduceSub, gt_iff_lt, ge_iff_le, Int.reduceLT, Int.reduceLE, Int.reduceEq, Int.cast_ofNat_Int, Int.reduceToNat, implies_true, forall_const, Nat.reduceMul, keyV, elN, eqCells, binS, Ret, newElt, fillA, bound, aidxV, h1, h2, m2, h15, h16, h17, pU, List.append_nil]
      exact hA.keep fun s hs => by have := SS s hs; rw [set_ne this.2.2.2.2.2.1, set_ne this.2.2.2.2.2.1]
    · rintro k e m hk hk' ⟨h1, h2, m2, h6, h15, h16, h17, h23, h24, h25, hA⟩
      have hins := (gd.ins i hi).2.2 k hk
      have hfk := hfi k hk
      unfold a21_1
      simp -implicitDefEqProofs only [vq0, vq1, vq2, vq3, vq4, vq5, vq6, vq7, vq8, vq9, vqc, vqj, vqf, AI.val, EI.run, binI, kEq, env0, RetF, retL, retV, frzAL, part?, List.drop, List.take, List.all, List.length, List.map, List.append, List.nil_append, List.cons_append, List.append_nil, List.getD_cons_zero, List.getD_cons_succ, List.getD_nil, Option.map_some, Option.map_none, cond_true, cond_false, Nat.reduceEqDiff, Nat.reduceAdd, reduceIte, eq_self, IntKind.bits, litA, appSrc, frzV, frzL, mkElt, List.replicate, List.set, Nat.reduceLeDiff, Nat.reduceBEq, Nat.reduceLT, decide_true, decide_false, List.getElem?_cons_zero, List.getElem?_cons_succ, List.getElem?_nil, Nat.reduceSub, gt_iff_lt, ge_iff_le, Int.reduceLT, Int.reduceLE, Int.reduceEq, Int.cast_ofNat_Int, Int.reduceToNat, implies_true, forall_const, Nat.reduceMul, keyV, elN, eqCells, binS, Ret, newElt, fillA, bound, aidxV, h1, h2, m2, h6, h15, h16, h17, h23, h24, h25, hk', hfk]
      refine ⟨by omega, ?_⟩
      by_cases hy : (N.gate i).ins k = q
      · have hb : ((N.gate i).ins k == (q : Int)) = true := by simpa using hy
        have hl : (selU (gU N i ++ pU N i k) q).length ≤ 1048576 := by
          have h1 := selU_le (gU N i ++ pU N i k) q
          have h2 := gU_len gd i (by omega)
          rw [List.length_append, pU_len] at h1
          omega
        have eU : selU (gU N i ++ pU N i (k + 1)) q = selU (gU N i ++ pU N i k) q ++ [(0, (i : Int), (k : Int))] := by
          have : ((N.gate i).ins k).toNat = q := by omega
          rw [pU, this, ← List.append_assoc, selU_same]
        generalize selU (gU N i ++ pU N i k) q = L at *
        obtain ⟨rfl, h5⟩ | ⟨s, ver, g, hs, h5, hm, hg⟩ := hA
        · simp -implicitDefEqProofs only [vq0, vq1, vq2, vq3, vq4, vq5, vq6, vq7, vq8, vq9, vqc, vqj, vqf, AI.val, EI.run, binI, kEq, env0, RetF, retL, retV, frzAL, part?, List.drop, List.take, List.all, List.length, List.map, List.append, List.nil_append, List.cons_append, List.append_nil, List.getD_cons_zero, List.getD_cons_succ, List.getD_nil, Option.map_some, Option.map_none, cond_true, cond_false, Nat.reduceEqDiff, Nat.reduceAdd, reduceIte, eq_self, IntKind.bits, litA, appSrc, frzV, frzL, mkElt, List.replicate, List.set, Nat.reduceLeDiff, Nat.reduceBEq, Nat.reduceLT, decide_true, decide_false, List.getElem?_cons_zero, List.getElem?_cons_succ, List.getElem?_nil, Nat.reduceSub, gt_iff_lt, ge_iff_le, Int.reduceLT, Int.reduceLE, Int.reduceEq, Int.cast_ofNat_Int, Int.reduceToNat, implies_true, forall_const, Nat.reduceMul, keyV, elN, eqCells, binS, Ret, newElt, fillA, bound, aidxV, h1, h2, m2, h6, h15, h16, h17, h23, h24, h25, h5, hb]
          refine ⟨fun _ => ?_, fun h => absurd hy h⟩
          rw [eU]
          exact ⟨hk, wI (by omega) (by omega), AccU.first (by decide) rfl⟩
        · obtain ⟨s37, s56, s65, s82, s2, s7, s11, z2, z7, z11⟩ := SS s hs
          simp -implicitDefEqProofs only [vq0, vq1, vq2, vq3, vq4, vq5, vq6, vq7, vq8, vq9, vqc, vqj, vqf, AI.val, EI.run, binI, kEq, env0, RetF, retL, retV, frzAL, part?, List.drop, List.take, List.all, List.length, List.map, List.append, List.nil_append, List.cons_append, List.append_nil, List.getD_cons_zero, List.getD_cons_succ, List.getD_nil, Option.map_some, Option.map_none, cond_true, cond_false, Nat.reduceEqDiff, Nat.reduceAdd, reduceIte, eq_self, IntKind.bits, litA, appSrc, frzV, frzL, mkElt, List.replicate, List.set, Nat.reduceLeDiff, Nat.reduceBEq, Nat.reduceLT, decide_true, decide_false, List.getElem?_cons_zero, List.getElem?_cons_succ, List.getElem?_nil, Nat.reduceSub, gt_iff_lt, ge_iff_le, Int.reduceLT, Int.reduceLE, Int.reduceEq, Int.cast_ofNat_Int, Int.reduceToNat, implies_true, forall_const, Nat.reduceMul, keyV, elN, eqCells, binS, Ret, newElt, fillA, bound, aidxV, h1, h2, m2, h6, h15, h16, h17, h23, h24, h25, h5, hb, hm, s37, z2, z7, z11]
          refine ⟨fun _ => ?_, fun h => absurd hy h⟩
          rw [eU]
          exact ⟨by omega, hk, wI (by omega) (by omega), AccU.push hs rfl hg⟩
      · have hb : ((N.gate i).ins k == (q : Int)) = false := by simpa using hy
        have eU : selU (gU N i ++ pU N i (k + 1)) q = selU (gU N i ++ pU N i k) q := by
          have : ((N.gate i).ins k).toNat ≠ q := by omega
          rw [pU, ← List.append_assoc, selU_other _ this]
        simp -implicitDefEqProofs only [vq0, vq1, vq2, vq3, vq4, vq5, vq6, vq7, vq8, vq9, vqc, vqj, vqf, AI.val, EI.run, binI, kEq, env0, RetF, retL, retV, frzAL, part?, List.drop, List.take, List.all, List.length, List.map, List.append, List.nil_append, List.cons_append, List.append_nil, List.getD_cons_zero, List.getD_cons_succ, List.getD_nil, Option.map_some, Option.map_none, cond_true, cond_false, Nat.reduceEqDiff, Nat.reduceAdd, reduceIte, eq_self, IntKind.bits, litA, appSrc, frzV, frzL, mkElt, List.replicate, List.set, Nat.reduceLeDiff, Nat.reduceBEq, Nat.reduceLT, decide_true, decide_false, List.getElem?_cons_zero, List.getElem?_cons_succ, List.getElem?_nil, Nat.reduceSub, gt_iff_lt, ge_iff_le, Int.reduceLT, Int.reduceLE, Int.reduceEq, Int.cast_ofNat_Int, Int.reduceToNat, implies_true, forall_const, Nat.reduceMul, keyV, elN, eqCells, binS, Ret, newElt, fillA, bound, aidxV, h1, h2, m2, h6, h15, h16, h17, h23, h24, h25, hb, eU]
        exact ⟨fun h => absurd h hy, fun _ => ⟨hk, wI (by omega) (by omega), hA⟩⟩
    · rintro e m ⟨h1, h2, m2, h6, h15, h16, h17, h23, h24, h25, hA⟩
      unfold a21_1
      simp -implicitDefEqProofs only [vq0, vq1, vq2, vq3, vq4, vq5, vq6, vq7, vq8, vq9, vqc, vqj, vqf, AI.val, EI.run, binI, kEq, env0, RetF, retL, retV, frzAL, part?, List.drop, List.take, List.all, List.length, List.map, List.append, List.nil_append, List.cons_append, List.append_nil, List.getD_cons_zero, List.getD_cons_succ, List.getD_nil, Option.map_some, Option.map_none, cond_true, cond_false, Nat.reduceEqDiff, Nat.reduceAdd, reduceIte, eq_self, IntKind.bits, litA, appSrc, frzV, frzL, mkElt, List.replicate, List.set, Nat.reduceLeDiff, Nat.reduceBEq, Nat.reduceLT, decide_true, decide_false, List.getElem?_cons_zero, List.getElem?_cons_succ, List.getElem?_nil, Nat.reduceSub, gt_iff_lt, ge_iff_le, Int.reduceLT, Int.reduceLE, Int.reduceEq, Int.cast_ofNat_Int, Int.reduceToNat, implies_true, forall_const, Nat.reduceMul, keyV, elN, eqCells, binS, Ret, newElt, fillA, bound, aidxV, h1, h2, m2, h6, h15, h16, h17, h23, h24, h25]
      exact ⟨hi, wI (by omega) (by omega), hA⟩
  · rintro e m ⟨h1, h2, m2, h15, h16, h17, hA⟩
    unfold a21_0
    simp -implicitDefEqProofs only [vq0, vq1, vq2, vq3, vq4, vq5, vq6, vq7, vq8, vq9, vqc, vqj, vqf, AI.val, EI.run, binI, kEq, env0, RetF, retL, retV, frzAL, part?, List.drop, List.take, List.all, List.length, List.map, List.append, List.nil_append, List.cons_append, List.append_nil, List.getD_cons_zero, List.getD_cons_succ, List.getD_nil, Option.map_some, Option.map_none, cond_true, cond_false, Nat.reduceEqDiff, Nat.reduceAdd, reduceIte, eq_self, IntKind.bits, litA, appSrc, frzV, frzL, mkElt, List.replicate, List.set, Nat.reduceLeDiff, Nat.reduceBEq, Nat.reduceLT, decide_true, decide_false, List.getElem?_cons_zero, List.getElem?_cons_succ, List.getElem?_nil, Nat.reduceSub, gt_iff_lt, ge_iff_le, Int.reduceLT, Int.reduceLE, Int.reduceEq, Int.cast_ofNat_Int, Int.reduceToNat, implies_true, forall_const, Nat.reduceMul, keyV, elN, eqCells, binS, Ret, newElt, fillA, bound, aidxV, h1, h2, m2, h15, h16, h17]
    have hlF := fU_len gd
    have hlO := oU_len gd
    refine vFor N.nf (fun i e m => e 1 = .int .i64 q ∧ e 2 = .ptr 2 V2 0 ∧ m 2 = .var V2 [.fs N.ni f0, .fs N.no f1, .fs N.nf f2, .fs N.ng f3, .fs N.nk f4] ∧ e 42 = .fs N.nf f2 ∧ e 43 = .int .i64 N.nf ∧ e 44 = .int .i64 i ∧ AccU [38, 57, 66, 83] (selU (fU N i) q) (e 5) m) ?_ ?_ ?_
    · simp -implicitDefEqProofs only [vq0, vq1, vq2, vq3, vq4, vq5, vq6, vq7, vq8, vq9, vqc, vqj, vqf, AI.val, EI.run, binI, kEq, env0, RetF, retL, retV, frzAL, part?, List.drop, List.take, List.all, List.length, List.map, List.append, List.nil_append, List.cons_append, List.append_nil, List.getD_cons_zero, List.getD_cons_succ, List.getD_nil, Option.map_some, Option.map_none, cond_true, cond_false, Nat.reduceEqDiff, Nat.reduceAdd, reduceIte, eq_self, IntKind.bits, litA, appSrc, frzV, frzL, mkElt, List.replicate, List.set, Nat.reduceLeDiff, Nat.reduceBEq, Nat.reduceLT, decide_true, decide_false, List.getElem?_cons_zero, List.getElem?_cons_succ, List.getElem?_nil, Nat.reduceSub, gt_iff_lt, ge_iff_le, Int.reduceLT, Int.reduceLE, Int.reduceEq, Int.cast_ofNat_Int, Int.reduceToNat, implies_true, forall_const, Nat.reduceMul, keyV, elN, eqCells, binS, Ret, newElt, fillA, bound, aidxV, h1, h2, m2, fU]
      exact hA
    · rintro i e m hi hi' ⟨h1, h2, m2, h42, h43, h44, hA⟩
      have hfi := g2 i hi
      obtain ⟨⟨d0, d1⟩, n0, n1⟩ := gd.flops i hi
      have hl : (selU (fU N i) q).length ≤ 1048576 := by
        have h1 := selU_le (fU N i) q
        have h2 := hlF i
        omega
      have eD : selU (fU N i ++ [((N.flop i).d.toNat, ((1, (i : Int), 0) : LdV))]) q = if (N.flop i).d = q then selU (fU N i) q ++ [(1, (i : Int), 0)] else selU (fU N i) q := by
        by_cases h : (N.flop i).d = q
        · have : (N.flop i).d.toNat = q := by omega
          rw [if_pos h, this, selU_same]
        · have : (N.flop i).d.toNat ≠ q := by omega
          rw [if_neg h, selU_other _ this]
      have eU : selU (fU N (i + 1)) q = if (N.flop i).en = q then selU (fU N i ++ [((N.flop i).d.toNat, ((1, (i : Int), 0) : LdV))]) q ++ [(2, (i : Int), 0)] else selU (fU N i ++ [((N.flop i).d.toNat, ((1, (i : Int), 0) : LdV))]) q := by
        by_cases h : (N.flop i).en = q
        · have : (N.flop i).en.toNat = q := by omega
          rw [fU, if_pos h, this, selU_same]
        · have : (N.flop i).en.toNat ≠ q := by omega
          rw [fU, if_neg h, selU_other _ this]
      rw [eD] at eU
      generalize selU (fU N i) q = L at *
      unfold a21_2
      obtain ⟨rfl, h5⟩ | ⟨s, ver, g, hs, h5, hm, hg⟩ := hA
      · simp -implicitDefEqProofs only [vq0, vq1, vq2, vq3, vq4, vq5, vq6, vq7, vq8, vq9, vqc, vqj, vqf, AI.val, EI.run, binI, kEq, env0, RetF, retL, retV, frzAL, part?, List.drop, List.take, List.all, List.length, List.map, List.append, List.nil_append, List.cons_append, List.append_nil, List.getD_cons_zero, List.getD_cons_succ, List.getD_nil, Option.map_some, Option.map_none, cond_true, cond_false, Nat.reduceEqDiff, Nat.reduceAdd, reduceIte, eq_self, IntKind.bits, litA, appSrc, frzV, frzL, mkElt, List.replicate, List.set, Nat.reduceLeDiff, Nat.reduceBEq, Nat.reduceLT, decide_true, decide_false, List.getElem?_cons_zero, List.getElem?_cons_succ, List.getElem?_nil, Nat.reduceSub, gt_iff_lt, ge_iff_le, Int.reduceLT, Int.reduceLE, Int.reduceEq, Int.cast_ofNat_Int, Int.reduceToNat, implies_true, forall_const, Nat.reduceMul, keyV, elN, eqCells, binS, Ret, newElt, fillA, bound, aidxV, h1, h2, m2, h42, h43, h44, hi', hfi, FlopV.av, h5]
        refine ⟨by omega, ?_⟩
        generalize (m 11).ver + 1 = V11
        refine ⟨fun hd => ⟨fun he => ?_, fun he => ?_⟩, fun hd => ⟨fun he => ?_, fun he => ?_⟩⟩
        all_goals (simp only [hd, he, if_true, if_false] at eU; rw [eU])
        · exact ⟨hi, wI (by omega) (by omega), AccU.push (L := [((1, (i : Int), 0) : LdV)]) (s := 57) (g := fun k => [AV.agg [.int .i64 1, .int .i64 i, .int .i64 0]].getD k .undef) (by decide) rfl (fun j hj => by
            obtain rfl : j = 0 := by simpa using hj
            rfl)⟩
        · exact ⟨hi, wI (by omega) (by omega), AccU.first (by decide) rfl⟩
        · exact ⟨hi, wI (by omega) (by omega), AccU.first (by decide) rfl⟩
        · exact ⟨hi, wI (by omega) (by omega), .inl ⟨rfl, rfl⟩⟩
      · obtain ⟨s37, s56, s65, s82, s2, s7, s11, z2, z7, z11⟩ := SS s hs
        simp -implicitDefEqProofs only [vq0, vq1, vq2, vq3, vq4, vq5, vq6, vq7, vq8, vq9, vqc, vqj, vqf, AI.val, EI.run, binI, kEq, env0, RetF, retL, retV, frzAL, part?, List.drop, List.take, List.all, List.length, List.map, List.append, List.nil_append, List.cons_append, List.append_nil, List.getD_cons_zero, List.getD_cons_succ, List.getD_nil, Option.map_some, Option.map_none, cond_true, cond_false, Nat.reduceEqDiff, Nat.reduceAdd, reduceIte, eq_self, IntKind.bits, litA, appSrc, frzV, frzL, mkElt, List.replicate, List.set, Nat.reduceLeDiff, Nat.reduceBEq, Nat.reduceLT, decide_true, decide_false, List.getElem?_cons_zero, List.getElem?_cons_succ, List.getElem?_nil, Nat.reduceSub, gt_iff_lt, ge_iff_le, Int.reduceLT, Int.reduceLE, Int.reduceEq, Int.cast_ofNat_Int, Int.reduceToNat, implies_true, forall_const, Nat.reduceMul, keyV, elN, eqCells, binS, Ret, newElt, fillA, bound, aidxV, h1, h2, m2, h42, h43, h44, hi', hfi, FlopV.av, h5, hm, s56, s65, s11, z2, z11]
        refine ⟨by omega, ?_⟩
        generalize (m 11).ver + 1 = V11
        refine ⟨fun hd => ⟨by omega, fun he => ⟨by omega, ?_⟩, fun he => ?_⟩, fun hd => ⟨fun he => ⟨by omega, ?_⟩, fun he => ?_⟩⟩
        all_goals (simp only [hd, he, if_true, if_false] at eU; rw [eU])
        · exact ⟨hi, wI (by omega) (by omega), AccU.push2 hs rfl rfl hg⟩
        · exact ⟨hi, wI (by omega) (by omega), AccU.push hs rfl hg⟩
        · exact ⟨hi, wI (by omega) (by omega), AccU.push hs rfl hg⟩
        · refine ⟨hi, wI (by omega) (by omega), .inr ⟨s, ver, g, hs, rfl, ?_, hg⟩⟩
          rw [set_ne s11, set_ne s11]
          exact hm
    · rintro e m ⟨h1, h2, m2, h42, h43, h44, hA⟩
      unfold a21_2
      simp -implicitDefEqProofs only [vq0, vq1, vq2, vq3, vq4, vq5, vq6, vq7, vq8, vq9, vqc, vqj, vqf, AI.val, EI.run, binI, kEq, env0, RetF, retL, retV, frzAL, part?, List.drop, List.take, List.all, List.length, List.map, List.append, List.nil_append, List.cons_append, List.append_nil, List.getD_cons_zero, List.getD_cons_succ, List.getD_nil, Option.map_some, Option.map_none, cond_true, cond_false, Nat.reduceEqDiff, Nat.reduceAdd, reduceIte, eq_self, IntKind.bits, litA, appSrc, frzV, frzL, mkElt, List.replicate, List.set, Nat.reduceLeDiff, Nat.reduceBEq, Nat.reduceLT, decide_true, decide_false, List.getElem?_cons_zero, List.getElem?_cons_succ, List.getElem?_nil, Nat.reduceSub, gt_iff_lt, ge_iff_le, Int.reduceLT, Int.reduceLE, Int.reduceEq, Int.cast_ofNat_Int, Int.reduceToNat, implies_true, forall_const, Nat.reduceMul, keyV, elN, eqCells, binS, Ret, newElt, fillA, bound, aidxV, h1, h2, m2, h42, h43, h44]
      refine vFor N.nk (fun i e m => e 1 = .int .i64 q ∧ e 2 = .ptr 2 V2 0 ∧ e 69 = .fs N.nk f4 ∧ e 70 = .int .i64 N.nk ∧ e 71 = .int .i64 i ∧ AccU [38, 57, 66, 83] (selU (oU N i) q) (e 5) m) ?_ ?_ ?_
      · simp -implicitDefEqProofs only [vq0, vq1, vq2, vq3, vq4, vq5, vq6, vq7, vq8, vq9, vqc, vqj, vqf, AI.val, EI.run, binI, kEq, env0, RetF, retL, retV, frzAL, part?, List.drop, List.take, List.all, List.length, List.map, List.append, List.nil_append, List.cons_append, List.append_nil, List.getD_cons_zero, List.getD_cons_succ, List.getD_nil, Option.map_some, Option.map_none, cond_true, cond_false, Nat.reduceEqDiff, Nat.reduceAdd, reduceIte, eq_self, IntKind.bits, litA, appSrc, frzV, frzL, mkElt, List.replicate, List.set, Nat.reduceLeDiff, Nat.reduceBEq, Nat.reduceLT, decide_true, decide_false, List.getElem?_cons_zero, List.getElem?_cons_succ, List.getElem?_nil, Nat.reduceSub, gt_iff_lt, ge_iff_le, Int.reduceLT, Int.reduceLE, Int.reduceEq, Int.cast_ofNat_Int, Int.reduceToNat, implies_true, forall_const, Nat.reduceMul, keyV, elN, eqCells, binS, Ret, newElt, fillA, bound, aidxV, h1, h2, m2, oU]
        exact hA
      · rintro i e m hi hi' ⟨h1, h2, h69, h70, h71, hA⟩
        have hfi := g4 i hi
        obtain ⟨d0, d1⟩ := gd.outs i hi
        have hl : (selU (oU N i) q).length ≤ 1048576 := by
          have h1 := selU_le (oU N i) q
          have h2 := hlO i
          omega
        unfold a21_3
        by_cases h : N.outs i = q
        · have eU : selU (oU N (i + 1)) q = selU (oU N i) q ++ [(3, (i : Int), 0)] := by
            have : (N.outs i).toNat = q := by omega
            rw [oU, this, selU_same]
          generalize selU (oU N i) q = L at *
          obtain ⟨rfl, h5⟩ | ⟨s, ver, g, hs, h5, hm, hg⟩ := hA
          · simp -implicitDefEqProofs only [vq0, vq1, vq2, vq3, vq4, vq5, vq6, vq7, vq8, vq9, vqc, vqj, vqf, AI.val, EI.run, binI, kEq, env0, RetF, retL, retV, frzAL, part?, List.drop, List.take, List.all, List.length, List.map, List.append, List.nil_append, List.cons_append, List.append_nil, List.getD_cons_zero, List.getD_cons_succ, List.getD_nil, Option.map_some, Option.map_none, cond_true, cond_false, Nat.reduceEqDiff, Nat.reduceAdd, reduceIte, eq_self, IntKind.bits, litA, appSrc, frzV, frzL, mkElt, List.replicate, List.set, Nat.reduceLeDiff, Nat.reduceBEq, Nat.reduceLT, decide_true, decide_false, List.getElem?_cons_zero, List.getElem?_cons_succ, List.getElem?_nil, Nat.reduceSub, gt_iff_lt, ge_iff_le, Int.reduceLT, Int.reduceLE, Int.reduceEq, Int.cast_ofNat_Int, Int.reduceToNat, implies_true, forall_const, Nat.reduceMul, keyV, elN, eqCells, binS, Ret, newElt, fillA, bound, aidxV, h1, h2, h69, h70, h71, hi', hfi, h5]
            refine ⟨by omega, fun _ => ?_, fun h' => absurd h h'⟩
            rw [eU]
            exact ⟨hi, wI (by omega) (by omega), AccU.first (by decide) rfl⟩
          · obtain ⟨s37, s56, s65, s82, s2, s7, s11, z2, z7, z11⟩ := SS s hs
            simp -implicitDefEqProofs only [vq0, vq1, vq2, vq3, vq4, vq5, vq6, vq7, vq8, vq9, vqc, vqj, vqf, AI.val, EI.run, binI, kEq, env0, RetF, retL, retV, frzAL, part?, List.drop, List.take, List.all, List.length, List.map, List.append, List.nil_append, List.cons_append, List.append_nil, List.getD_cons_zero, List.getD_cons_succ, List.getD_nil, Option.map_some, Option.map_none, cond_true, cond_false, Nat.reduceEqDiff, Nat.reduceAdd, reduceIte, eq_self, IntKind.bits, litA, appSrc, frzV, frzL, mkElt, List.replicate, List.set, Nat.reduceLeDiff, Nat.reduceBEq, Nat.reduceLT, decide_true, decide_false, List.getElem?_cons_zero, List.getElem?_cons_succ, List.getElem?_nil, Nat.reduceSub, gt_iff_lt, ge_iff_le, Int.reduceLT, Int.reduceLE, Int.reduceEq, Int.cast_ofNat_Int, Int.reduceToNat, implies_true, forall_const, Nat.reduceMul, keyV, elN, eqCells, binS, Ret, newElt, fillA, bound, aidxV, h1, h2, h69, h70, h71, hi', hfi, h5, hm, s82]
            refine ⟨by omega, fun _ => ?_, fun h' => absurd h h'⟩
            rw [eU]
            exact ⟨by omega, hi, wI (by omega) (by omega), AccU.push hs rfl hg⟩
        · have eU : selU (oU N (i + 1)) q = selU (oU N i) q := by
            have : (N.outs i).toNat ≠ q := by omega
            rw [oU, selU_other _ this]
          simp -implicitDefEqProofs only [vq0, vq1, vq2, vq3, vq4, vq5, vq6, vq7, vq8, vq9, vqc, vqj, vqf, AI.val, EI.run, binI, kEq, env0, RetF, retL, retV, frzAL, part?, List.drop, List.take, List.all, List.length, List.map, List.append, List.nil_append, List.cons_append, List.append_nil, List.getD_cons_zero, List.getD_cons_succ, List.getD_nil, Option.map_some, Option.map_none, cond_true, cond_false, Nat.reduceEqDiff, Nat.reduceAdd, reduceIte, eq_self, IntKind.bits, litA, appSrc, frzV, frzL, mkElt, List.replicate, List.set, Nat.reduceLeDiff, Nat.reduceBEq, Nat.reduceLT, decide_true, decide_false, List.getElem?_cons_zero, List.getElem?_cons_succ, List.getElem?_nil, Nat.reduceSub, gt_iff_lt, ge_iff_le, Int.reduceLT, Int.reduceLE, Int.reduceEq, Int.cast_ofNat_Int, Int.reduceToNat, implies_true, forall_const, Nat.reduceMul, keyV, elN, eqCells, binS, Ret, newElt, fillA, bound, aidxV, h1, h2, h69, h70, h71, hi', hfi]
          refine ⟨by omega, fun h' => absurd h' h, fun _ => ?_⟩
          rw [eU]
          exact ⟨hi, wI (by omega) (by omega), hA⟩
      · rintro e m ⟨h1, h2, h69, h70, h71, hA⟩
        unfold a21_3
        generalize selU (oU N N.nk) q = L at *
        obtain ⟨rfl, h5⟩ | ⟨s, ver, g, hs, h5, hm, hg⟩ := hA
        · simp -implicitDefEqProofs only [vq0, vq1, vq2, vq3, vq4, vq5, vq6, vq7, vq8, vq9, vqc, vqj, vqf, AI.val, EI.run, binI, kEq, env0, RetF, retL, retV, frzAL, part?, List.drop, List.take, List.all, List.length, List.map, List.append, List.nil_append, List.cons_append, List.append_nil, List.getD_cons_zero, List.getD_cons_succ, List.getD_nil, Option.map_some, Option.map_none, cond_true, cond_false, Nat.reduceEqDiff, Nat.reduceAdd, reduceIte, eq_self, IntKind.bits, litA, appSrc, frzV, frzL, mkElt, List.replicate, List.set, Nat.reduceLeDiff, Nat.reduceBEq, Nat.reduceLT, decide_true, decide_false, List.getElem?_cons_zero, List.getElem?_cons_succ, List.getElem?_nil, Nat.reduceSub, gt_iff_lt, ge_iff_le, Int.reduceLT, Int.reduceLE, Int.reduceEq, Int.cast_ofNat_Int, Int.reduceToNat, implies_true, forall_const, Nat.reduceMul, keyV, elN, eqCells, binS, Ret, newElt, fillA, bound, aidxV, h1, h2, h69, h70, h71, h5]
          exact ⟨_, rfl⟩
        · simp -implicitDefEqProofs only [vq0, vq1, vq2, vq3, vq4, vq5, vq6, vq7, vq8, vq9, vqc, vqj, vqf, AI.val, EI.run, binI, kEq, env0, RetF, retL, retV, frzAL, part?, List.drop, List.take, List.all, List.length, List.map, List.append, List.nil_append, List.cons_append, List.append_nil, List.getD_cons_zero, List.getD_cons_succ, List.getD_nil, Option.map_some, Option.map_none, cond_true, cond_false, Nat.reduceEqDiff, Nat.reduceAdd, reduceIte, eq_self, IntKind.bits, litA, appSrc, frzV, frzL, mkElt, List.replicate, List.set, Nat.reduceLeDiff, Nat.reduceBEq, Nat.reduceLT, decide_true, decide_false, List.getElem?_cons_zero, List.getElem?_cons_succ, List.getElem?_nil, Nat.reduceSub, gt_iff_lt, ge_iff_le, Int.reduceLT, Int.reduceLE, Int.reduceEq, Int.cast_ofNat_Int, Int.reduceToNat, implies_true, forall_const, Nat.reduceMul, keyV, elN, eqCells, binS, Ret, newElt, fillA, bound, aidxV, h1, h2, h69, h70, h71, h5, hm]
          exact ⟨_, rfl, hg⟩
end Go.Ab
