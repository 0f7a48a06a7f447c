/- Walk: slices.Clone of strings. -/
import Derived.Test.YtodncnlnadgkhaaSaMak0
set_option linter.unusedSimpArgs false
set_option linter.unusedVariables false
namespace Go.Ab
open Go
theorem p74z (n : Nat) (f : Nat → AV) (hf : ∀ i, i < n → (f i).cells.length = 1 ∧ (f i).cells.all AV.isCell = true) (hn : n ≤ 1048576) : Pure PP 74 [.fs n f] fun r => ∃ g, r = .fs n g ∧ ∀ i, i < n → g i = f i := by
  refine Fn.pure fmix f74 ?_
  unfold a74 r74
  simp -implicitDefEqProofs only [vq0, vq1, vq2, vq3, vq4, vq5, vq6, vq7, vq8, vq9, vqc, vqj, vqf, AI.val, EI.run, binI, kEq, env0, RetF, retL, retV, frzAL, part?, List.drop, List.take, List.all, List.length, List.map, List.append, List.nil_append, List.cons_append, List.append_nil, List.getD_cons_zero, List.getD_cons_succ, List.getD_nil, Option.map_some, Option.map_none, cond_true, cond_false, Nat.reduceEqDiff, Nat.reduceAdd, reduceIte, eq_self, IntKind.bits, litA, appSrc, frzV, frzL, mkElt, List.replicate, List.set, Nat.reduceLeDiff, Nat.reduceBEq, Nat.reduceLT, decide_true, decide_false, List.getElem?_cons_zero, List.getElem?_cons_succ, List.getElem?_nil, Nat.reduceSub, gt_iff_lt, ge_iff_le, Int.reduceLT, Int.reduceLE, Int.reduceEq, Int.cast_ofNat_Int, Int.reduceToNat, implies_true, forall_const, Nat.reduceMul, keyV, elN, eqCells, binS, Ret, newElt, fillA, bound, aidxV, slcO]
  refine ⟨?_, fun h => ⟨_, by rw [h], fun i hi => absurd hi (by omega)⟩⟩
  cases n with
  | zero => simp -implicitDefEqProofs only [vq0, vq1, vq2, vq3, vq4, vq5, vq6, vq7, vq8, vq9, vqc, vqj, vqf, AI.val, EI.run, binI, kEq, env0, RetF, retL, retV, frzAL, part?, List.drop, List.take, List.all, List.length, List.map, List.append, List.nil_append, List.cons_append, List.append_nil, List.getD_cons_zero, List.getD_cons_succ, List.getD_nil, Option.map_some, Option.map_none, cond_true, cond_false, Nat.reduceEqDiff, Nat.reduceAdd, reduceIte, eq_self, IntKind.bits, litA, appSrc, frzV, frzL, mkElt, List.replicate, List.set, Nat.reduceLeDiff, Nat.reduceBEq, Nat.reduceLT, decide_true, decide_false, List.getElem?_cons_zero, List.getElem?_cons_succ, List.getElem?_nil, Nat.reduceSub, gt_iff_lt, ge_iff_le, Int.reduceLT, Int.reduceLE, Int.reduceEq, Int.cast_ofNat_Int, Int.reduceToNat, implies_true, forall_const, Nat.reduceMul, keyV, elN, eqCells, binS, Ret, newElt, fillA, bound, aidxV, slcO]; exact ⟨_, rfl⟩
  | succ n =>
    simp -implicitDefEqProofs only [vq0, vq1, vq2, vq3, vq4, vq5, vq6, vq7, vq8, vq9, vqc, vqj, vqf, AI.val, EI.run, binI, kEq, env0, RetF, retL, retV, frzAL, part?, List.drop, List.take, List.all, List.length, List.map, List.append, List.nil_append, List.cons_append, List.append_nil, List.getD_cons_zero, List.getD_cons_succ, List.getD_nil, Option.map_some, Option.map_none, cond_true, cond_false, Nat.reduceEqDiff, Nat.reduceAdd, reduceIte, eq_self, IntKind.bits, litA, appSrc, frzV, frzL, mkElt, List.replicate, List.set, Nat.reduceLeDiff, Nat.reduceBEq, Nat.reduceLT, decide_true, decide_false, List.getElem?_cons_zero, List.getElem?_cons_succ, List.getElem?_nil, Nat.reduceSub, gt_iff_lt, ge_iff_le, Int.reduceLT, Int.reduceLE, Int.reduceEq, Int.cast_ofNat_Int, Int.reduceToNat, implies_true, forall_const, Nat.reduceMul, keyV, elN, eqCells, binS, Ret, newElt, fillA, bound, aidxV, slcO]
    exact ⟨⟨hf, by omega, by omega⟩, _, rfl, fun i hi => rfl⟩
end Go.Ab
