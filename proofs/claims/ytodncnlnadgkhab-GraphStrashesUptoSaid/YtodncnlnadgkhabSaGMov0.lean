/- Walks: a literal replaced. -/
import Derived.Test.YtodncnlnadgkhabSaGLits
import Derived.Test.YtodncnlnadgkhabFwT
set_option linter.unusedSimpArgs false
set_option linter.unusedVariables false
namespace Go.Ab
open Go
def a106 : AC := (.seq (.ops [⟨(some 3), none, (.v (.mv (.c (.int .i64 0))))⟩]) (.seq (.ops [⟨(some 4), none, (.v (.load 1 false (.t 1)))⟩, ⟨(some 5), none, (.v (.mv (.t 0)))⟩, ⟨(some 6), none, (.v (.bin .quo (.t 5) (.c (.int .i64 2))))⟩, ⟨(some 7), none, (.v (.idx 1 (.t 4) (.t 6)))⟩, ⟨(some 8), none, (.v (.load 1 false (.t 7)))⟩, ⟨(some 9), none, (.v (.mv (.t 0)))⟩, ⟨(some 10), none, (.v (.bin .rem (.t 9) (.c (.int .i64 2))))⟩, ⟨(some 11), none, (.v (.bin .xor (.t 8) (.t 10)))⟩, ⟨(some 3), none, (.v (.mv (.t 11)))⟩]) .ret))
def r106 : List AI := [(.mv (.t 3))]
theorem f106 : Fn PP 106 2 a106 r106 := Fn.of (fn := Go.Proofs.Try.f106) (by kernel_rfl) (by kernel_rfl) (by kernel_rfl)
def mvL (to : Nat → Int) (l : Int) : Int := bitop .xor .i64 (to (ndx l)) (l % 2)

theorem p81r (n : Nat) (f : Nat → AV) (hf : ∀ i, i < n → (f i).cells.length = 3 ∧ (f i).cells.all AV.isCell = true) (hn : n ≤ 1048576) : CallW PP 81 [.fs n f] mem0 fun r m => (r = .cap0 ∧ n = 0) ∨ ∃ id ver e sz n' g, r = .sl id ver n' ∧ m id = .row ver e sz n' g ∧ (n' = n ∧ e = 49 ∧ sz = 3 ∧ ∀ i, i < n → g i = f i) := by
  refine Fn.call fmix f81 ?_
  unfold a81 r81
  simp -implicitDefEqProofs only [vq0, vq1, vq2, vq3, vq4, vq5, vq6, vq7, vq8, vq9, vqc, vqj, vqf, AI.val, EI.run, binI, kEq, env0, RetF, retL, retV, frzAL, part?, List.drop, List.take, List.all, List.length, List.map, List.append, List.nil_append, List.cons_append, List.append_nil, List.getD_cons_zero, List.getD_cons_succ, List.getD_nil, Option.map_some, Option.map_none, cond_true, cond_false, Nat.reduceEqDiff, Nat.reduceAdd, reduceIte, eq_self, IntKind.bits, litA, appSrc, frzV, frzL, mkElt, List.replicate, List.set, Nat.reduceLeDiff, Nat.reduceBEq, Nat.reduceLT, decide_true, decide_false, List.getElem?_cons_zero, List.getElem?_cons_succ, List.getElem?_nil, Nat.reduceSub, gt_iff_lt, ge_iff_le, Int.reduceLT, Int.reduceLE, Int.reduceEq, Int.cast_ofNat_Int, Int.reduceToNat, implies_true, forall_const, Nat.reduceMul, keyV, elN, eqCells, binS, Ret, newElt, fillA, bound]
  refine ⟨?_, fun h => .inl h⟩
  cases n with
  | zero => simp -implicitDefEqProofs only [vq0, vq1, vq2, vq3, vq4, vq5, vq6, vq7, vq8, vq9, vqc, vqj, vqf, AI.val, EI.run, binI, kEq, env0, RetF, retL, retV, frzAL, part?, List.drop, List.take, List.all, List.length, List.map, List.append, List.nil_append, List.cons_append, List.append_nil, List.getD_cons_zero, List.getD_cons_succ, List.getD_nil, Option.map_some, Option.map_none, cond_true, cond_false, Nat.reduceEqDiff, Nat.reduceAdd, reduceIte, eq_self, IntKind.bits, litA, appSrc, frzV, frzL, mkElt, List.replicate, List.set, Nat.reduceLeDiff, Nat.reduceBEq, Nat.reduceLT, decide_true, decide_false, List.getElem?_cons_zero, List.getElem?_cons_succ, List.getElem?_nil, Nat.reduceSub, gt_iff_lt, ge_iff_le, Int.reduceLT, Int.reduceLE, Int.reduceEq, Int.cast_ofNat_Int, Int.reduceToNat, implies_true, forall_const, Nat.reduceMul, keyV, elN, eqCells, binS, Ret, newElt, fillA, bound]; exact .inl trivial
  | succ n =>
    simp -implicitDefEqProofs only [vq0, vq1, vq2, vq3, vq4, vq5, vq6, vq7, vq8, vq9, vqc, vqj, vqf, AI.val, EI.run, binI, kEq, env0, RetF, retL, retV, frzAL, part?, List.drop, List.take, List.all, List.length, List.map, List.append, List.nil_append, List.cons_append, List.append_nil, List.getD_cons_zero, List.getD_cons_succ, List.getD_nil, Option.map_some, Option.map_none, cond_true, cond_false, Nat.reduceEqDiff, Nat.reduceAdd, reduceIte, eq_self, IntKind.bits, litA, appSrc, frzV, frzL, mkElt, List.replicate, List.set, Nat.reduceLeDiff, Nat.reduceBEq, Nat.reduceLT, decide_true, decide_false, List.getElem?_cons_zero, List.getElem?_cons_succ, List.getElem?_nil, Nat.reduceSub, gt_iff_lt, ge_iff_le, Int.reduceLT, Int.reduceLE, Int.reduceEq, Int.cast_ofNat_Int, Int.reduceToNat, implies_true, forall_const, Nat.reduceMul, keyV, elN, eqCells, binS, Ret, newElt, fillA, bound]
    exact ⟨⟨hf, by omega, by omega⟩, .inr ⟨_, _, _, _, _, _, rfl, if_pos rfl, rfl, rfl, rfl, fun i hi => rfl⟩⟩

theorem p106 (n : Nat) (to : Nat → Int) (f : Nat → AV) (hf : ∀ i, i < n → f i = .int .i64 (to i)) {l : Int} (hl : litOk n l) (hn : n ≤ 4194304) : Pure PP 106 [.int .i64 l, .fp [.fs n f]] fun r => r = .int .i64 (mvL to l) := by
  have hlt := ndx_lt hl
  have wl := ndx_quo hl hn
  have wm := tmod_two hl.1
  refine Fn.pure fmix f106 ?_
  unfold a106 r106
  simp -implicitDefEqProofs only [vq0, vq1, vq2, vq3, vq4, vq5, vq6, vq7, vq8, vq9, vqc, vqj, vqf, AI.val, EI.run, binI, kEq, env0, RetF, retL, retV, frzAL, part?, List.drop, List.take, List.all, List.length, List.map, List.append, List.nil_append, List.cons_append, List.append_nil, List.getD_cons_zero, List.getD_cons_succ, List.getD_nil, Option.map_some, Option.map_none, cond_true, cond_false, Nat.reduceEqDiff, Nat.reduceAdd, reduceIte, eq_self, IntKind.bits, litA, appSrc, frzV, frzL, mkElt, List.replicate, List.set, Nat.reduceLeDiff, Nat.reduceBEq, Nat.reduceLT, decide_true, decide_false, List.getElem?_cons_zero, List.getElem?_cons_succ, List.getElem?_nil, Nat.reduceSub, gt_iff_lt, ge_iff_le, Int.reduceLT, Int.reduceLE, Int.reduceEq, Int.cast_ofNat_Int, Int.reduceToNat, implies_true, forall_const, Nat.reduceMul, keyV, elN, eqCells, binS, Ret, newElt, fillA, bound, wl, wm, hf _ hlt]
  exact ⟨by decide, by omega, by decide, rfl⟩
end Go.Ab
