/- Walk: graph.Make. -/
import Derived.Test.YtodncnlnadgkhabSaMak0
set_option linter.unusedSimpArgs false
set_option linter.unusedVariables false
namespace Go.Ab
open Go
def a20 : AC := (.seq (.ops [⟨(some 4), none, (.v (.mv (.c (.int .i64 0))))⟩]) (.seq (.seq (.ops [⟨(some 6), none, (.v (.mv (.t 0)))⟩, ⟨(some 7), none, (.v (.bin .lss (.t 6) (.c (.int .i64 0))))⟩, ⟨(some 8), none, (.v (.mv (.t 7)))⟩, ⟨(some 9), (some (8, false)), (.v (.mv (.t 0)))⟩, ⟨(some 10), (some (8, false)), (.v (.bin .gtr (.t 9) (.c (.int .i64 4416))))⟩, ⟨(some 11), none, (.v (.pick (.t 8) (.c (.bool true)) (.t 10)))⟩]) (.cond (.t 11) (.seq (.ops [⟨(some 4), none, (.v (.mv (.c (.int .i64 0))))⟩]) .ret) .skip)) (.seq (.ops [⟨(some 12), none, (.v (.mv (.t 0)))⟩, ⟨(some 13), none, (.v (.bin .mul (.c (.int .i64 2)) (.t 12)))⟩, ⟨(some 5), none, (.v (.mv (.t 13)))⟩]) (.seq (.seq (.ops [⟨(some 14), none, (.v (.mv (.t 1)))⟩]) (.cond (.t 14) (.ops [⟨(some 15), none, (.v (.mv (.t 5)))⟩, ⟨(some 16), none, (.v (.bin .add (.t 15) (.c (.int .i64 1))))⟩, ⟨(some 5), none, (.v (.mv (.t 16)))⟩]) .skip)) (.seq (.ops [⟨(some 17), none, (.v (.mv (.t 5)))⟩, ⟨(some 4), none, (.v (.mv (.t 17)))⟩]) .ret)))))
def r20 : List AI := [(.mv (.t 4))]
theorem f20 : Fn PP 20 2 a20 r20 := Fn.of (fn := Go.Proofs.Try.f20) (by kernel_rfl) (by kernel_rfl) (by kernel_rfl)
def makeF (n : Int) (t : Bool) : Int := if n < 0 ∨ 4416 < n then 0 else match t with | true => 2 * n + 1 | false => 2 * n
theorem p20 (n : Int) (t : Bool) : Pure PP 20 [.int .i64 n, .bool t] fun r => r = .int .i64 (makeF n t) := by
  refine Fn.pure fmix f20 ?_
  unfold a20 r20
  cases t with
  | true =>
    simp -implicitDefEqProofs only [vq0, vq1, vq2, vq3, vq4, vq5, vq6, vq7, vq8, vq9, vqc, vqj, vqf, AI.val, EI.run, binI, kEq, env0, RetF, retL, retV, frzAL, part?, List.drop, List.take, List.all, List.length, List.map, List.append, List.nil_append, List.cons_append, List.append_nil, List.getD_cons_zero, List.getD_cons_succ, List.getD_nil, Option.map_some, Option.map_none, cond_true, cond_false, Nat.reduceEqDiff, Nat.reduceAdd, reduceIte, eq_self, IntKind.bits, litA, appSrc, frzV, frzL, mkElt, List.replicate, List.set, Nat.reduceLeDiff, Nat.reduceBEq, Nat.reduceLT, decide_true, decide_false, List.getElem?_cons_zero, List.getElem?_cons_succ, List.getElem?_nil, Nat.reduceSub, gt_iff_lt, ge_iff_le, Int.reduceLT, Int.reduceLE, Int.reduceEq, Int.cast_ofNat_Int, Int.reduceToNat, implies_true, forall_const, Nat.reduceMul, keyV, elN, eqCells, binS, Ret, newElt, fillA, bound, aidxV, slcO]
    refine ⟨fun h1 => ⟨fun h2 => ?_, fun h2 => ?_⟩, fun h1 => ?_⟩
    · unfold makeF; rw [if_pos (.inr h2)]
    · rw [wI (n := 2 * n) (by omega) (by omega), wI (n := 2 * n + 1) (by omega) (by omega)]
      unfold makeF; rw [if_neg (by omega)]
    · unfold makeF; rw [if_pos (.inl h1)]
  | false =>
    simp -implicitDefEqProofs only [vq0, vq1, vq2, vq3, vq4, vq5, vq6, vq7, vq8, vq9, vqc, vqj, vqf, AI.val, EI.run, binI, kEq, env0, RetF, retL, retV, frzAL, part?, List.drop, List.take, List.all, List.length, List.map, List.append, List.nil_append, List.cons_append, List.append_nil, List.getD_cons_zero, List.getD_cons_succ, List.getD_nil, Option.map_some, Option.map_none, cond_true, cond_false, Nat.reduceEqDiff, Nat.reduceAdd, reduceIte, eq_self, IntKind.bits, litA, appSrc, frzV, frzL, mkElt, List.replicate, List.set, Nat.reduceLeDiff, Nat.reduceBEq, Nat.reduceLT, decide_true, decide_false, List.getElem?_cons_zero, List.getElem?_cons_succ, List.getElem?_nil, Nat.reduceSub, gt_iff_lt, ge_iff_le, Int.reduceLT, Int.reduceLE, Int.reduceEq, Int.cast_ofNat_Int, Int.reduceToNat, implies_true, forall_const, Nat.reduceMul, keyV, elN, eqCells, binS, Ret, newElt, fillA, bound, aidxV, slcO]
    refine ⟨fun h1 => ⟨fun h2 => ?_, fun h2 => ?_⟩, fun h1 => ?_⟩
    · unfold makeF; rw [if_pos (.inr h2)]
    · rw [wI (n := 2 * n) (by omega) (by omega)]
      unfold makeF; rw [if_neg (by omega)]
    · unfold makeF; rw [if_pos (.inl h1)]
end Go.Ab
