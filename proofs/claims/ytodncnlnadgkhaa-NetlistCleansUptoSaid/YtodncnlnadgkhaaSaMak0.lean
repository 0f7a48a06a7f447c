/- Walks: a literal of the first nodes. -/
import Derived.Test.YtodncnlnadgkhaaSaBase
import Derived.Test.YtodncnlnadgkhaaLwScan
import Derived.Test.YtodncnlnadgkhaaLwLit
set_option linter.unusedSimpArgs false
set_option linter.unusedVariables false
namespace Go.Ab
open Go
def a145 : AC := (.seq (.ops [⟨(some 4), none, (.v (.mv (.c (.bool false))))⟩]) (.seq (.ops [⟨(some 5), none, (.v (.mv (.t 0)))⟩, ⟨(some 6), none, (.v (.bin .geq (.t 5) (.c (.int .i64 0))))⟩, ⟨(some 7), none, (.v (.mv (.t 6)))⟩, ⟨(some 8), (some (7, true)), (.v (.mv (.t 0)))⟩, ⟨(some 9), (some (7, true)), (.v (.mv (.t 1)))⟩, ⟨(some 10), (some (7, true)), (.v (.bin .mul (.c (.int .i64 2)) (.t 9)))⟩, ⟨(some 11), (some (7, true)), (.v (.bin .lss (.t 8) (.t 10)))⟩, ⟨(some 12), none, (.v (.pick (.t 7) (.t 11) (.c (.bool false))))⟩, ⟨(some 4), none, (.v (.mv (.t 12)))⟩]) .ret))
def r145 : List AI := [(.mv (.t 4))]
theorem f145 : Fn PP 145 2 a145 r145 := Fn.of (fn := Go.Proofs.Try.f145) (by kernel_rfl) (by kernel_rfl) (by kernel_rfl)
def a74 : AC := (.seq (.ops [⟨(some 2), none, (.v (.mv (.c .cap0)))⟩]) (.seq (.seq (.ops [⟨(some 3), none, (.v (.mv (.t 0)))⟩, ⟨(some 4), none, (.isnil false (.t 3))⟩]) (.cond (.t 4) (.seq (.ops [⟨(some 2), none, (.v (.mv (.c .cap0)))⟩]) .ret) .skip)) (.seq (.ops [⟨(some 5), none, (.e (.lit 5 9 1 0 [(.str ⟨#[]⟩)] []))⟩, ⟨(some 6), none, (.v (.mv (.t 0)))⟩, ⟨(some 7), none, (.e (.app 7 9 1 16 (.t 5) (.t 6)))⟩, ⟨(some 2), none, (.v (.mv (.t 7)))⟩]) .ret)))
def r74 : List AI := [(.mv (.t 2))]
theorem f74 : Fn PP 74 1 a74 r74 := Fn.of (fn := Go.Proofs.Try.f74) (by kernel_rfl) (by kernel_rfl) (by kernel_rfl)
theorem p145 (l n : Int) (h0 : 0 ≤ n) (h1 : n ≤ 4294967296) : Pure PP 145 [.int .i64 l, .int .i64 n] fun r => r = .bool (decide (0 ≤ l ∧ l < 2 * n)) := by
  refine Fn.pure fmix f145 ?_
  unfold a145 r145
  simp -implicitDefEqProofs only [vq0, vq1, vq2, vq3, vq4, vq5, vq6, vq7, vq8, vq9, vqc, vqj, vqf, AI.val, EI.run, binI, kEq, env0, RetF, retL, retV, frzAL, part?, List.drop, List.take, List.all, List.length, List.map, List.append, List.nil_append, List.cons_append, List.append_nil, List.getD_cons_zero, List.getD_cons_succ, List.getD_nil, Option.map_some, Option.map_none, cond_true, cond_false, Nat.reduceEqDiff, Nat.reduceAdd, reduceIte, eq_self, IntKind.bits, litA, appSrc, frzV, frzL, mkElt, List.replicate, List.set, Nat.reduceLeDiff, Nat.reduceBEq, Nat.reduceLT, decide_true, decide_false, List.getElem?_cons_zero, List.getElem?_cons_succ, List.getElem?_nil, Nat.reduceSub, gt_iff_lt, ge_iff_le, Int.reduceLT, Int.reduceLE, Int.reduceEq, Int.cast_ofNat_Int, Int.reduceToNat, implies_true, forall_const, Nat.reduceMul, keyV, elN, eqCells, binS, Ret, newElt, fillA, bound, aidxV, slcO]
  rw [wI (n := 2 * n) (by omega) (by omega)]
  exact ⟨fun k => by simp [k], fun k => by simp [k]⟩

end Go.Ab
