/- Walks: FormFault and what it calls. -/
import Derived.Test.YtodncnlnadgkhaaSaOr
import Derived.Test.YtodncnlnadgkhaaSaForm2
set_option linter.unusedSimpArgs false
set_option linter.unusedVariables false
namespace Go.Ab
open Go
def a23_0 : AC := (.seq (.ops [⟨(some 14), none, (.v (.bin .lss (.t 13) (.t 12)))⟩]) (.seq (.cond (.t 14) .skip (.exit 0)) (.seq (.block 1 (.seq (.ops [⟨(some 15), none, (.v (.mv (.t 13)))⟩, ⟨(some 4), none, (.v (.mv (.t 15)))⟩]) (.ops [⟨(some 16), none, (.v (.mv (.t 3)))⟩, ⟨(some 17), none, (.v (.mv (.t 4)))⟩, ⟨(some 18), none, (.v (.bin .shl (.c (.int .u64 1)) (.t 17)))⟩, ⟨(some 19), none, (.v (.bin .or (.t 16) (.t 18)))⟩, ⟨(some 3), none, (.v (.mv (.t 19)))⟩]))) (.ops [⟨(some 20), none, (.v (.bin .add (.t 13) (.c (.int .i64 1))))⟩, ⟨(some 13), none, (.v (.mv (.t 20)))⟩]))))
def a23 : AC := (.seq (.ops [⟨(some 2), none, (.v (.mv (.c (.int .u64 0))))⟩]) (.seq (.ops [⟨(some 3), none, (.v (.mv (.c (.int .u64 0))))⟩]) (.seq (.seq (.ops [⟨(some 5), none, (.v (.mv (.t 0)))⟩, ⟨(some 6), none, (.v (.bin .geq (.t 5) (.c (.int .i64 0))))⟩, ⟨(some 7), none, (.v (.mv (.t 6)))⟩, ⟨(some 8), (some (7, true)), (.v (.mv (.t 0)))⟩, ⟨(some 9), (some (7, true)), (.v (.bin .leq (.t 8) (.c (.int .i64 6))))⟩, ⟨(some 10), none, (.v (.pick (.t 7) (.t 9) (.c (.bool false))))⟩]) (.cond (.t 10) (.seq (.ops [⟨(some 11), none, (.v (.mv (.t 0)))⟩, ⟨(some 12), none, (.v (.bin .shl (.c (.int .i64 1)) (.t 11)))⟩, ⟨(some 13), none, (.v (.mv (.c (.int .i64 0))))⟩]) (.block 0 (.loop a23_0))) .skip)) (.seq (.ops [⟨(some 21), none, (.v (.mv (.t 3)))⟩, ⟨(some 2), none, (.v (.mv (.t 21)))⟩]) .ret))))
def r23 : List AI := [(.mv (.t 2))]
theorem f23 : Fn PP 23 1 a23 r23 := Fn.of (fn := Go.Proofs.Try.f23) (by kernel_rfl) (by kernel_rfl) (by kernel_rfl)
def a72 : AC := (.seq (.ops [⟨(some 3), none, (.v (.mv (.c (.bool false))))⟩]) (.seq (.ops [⟨(some 4), none, (.v (.mv (.t 0)))⟩, ⟨(some 5), none, (.v (.bin .lss (.t 4) (.c (.int .i64 0))))⟩, ⟨(some 6), none, (.v (.mv (.t 5)))⟩, ⟨(some 7), (some (6, false)), (.v (.mv (.t 0)))⟩, ⟨(some 8), (some (6, false)), (.v (.load 1 false (.t 1)))⟩, ⟨(some 9), (some (6, false)), (.v (.bin .geq (.t 7) (.t 8)))⟩, ⟨(some 10), none, (.v (.pick (.t 6) (.c (.bool true)) (.t 9)))⟩, ⟨(some 3), none, (.v (.mv (.t 10)))⟩]) .ret))
def r72 : List AI := [(.mv (.t 3))]
theorem f72 : Fn PP 72 2 a72 r72 := Fn.of (fn := Go.Proofs.Try.f72) (by kernel_rfl) (by kernel_rfl) (by kernel_rfl)
def a73 : AC := (.seq (.ops [⟨(some 4), none, (.v (.mv (.c (.bool false))))⟩]) (.seq (.ops [⟨(some 5), none, (.v (.mv (.t 0)))⟩, ⟨(some 6), none, (.v (.mv (.t 1)))⟩, ⟨(some 7), none, (.call (.c (.fn 128 [])) [(.t 5), (.t 6)])⟩, ⟨(some 8), none, (.v (.bin .geq (.t 7) (.c (.int .i64 0))))⟩, ⟨(some 4), none, (.v (.mv (.t 8)))⟩]) .ret))
def r73 : List AI := [(.mv (.t 4))]
theorem f73 : Fn PP 73 2 a73 r73 := Fn.of (fn := Go.Proofs.Try.f73) (by kernel_rfl) (by kernel_rfl) (by kernel_rfl)
def a128_0 : AC := (.seq (.ops [⟨(some 9), none, (.v (.bin .lss (.t 8) (.t 7)))⟩]) (.seq (.cond (.t 9) .skip (.exit 0)) (.seq (.block 1 (.seq (.ops [⟨(some 10), none, (.v (.mv (.t 8)))⟩, ⟨(some 5), none, (.v (.mv (.t 10)))⟩]) (.seq (.ops [⟨(some 11), none, (.v (.mv (.t 1)))⟩, ⟨(some 12), none, (.v (.mv (.t 0)))⟩, ⟨(some 13), none, (.v (.mv (.t 5)))⟩, ⟨(some 14), none, (.v (.idx 1 (.t 12) (.t 13)))⟩, ⟨(some 15), none, (.v (.load 1 false (.t 14)))⟩, ⟨(some 16), none, (.call (.t 11) [(.t 15)])⟩]) (.cond (.t 16) (.seq (.ops [⟨(some 17), none, (.v (.mv (.t 5)))⟩, ⟨(some 4), none, (.v (.mv (.t 17)))⟩]) .ret) .skip)))) (.ops [⟨(some 18), none, (.v (.bin .add (.t 8) (.c (.int .i64 1))))⟩, ⟨(some 8), none, (.v (.mv (.t 18)))⟩]))))
def a128 : AC := (.seq (.ops [⟨(some 4), none, (.v (.mv (.c (.int .i64 0))))⟩]) (.seq (.seq (.ops [⟨(some 6), none, (.v (.mv (.t 0)))⟩, ⟨(some 7), none, (.v (.len (.t 6)))⟩, ⟨(some 8), none, (.v (.mv (.c (.int .i64 0))))⟩]) (.block 0 (.loop a128_0))) (.seq (.ops [⟨(some 4), none, (.v (.mv (.c (.int .i64 (-1)))))⟩]) .ret)))
def r128 : List AI := [(.mv (.t 4))]
theorem f128 : Fn PP 128 2 a128 r128 := Fn.of (fn := Go.Proofs.Try.f128) (by kernel_rfl) (by kernel_rfl) (by kernel_rfl)

theorem p72 (k L : Int) : Pure PP 72 [.int .i64 k, .fp [.int .i64 L]] fun r => r = .bool (decide (badNet L k ≠ 0)) := by
  refine Fn.pure fmix f72 ?_
  unfold a72 r72
  simp -implicitDefEqProofs only [vq0, vq1, vq2, vq3, vq4, vq5, vq6, vq7, vq8, vq9, vqc, vqj, vqf, AI.val, EI.run, binI, kEq, env0, RetF, retL, retV, frzAL, part?, List.drop, List.take, List.all, List.length, List.map, List.append, List.nil_append, List.cons_append, List.append_nil, List.getD_cons_zero, List.getD_cons_succ, List.getD_nil, Option.map_some, Option.map_none, cond_true, cond_false, Nat.reduceEqDiff, Nat.reduceAdd, reduceIte, eq_self, IntKind.bits, litA, appSrc, frzV, frzL, mkElt, List.replicate, List.set, Nat.reduceLeDiff, Nat.reduceBEq, Nat.reduceLT, decide_true, decide_false, List.getElem?_cons_zero, List.getElem?_cons_succ, List.getElem?_nil, Nat.reduceSub, gt_iff_lt, ge_iff_le, Int.reduceLT, Int.reduceLE, Int.reduceEq, Int.cast_ofNat_Int, Int.reduceToNat, implies_true, forall_const, Nat.reduceMul, keyV, elN, eqCells, binS, Ret, newElt, fillA, bound, aidxV, slcO]
  have key : decide (badNet L k ≠ 0) = decide (k < 0 ∨ L ≤ k) := by unfold badNet; by_cases h : k < 0 ∨ L ≤ k <;> simp [h]
  rw [key]
  refine ⟨fun h => ?_, fun h => ?_⟩
  · simp [h]
  · simp [h]

/-- Is one of the first n of x out of bounds? -/
theorem p128 (n : Nat) (x : Nat → Int) (f : Nat → AV) (L : Int) (hf : ∀ i, i < n → f i = .int .i64 (x i)) (hn : n ≤ 1048576) : Pure PP 128 [.fs n f, .fn 72 [.fp [.int .i64 L]]] fun r => ∃ k : Int, r = .int .i64 k ∧ (0 ≤ k ↔ scan (fun i => badNet L (x i)) n ≠ 0) := by
  refine Fn.pure fmix f128 ?_
  unfold a128 r128
  simp -implicitDefEqProofs only [vq0, vq1, vq2, vq3, vq4, vq5, vq6, vq7, vq8, vq9, vqc, vqj, vqf, AI.val, EI.run, binI, kEq, env0, RetF, retL, retV, frzAL, part?, List.drop, List.take, List.all, List.length, List.map, List.append, List.nil_append, List.cons_append, List.append_nil, List.getD_cons_zero, List.getD_cons_succ, List.getD_nil, Option.map_some, Option.map_none, cond_true, cond_false, Nat.reduceEqDiff, Nat.reduceAdd, reduceIte, eq_self, IntKind.bits, litA, appSrc, frzV, frzL, mkElt, List.replicate, List.set, Nat.reduceLeDiff, Nat.reduceBEq, Nat.reduceLT, decide_true, decide_false, List.getElem?_cons_zero, List.getElem?_cons_succ, List.getElem?_nil, Nat.reduceSub, gt_iff_lt, ge_iff_le, Int.reduceLT, Int.reduceLE, Int.reduceEq, Int.cast_ofNat_Int, Int.reduceToNat, implies_true, forall_const, Nat.reduceMul, keyV, elN, eqCells, binS, Ret, newElt, fillA, bound, aidxV, slcO]
  refine vFor n (fun i e m => e 0 = .fs n f ∧ e 1 = .fn 72 [.fp [.int .i64 L]] ∧ e 6 = .fs n f ∧ e 7 = .int .i64 n ∧ e 8 = .int .i64 i ∧ scan (fun i => badNet L (x i)) i = 0) ?_ ?_ ?_
  · simp -implicitDefEqProofs only [vq0, vq1, vq2, vq3, vq4, vq5, vq6, vq7, vq8, vq9, vqc, vqj, vqf, AI.val, EI.run, binI, kEq, env0, RetF, retL, retV, frzAL, part?, List.drop, List.take, List.all, List.length, List.map, List.append, List.nil_append, List.cons_append, List.append_nil, List.getD_cons_zero, List.getD_cons_succ, List.getD_nil, Option.map_some, Option.map_none, cond_true, cond_false, Nat.reduceEqDiff, Nat.reduceAdd, reduceIte, eq_self, IntKind.bits, litA, appSrc, frzV, frzL, mkElt, List.replicate, List.set, Nat.reduceLeDiff, Nat.reduceBEq, Nat.reduceLT, decide_true, decide_false, List.getElem?_cons_zero, List.getElem?_cons_succ, List.getElem?_nil, Nat.reduceSub, gt_iff_lt, ge_iff_le, Int.reduceLT, Int.reduceLE, Int.reduceEq, Int.cast_ofNat_Int, Int.reduceToNat, implies_true, forall_const, Nat.reduceMul, keyV, elN, eqCells, binS, Ret, newElt, fillA, bound, aidxV, slcO]
    rfl
  · rintro i e m hi hi' ⟨h0, h1, h6, h7, h8, hs⟩
    unfold a128_0
    simp -implicitDefEqProofs only [vq0, vq1, vq2, vq3, vq4, vq5, vq6, vq7, vq8, vq9, vqc, vqj, vqf, AI.val, EI.run, binI, kEq, env0, RetF, retL, retV, frzAL, part?, List.drop, List.take, List.all, List.length, List.map, List.append, List.nil_append, List.cons_append, List.append_nil, List.getD_cons_zero, List.getD_cons_succ, List.getD_nil, Option.map_some, Option.map_none, cond_true, cond_false, Nat.reduceEqDiff, Nat.reduceAdd, reduceIte, eq_self, IntKind.bits, litA, appSrc, frzV, frzL, mkElt, List.replicate, List.set, Nat.reduceLeDiff, Nat.reduceBEq, Nat.reduceLT, decide_true, decide_false, List.getElem?_cons_zero, List.getElem?_cons_succ, List.getElem?_nil, Nat.reduceSub, gt_iff_lt, ge_iff_le, Int.reduceLT, Int.reduceLE, Int.reduceEq, Int.cast_ofNat_Int, Int.reduceToNat, implies_true, forall_const, Nat.reduceMul, keyV, elN, eqCells, binS, Ret, newElt, fillA, bound, aidxV, slcO, h0, h1, h6, h7, h8, hi', hf i hi]
    refine ⟨by omega, ?_⟩
    refine CallW.sc (p72 (x i) L) rfl ⟨trivial, trivial, trivial⟩ fun r hr => ⟨by subst hr; rfl, ?_⟩
    subst hr
    simp -implicitDefEqProofs only [vq0, vq1, vq2, vq3, vq4, vq5, vq6, vq7, vq8, vq9, vqc, vqj, vqf, AI.val, EI.run, binI, kEq, env0, RetF, retL, retV, frzAL, part?, List.drop, List.take, List.all, List.length, List.map, List.append, List.nil_append, List.cons_append, List.append_nil, List.getD_cons_zero, List.getD_cons_succ, List.getD_nil, Option.map_some, Option.map_none, cond_true, cond_false, Nat.reduceEqDiff, Nat.reduceAdd, reduceIte, eq_self, IntKind.bits, litA, appSrc, frzV, frzL, mkElt, List.replicate, List.set, Nat.reduceLeDiff, Nat.reduceBEq, Nat.reduceLT, decide_true, decide_false, List.getElem?_cons_zero, List.getElem?_cons_succ, List.getElem?_nil, Nat.reduceSub, gt_iff_lt, ge_iff_le, Int.reduceLT, Int.reduceLE, Int.reduceEq, Int.cast_ofNat_Int, Int.reduceToNat, implies_true, forall_const, Nat.reduceMul, keyV, elN, eqCells, binS, Ret, newElt, fillA, bound, aidxV, slcO, h0, h1, h6, h7, h8]
    refine ⟨fun hb => ⟨_, rfl, fun _ => ?_, fun _ => by omega⟩, fun hb => ⟨hi, wI (by omega) (by omega), scan_step hs (Classical.not_not.1 hb)⟩⟩
    rw [scan_stop hs rfl hb n hi]; exact hb
  · rintro e m ⟨h0, h1, h6, h7, h8, hs⟩
    unfold a128_0
    simp -implicitDefEqProofs only [vq0, vq1, vq2, vq3, vq4, vq5, vq6, vq7, vq8, vq9, vqc, vqj, vqf, AI.val, EI.run, binI, kEq, env0, RetF, retL, retV, frzAL, part?, List.drop, List.take, List.all, List.length, List.map, List.append, List.nil_append, List.cons_append, List.append_nil, List.getD_cons_zero, List.getD_cons_succ, List.getD_nil, Option.map_some, Option.map_none, cond_true, cond_false, Nat.reduceEqDiff, Nat.reduceAdd, reduceIte, eq_self, IntKind.bits, litA, appSrc, frzV, frzL, mkElt, List.replicate, List.set, Nat.reduceLeDiff, Nat.reduceBEq, Nat.reduceLT, decide_true, decide_false, List.getElem?_cons_zero, List.getElem?_cons_succ, List.getElem?_nil, Nat.reduceSub, gt_iff_lt, ge_iff_le, Int.reduceLT, Int.reduceLE, Int.reduceEq, Int.cast_ofNat_Int, Int.reduceToNat, implies_true, forall_const, Nat.reduceMul, keyV, elN, eqCells, binS, Ret, newElt, fillA, bound, aidxV, slcO, h0, h1, h6, h7, h8]
    exact ⟨_, rfl, fun h => absurd h (by decide), fun h => absurd hs h⟩

theorem p73 (n : Nat) (x : Nat → Int) (f : Nat → AV) (L : Int) (hf : ∀ i, i < n → f i = .int .i64 (x i)) (hn : n ≤ 1048576) : Pure PP 73 [.fs n f, .fn 72 [.fp [.int .i64 L]]] fun r => r = .bool (decide (scan (fun i => badNet L (x i)) n ≠ 0)) := by
  refine Fn.pure fmix f73 ?_
  unfold a73 r73
  simp -implicitDefEqProofs only [vq0, vq1, vq2, vq3, vq4, vq5, vq6, vq7, vq8, vq9, vqc, vqj, vqf, AI.val, EI.run, binI, kEq, env0, RetF, retL, retV, frzAL, part?, List.drop, List.take, List.all, List.length, List.map, List.append, List.nil_append, List.cons_append, List.append_nil, List.getD_cons_zero, List.getD_cons_succ, List.getD_nil, Option.map_some, Option.map_none, cond_true, cond_false, Nat.reduceEqDiff, Nat.reduceAdd, reduceIte, eq_self, IntKind.bits, litA, appSrc, frzV, frzL, mkElt, List.replicate, List.set, Nat.reduceLeDiff, Nat.reduceBEq, Nat.reduceLT, decide_true, decide_false, List.getElem?_cons_zero, List.getElem?_cons_succ, List.getElem?_nil, Nat.reduceSub, gt_iff_lt, ge_iff_le, Int.reduceLT, Int.reduceLE, Int.reduceEq, Int.cast_ofNat_Int, Int.reduceToNat, implies_true, forall_const, Nat.reduceMul, keyV, elN, eqCells, binS, Ret, newElt, fillA, bound, aidxV, slcO]
  refine CallW.sc (p128 n x f L hf hn) rfl ⟨trivial, ⟨trivial, trivial⟩, trivial⟩ fun r ⟨k, hr, hk⟩ => ⟨by subst hr; rfl, ?_⟩
  subst hr
  simp -implicitDefEqProofs only [vq0, vq1, vq2, vq3, vq4, vq5, vq6, vq7, vq8, vq9, vqc, vqj, vqf, AI.val, EI.run, binI, kEq, env0, RetF, retL, retV, frzAL, part?, List.drop, List.take, List.all, List.length, List.map, List.append, List.nil_append, List.cons_append, List.append_nil, List.getD_cons_zero, List.getD_cons_succ, List.getD_nil, Option.map_some, Option.map_none, cond_true, cond_false, Nat.reduceEqDiff, Nat.reduceAdd, reduceIte, eq_self, IntKind.bits, litA, appSrc, frzV, frzL, mkElt, List.replicate, List.set, Nat.reduceLeDiff, Nat.reduceBEq, Nat.reduceLT, decide_true, decide_false, List.getElem?_cons_zero, List.getElem?_cons_succ, List.getElem?_nil, Nat.reduceSub, gt_iff_lt, ge_iff_le, Int.reduceLT, Int.reduceLE, Int.reduceEq, Int.cast_ofNat_Int, Int.reduceToNat, implies_true, forall_const, Nat.reduceMul, keyV, elN, eqCells, binS, Ret, newElt, fillA, bound, aidxV, slcO]
  by_cases h : 0 ≤ k
  · simp [h, hk.1 h]
  · have : ¬ (scan (fun i => badNet L (x i)) n ≠ 0) := fun h2 => h (hk.2 h2)
    simp [h, this]

/-- 'cmp.Or' of two. -/
def roomL : Nat → Int
  | 0 => 0
  | i + 1 => bitop .or .u64 (roomL i) (IntKind.u64.wrap (1 * 2 ^ min i 64))
theorem p23 (n : Int) : Pure PP 23 [.int .i64 n] fun r => r = .int .u64 (maskF n) := by
  refine Fn.pure fmix f23 ?_
  unfold a23 r23
  simp -implicitDefEqProofs only [vq0, vq1, vq2, vq3, vq4, vq5, vq6, vq7, vq8, vq9, vqc, vqj, vqf, AI.val, EI.run, binI, kEq, env0, RetF, retL, retV, frzAL, part?, List.drop, List.take, List.all, List.length, List.map, List.append, List.nil_append, List.cons_append, List.append_nil, List.getD_cons_zero, List.getD_cons_succ, List.getD_nil, Option.map_some, Option.map_none, cond_true, cond_false, Nat.reduceEqDiff, Nat.reduceAdd, reduceIte, eq_self, IntKind.bits, litA, appSrc, frzV, frzL, mkElt, List.replicate, List.set, Nat.reduceLeDiff, Nat.reduceBEq, Nat.reduceLT, decide_true, decide_false, List.getElem?_cons_zero, List.getElem?_cons_succ, List.getElem?_nil, Nat.reduceSub, gt_iff_lt, ge_iff_le, Int.reduceLT, Int.reduceLE, Int.reduceEq, Int.cast_ofNat_Int, Int.reduceToNat, implies_true, forall_const, Nat.reduceMul, keyV, elN, eqCells, binS, Ret, newElt, fillA, bound, aidxV, slcO]
  refine ⟨fun h0 => ⟨fun h1 => ⟨by omega, ?_⟩, fun h1 => ?_⟩, fun h0 => ?_⟩
  · obtain ⟨k, rfl⟩ : ∃ k : Nat, n = k := ⟨n.toNat, by omega⟩
    have h2n : IntKind.i64.wrap (1 * 2 ^ min ((k : Int)).toNat 64) = ((2 ^ k : Nat) : Int) ∧ roomL (2 ^ k) = maskF k ∧ 2 ^ k ≤ 64 := by
      have : k = 0 ∨ k = 1 ∨ k = 2 ∨ k = 3 ∨ k = 4 ∨ k = 5 ∨ k = 6 := by omega
      rcases this with h | h | h | h | h | h | h <;> subst h <;> decide +kernel
    obtain ⟨e1, e2, e3⟩ := h2n
    rw [e1]
    refine vFor (2 ^ k) (fun i e m => e 12 = .int .i64 ((2 ^ k : Nat) : Int) ∧ e 13 = .int .i64 i ∧ e 3 = .int .u64 (roomL i)) ?_ ?_ ?_
    · simp -implicitDefEqProofs only [vq0, vq1, vq2, vq3, vq4, vq5, vq6, vq7, vq8, vq9, vqc, vqj, vqf, AI.val, EI.run, binI, kEq, env0, RetF, retL, retV, frzAL, part?, List.drop, List.take, List.all, List.length, List.map, List.append, List.nil_append, List.cons_append, List.append_nil, List.getD_cons_zero, List.getD_cons_succ, List.getD_nil, Option.map_some, Option.map_none, cond_true, cond_false, Nat.reduceEqDiff, Nat.reduceAdd, reduceIte, eq_self, IntKind.bits, litA, appSrc, frzV, frzL, mkElt, List.replicate, List.set, Nat.reduceLeDiff, Nat.reduceBEq, Nat.reduceLT, decide_true, decide_false, List.getElem?_cons_zero, List.getElem?_cons_succ, List.getElem?_nil, Nat.reduceSub, gt_iff_lt, ge_iff_le, Int.reduceLT, Int.reduceLE, Int.reduceEq, Int.cast_ofNat_Int, Int.reduceToNat, implies_true, forall_const, Nat.reduceMul, keyV, elN, eqCells, binS, Ret, newElt, fillA, bound, aidxV, slcO]
      rfl
    · rintro i e m hi hi' ⟨h12, h13, h3⟩
      unfold a23_0
      simp -implicitDefEqProofs only [vq0, vq1, vq2, vq3, vq4, vq5, vq6, vq7, vq8, vq9, vqc, vqj, vqf, AI.val, EI.run, binI, kEq, env0, RetF, retL, retV, frzAL, part?, List.drop, List.take, List.all, List.length, List.map, List.append, List.nil_append, List.cons_append, List.append_nil, List.getD_cons_zero, List.getD_cons_succ, List.getD_nil, Option.map_some, Option.map_none, cond_true, cond_false, Nat.reduceEqDiff, Nat.reduceAdd, reduceIte, eq_self, IntKind.bits, litA, appSrc, frzV, frzL, mkElt, List.replicate, List.set, Nat.reduceLeDiff, Nat.reduceBEq, Nat.reduceLT, decide_true, decide_false, List.getElem?_cons_zero, List.getElem?_cons_succ, List.getElem?_nil, Nat.reduceSub, gt_iff_lt, ge_iff_le, Int.reduceLT, Int.reduceLE, Int.reduceEq, Int.cast_ofNat_Int, Int.reduceToNat, implies_true, forall_const, Nat.reduceMul, keyV, elN, eqCells, binS, Ret, newElt, fillA, bound, aidxV, slcO, h12, h13, h3, hi']
      exact ⟨by omega, hi, wI (by omega) (by omega), rfl⟩
    · rintro e m ⟨h12, h13, h3⟩
      unfold a23_0
      simp -implicitDefEqProofs only [vq0, vq1, vq2, vq3, vq4, vq5, vq6, vq7, vq8, vq9, vqc, vqj, vqf, AI.val, EI.run, binI, kEq, env0, RetF, retL, retV, frzAL, part?, List.drop, List.take, List.all, List.length, List.map, List.append, List.nil_append, List.cons_append, List.append_nil, List.getD_cons_zero, List.getD_cons_succ, List.getD_nil, Option.map_some, Option.map_none, cond_true, cond_false, Nat.reduceEqDiff, Nat.reduceAdd, reduceIte, eq_self, IntKind.bits, litA, appSrc, frzV, frzL, mkElt, List.replicate, List.set, Nat.reduceLeDiff, Nat.reduceBEq, Nat.reduceLT, decide_true, decide_false, List.getElem?_cons_zero, List.getElem?_cons_succ, List.getElem?_nil, Nat.reduceSub, gt_iff_lt, ge_iff_le, Int.reduceLT, Int.reduceLE, Int.reduceEq, Int.cast_ofNat_Int, Int.reduceToNat, implies_true, forall_const, Nat.reduceMul, keyV, elN, eqCells, binS, Ret, newElt, fillA, bound, aidxV, slcO, h12, h13, h3]
      exact e2
  · unfold maskF; rw [if_neg (by omega), if_pos (by omega)]
  · unfold maskF; rw [if_pos (by omega)]
end Go.Ab
