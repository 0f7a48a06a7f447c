/- Walk: gates() is true. -/
import Derived.Test.YtodncnlnadgkhaaSaGate2
set_option linter.unusedSimpArgs false
set_option linter.unusedVariables false
namespace Go.Ab
open Go
def a65 : AC := (.seq (.ops [⟨(some 0), none, (.v (.mv (.c (.bool false))))⟩]) (.seq (.ops [⟨(some 4), none, (.e (.lit 4 9 1 2 [(.str ⟨#[]⟩)] [(0, (.c (.str ⟨#[101]⟩))), (1, (.c (.str ⟨#[100]⟩)))]))⟩, ⟨(some 5), none, (.v (.build [(.str ⟨#[]⟩), (.int .i64 0), (.bool false)] [(0, (1, (.c (.str ⟨#[113]⟩)))), (1, (1, (.c (.int .i64 13))))]))⟩, ⟨(some 6), none, (.e (.lit 6 114 3 1 [(.str ⟨#[]⟩), (.int .i64 0), (.bool false)] [(0, (.t 5))]))⟩, ⟨(some 7), none, (.v (.build [(.int .i64 0), (.int .i64 0)] [(0, (1, (.c (.int .i64 2)))), (1, (1, (.c (.int .i64 4))))]))⟩, ⟨(some 8), none, (.v (.build [(.int .i64 0), (.int .i64 0)] [(0, (1, (.c (.int .i64 3)))), (1, (1, (.c (.int .i64 6))))]))⟩, ⟨(some 9), none, (.v (.build [(.int .i64 0), (.int .i64 0)] [(0, (1, (.c (.int .i64 9)))), (1, (1, (.c (.int .i64 11))))]))⟩, ⟨(some 10), none, (.e (.lit 10 163 2 3 [(.int .i64 0), (.int .i64 0)] [(0, (.t 7)), (1, (.t 8)), (2, (.t 9))]))⟩, ⟨(some 11), none, (.v (.build [.cap0, .cap0, .cap0, .cap0, .cap0] [(0, (1, (.t 4))), (2, (1, (.t 6))), (3, (1, (.t 10)))]))⟩, ⟨(some 1), none, (.e (.alloc 1 [.cap0, .cap0, .cap0, .cap0, .cap0]))⟩, ⟨none, none, (.e (.store 5 (.t 1) (.t 11)))⟩]) (.seq (.ops [⟨(some 13), none, (.v (.load 5 true (.t 1)))⟩, ⟨(some 14), none, (.call (.c (.fn 64 [])) [(.t 13)])⟩, ⟨(some 12), none, (.v (.mv (.t 14)))⟩, ⟨(some 15), none, (.v (.ext 0 (.t 12)))⟩, ⟨(some 16), none, (.v (.ext 1 (.t 12)))⟩, ⟨(some 2), none, (.v (.mv (.t 15)))⟩, ⟨(some 3), none, (.v (.mv (.t 16)))⟩]) (.seq (.ops [⟨(some 17), none, (.v (.mv (.t 3)))⟩, ⟨(some 18), none, (.v (.bin .eql (.t 17) (.c (.int .i64 0))))⟩, ⟨(some 19), none, (.v (.mv (.t 18)))⟩, ⟨(some 20), (some (19, true)), (.v (.mv (.t 2)))⟩, ⟨(some 21), (some (19, true)), (.v (.len (.t 20)))⟩, ⟨(some 22), (some (19, true)), (.v (.bin .eql (.t 21) (.c (.int .i64 1))))⟩, ⟨(some 23), none, (.v (.pick (.t 19) (.t 22) (.c (.bool false))))⟩, ⟨(some 24), none, (.v (.mv (.t 23)))⟩, ⟨(some 25), (some (24, true)), (.v (.mv (.t 2)))⟩, ⟨(some 26), (some (24, true)), (.v (.idx 2 (.t 25) (.c (.int .i64 0))))⟩, ⟨(some 27), (some (24, true)), (.v (.load 2 true (.t 26)))⟩, ⟨(some 28), (some (24, true)), (.v (.build [(.int .i64 0), (.int .i64 0)] [(0, (1, (.c (.int .i64 2)))), (1, (1, (.c (.int .i64 4))))]))⟩, ⟨(some 29), (some (24, true)), (.v (.aeq [.int, .int] false (.t 27) (.t 28)))⟩, ⟨(some 30), none, (.v (.pick (.t 24) (.t 29) (.c (.bool false))))⟩, ⟨(some 0), none, (.v (.mv (.t 30)))⟩]) .ret))))
def r65 : List AI := [(.mv (.t 0))]
theorem f65 : Fn PP 65 0 a65 r65 := Fn.of (fn := Go.Proofs.Try.f65) (by kernel_rfl) (by kernel_rfl) (by kernel_rfl)
def gatesG : Gra := ⟨2, fun i => [⟨#[101]⟩, ⟨#[100]⟩].getD i default, 0, fun _ => default, 1, fun _ => ⟨⟨#[113]⟩, 13, false⟩, 3, fun i => [2, 3, 9].getD i 0, fun i => [4, 6, 11].getD i 0, 0, fun _ => 0⟩
theorem gatesG_ok : gatesG.Ok := by
  refine ⟨by decide, by decide, by decide, by decide, by decide, fun i hi => ?_, fun i hi => absurd hi (Nat.not_lt_zero _), fun i hi => ?_, fun i hi => ?_, fun i hi => ?_, fun i hi => absurd hi (Nat.not_lt_zero _)⟩
  · have hi : i < 2 := hi
    obtain rfl | rfl : i = 0 ∨ i = 1 := by omega
    · show (ByteArray.mk #[101]).size ≤ 1048576; decide
    · show (ByteArray.mk #[100]).size ≤ 1048576; decide
  · refine ⟨by show (ByteArray.mk #[113]).size ≤ 1048576; decide, by show L64 13; unfold L64; decide⟩
  · have hi : i < 3 := hi
    obtain rfl | rfl | rfl : i = 0 ∨ i = 1 ∨ i = 2 := by omega
    · show L64 2; unfold L64; decide
    · show L64 3; unfold L64; decide
    · show L64 9; unfold L64; decide
  · have hi : i < 3 := hi
    obtain rfl | rfl | rfl : i = 0 ∨ i = 1 ∨ i = 2 := by omega
    · show L64 4; unfold L64; decide
    · show L64 6; unfold L64; decide
    · show L64 11; unfold L64; decide
theorem gatesG_F : graphF gatesG = 0 := by
  have hs : namesF gatesG.names 3 = 0 := by
    have e0 : gatesG.names 0 = ⟨#[101]⟩ := rfl
    have e1 : gatesG.names 1 = ⟨#[100]⟩ := rfl
    have e2 : gatesG.names 2 = ⟨#[113]⟩ := rfl
    have s0 : scan (nameAt gatesG.names) 0 = 0 := rfl
    have s1 := scan_step s0 (nameAt_ok (by rw [e0]; decide) (fun ⟨j, hj, _⟩ => absurd hj (Nat.not_lt_zero _)))
    have s2 := scan_step s1 (nameAt_ok (by rw [e1]; decide) (fun ⟨j, hj, h⟩ => by
      obtain rfl : j = 0 := by omega
      rw [e0, e1] at h
      exact absurd (congrArg (fun b : ByteArray => b.data.toList) h) (by decide)))
    exact scan_step s2 (nameAt_ok (by rw [e2]; decide) (fun ⟨j, hj, h⟩ => by
      rw [e2] at h
      obtain rfl | rfl : j = 0 ∨ j = 1 := by omega
      · rw [e0] at h; exact absurd (congrArg (fun b : ByteArray => b.data.toList) h) (by decide)
      · rw [e1] at h; exact absurd (congrArg (fun b : ByteArray => b.data.toList) h) (by decide)))
  unfold graphF
  rw [if_neg (by decide), if_neg (by decide), if_neg (by show ¬ namesF gatesG.names 3 ≠ 0; rw [hs]; decide), if_neg (by show ¬ (0 : Int) ≠ 0; decide), if_neg (by decide +kernel), if_neg (by decide +kernel)]
  rfl
theorem gatesG_K : gatP gatesG 0 = (2, 4) := by decide +kernel

theorem p65 : Pure PP 65 [] fun r => r = .bool true := by
  have hE : GraC [.fs 2 (fun i => [AV.str ⟨#[101]⟩, AV.str ⟨#[100]⟩].getD i .undef), .fs 0 (fun _ => .undef), .fs 1 (fun i => [AV.agg [AV.str ⟨#[113]⟩, AV.int .i64 13, AV.bool false]].getD i .undef), .fs 3 (fun i => [AV.agg [AV.int .i64 2, AV.int .i64 4], AV.agg [AV.int .i64 3, AV.int .i64 6], AV.agg [AV.int .i64 9, AV.int .i64 11]].getD i .undef), .fs 0 (fun _ => .undef)] gatesG := by
    refine ⟨_, _, _, _, _, rfl, fun i hi => ?_, fun i hi => absurd hi (Nat.not_lt_zero _), fun i hi => ?_, fun i hi => ?_, fun i hi => absurd hi (Nat.not_lt_zero _)⟩
    · have hi : i < 2 := hi
      obtain rfl | rfl : i = 0 ∨ i = 1 := by omega
      · rfl
      · rfl
    · have hi : i < 1 := hi
      obtain rfl : i = 0 := by omega
      rfl
    · have hi : i < 3 := hi
      obtain rfl | rfl | rfl : i = 0 ∨ i = 1 ∨ i = 2 := by omega
      · rfl
      · rfl
      · rfl
  have pE := p64 hE gatesG_ok
  rw [gatesG_F] at pE
  refine Fn.pure fmix f65 ?_
  unfold a65 r65
  simp -implicitDefEqProofs only [vq0, vq1, vq2, vq3, vq4, vq5, vq6, vq7, vq8, vq9, vqc, vqj, vqf, AI.val, EI.run, binI, kEq, env0, RetF, retL, retV, frzAL, part?, List.drop, List.take, List.all, List.length, List.map, List.append, List.nil_append, List.cons_append, List.append_nil, List.getD_cons_zero, List.getD_cons_succ, List.getD_nil, Option.map_some, Option.map_none, cond_true, cond_false, Nat.reduceEqDiff, Nat.reduceAdd, reduceIte, eq_self, IntKind.bits, litA, appSrc, frzV, frzL, mkElt, List.replicate, List.set, Nat.reduceLeDiff, Nat.reduceBEq, Nat.reduceLT, decide_true, decide_false, List.getElem?_cons_zero, List.getElem?_cons_succ, List.getElem?_nil, Nat.reduceSub, gt_iff_lt, ge_iff_le, Int.reduceLT, Int.reduceLE, Int.reduceEq, Int.cast_ofNat_Int, Int.reduceToNat, implies_true, forall_const, Nat.reduceMul, keyV, elN, eqCells, binS, Ret, newElt, fillA, bound, aidxV]
  refine CallW.frz rfl ⟨⟨rfl, trivial, rfl, rfl, trivial, trivial⟩, trivial⟩ ?_
  refine CallW.fz pE rfl rfl fun r ⟨k, f, hr, _, h1⟩ => ⟨by subst hr; rfl, ?_⟩
  subst hr
  obtain ⟨hk, hf⟩ := h1 rfl
  have hk : k = 1 := hk
  subst hk
  have h0 : f 0 = .agg [.int .i64 2, .int .i64 4] := by
    rw [hf 0 (by decide)]; unfold gatV; rw [gatesG_K]
  simp -implicitDefEqProofs only [vq0, vq1, vq2, vq3, vq4, vq5, vq6, vq7, vq8, vq9, vqc, vqj, vqf, AI.val, EI.run, binI, kEq, env0, RetF, retL, retV, frzAL, part?, List.drop, List.take, List.all, List.length, List.map, List.append, List.nil_append, List.cons_append, List.append_nil, List.getD_cons_zero, List.getD_cons_succ, List.getD_nil, Option.map_some, Option.map_none, cond_true, cond_false, Nat.reduceEqDiff, Nat.reduceAdd, reduceIte, eq_self, IntKind.bits, litA, appSrc, frzV, frzL, mkElt, List.replicate, List.set, Nat.reduceLeDiff, Nat.reduceBEq, Nat.reduceLT, decide_true, decide_false, List.getElem?_cons_zero, List.getElem?_cons_succ, List.getElem?_nil, Nat.reduceSub, gt_iff_lt, ge_iff_le, Int.reduceLT, Int.reduceLE, Int.reduceEq, Int.cast_ofNat_Int, Int.reduceToNat, implies_true, forall_const, Nat.reduceMul, keyV, elN, eqCells, binS, Ret, newElt, fillA, bound, aidxV, h0]
end Go.Ab
