/- Walks: the nodes that literals are computed from. -/
import Derived.Test.YtodncnlnadgkhabSaGLits
import Derived.Test.YtodncnlnadgkhabLwCone
import Derived.Test.YtodncnlnadgkhabFwT
set_option linter.unusedSimpArgs false
set_option linter.unusedVariables false
namespace Go.Ab
open Go
def a88_0 : AC := (.seq (.ops [⟨(some 16), none, (.v (.bin .lss (.t 15) (.t 14)))⟩]) (.seq (.cond (.t 16) .skip (.exit 0)) (.seq (.block 1 (.seq (.ops [⟨(some 17), none, (.v (.idx 1 (.t 13) (.t 15)))⟩, ⟨(some 18), none, (.v (.load 1 false (.t 17)))⟩, ⟨(some 7), none, (.v (.mv (.t 18)))⟩]) (.ops [⟨(some 19), none, (.v (.mv (.t 5)))⟩, ⟨(some 20), none, (.v (.mv (.t 7)))⟩, ⟨(some 21), none, (.v (.bin .quo (.t 20) (.c (.int .i64 2))))⟩, ⟨(some 22), none, (.v (.idx 1 (.t 19) (.t 21)))⟩, ⟨none, none, (.e (.store 1 (.t 22) (.c (.bool true))))⟩]))) (.ops [⟨(some 23), none, (.v (.bin .add (.t 15) (.c (.int .i64 1))))⟩, ⟨(some 15), none, (.v (.mv (.t 23)))⟩]))))
def a88_1 : AC := (.seq (.seq (.ops [⟨(some 30), none, (.v (.mv (.t 9)))⟩, ⟨(some 31), none, (.v (.bin .geq (.t 30) (.c (.int .i64 0))))⟩]) (.cond (.t 31) .skip (.exit 2))) (.seq (.block 3 (.seq (.ops [⟨(some 34), none, (.v (.mv (.t 5)))⟩, ⟨(some 35), none, (.v (.mv (.t 8)))⟩, ⟨(some 36), none, (.v (.mv (.t 9)))⟩, ⟨(some 37), none, (.v (.bin .add (.t 35) (.t 36)))⟩, ⟨(some 38), none, (.v (.idx 1 (.t 34) (.t 37)))⟩, ⟨(some 39), none, (.v (.load 1 false (.t 38)))⟩]) (.cond (.t 39) (.any [⟨(some 40), none, (.v (.mv (.t 5)))⟩, ⟨(some 41), none, (.v (.fld 3 (.t 2)))⟩, ⟨(some 42), none, (.v (.load 1 false (.t 41)))⟩, ⟨(some 43), none, (.v (.mv (.t 9)))⟩, ⟨(some 44), none, (.v (.idx 2 (.t 42) (.t 43)))⟩, ⟨(some 45), none, (.v (.fld 0 (.t 44)))⟩, ⟨(some 46), none, (.v (.load 1 false (.t 45)))⟩, ⟨(some 47), none, (.v (.bin .quo (.t 46) (.c (.int .i64 2))))⟩, ⟨(some 48), none, (.v (.mv (.t 5)))⟩, ⟨(some 49), none, (.v (.fld 3 (.t 2)))⟩, ⟨(some 50), none, (.v (.load 1 false (.t 49)))⟩, ⟨(some 51), none, (.v (.mv (.t 9)))⟩, ⟨(some 52), none, (.v (.idx 2 (.t 50) (.t 51)))⟩, ⟨(some 53), none, (.v (.fld 1 (.t 52)))⟩, ⟨(some 54), none, (.v (.load 1 false (.t 53)))⟩, ⟨(some 55), none, (.v (.bin .quo (.t 54) (.c (.int .i64 2))))⟩, ⟨(some 56), none, (.v (.idx 1 (.t 40) (.t 47)))⟩, ⟨none, none, (.e (.store 1 (.t 56) (.c (.bool true))))⟩, ⟨(some 57), none, (.v (.idx 1 (.t 48) (.t 55)))⟩, ⟨none, none, (.e (.store 1 (.t 57) (.c (.bool true))))⟩] [[], [], [1], [], [2, 3], [4], [5], [6], [], [], [9], [], [10, 11], [12], [13], [14], [0, 7, 0, 1, 2, 3, 4, 5, 6, 7, 14], [16, 0, 1, 2, 3, 4, 5, 6, 7, 14], [8, 15, 0, 1, 2, 3, 4, 5, 6, 7, 8, 9, 10, 11, 12, 13, 14, 15, 16, 17], [18, 17, 0, 1, 2, 3, 4, 5, 6, 7, 8, 9, 10, 11, 12, 13, 14, 15, 16, 17]]) .skip))) (.ops [⟨(some 32), none, (.v (.mv (.t 9)))⟩, ⟨(some 33), none, (.v (.bin .sub (.t 32) (.c (.int .i64 1))))⟩, ⟨(some 9), none, (.v (.mv (.t 33)))⟩])))
def a88 : AC := (.seq (.ops [⟨(some 2), none, (.e (.box 2 0 (.t 0)))⟩, ⟨(some 4), none, (.v (.mv (.c .cap0)))⟩]) (.seq (.ops [⟨(some 10), none, (.v (.load 5 true (.t 2)))⟩, ⟨(some 11), none, (.call (.c (.fn 25 [])) [(.t 10)])⟩, ⟨(some 12), none, (.e (.make 12 4 1 1 [(.bool false)] (.t 11) (.t 11)))⟩, ⟨(some 5), none, (.v (.mv (.t 12)))⟩]) (.seq (.seq (.ops [⟨(some 13), none, (.v (.mv (.t 1)))⟩, ⟨(some 14), none, (.v (.len (.t 13)))⟩, ⟨(some 15), none, (.v (.mv (.c (.int .i64 0))))⟩]) (.block 0 (.loop a88_0))) (.seq (.ops [⟨(some 24), none, (.v (.load 5 true (.t 2)))⟩, ⟨(some 25), none, (.call (.c (.fn 24 [])) [(.t 24)])⟩, ⟨(some 8), none, (.v (.mv (.t 25)))⟩]) (.seq (.seq (.ops [⟨(some 26), none, (.v (.fld 3 (.t 2)))⟩, ⟨(some 27), none, (.v (.load 1 false (.t 26)))⟩, ⟨(some 28), none, (.v (.len (.t 27)))⟩, ⟨(some 29), none, (.v (.bin .sub (.t 28) (.c (.int .i64 1))))⟩, ⟨(some 9), none, (.v (.mv (.t 29)))⟩]) (.block 2 (.loop a88_1))) (.seq (.ops [⟨(some 58), none, (.v (.mv (.t 5)))⟩, ⟨(some 4), none, (.v (.mv (.t 58)))⟩]) .ret))))))
def r88 : List AI := [(.mv (.t 4))]
theorem f88 : Fn PP 88 2 a88 r88 := Fn.of (fn := Go.Proofs.Try.f88) (by kernel_rfl) (by kernel_rfl) (by kernel_rfl)
def a92 : AC := (.seq (.ops [⟨(some 7), none, (.v (.mv (.t 0)))⟩, ⟨(some 8), none, (.v (.bin .shr (.t 7) (.c (.int .u64 1))))⟩, ⟨(some 6), none, (.v (.mv (.t 8)))⟩]) (.seq (.seq (.ops [⟨(some 9), none, (.v (.load 1 false (.t 1)))⟩, ⟨(some 10), none, (.v (.mv (.t 6)))⟩, ⟨(some 11), none, (.v (.idx 1 (.t 9) (.t 10)))⟩, ⟨(some 12), none, (.v (.load 1 false (.t 11)))⟩]) (.cond (.t 12) .ret .skip)) (.seq (.ops [⟨(some 13), none, (.v (.load 1 false (.t 1)))⟩, ⟨(some 14), none, (.v (.mv (.t 6)))⟩, ⟨(some 15), none, (.v (.idx 1 (.t 13) (.t 14)))⟩, ⟨none, none, (.e (.store 1 (.t 15) (.c (.bool true))))⟩]) (.seq (.ops [⟨(some 16), none, (.v (.mv (.t 6)))⟩, ⟨(some 17), none, (.v (.load 1 false (.t 2)))⟩, ⟨(some 18), none, (.v (.bin .geq (.t 16) (.t 17)))⟩]) (.cond (.t 18) (.seq (.any [⟨(some 19), none, (.v (.load 1 false (.t 3)))⟩, ⟨(some 20), none, (.v (.fld 3 (.t 4)))⟩, ⟨(some 21), none, (.v (.load 1 false (.t 20)))⟩, ⟨(some 22), none, (.v (.mv (.t 6)))⟩, ⟨(some 23), none, (.v (.load 1 false (.t 2)))⟩, ⟨(some 24), none, (.v (.bin .sub (.t 22) (.t 23)))⟩, ⟨(some 25), none, (.v (.idx 2 (.t 21) (.t 24)))⟩, ⟨(some 26), none, (.v (.fld 0 (.t 25)))⟩, ⟨(some 27), none, (.v (.load 1 false (.t 26)))⟩, ⟨(some 28), none, (.call (.t 19) [(.t 27)])⟩] [[], [], [1], [], [], [3, 4], [2, 5], [6], [7], [0, 8]]) (.any [⟨(some 29), none, (.v (.load 1 false (.t 3)))⟩, ⟨(some 30), none, (.v (.fld 3 (.t 4)))⟩, ⟨(some 31), none, (.v (.load 1 false (.t 30)))⟩, ⟨(some 32), none, (.v (.mv (.t 6)))⟩, ⟨(some 33), none, (.v (.load 1 false (.t 2)))⟩, ⟨(some 34), none, (.v (.bin .sub (.t 32) (.t 33)))⟩, ⟨(some 35), none, (.v (.idx 2 (.t 31) (.t 34)))⟩, ⟨(some 36), none, (.v (.fld 1 (.t 35)))⟩, ⟨(some 37), none, (.v (.load 1 false (.t 36)))⟩, ⟨(some 38), none, (.call (.t 29) [(.t 37)])⟩] [[], [], [1], [], [], [3, 4], [2, 5], [6], [7], [0, 8]])) .skip)))))
def r92 : List AI := []
theorem f92 : Fn PP 92 5 a92 r92 := Fn.of (fn := Go.Proofs.Try.f92) (by kernel_rfl) (by kernel_rfl) (by kernel_rfl)
def a54_0 : AC := (.seq (.ops [⟨(some 28), none, (.v (.bin .lss (.t 27) (.t 26)))⟩]) (.seq (.cond (.t 28) .skip (.exit 0)) (.seq (.block 1 (.seq (.ops [⟨(some 29), none, (.v (.idx 1 (.t 25) (.t 27)))⟩, ⟨(some 30), none, (.v (.load 1 false (.t 29)))⟩, ⟨(some 9), none, (.v (.mv (.t 30)))⟩]) (.ops [⟨(some 31), none, (.v (.load 1 false (.t 7)))⟩, ⟨(some 32), none, (.v (.mv (.t 9)))⟩, ⟨(some 33), none, (.call (.t 31) [(.t 32)])⟩]))) (.ops [⟨(some 34), none, (.v (.bin .add (.t 27) (.c (.int .i64 1))))⟩, ⟨(some 27), none, (.v (.mv (.t 34)))⟩]))))
def a54 : AC := (.seq (.ops [⟨(some 2), none, (.e (.box 2 0 (.t 0)))⟩, ⟨(some 4), none, (.v (.mv (.c .cap0)))⟩]) (.seq (.ops [⟨(some 10), none, (.v (.fld 0 (.t 2)))⟩, ⟨(some 11), none, (.v (.load 1 false (.t 10)))⟩, ⟨(some 12), none, (.v (.len (.t 11)))⟩, ⟨(some 13), none, (.v (.bin .add (.c (.int .i64 1)) (.t 12)))⟩, ⟨(some 14), none, (.v (.fld 2 (.t 2)))⟩, ⟨(some 15), none, (.v (.load 1 false (.t 14)))⟩, ⟨(some 16), none, (.v (.len (.t 15)))⟩, ⟨(some 17), none, (.v (.bin .add (.t 13) (.t 16)))⟩, ⟨(some 5), none, (.e (.alloc 5 [(.int .i64 0)]))⟩, ⟨none, none, (.e (.store 1 (.t 5) (.t 17)))⟩]) (.seq (.ops [⟨(some 18), none, (.v (.load 1 false (.t 5)))⟩, ⟨(some 19), none, (.v (.fld 3 (.t 2)))⟩, ⟨(some 20), none, (.v (.load 1 false (.t 19)))⟩, ⟨(some 21), none, (.v (.len (.t 20)))⟩, ⟨(some 22), none, (.v (.bin .add (.t 18) (.t 21)))⟩, ⟨(some 23), none, (.e (.make 23 4 1 1 [(.bool false)] (.t 22) (.t 22)))⟩, ⟨(some 6), none, (.e (.alloc 6 [.cap0]))⟩, ⟨none, none, (.e (.store 1 (.t 6) (.t 23)))⟩]) (.seq (.ops [⟨(some 7), none, (.e (.alloc 7 [.nilf]))⟩]) (.seq (.ops [⟨(some 24), none, (.v (.mkfn 92 [(.t 6), (.t 5), (.t 7), (.t 2)]))⟩, ⟨none, none, (.e (.store 1 (.t 7) (.t 24)))⟩]) (.seq (.seq (.ops [⟨(some 25), none, (.v (.mv (.t 1)))⟩, ⟨(some 26), none, (.v (.len (.t 25)))⟩, ⟨(some 27), none, (.v (.mv (.c (.int .i64 0))))⟩]) (.block 0 (.loop a54_0))) (.seq (.ops [⟨(some 35), none, (.v (.load 1 false (.t 6)))⟩, ⟨(some 4), none, (.v (.mv (.t 35)))⟩]) .ret)))))))
def r54 : List AI := [(.mv (.t 4))]
theorem f54 : Fn PP 54 2 a54 r54 := Fn.of (fn := Go.Proofs.Try.f54) (by kernel_rfl) (by kernel_rfl) (by kernel_rfl)

theorem p88 {G : Gra} {cs : List AV} (hG : GraC cs G) (ok : G.Ok) (gd : G.Good) (n : Nat) (x : Nat → Int) (fx : Nat → AV) (hx : ∀ i, i < n → fx i = .int .i64 (x i)) (hok : ∀ i, i < n → litOk G.nodes (x i)) (hn : n ≤ 1048576) :
    Pure PP 88 [.agg cs, .fs n fx] fun r => ∃ f, r = .fs G.nodes f ∧ ∀ k, k < G.nodes → f k = .bool (keepB G n x k) := by
  have hG0 := hG
  obtain ⟨f0, f1, f2, f3, f4, rfl, g0, g1, g2, g3, g4⟩ := hG
  have b1 := gd.ni; have b2 := gd.nr; have b3 := gd.na
  have hbE : G.base = 1 + G.ni + G.nr := rfl
  have hnE : G.nodes = G.base + G.na := rfl
  refine Fn.pure fmix f88 ?_
  unfold a88 r88
  simp -implicitDefEqProofs only [vq0, vq1, vq2, vq3, vq4, vq5, vq6, vq7, vq8, vq9, vqc, vqj, vqf, AI.val, EI.run, binI, kEq, env0, RetF, retL, retV, frzAL, part?, List.drop, List.take, List.all, List.length, List.map, List.append, List.nil_append, List.cons_append, List.append_nil, List.getD_cons_zero, List.getD_cons_succ, List.getD_nil, Option.map_some, Option.map_none, cond_true, cond_false, Nat.reduceEqDiff, Nat.reduceAdd, reduceIte, eq_self, IntKind.bits, litA, appSrc, frzV, frzL, mkElt, List.replicate, List.set, Nat.reduceLeDiff, Nat.reduceBEq, Nat.reduceLT, decide_true, decide_false, List.getElem?_cons_zero, List.getElem?_cons_succ, List.getElem?_nil, Nat.reduceSub, gt_iff_lt, ge_iff_le, Int.reduceLT, Int.reduceLE, Int.reduceEq, Int.cast_ofNat_Int, Int.reduceToNat, implies_true, forall_const, Nat.reduceMul, keyV, elN, eqCells, binS, Ret, newElt, fillA, bound, aidxV, slcO]
  refine CallW.sc (p25 hG0 ok) rfl ⟨⟨trivial, trivial, trivial, trivial, trivial, trivial⟩, trivial⟩ fun r hr => ⟨by subst hr; rfl, ?_⟩
  subst hr
  simp -implicitDefEqProofs only [vq0, vq1, vq2, vq3, vq4, vq5, vq6, vq7, vq8, vq9, vqc, vqj, vqf, AI.val, EI.run, binI, kEq, env0, RetF, retL, retV, frzAL, part?, List.drop, List.take, List.all, List.length, List.map, List.append, List.nil_append, List.cons_append, List.append_nil, List.getD_cons_zero, List.getD_cons_succ, List.getD_nil, Option.map_some, Option.map_none, cond_true, cond_false, Nat.reduceEqDiff, Nat.reduceAdd, reduceIte, eq_self, IntKind.bits, litA, appSrc, frzV, frzL, mkElt, List.replicate, List.set, Nat.reduceLeDiff, Nat.reduceBEq, Nat.reduceLT, decide_true, decide_false, List.getElem?_cons_zero, List.getElem?_cons_succ, List.getElem?_nil, Nat.reduceSub, gt_iff_lt, ge_iff_le, Int.reduceLT, Int.reduceLE, Int.reduceEq, Int.cast_ofNat_Int, Int.reduceToNat, implies_true, forall_const, Nat.reduceMul, keyV, elN, eqCells, binS, Ret, newElt, fillA, bound, aidxV, slcO]
  refine ⟨by omega, ?_⟩
  generalize (mem0 2).ver + 1 = V2
  refine vFor n (fun i e m => e 2 = .ptr 2 V2 0 ∧ m 2 = .var V2 [.fs G.ni f0, .fs G.no f1, .fs G.nr f2, .fs G.na f3, .fs G.nk f4] ∧ e 13 = .fs n fx ∧ e 14 = .int .i64 n ∧ e 15 = .int .i64 i ∧ ∃ V g, e 5 = .sl 12 V G.nodes ∧ m 12 = .row V 4 1 G.nodes g ∧ ∀ k, k < G.nodes → g k = .bool (rootB x i k)) ?_ ?_ ?_
  · simp -implicitDefEqProofs only [vq0, vq1, vq2, vq3, vq4, vq5, vq6, vq7, vq8, vq9, vqc, vqj, vqf, AI.val, EI.run, binI, kEq, env0, RetF, retL, retV, frzAL, part?, List.drop, List.take, List.all, List.length, List.map, List.append, List.nil_append, List.cons_append, List.append_nil, List.getD_cons_zero, List.getD_cons_succ, List.getD_nil, Option.map_some, Option.map_none, cond_true, cond_false, Nat.reduceEqDiff, Nat.reduceAdd, reduceIte, eq_self, IntKind.bits, litA, appSrc, frzV, frzL, mkElt, List.replicate, List.set, Nat.reduceLeDiff, Nat.reduceBEq, Nat.reduceLT, decide_true, decide_false, List.getElem?_cons_zero, List.getElem?_cons_succ, List.getElem?_nil, Nat.reduceSub, gt_iff_lt, ge_iff_le, Int.reduceLT, Int.reduceLE, Int.reduceEq, Int.cast_ofNat_Int, Int.reduceToNat, implies_true, forall_const, Nat.reduceMul, keyV, elN, eqCells, binS, Ret, newElt, fillA, bound, aidxV, slcO]
    exact ⟨_, _, rfl, rfl, fun k hk => rfl⟩
  · rintro i e m hi hi' ⟨h2, hm2, h13, h14, h15, V, g, h5, hm, hg⟩
    have hl := hok i hi
    have wl := ndx_quo hl (by omega)
    have lt := ndx_lt hl
    unfold a88_0
    simp -implicitDefEqProofs only [vq0, vq1, vq2, vq3, vq4, vq5, vq6, vq7, vq8, vq9, vqc, vqj, vqf, AI.val, EI.run, binI, kEq, env0, RetF, retL, retV, frzAL, part?, List.drop, List.take, List.all, List.length, List.map, List.append, List.nil_append, List.cons_append, List.append_nil, List.getD_cons_zero, List.getD_cons_succ, List.getD_nil, Option.map_some, Option.map_none, cond_true, cond_false, Nat.reduceEqDiff, Nat.reduceAdd, reduceIte, eq_self, IntKind.bits, litA, appSrc, frzV, frzL, mkElt, List.replicate, List.set, Nat.reduceLeDiff, Nat.reduceBEq, Nat.reduceLT, decide_true, decide_false, List.getElem?_cons_zero, List.getElem?_cons_succ, List.getElem?_nil, Nat.reduceSub, gt_iff_lt, ge_iff_le, Int.reduceLT, Int.reduceLE, Int.reduceEq, Int.cast_ofNat_Int, Int.reduceToNat, implies_true, forall_const, Nat.reduceMul, keyV, elN, eqCells, binS, Ret, newElt, fillA, bound, aidxV, slcO, h2, hm2, h13, h14, h15, h5, hm, hi', hx i hi, wl]
    refine ⟨by omega, by decide, by omega, by omega, hi, wI (by omega) (by omega), _, _, rfl, rfl, fun k hk => ?_⟩
    by_cases e : k = ndx (x i)
    · simp only [e, decide_true, cond_true, rootB, Bool.or_true]
    · simp only [e, decide_false, cond_false, rootB, Bool.or_false]; exact hg k hk
  · rintro e m ⟨h2, hm2, h13, h14, h15, V, g, h5, hm, hg⟩
    unfold a88_0
    simp -implicitDefEqProofs only [vq0, vq1, vq2, vq3, vq4, vq5, vq6, vq7, vq8, vq9, vqc, vqj, vqf, AI.val, EI.run, binI, kEq, env0, RetF, retL, retV, frzAL, part?, List.drop, List.take, List.all, List.length, List.map, List.append, List.nil_append, List.cons_append, List.append_nil, List.getD_cons_zero, List.getD_cons_succ, List.getD_nil, Option.map_some, Option.map_none, cond_true, cond_false, Nat.reduceEqDiff, Nat.reduceAdd, reduceIte, eq_self, IntKind.bits, litA, appSrc, frzV, frzL, mkElt, List.replicate, List.set, Nat.reduceLeDiff, Nat.reduceBEq, Nat.reduceLT, decide_true, decide_false, List.getElem?_cons_zero, List.getElem?_cons_succ, List.getElem?_nil, Nat.reduceSub, gt_iff_lt, ge_iff_le, Int.reduceLT, Int.reduceLE, Int.reduceEq, Int.cast_ofNat_Int, Int.reduceToNat, implies_true, forall_const, Nat.reduceMul, keyV, elN, eqCells, binS, Ret, newElt, fillA, bound, aidxV, slcO, h2, hm2, h13, h14, h15, h5, hm]
    refine CallW.sc (p24 hG0 ok) rfl ⟨⟨trivial, trivial, trivial, trivial, trivial, trivial⟩, trivial⟩ fun r hr => ⟨by subst hr; rfl, ?_⟩
    subst hr
    simp -implicitDefEqProofs only [vq0, vq1, vq2, vq3, vq4, vq5, vq6, vq7, vq8, vq9, vqc, vqj, vqf, AI.val, EI.run, binI, kEq, env0, RetF, retL, retV, frzAL, part?, List.drop, List.take, List.all, List.length, List.map, List.append, List.nil_append, List.cons_append, List.append_nil, List.getD_cons_zero, List.getD_cons_succ, List.getD_nil, Option.map_some, Option.map_none, cond_true, cond_false, Nat.reduceEqDiff, Nat.reduceAdd, reduceIte, eq_self, IntKind.bits, litA, appSrc, frzV, frzL, mkElt, List.replicate, List.set, Nat.reduceLeDiff, Nat.reduceBEq, Nat.reduceLT, decide_true, decide_false, List.getElem?_cons_zero, List.getElem?_cons_succ, List.getElem?_nil, Nat.reduceSub, gt_iff_lt, ge_iff_le, Int.reduceLT, Int.reduceLE, Int.reduceEq, Int.cast_ofNat_Int, Int.reduceToNat, implies_true, forall_const, Nat.reduceMul, keyV, elN, eqCells, binS, Ret, newElt, fillA, bound, aidxV, slcO, h2, hm2, h5, hm]
    rw [wI (n := (G.na : Int) - 1) (by omega) (by omega)]
    refine vLoop (fun q e m => ∃ d, q + d = G.na ∧ e 2 = .ptr 2 V2 0 ∧ m 2 = .var V2 [.fs G.ni f0, .fs G.no f1, .fs G.nr f2, .fs G.na f3, .fs G.nk f4] ∧ e 8 = .int .i64 (G.base : Nat) ∧ e 9 = .int .i64 ((q : Int) - 1) ∧ ∃ g, e 5 = .sl 12 V G.nodes ∧ m 12 = .row V 4 1 G.nodes g ∧ ∀ k, k < G.nodes → g k = .bool (cnB G n x d k)) G.na ⟨0, rfl, ?_⟩ ?_
    · simp -implicitDefEqProofs only [vq0, vq1, vq2, vq3, vq4, vq5, vq6, vq7, vq8, vq9, vqc, vqj, vqf, AI.val, EI.run, binI, kEq, env0, RetF, retL, retV, frzAL, part?, List.drop, List.take, List.all, List.length, List.map, List.append, List.nil_append, List.cons_append, List.append_nil, List.getD_cons_zero, List.getD_cons_succ, List.getD_nil, Option.map_some, Option.map_none, cond_true, cond_false, Nat.reduceEqDiff, Nat.reduceAdd, reduceIte, eq_self, IntKind.bits, litA, appSrc, frzV, frzL, mkElt, List.replicate, List.set, Nat.reduceLeDiff, Nat.reduceBEq, Nat.reduceLT, decide_true, decide_false, List.getElem?_cons_zero, List.getElem?_cons_succ, List.getElem?_nil, Nat.reduceSub, gt_iff_lt, ge_iff_le, Int.reduceLT, Int.reduceLE, Int.reduceEq, Int.cast_ofNat_Int, Int.reduceToNat, implies_true, forall_const, Nat.reduceMul, keyV, elN, eqCells, binS, Ret, newElt, fillA, bound, aidxV, slcO, h2, hm2, h5, hm]
      exact ⟨_, rfl, hg⟩
    · rintro q e m ⟨d, hq, h2, hm2, h8, h9, g, h5, hm, hg⟩
      cases q with
      | zero =>
        obtain rfl : d = G.na := by omega
        have c0 : ((0 : Nat) : Int) - 1 = -1 := rfl
        rw [c0] at h9
        unfold a88_1
        simp -implicitDefEqProofs only [vq0, vq1, vq2, vq3, vq4, vq5, vq6, vq7, vq8, vq9, vqc, vqj, vqf, AI.val, EI.run, binI, kEq, env0, RetF, retL, retV, frzAL, part?, List.drop, List.take, List.all, List.length, List.map, List.append, List.nil_append, List.cons_append, List.append_nil, List.getD_cons_zero, List.getD_cons_succ, List.getD_nil, Option.map_some, Option.map_none, cond_true, cond_false, Nat.reduceEqDiff, Nat.reduceAdd, reduceIte, eq_self, IntKind.bits, litA, appSrc, frzV, frzL, mkElt, List.replicate, List.set, Nat.reduceLeDiff, Nat.reduceBEq, Nat.reduceLT, decide_true, decide_false, List.getElem?_cons_zero, List.getElem?_cons_succ, List.getElem?_nil, Nat.reduceSub, gt_iff_lt, ge_iff_le, Int.reduceLT, Int.reduceLE, Int.reduceEq, Int.cast_ofNat_Int, Int.reduceToNat, implies_true, forall_const, Nat.reduceMul, keyV, elN, eqCells, binS, Ret, newElt, fillA, bound, aidxV, slcO, h2, hm2, h8, h9, h5, hm]
        exact ⟨_, rfl, fun k hk => by rw [hg k hk, keepB_eq (cnB_iff gd)]⟩
      | succ i =>
        have hi : i < G.na := by omega
        have ed : G.na - 1 - d = i := by omega
        have h9' : e 9 = .int .i64 (i : Nat) := by rw [h9]; congr 1; omega
        have okA := gd.A i hi
        have okB := gd.B i hi
        have wA := ndx_quo okA (by omega)
        have wB := ndx_quo okB (by omega)
        have lA := ndx_lt okA
        have lB := ndx_lt okB
        have w1 : IntKind.i64.wrap (((G.base : Nat) : Int) + (i : Nat)) = ((G.base + i : Nat) : Int) := by rw [wI (by omega) (by omega)]; omega
        have hgi := hg (G.base + i) (by omega)
        have cE : ∀ k, cnB G n x (d + 1) k = if cnB G n x d (G.base + i) = true then cnB G n x d k || (decide (k = ndx (G.A i)) || decide (k = ndx (G.B i))) else cnB G n x d k := fun k => by simp only [cnB, ed]
        have i0 : (0 : Int) ≤ (i : Nat) := by omega
        unfold a88_1
        cases hb : cnB G n x d (G.base + i) with
        | false =>
          rw [hb] at hgi
          simp -implicitDefEqProofs only [vq0, vq1, vq2, vq3, vq4, vq5, vq6, vq7, vq8, vq9, vqc, vqj, vqf, AI.val, EI.run, binI, kEq, env0, RetF, retL, retV, frzAL, part?, List.drop, List.take, List.all, List.length, List.map, List.append, List.nil_append, List.cons_append, List.append_nil, List.getD_cons_zero, List.getD_cons_succ, List.getD_nil, Option.map_some, Option.map_none, cond_true, cond_false, Nat.reduceEqDiff, Nat.reduceAdd, reduceIte, eq_self, IntKind.bits, litA, appSrc, frzV, frzL, mkElt, List.replicate, List.set, Nat.reduceLeDiff, Nat.reduceBEq, Nat.reduceLT, decide_true, decide_false, List.getElem?_cons_zero, List.getElem?_cons_succ, List.getElem?_nil, Nat.reduceSub, gt_iff_lt, ge_iff_le, Int.reduceLT, Int.reduceLE, Int.reduceEq, Int.cast_ofNat_Int, Int.reduceToNat, implies_true, forall_const, Nat.reduceMul, keyV, elN, eqCells, binS, Ret, newElt, fillA, bound, aidxV, slcO, h2, hm2, h8, h9', h5, hm, w1, hgi, i0]
          refine ⟨by omega, by omega, i, by omega, d + 1, by omega, wI (by omega) (by omega), _, rfl, fun k hk => ?_⟩
          rw [cE, hb]; exact hg k hk
        | true =>
          rw [hb] at hgi
          simp -implicitDefEqProofs only [vq0, vq1, vq2, vq3, vq4, vq5, vq6, vq7, vq8, vq9, vqc, vqj, vqf, AI.val, EI.run, binI, kEq, env0, RetF, retL, retV, frzAL, part?, List.drop, List.take, List.all, List.length, List.map, List.append, List.nil_append, List.cons_append, List.append_nil, List.getD_cons_zero, List.getD_cons_succ, List.getD_nil, Option.map_some, Option.map_none, cond_true, cond_false, Nat.reduceEqDiff, Nat.reduceAdd, reduceIte, eq_self, IntKind.bits, litA, appSrc, frzV, frzL, mkElt, List.replicate, List.set, Nat.reduceLeDiff, Nat.reduceBEq, Nat.reduceLT, decide_true, decide_false, List.getElem?_cons_zero, List.getElem?_cons_succ, List.getElem?_nil, Nat.reduceSub, gt_iff_lt, ge_iff_le, Int.reduceLT, Int.reduceLE, Int.reduceEq, Int.cast_ofNat_Int, Int.reduceToNat, implies_true, forall_const, Nat.reduceMul, keyV, elN, eqCells, binS, Ret, newElt, fillA, bound, aidxV, slcO, h2, hm2, h8, h9', h5, hm, w1, hgi, i0]
          refine ⟨by omega, by omega, ?_⟩
          refine vAnyS [0, 1, 2, 3, 4, 5, 6, 7, 8, 9, 10, 11, 12, 13, 14, 15] [16, 17, 18, 19] 16 (oneL 2) (by kernel_rfl) (by kernel_rfl) ?_
          simp -implicitDefEqProofs only [vq0, vq1, vq2, vq3, vq4, vq5, vq6, vq7, vq8, vq9, vqc, vqj, vqf, AI.val, EI.run, binI, kEq, env0, RetF, retL, retV, frzAL, part?, List.drop, List.take, List.all, List.length, List.map, List.append, List.nil_append, List.cons_append, List.append_nil, List.getD_cons_zero, List.getD_cons_succ, List.getD_nil, Option.map_some, Option.map_none, cond_true, cond_false, Nat.reduceEqDiff, Nat.reduceAdd, reduceIte, eq_self, IntKind.bits, litA, appSrc, frzV, frzL, mkElt, List.replicate, List.set, Nat.reduceLeDiff, Nat.reduceBEq, Nat.reduceLT, decide_true, decide_false, List.getElem?_cons_zero, List.getElem?_cons_succ, List.getElem?_nil, Nat.reduceSub, gt_iff_lt, ge_iff_le, Int.reduceLT, Int.reduceLE, Int.reduceEq, Int.cast_ofNat_Int, Int.reduceToNat, implies_true, forall_const, Nat.reduceMul, keyV, elN, eqCells, binS, Ret, newElt, fillA, bound, aidxV, slcO, opsC, opsN, h2, hm2, h8, h9', h5, hm, w1, hgi, i0, g3 i hi, wA, wB]
          refine ⟨by omega, by decide, by omega, by decide, by omega, by omega, by omega, by omega, i, by omega, d + 1, by omega, wI (by omega) (by omega), _, rfl, fun k hk => ?_⟩
          rw [cE, hb, if_pos rfl]
          by_cases e1 : k = ndx (G.B i)
          · simp only [e1, decide_true, cond_true, Bool.or_true]
          · by_cases e2 : k = ndx (G.A i)
            · simp only [e1, e2, decide_false, cond_false, decide_true, cond_true, Bool.true_or, Bool.or_true]
              cases decide (ndx (G.A i) = ndx (G.B i)) <;> rfl
            · simp only [e1, e2, decide_false, cond_false, Bool.or_false]
              exact hg k hk

/-- What the marking closure sees: objects o6 (the marks' slice, over row d), o5 (the first and), o7 (itself), o2 (the graph). -/
def BelA (mem : Mem) (G : Gra) (cs : List AV) (o6 v6 o5 v5 o7 v7 o2 v2 d dv : Nat) (s : Nat → Bool) : Prop :=
  mem o6 = .var v6 [.sl d dv G.nodes] ∧ mem o5 = .var v5 [.int .i64 (G.base : Nat)] ∧ mem o7 = .var v7 [.fn 92 [.ptr o6 v6 0, .ptr o5 v5 0, .ptr o7 v7 0, .ptr o2 v2 0]] ∧ mem o2 = .var v2 cs ∧ o6 ≠ d ∧ o5 ≠ d ∧ o7 ≠ d ∧ o2 ≠ d ∧ ∃ g, mem d = .row dv 4 1 G.nodes g ∧ ∀ k, k < G.nodes → g k = .bool (s k)

theorem p92 {G : Gra} {cs : List AV} (hG : GraC cs G) (gd : G.Good) (o6 v6 o5 v5 o7 v7 o2 v2 d dv : Nat) : ∀ (N : Nat) (mem : Mem) (s : Nat → Bool) (l : Int), ndx l < N → litOk G.nodes l → BelA mem G cs o6 v6 o5 v5 o7 v7 o2 v2 d dv s → Clo G s (ndx l + 1) →
    CallW PP 92 [.int .i64 l, .ptr o6 v6 0, .ptr o5 v5 0, .ptr o7 v7 0, .ptr o2 v2 0] mem fun r m => ∃ s', BelA m G cs o6 v6 o5 v5 o7 v7 o2 v2 d dv s' ∧ Marked G (ndx l) s s' ∧ ∀ i, i ≠ d → m i = mem i := by
  intro N
  induction N with
  | zero => exact fun _ _ _ h => absurd h (Nat.not_lt_zero _)
  | succ N IH =>
    intro mem s l hN hl hB hc
    have hB0 := hB
    obtain ⟨f0, f1, f2, f3, f4, rfl, g0, g1, g2, g3, g4⟩ := hG
    obtain ⟨h6, h5, h7, h2, n6, n5, n7, n2, g, hd, hg⟩ := hB
    have b1 := gd.ni; have b2 := gd.nr; have b3 := gd.na
    have hbE : G.base = 1 + G.ni + G.nr := rfl
    have hnE : G.nodes = G.base + G.na := rfl
    have hlt := ndx_lt hl
    have wl := ndx_shr hl
    have e6 : (o6 = d) = False := eq_false n6
    have e5 : (o5 = d) = False := eq_false n5
    have e7 : (o7 = d) = False := eq_false n7
    have e2 : (o2 = d) = False := eq_false n2
    have wr : BelA (Mem.set d (.row dv 4 1 G.nodes fun j => bif decide (j = ndx l) then .bool true else g j) mem) G [.fs G.ni f0, .fs G.no f1, .fs G.nr f2, .fs G.na f3, .fs G.nk f4] o6 v6 o5 v5 o7 v7 o2 v2 d dv (mark1 s (ndx l)) := by
      refine ⟨by rw [set_ne n6, h6], by rw [set_ne n5, h5], by rw [set_ne n7, h7], by rw [set_ne n2, h2], n6, n5, n7, n2, _, set_same _ _ _, fun k hk => ?_⟩
      by_cases e : k = ndx l
      · simp only [e, decide_true, cond_true, mark1_it]
      · simp only [e, decide_false, cond_false, mark1_ne e]; exact hg k hk
    refine Fn.call fmix f92 ?_
    unfold a92 r92
    cases hs : s (ndx l) with
    | true =>
      have hgl := hg _ hlt
      rw [hs] at hgl
      simp -implicitDefEqProofs only [vq0, vq1, vq2, vq3, vq4, vq5, vq6, vq7, vq8, vq9, vqc, vqj, vqf, AI.val, EI.run, binI, kEq, env0, RetF, retL, retV, frzAL, part?, List.drop, List.take, List.all, List.length, List.map, List.append, List.nil_append, List.cons_append, List.append_nil, List.getD_cons_zero, List.getD_cons_succ, List.getD_nil, Option.map_some, Option.map_none, cond_true, cond_false, Nat.reduceEqDiff, Nat.reduceAdd, reduceIte, eq_self, IntKind.bits, litA, appSrc, frzV, frzL, mkElt, List.replicate, List.set, Nat.reduceLeDiff, Nat.reduceBEq, Nat.reduceLT, decide_true, decide_false, List.getElem?_cons_zero, List.getElem?_cons_succ, List.getElem?_nil, Nat.reduceSub, gt_iff_lt, ge_iff_le, Int.reduceLT, Int.reduceLE, Int.reduceEq, Int.cast_ofNat_Int, Int.reduceToNat, implies_true, forall_const, Nat.reduceMul, keyV, elN, eqCells, binS, Ret, newElt, fillA, bound, aidxV, slcO, h6, h5, h7, h2, hd, wl, hgl]
      exact ⟨by omega, hlt, s, hB0, .same hs hc⟩
    | false =>
      have hgl := hg _ hlt
      rw [hs] at hgl
      simp -implicitDefEqProofs only [vq0, vq1, vq2, vq3, vq4, vq5, vq6, vq7, vq8, vq9, vqc, vqj, vqf, AI.val, EI.run, binI, kEq, env0, RetF, retL, retV, frzAL, part?, List.drop, List.take, List.all, List.length, List.map, List.append, List.nil_append, List.cons_append, List.append_nil, List.getD_cons_zero, List.getD_cons_succ, List.getD_nil, Option.map_some, Option.map_none, cond_true, cond_false, Nat.reduceEqDiff, Nat.reduceAdd, reduceIte, eq_self, IntKind.bits, litA, appSrc, frzV, frzL, mkElt, List.replicate, List.set, Nat.reduceLeDiff, Nat.reduceBEq, Nat.reduceLT, decide_true, decide_false, List.getElem?_cons_zero, List.getElem?_cons_succ, List.getElem?_nil, Nat.reduceSub, gt_iff_lt, ge_iff_le, Int.reduceLT, Int.reduceLE, Int.reduceEq, Int.cast_ofNat_Int, Int.reduceToNat, implies_true, forall_const, Nat.reduceMul, keyV, elN, eqCells, binS, Ret, newElt, fillA, bound, aidxV, slcO, h6, h5, h7, h2, hd, wl, hgl, e6, e5, e7, e2]
      refine ⟨by omega, hlt, by omega, hlt, fun k1 => ?_, fun k1 => ⟨_, wr, .low (by omega), fun i hi => by rw [if_neg hi]⟩⟩
      obtain ⟨j, hj⟩ : ∃ j, ndx l = G.base + j := ⟨ndx l - G.base, by omega⟩
      have hjn : j < G.na := by omega
      have okA := gd.A j hjn
      have okB := gd.B j hjn
      have lA := ndx_lt okA
      have lB := ndx_lt okB
      have hw : IntKind.i64.wrap ((ndx l : Nat) - ((G.base : Nat) : Int)) = (j : Nat) := by rw [wI (by omega) (by omega)]; omega
      have q7 : ∀ (m : Mem), restr (threeL o7 o5 o2) m o7 = m o7 := fun _ => restr_three1
      have q5 : ∀ (m : Mem), restr (threeL o7 o5 o2) m o5 = m o5 := fun _ => restr_three2
      have q2 : ∀ (m : Mem), restr (threeL o7 o5 o2) m o2 = m o2 := fun _ => restr_three3
      refine vAny [0, 1, 2, 3, 4, 5, 6, 7, 8, 9] 10 (threeL o7 o5 o2) (by kernel_rfl) (by kernel_rfl) ?_
      simp -implicitDefEqProofs only [vq0, vq1, vq2, vq3, vq4, vq5, vq6, vq7, vq8, vq9, vqc, vqj, vqf, AI.val, EI.run, binI, kEq, env0, RetF, retL, retV, frzAL, part?, List.drop, List.take, List.all, List.length, List.map, List.append, List.nil_append, List.cons_append, List.append_nil, List.getD_cons_zero, List.getD_cons_succ, List.getD_nil, Option.map_some, Option.map_none, cond_true, cond_false, Nat.reduceEqDiff, Nat.reduceAdd, reduceIte, eq_self, IntKind.bits, litA, appSrc, frzV, frzL, mkElt, List.replicate, List.set, Nat.reduceLeDiff, Nat.reduceBEq, Nat.reduceLT, decide_true, decide_false, List.getElem?_cons_zero, List.getElem?_cons_succ, List.getElem?_nil, Nat.reduceSub, gt_iff_lt, ge_iff_le, Int.reduceLT, Int.reduceLE, Int.reduceEq, Int.cast_ofNat_Int, Int.reduceToNat, implies_true, forall_const, Nat.reduceMul, keyV, elN, eqCells, binS, Ret, newElt, fillA, bound, aidxV, slcO, q7, q5, q2, h6, h5, h7, h2, hd, e6, e5, e7, e2, hw, g3 j hjn]
      refine ⟨by omega, ?_⟩
      have hc1 : Clo G (mark1 s (ndx l)) (ndx (G.A j) + 1) := hc.mark (by omega)
      refine (IH _ (mark1 s (ndx l)) (G.A j) (by omega) ⟨okA.1, by have := okA.2; omega⟩ wr hc1).mono fun r m1 ⟨s2, hB2, hM2, hK2⟩ => ?_
      have k7 := hK2 o7 n7; have k5 := hK2 o5 n5; have k2 := hK2 o2 n2
      rw [set_ne n7, h7] at k7
      rw [set_ne n5, h5] at k5
      rw [set_ne n2, h2] at k2
      simp -implicitDefEqProofs only [vq0, vq1, vq2, vq3, vq4, vq5, vq6, vq7, vq8, vq9, vqc, vqj, vqf, AI.val, EI.run, binI, kEq, env0, RetF, retL, retV, frzAL, part?, List.drop, List.take, List.all, List.length, List.map, List.append, List.nil_append, List.cons_append, List.append_nil, List.getD_cons_zero, List.getD_cons_succ, List.getD_nil, Option.map_some, Option.map_none, cond_true, cond_false, Nat.reduceEqDiff, Nat.reduceAdd, reduceIte, eq_self, IntKind.bits, litA, appSrc, frzV, frzL, mkElt, List.replicate, List.set, Nat.reduceLeDiff, Nat.reduceBEq, Nat.reduceLT, decide_true, decide_false, List.getElem?_cons_zero, List.getElem?_cons_succ, List.getElem?_nil, Nat.reduceSub, gt_iff_lt, ge_iff_le, Int.reduceLT, Int.reduceLE, Int.reduceEq, Int.cast_ofNat_Int, Int.reduceToNat, implies_true, forall_const, Nat.reduceMul, keyV, elN, eqCells, binS, Ret, newElt, fillA, bound, aidxV, slcO, agree_three, e6, e5, e7, e2, h7, h5, h2, k7, k5, k2]
      refine vAny [0, 1, 2, 3, 4, 5, 6, 7, 8, 9] 10 (threeL o7 o5 o2) (by kernel_rfl) (by kernel_rfl) ?_
      simp -implicitDefEqProofs only [vq0, vq1, vq2, vq3, vq4, vq5, vq6, vq7, vq8, vq9, vqc, vqj, vqf, AI.val, EI.run, binI, kEq, env0, RetF, retL, retV, frzAL, part?, List.drop, List.take, List.all, List.length, List.map, List.append, List.nil_append, List.cons_append, List.append_nil, List.getD_cons_zero, List.getD_cons_succ, List.getD_nil, Option.map_some, Option.map_none, cond_true, cond_false, Nat.reduceEqDiff, Nat.reduceAdd, reduceIte, eq_self, IntKind.bits, litA, appSrc, frzV, frzL, mkElt, List.replicate, List.set, Nat.reduceLeDiff, Nat.reduceBEq, Nat.reduceLT, decide_true, decide_false, List.getElem?_cons_zero, List.getElem?_cons_succ, List.getElem?_nil, Nat.reduceSub, gt_iff_lt, ge_iff_le, Int.reduceLT, Int.reduceLE, Int.reduceEq, Int.cast_ofNat_Int, Int.reduceToNat, implies_true, forall_const, Nat.reduceMul, keyV, elN, eqCells, binS, Ret, newElt, fillA, bound, aidxV, slcO, q7, q5, q2, h6, k5, k7, k2, hd, e6, e5, e7, e2, hw, g3 j hjn]
      refine ⟨by omega, ?_⟩
      rw [hj] at hc hM2 hc1
      have hc2 : Clo G s2 (ndx (G.B j) + 1) := by
        refine hc.second (a := ndx (G.A j)) (by omega) (by omega) ?_
        exact hM2
      refine (IH _ s2 (G.B j) (by omega) ⟨okB.1, by have := okB.2; omega⟩ hB2 hc2).mono fun r m2 ⟨s3, hB3, hM3, hK3⟩ => ?_
      have k7' := (hK3 o7 n7).trans k7; have k5' := (hK3 o5 n5).trans k5; have k2' := (hK3 o2 n2).trans k2
      simp -implicitDefEqProofs only [vq0, vq1, vq2, vq3, vq4, vq5, vq6, vq7, vq8, vq9, vqc, vqj, vqf, AI.val, EI.run, binI, kEq, env0, RetF, retL, retV, frzAL, part?, List.drop, List.take, List.all, List.length, List.map, List.append, List.nil_append, List.cons_append, List.append_nil, List.getD_cons_zero, List.getD_cons_succ, List.getD_nil, Option.map_some, Option.map_none, cond_true, cond_false, Nat.reduceEqDiff, Nat.reduceAdd, reduceIte, eq_self, IntKind.bits, litA, appSrc, frzV, frzL, mkElt, List.replicate, List.set, Nat.reduceLeDiff, Nat.reduceBEq, Nat.reduceLT, decide_true, decide_false, List.getElem?_cons_zero, List.getElem?_cons_succ, List.getElem?_nil, Nat.reduceSub, gt_iff_lt, ge_iff_le, Int.reduceLT, Int.reduceLE, Int.reduceEq, Int.cast_ofNat_Int, Int.reduceToNat, implies_true, forall_const, Nat.reduceMul, keyV, elN, eqCells, binS, Ret, newElt, fillA, bound, aidxV, slcO, agree_three, e6, e5, e7, e2, k7, k5, k2, k7', k5', k2']
      rw [hj]
      refine ⟨s3, hB3, .node hjn hc lA lB hM2 hM3, fun i hi => ?_⟩
      rw [hK3 i hi, hK2 i hi, set_ne hi]

theorem p54 {G : Gra} {cs : List AV} (hG : GraC cs G) (gd : G.Good) (n : Nat) (x : Nat → Int) (fx : Nat → AV) (hx : ∀ i, i < n → fx i = .int .i64 (x i)) (hok : ∀ i, i < n → litOk G.nodes (x i)) (hn : n ≤ 1048576) :
    Pure PP 54 [.agg cs, .fs n fx] fun r => ∃ f, r = .fs G.nodes f ∧ ∀ k, k < G.nodes → f k = .bool (keepB G n x k) := by
  have hG0 := hG
  obtain ⟨f0, f1, f2, f3, f4, rfl, g0, g1, g2, g3, g4⟩ := hG
  have b1 := gd.ni; have b2 := gd.nr; have b3 := gd.na
  have hbE : G.base = 1 + G.ni + G.nr := rfl
  have hnE : G.nodes = G.base + G.na := rfl
  have wb : IntKind.i64.wrap (IntKind.i64.wrap (1 + (G.ni : Int)) + (G.nr : Int)) = (G.base : Nat) := by
    rw [wI (n := 1 + (G.ni : Int)) (by omega) (by omega), wI (by omega) (by omega)]; omega
  have wn : IntKind.i64.wrap (((G.base : Nat) : Int) + (G.na : Int)) = (G.nodes : Nat) := by rw [wI (by omega) (by omega)]; omega
  refine Fn.pure fmix f54 ?_
  unfold a54 r54
  simp -implicitDefEqProofs only [vq0, vq1, vq2, vq3, vq4, vq5, vq6, vq7, vq8, vq9, vqc, vqj, vqf, AI.val, EI.run, binI, kEq, env0, RetF, retL, retV, frzAL, part?, List.drop, List.take, List.all, List.length, List.map, List.append, List.nil_append, List.cons_append, List.append_nil, List.getD_cons_zero, List.getD_cons_succ, List.getD_nil, Option.map_some, Option.map_none, cond_true, cond_false, Nat.reduceEqDiff, Nat.reduceAdd, reduceIte, eq_self, IntKind.bits, litA, appSrc, frzV, frzL, mkElt, List.replicate, List.set, Nat.reduceLeDiff, Nat.reduceBEq, Nat.reduceLT, decide_true, decide_false, List.getElem?_cons_zero, List.getElem?_cons_succ, List.getElem?_nil, Nat.reduceSub, gt_iff_lt, ge_iff_le, Int.reduceLT, Int.reduceLE, Int.reduceEq, Int.cast_ofNat_Int, Int.reduceToNat, implies_true, forall_const, Nat.reduceMul, keyV, elN, eqCells, binS, Ret, newElt, fillA, bound, aidxV, slcO, wb, wn]
  refine ⟨by omega, ?_⟩
  generalize (mem0 2).ver + 1 = V2
  generalize (mem0 5).ver + 1 = V5
  generalize (mem0 6).ver + 1 = V6
  generalize (mem0 7).ver + 1 = V7
  generalize (mem0 23).ver + 1 = V23
  refine vFor n (fun i e m => e 6 = .ptr 6 V6 0 ∧ e 7 = .ptr 7 V7 0 ∧ e 25 = .fs n fx ∧ e 26 = .int .i64 n ∧ e 27 = .int .i64 i ∧ ∃ s, BelA m G [.fs G.ni f0, .fs G.no f1, .fs G.nr f2, .fs G.na f3, .fs G.nk f4] 6 V6 5 V5 7 V7 2 V2 23 V23 s ∧ Below G n x i s) ?_ ?_ ?_
  · simp -implicitDefEqProofs only [vq0, vq1, vq2, vq3, vq4, vq5, vq6, vq7, vq8, vq9, vqc, vqj, vqf, AI.val, EI.run, binI, kEq, env0, RetF, retL, retV, frzAL, part?, List.drop, List.take, List.all, List.length, List.map, List.append, List.nil_append, List.cons_append, List.append_nil, List.getD_cons_zero, List.getD_cons_succ, List.getD_nil, Option.map_some, Option.map_none, cond_true, cond_false, Nat.reduceEqDiff, Nat.reduceAdd, reduceIte, eq_self, IntKind.bits, litA, appSrc, frzV, frzL, mkElt, List.replicate, List.set, Nat.reduceLeDiff, Nat.reduceBEq, Nat.reduceLT, decide_true, decide_false, List.getElem?_cons_zero, List.getElem?_cons_succ, List.getElem?_nil, Nat.reduceSub, gt_iff_lt, ge_iff_le, Int.reduceLT, Int.reduceLE, Int.reduceEq, Int.cast_ofNat_Int, Int.reduceToNat, implies_true, forall_const, Nat.reduceMul, keyV, elN, eqCells, binS, Ret, newElt, fillA, bound, aidxV, slcO]
    refine ⟨fun _ => false, ⟨by simp -implicitDefEqProofs only [vq0, vq1, vq2, vq3, vq4, vq5, vq6, vq7, vq8, vq9, vqc, vqj, vqf, AI.val, EI.run, binI, kEq, env0, RetF, retL, retV, frzAL, part?, List.drop, List.take, List.all, List.length, List.map, List.append, List.nil_append, List.cons_append, List.append_nil, List.getD_cons_zero, List.getD_cons_succ, List.getD_nil, Option.map_some, Option.map_none, cond_true, cond_false, Nat.reduceEqDiff, Nat.reduceAdd, reduceIte, eq_self, IntKind.bits, litA, appSrc, frzV, frzL, mkElt, List.replicate, List.set, Nat.reduceLeDiff, Nat.reduceBEq, Nat.reduceLT, decide_true, decide_false, List.getElem?_cons_zero, List.getElem?_cons_succ, List.getElem?_nil, Nat.reduceSub, gt_iff_lt, ge_iff_le, Int.reduceLT, Int.reduceLE, Int.reduceEq, Int.cast_ofNat_Int, Int.reduceToNat, implies_true, forall_const, Nat.reduceMul, keyV, elN, eqCells, binS, Ret, newElt, fillA, bound, aidxV, slcO], by simp -implicitDefEqProofs only [vq0, vq1, vq2, vq3, vq4, vq5, vq6, vq7, vq8, vq9, vqc, vqj, vqf, AI.val, EI.run, binI, kEq, env0, RetF, retL, retV, frzAL, part?, List.drop, List.take, List.all, List.length, List.map, List.append, List.nil_append, List.cons_append, List.append_nil, List.getD_cons_zero, List.getD_cons_succ, List.getD_nil, Option.map_some, Option.map_none, cond_true, cond_false, Nat.reduceEqDiff, Nat.reduceAdd, reduceIte, eq_self, IntKind.bits, litA, appSrc, frzV, frzL, mkElt, List.replicate, List.set, Nat.reduceLeDiff, Nat.reduceBEq, Nat.reduceLT, decide_true, decide_false, List.getElem?_cons_zero, List.getElem?_cons_succ, List.getElem?_nil, Nat.reduceSub, gt_iff_lt, ge_iff_le, Int.reduceLT, Int.reduceLE, Int.reduceEq, Int.cast_ofNat_Int, Int.reduceToNat, implies_true, forall_const, Nat.reduceMul, keyV, elN, eqCells, binS, Ret, newElt, fillA, bound, aidxV, slcO], by simp -implicitDefEqProofs only [vq0, vq1, vq2, vq3, vq4, vq5, vq6, vq7, vq8, vq9, vqc, vqj, vqf, AI.val, EI.run, binI, kEq, env0, RetF, retL, retV, frzAL, part?, List.drop, List.take, List.all, List.length, List.map, List.append, List.nil_append, List.cons_append, List.append_nil, List.getD_cons_zero, List.getD_cons_succ, List.getD_nil, Option.map_some, Option.map_none, cond_true, cond_false, Nat.reduceEqDiff, Nat.reduceAdd, reduceIte, eq_self, IntKind.bits, litA, appSrc, frzV, frzL, mkElt, List.replicate, List.set, Nat.reduceLeDiff, Nat.reduceBEq, Nat.reduceLT, decide_true, decide_false, List.getElem?_cons_zero, List.getElem?_cons_succ, List.getElem?_nil, Nat.reduceSub, gt_iff_lt, ge_iff_le, Int.reduceLT, Int.reduceLE, Int.reduceEq, Int.cast_ofNat_Int, Int.reduceToNat, implies_true, forall_const, Nat.reduceMul, keyV, elN, eqCells, binS, Ret, newElt, fillA, bound, aidxV, slcO], by simp -implicitDefEqProofs only [vq0, vq1, vq2, vq3, vq4, vq5, vq6, vq7, vq8, vq9, vqc, vqj, vqf, AI.val, EI.run, binI, kEq, env0, RetF, retL, retV, frzAL, part?, List.drop, List.take, List.all, List.length, List.map, List.append, List.nil_append, List.cons_append, List.append_nil, List.getD_cons_zero, List.getD_cons_succ, List.getD_nil, Option.map_some, Option.map_none, cond_true, cond_false, Nat.reduceEqDiff, Nat.reduceAdd, reduceIte, eq_self, IntKind.bits, litA, appSrc, frzV, frzL, mkElt, List.replicate, List.set, Nat.reduceLeDiff, Nat.reduceBEq, Nat.reduceLT, decide_true, decide_false, List.getElem?_cons_zero, List.getElem?_cons_succ, List.getElem?_nil, Nat.reduceSub, gt_iff_lt, ge_iff_le, Int.reduceLT, Int.reduceLE, Int.reduceEq, Int.cast_ofNat_Int, Int.reduceToNat, implies_true, forall_const, Nat.reduceMul, keyV, elN, eqCells, binS, Ret, newElt, fillA, bound, aidxV, slcO], by decide, by decide, by decide, by decide, _, rfl, fun k hk => rfl⟩, .start⟩
  · rintro i e m hi hi' ⟨h6, h7, h25, h26, h27, s, hB, hS⟩
    have hB0 := hB
    obtain ⟨m6, m5, m7, m2, n6, n5, n7, n2, g, hd, hg⟩ := hB
    have hl := hok i hi
    have hlt := ndx_lt hl
    unfold a54_0
    simp -implicitDefEqProofs only [vq0, vq1, vq2, vq3, vq4, vq5, vq6, vq7, vq8, vq9, vqc, vqj, vqf, AI.val, EI.run, binI, kEq, env0, RetF, retL, retV, frzAL, part?, List.drop, List.take, List.all, List.length, List.map, List.append, List.nil_append, List.cons_append, List.append_nil, List.getD_cons_zero, List.getD_cons_succ, List.getD_nil, Option.map_some, Option.map_none, cond_true, cond_false, Nat.reduceEqDiff, Nat.reduceAdd, reduceIte, eq_self, IntKind.bits, litA, appSrc, frzV, frzL, mkElt, List.replicate, List.set, Nat.reduceLeDiff, Nat.reduceBEq, Nat.reduceLT, decide_true, decide_false, List.getElem?_cons_zero, List.getElem?_cons_succ, List.getElem?_nil, Nat.reduceSub, gt_iff_lt, ge_iff_le, Int.reduceLT, Int.reduceLE, Int.reduceEq, Int.cast_ofNat_Int, Int.reduceToNat, implies_true, forall_const, Nat.reduceMul, keyV, elN, eqCells, binS, Ret, newElt, fillA, bound, aidxV, slcO, h6, h7, h25, h26, h27, m7, hi', hx i hi]
    refine ⟨by omega, ?_⟩
    refine (p92 hG0 gd 6 V6 5 V5 7 V7 2 V2 23 V23 _ m s (x i) (Nat.lt_succ_self _) hl hB0 hS.clo.all).mono fun r m1 ⟨s1, hB1, hM1, hK1⟩ => ?_
    simp -implicitDefEqProofs only [vq0, vq1, vq2, vq3, vq4, vq5, vq6, vq7, vq8, vq9, vqc, vqj, vqf, AI.val, EI.run, binI, kEq, env0, RetF, retL, retV, frzAL, part?, List.drop, List.take, List.all, List.length, List.map, List.append, List.nil_append, List.cons_append, List.append_nil, List.getD_cons_zero, List.getD_cons_succ, List.getD_nil, Option.map_some, Option.map_none, cond_true, cond_false, Nat.reduceEqDiff, Nat.reduceAdd, reduceIte, eq_self, IntKind.bits, litA, appSrc, frzV, frzL, mkElt, List.replicate, List.set, Nat.reduceLeDiff, Nat.reduceBEq, Nat.reduceLT, decide_true, decide_false, List.getElem?_cons_zero, List.getElem?_cons_succ, List.getElem?_nil, Nat.reduceSub, gt_iff_lt, ge_iff_le, Int.reduceLT, Int.reduceLE, Int.reduceEq, Int.cast_ofNat_Int, Int.reduceToNat, implies_true, forall_const, Nat.reduceMul, keyV, elN, eqCells, binS, Ret, newElt, fillA, bound, aidxV, slcO, h6, h7, h25, h26, h27]
    exact ⟨hi, wI (by omega) (by omega), s1, hB1, hS.step hi hlt hM1⟩
  · rintro e m ⟨h6, h7, h25, h26, h27, s, hB, hS⟩
    obtain ⟨m6, m5, m7, m2, n6, n5, n7, n2, g, hd, hg⟩ := hB
    unfold a54_0
    simp -implicitDefEqProofs only [vq0, vq1, vq2, vq3, vq4, vq5, vq6, vq7, vq8, vq9, vqc, vqj, vqf, AI.val, EI.run, binI, kEq, env0, RetF, retL, retV, frzAL, part?, List.drop, List.take, List.all, List.length, List.map, List.append, List.nil_append, List.cons_append, List.append_nil, List.getD_cons_zero, List.getD_cons_succ, List.getD_nil, Option.map_some, Option.map_none, cond_true, cond_false, Nat.reduceEqDiff, Nat.reduceAdd, reduceIte, eq_self, IntKind.bits, litA, appSrc, frzV, frzL, mkElt, List.replicate, List.set, Nat.reduceLeDiff, Nat.reduceBEq, Nat.reduceLT, decide_true, decide_false, List.getElem?_cons_zero, List.getElem?_cons_succ, List.getElem?_nil, Nat.reduceSub, gt_iff_lt, ge_iff_le, Int.reduceLT, Int.reduceLE, Int.reduceEq, Int.cast_ofNat_Int, Int.reduceToNat, implies_true, forall_const, Nat.reduceMul, keyV, elN, eqCells, binS, Ret, newElt, fillA, bound, aidxV, slcO, h6, h7, h25, h26, h27, m6, hd]
    exact ⟨_, rfl, fun k hk => by rw [hg k hk, hS.keep k]⟩
end Go.Ab
