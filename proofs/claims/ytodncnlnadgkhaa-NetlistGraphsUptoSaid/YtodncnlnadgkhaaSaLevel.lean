/- Walks: Levels and Depth, and what they are compared with. -/
import Derived.Test.YtodncnlnadgkhaaSaEnds
import Derived.Test.YtodncnlnadgkhaaSaForm
import Derived.Test.YtodncnlnadgkhaaSaFault
import Derived.Test.YtodncnlnadgkhaaLwLevel
set_option linter.unusedSimpArgs false
set_option linter.unusedVariables false
namespace Go.Ab
open Go
def a32_1 : AC := (.seq (.ops [⟨(some 32), none, (.v (.bin .lss (.t 31) (.t 30)))⟩]) (.seq (.cond (.t 32) .skip (.exit 2)) (.seq (.block 3 (.seq (.ops [⟨(some 33), none, (.v (.idx 1 (.t 29) (.t 31)))⟩, ⟨(some 34), none, (.v (.load 1 false (.t 33)))⟩, ⟨(some 10), none, (.v (.mv (.t 34)))⟩]) (.ops [⟨(some 35), none, (.v (.mv (.t 8)))⟩, ⟨(some 36), none, (.v (.mv (.t 5)))⟩, ⟨(some 37), none, (.v (.mv (.t 10)))⟩, ⟨(some 38), none, (.v (.idx 1 (.t 36) (.t 37)))⟩, ⟨(some 39), none, (.v (.load 1 false (.t 38)))⟩, ⟨(some 40), none, (.v (.mx (.t 35) (.t 39)))⟩, ⟨(some 8), none, (.v (.mv (.t 40)))⟩]))) (.ops [⟨(some 41), none, (.v (.bin .add (.t 31) (.c (.int .i64 1))))⟩, ⟨(some 31), none, (.v (.mv (.t 41)))⟩]))))
def a32_0 : AC := (.seq (.ops [⟨(some 25), none, (.v (.bin .lss (.t 24) (.t 23)))⟩]) (.seq (.cond (.t 25) .skip (.exit 0)) (.seq (.block 1 (.seq (.ops [⟨(some 26), none, (.v (.idx 3 (.t 22) (.t 24)))⟩, ⟨(some 27), none, (.v (.load 3 true (.t 26)))⟩, ⟨(some 7), none, (.e (.alloc 7 [(.int .i64 0), (.int .u64 0), .cap0]))⟩, ⟨none, none, (.e (.store 3 (.t 7) (.t 27)))⟩]) (.seq (.ops [⟨(some 8), none, (.v (.mv (.c (.int .i64 0))))⟩]) (.seq (.seq (.ops [⟨(some 28), none, (.v (.fld 2 (.t 7)))⟩, ⟨(some 29), none, (.v (.load 1 false (.t 28)))⟩, ⟨(some 30), none, (.v (.len (.t 29)))⟩, ⟨(some 31), none, (.v (.mv (.c (.int .i64 0))))⟩]) (.block 2 (.loop a32_1))) (.ops [⟨(some 42), none, (.v (.mv (.t 5)))⟩, ⟨(some 43), none, (.v (.mv (.t 8)))⟩, ⟨(some 44), none, (.v (.bin .add (.t 43) (.c (.int .i64 1))))⟩, ⟨(some 45), none, (.e (.lit 45 3 1 1 [(.int .i64 0)] [(0, (.t 44))]))⟩, ⟨(some 46), none, (.e (.app 46 3 1 8 (.t 42) (.t 45)))⟩, ⟨(some 5), none, (.v (.mv (.t 46)))⟩]))))) (.ops [⟨(some 47), none, (.v (.bin .add (.t 24) (.c (.int .i64 1))))⟩, ⟨(some 24), none, (.v (.mv (.t 47)))⟩]))))
def a32 : AC := (.seq (.ops [⟨(some 1), none, (.e (.box 1 0 (.t 0)))⟩, ⟨(some 2), none, (.v (.mv (.c .cap0)))⟩, ⟨(some 3), none, (.v (.mv (.c (.int .i64 0))))⟩]) (.seq (.seq (.ops [⟨(some 11), none, (.v (.load 5 true (.t 1)))⟩, ⟨(some 12), none, (.call (.c (.fn 24 [])) [(.t 11)])⟩, ⟨(some 4), none, (.v (.mv (.t 12)))⟩]) (.seq (.ops [⟨(some 13), none, (.v (.mv (.t 4)))⟩, ⟨(some 14), none, (.v (.bin .neq (.t 13) (.c (.int .i64 0))))⟩]) (.cond (.t 14) (.seq (.ops [⟨(some 15), none, (.v (.mv (.t 4)))⟩, ⟨(some 2), none, (.v (.mv (.c .cap0)))⟩, ⟨(some 3), none, (.v (.mv (.t 15)))⟩]) .ret) .skip))) (.seq (.any [⟨(some 16), none, (.v (.load 5 true (.t 1)))⟩, ⟨(some 17), none, (.call (.c (.fn 29 [])) [(.t 16)])⟩, ⟨(some 18), none, (.v (.load 5 true (.t 1)))⟩, ⟨(some 19), none, (.call (.c (.fn 28 [])) [(.t 18)])⟩, ⟨(some 20), none, (.e (.make 20 3 1 8 [(.int .i64 0)] (.t 17) (.t 19)))⟩, ⟨(some 5), none, (.v (.mv (.t 20)))⟩] [[], [0], [], [2, 1], [1, 3], [4, 3, 0, 1, 2, 3, 4]]) (.seq (.seq (.ops [⟨(some 21), none, (.v (.fld 3 (.t 1)))⟩, ⟨(some 22), none, (.v (.load 1 false (.t 21)))⟩, ⟨(some 23), none, (.v (.len (.t 22)))⟩, ⟨(some 24), none, (.v (.mv (.c (.int .i64 0))))⟩]) (.block 0 (.loop a32_0))) (.seq (.ops [⟨(some 48), none, (.v (.mv (.t 5)))⟩, ⟨(some 2), none, (.v (.mv (.t 48)))⟩, ⟨(some 3), none, (.v (.mv (.c (.int .i64 0))))⟩]) .ret)))))
def r32 : List AI := [(.mv (.t 2)), (.mv (.t 3))]
theorem f32 : Fn PP 32 1 a32 r32 := Fn.of (fn := Go.Proofs.Try.f32) (by kernel_rfl) (by kernel_rfl) (by kernel_rfl)
def a33_0 : AC := (.seq (.ops [⟨(some 21), none, (.v (.bin .lss (.t 20) (.t 19)))⟩]) (.seq (.cond (.t 21) .skip (.exit 0)) (.seq (.block 1 (.seq (.ops [⟨(some 22), none, (.v (.idx 1 (.t 18) (.t 20)))⟩, ⟨(some 23), none, (.v (.load 1 false (.t 22)))⟩, ⟨(some 8), none, (.v (.mv (.t 23)))⟩]) (.ops [⟨(some 24), none, (.v (.mv (.t 6)))⟩, ⟨(some 25), none, (.v (.mv (.t 4)))⟩, ⟨(some 26), none, (.v (.mv (.t 8)))⟩, ⟨(some 27), none, (.v (.idx 1 (.t 25) (.t 26)))⟩, ⟨(some 28), none, (.v (.load 1 false (.t 27)))⟩, ⟨(some 29), none, (.v (.mx (.t 24) (.t 28)))⟩, ⟨(some 6), none, (.v (.mv (.t 29)))⟩]))) (.ops [⟨(some 30), none, (.v (.bin .add (.t 20) (.c (.int .i64 1))))⟩, ⟨(some 20), none, (.v (.mv (.t 30)))⟩]))))
def a33 : AC := (.seq (.ops [⟨(some 1), none, (.e (.box 1 0 (.t 0)))⟩, ⟨(some 2), none, (.v (.mv (.c (.int .i64 0))))⟩, ⟨(some 3), none, (.v (.mv (.c (.int .i64 0))))⟩]) (.seq (.ops [⟨(some 10), none, (.v (.load 5 true (.t 1)))⟩, ⟨(some 11), none, (.call (.c (.fn 32 [])) [(.t 10)])⟩, ⟨(some 9), none, (.v (.mv (.t 11)))⟩, ⟨(some 12), none, (.v (.ext 0 (.t 9)))⟩, ⟨(some 13), none, (.v (.ext 1 (.t 9)))⟩, ⟨(some 4), none, (.v (.mv (.t 12)))⟩, ⟨(some 5), none, (.v (.mv (.t 13)))⟩]) (.seq (.seq (.ops [⟨(some 14), none, (.v (.mv (.t 5)))⟩, ⟨(some 15), none, (.v (.bin .neq (.t 14) (.c (.int .i64 0))))⟩]) (.cond (.t 15) (.seq (.ops [⟨(some 16), none, (.v (.mv (.t 5)))⟩, ⟨(some 2), none, (.v (.mv (.c (.int .i64 0))))⟩, ⟨(some 3), none, (.v (.mv (.t 16)))⟩]) .ret) .skip)) (.seq (.ops [⟨(some 6), none, (.v (.mv (.c (.int .i64 0))))⟩]) (.seq (.seq (.ops [⟨(some 17), none, (.v (.load 5 true (.t 1)))⟩, ⟨(some 18), none, (.call (.c (.fn 88 [])) [(.t 17)])⟩, ⟨(some 19), none, (.v (.len (.t 18)))⟩, ⟨(some 20), none, (.v (.mv (.c (.int .i64 0))))⟩]) (.block 0 (.loop a33_0))) (.seq (.ops [⟨(some 31), none, (.v (.mv (.t 6)))⟩, ⟨(some 2), none, (.v (.mv (.t 31)))⟩, ⟨(some 3), none, (.v (.mv (.c (.int .i64 0))))⟩]) .ret))))))
def r33 : List AI := [(.mv (.t 2)), (.mv (.t 3))]
theorem f33 : Fn PP 33 1 a33 r33 := Fn.of (fn := Go.Proofs.Try.f33) (by kernel_rfl) (by kernel_rfl) (by kernel_rfl)
def a35_1 : AC := (.seq (.ops [⟨(some 31), none, (.v (.bin .lss (.t 30) (.t 29)))⟩]) (.seq (.cond (.t 31) .skip (.exit 2)) (.seq (.block 3 (.seq (.ops [⟨(some 32), none, (.v (.idx 1 (.t 28) (.t 30)))⟩, ⟨(some 33), none, (.v (.load 1 false (.t 32)))⟩, ⟨(some 9), none, (.v (.mv (.t 33)))⟩]) (.ops [⟨(some 34), none, (.v (.mv (.t 7)))⟩, ⟨(some 35), none, (.v (.mv (.t 4)))⟩, ⟨(some 36), none, (.v (.mv (.t 9)))⟩, ⟨(some 37), none, (.v (.idx 1 (.t 35) (.t 36)))⟩, ⟨(some 38), none, (.v (.load 1 false (.t 37)))⟩, ⟨(some 39), none, (.v (.bin .add (.t 38) (.c (.int .i64 1))))⟩, ⟨(some 40), none, (.v (.mx (.t 34) (.t 39)))⟩, ⟨(some 7), none, (.v (.mv (.t 40)))⟩]))) (.ops [⟨(some 41), none, (.v (.bin .add (.t 30) (.c (.int .i64 1))))⟩, ⟨(some 30), none, (.v (.mv (.t 41)))⟩]))))
def a35_0 : AC := (.seq (.ops [⟨(some 24), none, (.v (.bin .lss (.t 23) (.t 22)))⟩]) (.seq (.cond (.t 24) .skip (.exit 0)) (.seq (.block 1 (.seq (.ops [⟨(some 25), none, (.v (.idx 3 (.t 21) (.t 23)))⟩, ⟨(some 26), none, (.v (.load 3 true (.t 25)))⟩, ⟨(some 6), none, (.e (.alloc 6 [(.int .i64 0), (.int .u64 0), .cap0]))⟩, ⟨none, none, (.e (.store 3 (.t 6) (.t 26)))⟩]) (.seq (.ops [⟨(some 7), none, (.v (.mv (.c (.int .i64 1))))⟩]) (.seq (.seq (.ops [⟨(some 27), none, (.v (.fld 2 (.t 6)))⟩, ⟨(some 28), none, (.v (.load 1 false (.t 27)))⟩, ⟨(some 29), none, (.v (.len (.t 28)))⟩, ⟨(some 30), none, (.v (.mv (.c (.int .i64 0))))⟩]) (.block 2 (.loop a35_1))) (.ops [⟨(some 42), none, (.v (.mv (.t 4)))⟩, ⟨(some 43), none, (.v (.mv (.t 7)))⟩, ⟨(some 44), none, (.e (.lit 44 3 1 1 [(.int .i64 0)] [(0, (.t 43))]))⟩, ⟨(some 45), none, (.e (.app 45 3 1 8 (.t 42) (.t 44)))⟩, ⟨(some 4), none, (.v (.mv (.t 45)))⟩]))))) (.ops [⟨(some 46), none, (.v (.bin .add (.t 23) (.c (.int .i64 1))))⟩, ⟨(some 23), none, (.v (.mv (.t 46)))⟩]))))
def a35 : AC := (.seq (.ops [⟨(some 1), none, (.e (.box 1 0 (.t 0)))⟩, ⟨(some 2), none, (.v (.mv (.c .cap0)))⟩]) (.seq (.ops [⟨(some 10), none, (.v (.fld 0 (.t 1)))⟩, ⟨(some 11), none, (.v (.load 1 false (.t 10)))⟩, ⟨(some 12), none, (.v (.len (.t 11)))⟩, ⟨(some 13), none, (.v (.bin .add (.c (.int .i64 2)) (.t 12)))⟩, ⟨(some 14), none, (.v (.fld 2 (.t 1)))⟩, ⟨(some 15), none, (.v (.load 1 false (.t 14)))⟩, ⟨(some 16), none, (.v (.len (.t 15)))⟩, ⟨(some 17), none, (.v (.bin .add (.t 13) (.t 16)))⟩, ⟨(some 3), none, (.v (.mv (.t 17)))⟩]) (.seq (.ops [⟨(some 18), none, (.v (.mv (.t 3)))⟩, ⟨(some 19), none, (.e (.make 19 3 1 8 [(.int .i64 0)] (.t 18) (.t 18)))⟩, ⟨(some 4), none, (.v (.mv (.t 19)))⟩]) (.seq (.seq (.ops [⟨(some 20), none, (.v (.fld 3 (.t 1)))⟩, ⟨(some 21), none, (.v (.load 1 false (.t 20)))⟩, ⟨(some 22), none, (.v (.len (.t 21)))⟩, ⟨(some 23), none, (.v (.mv (.c (.int .i64 0))))⟩]) (.block 0 (.loop a35_0))) (.seq (.ops [⟨(some 47), none, (.v (.mv (.t 4)))⟩, ⟨(some 2), none, (.v (.mv (.t 47)))⟩]) .ret)))))
def r35 : List AI := [(.mv (.t 2))]
theorem f35 : Fn PP 35 1 a35 r35 := Fn.of (fn := Go.Proofs.Try.f35) (by kernel_rfl) (by kernel_rfl) (by kernel_rfl)
def a36_0 : AC := (.seq (.ops [⟨(some 13), none, (.v (.bin .lss (.t 12) (.t 11)))⟩]) (.seq (.cond (.t 13) .skip (.exit 0)) (.seq (.block 1 (.seq (.ops [⟨(some 14), none, (.v (.idx 1 (.t 10) (.t 12)))⟩, ⟨(some 15), none, (.v (.load 1 false (.t 14)))⟩, ⟨(some 6), none, (.v (.mv (.t 15)))⟩]) (.ops [⟨(some 16), none, (.v (.mv (.t 4)))⟩, ⟨(some 17), none, (.v (.mv (.t 3)))⟩, ⟨(some 18), none, (.v (.mv (.t 6)))⟩, ⟨(some 19), none, (.v (.idx 1 (.t 17) (.t 18)))⟩, ⟨(some 20), none, (.v (.load 1 false (.t 19)))⟩, ⟨(some 21), none, (.v (.mx (.t 16) (.t 20)))⟩, ⟨(some 4), none, (.v (.mv (.t 21)))⟩]))) (.ops [⟨(some 22), none, (.v (.bin .add (.t 12) (.c (.int .i64 1))))⟩, ⟨(some 12), none, (.v (.mv (.t 22)))⟩]))))
def a36 : AC := (.seq (.ops [⟨(some 1), none, (.e (.box 1 0 (.t 0)))⟩, ⟨(some 2), none, (.v (.mv (.c (.int .i64 0))))⟩]) (.seq (.ops [⟨(some 7), none, (.v (.load 5 true (.t 1)))⟩, ⟨(some 8), none, (.call (.c (.fn 35 [])) [(.t 7)])⟩, ⟨(some 3), none, (.v (.mv (.t 8)))⟩, ⟨(some 4), none, (.v (.mv (.c (.int .i64 0))))⟩]) (.seq (.seq (.ops [⟨(some 9), none, (.v (.load 5 true (.t 1)))⟩, ⟨(some 10), none, (.call (.c (.fn 89 [])) [(.t 9)])⟩, ⟨(some 11), none, (.v (.len (.t 10)))⟩, ⟨(some 12), none, (.v (.mv (.c (.int .i64 0))))⟩]) (.block 0 (.loop a36_0))) (.seq (.ops [⟨(some 23), none, (.v (.mv (.t 4)))⟩, ⟨(some 2), none, (.v (.mv (.t 23)))⟩]) .ret))))
def r36 : List AI := [(.mv (.t 2))]
theorem f36 : Fn PP 36 1 a36 r36 := Fn.of (fn := Go.Proofs.Try.f36) (by kernel_rfl) (by kernel_rfl) (by kernel_rfl)

theorem p32 {N : Net} {cs : List AV} (hN : NetC cs N) (ok : N.Ok) : Pure PP 32 [.agg cs] fun r => ∃ n f, r = .tup [.fs n f, .int .i64 (formF N)] ∧ (formF N ≠ 0 → n = 0) ∧ (formF N = 0 → n = N.nets ∧ ∀ i, i < n → f i = .int .i64 (hts N N.ng i)) := by
  have hN0 := hN
  obtain ⟨f0, f1, f2, f3, f4, rfl, g0, g1, g2, g3, g4⟩ := hN
  refine Fn.pure fmix f32 ?_
  unfold a32 r32
  simp -implicitDefEqProofs only [vqa, Nat.reduceEqDiff, Nat.reduceAdd, reduceIte, Nat.reduceLeDiff, Nat.reduceBEq, Nat.reduceLT, Nat.reduceSub, Int.reduceLT, Int.reduceLE, Int.reduceEq, Int.reduceToNat, Nat.reduceMul, eq_self, implies_true, forall_const]
  refine CallW.sc (p24 hN0 ok) rfl ⟨⟨trivial, trivial, trivial, trivial, trivial, trivial⟩, trivial⟩ fun r hr => ⟨by subst hr; rfl, ?_⟩
  subst hr
  simp -implicitDefEqProofs only [vqa, Nat.reduceEqDiff, Nat.reduceAdd, reduceIte, Nat.reduceLeDiff, Nat.reduceBEq, Nat.reduceLT, Nat.reduceSub, Int.reduceLT, Int.reduceLE, Int.reduceEq, Int.reduceToNat, Nat.reduceMul, eq_self, implies_true, forall_const]
  refine ⟨fun k1 => ⟨_, _, rfl, fun _ => rfl, fun h => absurd h k1⟩, fun k1 => ?_⟩
  have hz : formF N = 0 := Classical.not_not.1 k1
  have gd := Net.good hz
  have b1 := gd.ni; have b2 := gd.nf; have b3 := gd.ng
  have hfi : N.first = 2 + N.ni + N.nf := rfl
  have hnt : N.nets = N.first + N.ng := rfl
  refine vAny [0, 2, 1, 3, 4, 5] 6 (oneL 1) rfl rfl ?_
  simp -implicitDefEqProofs only [vqa, Nat.reduceEqDiff, Nat.reduceAdd, reduceIte, Nat.reduceLeDiff, Nat.reduceBEq, Nat.reduceLT, Nat.reduceSub, Int.reduceLT, Int.reduceLE, Int.reduceEq, Int.reduceToNat, Nat.reduceMul, eq_self, implies_true, forall_const]
  refine CallW.sc (p29 hN0 ok) rfl ⟨⟨trivial, trivial, trivial, trivial, trivial, trivial⟩, trivial⟩ fun r hr => ⟨by subst hr; rfl, ?_⟩
  subst hr
  simp -implicitDefEqProofs only [vqa, Nat.reduceEqDiff, Nat.reduceAdd, reduceIte, Nat.reduceLeDiff, Nat.reduceBEq, Nat.reduceLT, Nat.reduceSub, Int.reduceLT, Int.reduceLE, Int.reduceEq, Int.reduceToNat, Nat.reduceMul, eq_self, implies_true, forall_const]
  refine CallW.sc (p28 hN0 ok) rfl ⟨⟨trivial, trivial, trivial, trivial, trivial, trivial⟩, trivial⟩ fun r hr => ⟨by subst hr; rfl, ?_⟩
  subst hr
  simp -implicitDefEqProofs only [vqa, Nat.reduceEqDiff, Nat.reduceAdd, reduceIte, Nat.reduceLeDiff, Nat.reduceBEq, Nat.reduceLT, Nat.reduceSub, Int.reduceLT, Int.reduceLE, Int.reduceEq, Int.reduceToNat, Nat.reduceMul, eq_self, implies_true, forall_const]
  refine ⟨by omega, ?_⟩
  refine vFor N.ng (fun i e m => e 22 = .fs N.ng f3 ∧ e 23 = .int .i64 N.ng ∧ e 24 = .int .i64 i ∧ ∃ V g, e 5 = .sl 20 V (N.first + i) ∧ m 20 = .row V 3 1 (N.first + i) g ∧ ∀ k, k < N.first + i → g k = .int .i64 (hts N i k)) ?_ ?_ ?_
  · simp -implicitDefEqProofs only [vqa, Nat.reduceEqDiff, Nat.reduceAdd, reduceIte, Nat.reduceLeDiff, Nat.reduceBEq, Nat.reduceLT, Nat.reduceSub, Int.reduceLT, Int.reduceLE, Int.reduceEq, Int.reduceToNat, Nat.reduceMul, eq_self, implies_true, forall_const]
    exact ⟨_, _, rfl, rfl, fun k hk => rfl⟩
  · rintro i e m hi hi' ⟨h22, h23, h24, V, g, h5, hm, hg⟩
    obtain ⟨q, hq, hqi⟩ := g3 i hi
    obtain ⟨c1, c2, c3⟩ := gd.ins i hi
    unfold a32_0
    simp -implicitDefEqProofs only [vqa, Nat.reduceEqDiff, Nat.reduceAdd, reduceIte, Nat.reduceLeDiff, Nat.reduceBEq, Nat.reduceLT, Nat.reduceSub, Int.reduceLT, Int.reduceLE, Int.reduceEq, Int.reduceToNat, Nat.reduceMul, eq_self, implies_true, forall_const, h22, h23, h24, h5, hm, hi', hq]
    refine ⟨by omega, ?_⟩
    refine vFor (N.gate i).n (fun k e m => e 22 = .fs N.ng f3 ∧ e 23 = .int .i64 N.ng ∧ e 24 = .int .i64 i ∧ e 5 = .sl 20 V (N.first + i) ∧ m 20 = .row V 3 1 (N.first + i) g ∧ e 29 = .fs (N.gate i).n q ∧ e 30 = .int .i64 (N.gate i).n ∧ e 31 = .int .i64 k ∧ e 8 = .int .i64 (mxL (hts N i) (N.gate i).ins k)) ?_ ?_ ?_
    · simp -implicitDefEqProofs only [vqa, Nat.reduceEqDiff, Nat.reduceAdd, reduceIte, Nat.reduceLeDiff, Nat.reduceBEq, Nat.reduceLT, Nat.reduceSub, Int.reduceLT, Int.reduceLE, Int.reduceEq, Int.reduceToNat, Nat.reduceMul, eq_self, implies_true, forall_const, h22, h23, h24, h5, hm]
      rfl
    · rintro k e m hk hk' ⟨h22, h23, h24, h5, hm, h29, h30, h31, h8⟩
      obtain ⟨d1, d2⟩ := c3 k hk
      unfold a32_1
      simp -implicitDefEqProofs only [vqa, Nat.reduceEqDiff, Nat.reduceAdd, reduceIte, Nat.reduceLeDiff, Nat.reduceBEq, Nat.reduceLT, Nat.reduceSub, Int.reduceLT, Int.reduceLE, Int.reduceEq, Int.reduceToNat, Nat.reduceMul, eq_self, implies_true, forall_const, h22, h23, h24, h5, hm, h29, h30, h31, h8, hk', hqi k hk, hg ((N.gate i).ins k).toNat (by omega)]
      exact ⟨by omega, by omega, by omega, hk, wI (by omega) (by omega), rfl⟩
    · rintro e m ⟨h22, h23, h24, h5, hm, h29, h30, h31, h8⟩
      have hb := mxL_bound (x := (N.gate i).ins) (B := i) (by omega) (hts_bound N i) (N.gate i).n
      unfold a32_1
      simp -implicitDefEqProofs only [vqa, Nat.reduceEqDiff, Nat.reduceAdd, reduceIte, Nat.reduceLeDiff, Nat.reduceBEq, Nat.reduceLT, Nat.reduceSub, Int.reduceLT, Int.reduceLE, Int.reduceEq, Int.reduceToNat, Nat.reduceMul, eq_self, implies_true, forall_const, h22, h23, h24, h5, hm, h29, h30, h31, h8]
      rw [wI (n := mxL (hts N i) (N.gate i).ins (N.gate i).n + 1) (by omega) (by omega)]
      refine ⟨by omega, hi, wI (by omega) (by omega), _, _, rfl, rfl, fun k hk => ?_⟩
      by_cases h : k < N.first + i
      · simp only [h, decide_true, cond_true]
        rw [hg k h]
        simp only [hts]
        rw [if_neg (by omega)]
      · obtain rfl : k = N.first + i := by omega
        simp only [Nat.lt_irrefl, decide_false, cond_false, Nat.sub_self, List.getD_cons_zero, hts, if_true]
  · rintro e m ⟨h22, h23, h24, V, g, h5, hm, hg⟩
    unfold a32_0
    simp -implicitDefEqProofs only [vqa, Nat.reduceEqDiff, Nat.reduceAdd, reduceIte, Nat.reduceLeDiff, Nat.reduceBEq, Nat.reduceLT, Nat.reduceSub, Int.reduceLT, Int.reduceLE, Int.reduceEq, Int.reduceToNat, Nat.reduceMul, eq_self, implies_true, forall_const, h22, h23, h24, h5, hm]
    exact ⟨N.nets, g, by rw [hz, hnt], fun h => absurd hz h, fun _ => ⟨rfl, hg⟩⟩

theorem p35 {N : Net} {cs : List AV} (hN : NetC cs N) (ok : N.Ok) (gd : N.Good) : Pure PP 35 [.agg cs] fun r => ∃ f, r = .fs N.nets f ∧ ∀ i, i < N.nets → f i = .int .i64 (hts N N.ng i) := by
  obtain ⟨f0, f1, f2, f3, f4, rfl, g0, g1, g2, g3, g4⟩ := hN
  have b1 := gd.ni; have b2 := gd.nf; have b3 := gd.ng
  have hfi : N.first = 2 + N.ni + N.nf := rfl
  have hnt : N.nets = N.first + N.ng := rfl
  refine Fn.pure fmix f35 ?_
  unfold a35 r35
  simp -implicitDefEqProofs only [vqa, Nat.reduceEqDiff, Nat.reduceAdd, reduceIte, Nat.reduceLeDiff, Nat.reduceBEq, Nat.reduceLT, Nat.reduceSub, Int.reduceLT, Int.reduceLE, Int.reduceEq, Int.reduceToNat, Nat.reduceMul, eq_self, implies_true, forall_const]
  rw [wI (n := 2 + (N.ni : Int)) (by omega) (by omega), wI (by omega) (by omega), show 2 + (N.ni : Int) + (N.nf : Int) = ((N.first : Nat) : Int) by omega]
  simp -implicitDefEqProofs only [vqa, Nat.reduceEqDiff, Nat.reduceAdd, reduceIte, Nat.reduceLeDiff, Nat.reduceBEq, Nat.reduceLT, Nat.reduceSub, Int.reduceLT, Int.reduceLE, Int.reduceEq, Int.reduceToNat, Nat.reduceMul, eq_self, implies_true, forall_const]
  refine ⟨by omega, ?_⟩
  refine vFor N.ng (fun i e m => e 21 = .fs N.ng f3 ∧ e 22 = .int .i64 N.ng ∧ e 23 = .int .i64 i ∧ ∃ V g, e 4 = .sl 19 V (N.first + i) ∧ m 19 = .row V 3 1 (N.first + i) g ∧ ∀ k, k < N.first + i → g k = .int .i64 (hts N i k)) ?_ ?_ ?_
  · simp -implicitDefEqProofs only [vqa, Nat.reduceEqDiff, Nat.reduceAdd, reduceIte, Nat.reduceLeDiff, Nat.reduceBEq, Nat.reduceLT, Nat.reduceSub, Int.reduceLT, Int.reduceLE, Int.reduceEq, Int.reduceToNat, Nat.reduceMul, eq_self, implies_true, forall_const]
    exact ⟨_, _, rfl, rfl, fun k hk => rfl⟩
  · rintro i e m hi hi' ⟨h21, h22, h23, V, g, h4, hm, hg⟩
    obtain ⟨q, hq, hqi⟩ := g3 i hi
    obtain ⟨c1, c2, c3⟩ := gd.ins i hi
    unfold a35_0
    simp -implicitDefEqProofs only [vqa, Nat.reduceEqDiff, Nat.reduceAdd, reduceIte, Nat.reduceLeDiff, Nat.reduceBEq, Nat.reduceLT, Nat.reduceSub, Int.reduceLT, Int.reduceLE, Int.reduceEq, Int.reduceToNat, Nat.reduceMul, eq_self, implies_true, forall_const, h21, h22, h23, h4, hm, hi', hq]
    refine ⟨by omega, ?_⟩
    refine vFor (N.gate i).n (fun k e m => e 21 = .fs N.ng f3 ∧ e 22 = .int .i64 N.ng ∧ e 23 = .int .i64 i ∧ e 4 = .sl 19 V (N.first + i) ∧ m 19 = .row V 3 1 (N.first + i) g ∧ e 28 = .fs (N.gate i).n q ∧ e 29 = .int .i64 (N.gate i).n ∧ e 30 = .int .i64 k ∧ e 7 = .int .i64 (mxL (hts N i) (N.gate i).ins k + 1)) ?_ ?_ ?_
    · simp -implicitDefEqProofs only [vqa, Nat.reduceEqDiff, Nat.reduceAdd, reduceIte, Nat.reduceLeDiff, Nat.reduceBEq, Nat.reduceLT, Nat.reduceSub, Int.reduceLT, Int.reduceLE, Int.reduceEq, Int.reduceToNat, Nat.reduceMul, eq_self, implies_true, forall_const, h21, h22, h23, h4, hm]
      rfl
    · rintro k e m hk hk' ⟨h21, h22, h23, h4, hm, h28, h29, h30, h7⟩
      obtain ⟨d1, d2⟩ := c3 k hk
      have hb := hts_bound N i ((N.gate i).ins k).toNat
      unfold a35_1
      simp -implicitDefEqProofs only [vqa, Nat.reduceEqDiff, Nat.reduceAdd, reduceIte, Nat.reduceLeDiff, Nat.reduceBEq, Nat.reduceLT, Nat.reduceSub, Int.reduceLT, Int.reduceLE, Int.reduceEq, Int.reduceToNat, Nat.reduceMul, eq_self, implies_true, forall_const, h21, h22, h23, h4, hm, h28, h29, h30, h7, hk', hqi k hk, hg ((N.gate i).ins k).toNat (by omega)]
      refine ⟨by omega, by omega, by omega, hk, wI (by omega) (by omega), ?_⟩
      rw [wI (n := hts N i ((N.gate i).ins k).toNat + 1) (by omega) (by omega)]
      exact mxL_one k
    · rintro e m ⟨h21, h22, h23, h4, hm, h28, h29, h30, h7⟩
      unfold a35_1
      simp -implicitDefEqProofs only [vqa, Nat.reduceEqDiff, Nat.reduceAdd, reduceIte, Nat.reduceLeDiff, Nat.reduceBEq, Nat.reduceLT, Nat.reduceSub, Int.reduceLT, Int.reduceLE, Int.reduceEq, Int.reduceToNat, Nat.reduceMul, eq_self, implies_true, forall_const, h21, h22, h23, h4, hm, h28, h29, h30, h7]
      refine ⟨by omega, hi, wI (by omega) (by omega), _, _, rfl, rfl, fun k hk => ?_⟩
      by_cases h : k < N.first + i
      · simp only [h, decide_true, cond_true]
        rw [hg k h]
        simp only [hts]
        rw [if_neg (by omega)]
      · obtain rfl : k = N.first + i := by omega
        simp only [Nat.lt_irrefl, decide_false, cond_false, Nat.sub_self, List.getD_cons_zero, hts, if_true]
  · rintro e m ⟨h21, h22, h23, V, g, h4, hm, hg⟩
    unfold a35_0
    simp -implicitDefEqProofs only [vqa, Nat.reduceEqDiff, Nat.reduceAdd, reduceIte, Nat.reduceLeDiff, Nat.reduceBEq, Nat.reduceLT, Nat.reduceSub, Int.reduceLT, Int.reduceLE, Int.reduceEq, Int.reduceToNat, Nat.reduceMul, eq_self, implies_true, forall_const, h21, h22, h23, h4, hm]
    exact ⟨_, rfl, hg⟩

theorem p33 {N : Net} {cs : List AV} (hN : NetC cs N) (ok : N.Ok) : Pure PP 33 [.agg cs] fun r => r = .tup [.int .i64 (if formF N = 0 then depthF N else 0), .int .i64 (formF N)] := by
  have hN0 := hN
  obtain ⟨f0, f1, f2, f3, f4, rfl, g0, g1, g2, g3, g4⟩ := hN
  refine Fn.pure fmix f33 ?_
  unfold a33 r33
  simp -implicitDefEqProofs only [vqa, Nat.reduceEqDiff, Nat.reduceAdd, reduceIte, Nat.reduceLeDiff, Nat.reduceBEq, Nat.reduceLT, Nat.reduceSub, Int.reduceLT, Int.reduceLE, Int.reduceEq, Int.reduceToNat, Nat.reduceMul, eq_self, implies_true, forall_const]
  refine CallW.fz (p32 hN0 ok) rfl rfl fun r ⟨n, f, hr, hr1, hr2⟩ => ⟨by subst hr; rfl, ?_⟩
  subst hr
  simp -implicitDefEqProofs only [vqa, Nat.reduceEqDiff, Nat.reduceAdd, reduceIte, Nat.reduceLeDiff, Nat.reduceBEq, Nat.reduceLT, Nat.reduceSub, Int.reduceLT, Int.reduceLE, Int.reduceEq, Int.reduceToNat, Nat.reduceMul, eq_self, implies_true, forall_const]
  refine ⟨fun k1 => by rw [if_neg k1], fun k1 => ?_⟩
  have hz : formF N = 0 := Classical.not_not.1 k1
  obtain ⟨rfl, hf⟩ := hr2 hz
  have gd := Net.good hz
  have b1 := gd.nf; have b2 := gd.nk; have b3 := gd.no
  refine CallW.fz (p88 hN0 ok) rfl rfl fun r ⟨x, hr, hx⟩ => ⟨by subst hr; rfl, ?_⟩
  subst hr
  simp -implicitDefEqProofs only [vqa, Nat.reduceEqDiff, Nat.reduceAdd, reduceIte, Nat.reduceLeDiff, Nat.reduceBEq, Nat.reduceLT, Nat.reduceSub, Int.reduceLT, Int.reduceLE, Int.reduceEq, Int.reduceToNat, Nat.reduceMul, eq_self, implies_true, forall_const]
  refine vFor (N.nk + 2 * N.nf) (fun i e m => e 4 = .fs N.nets f ∧ e 18 = .fs (N.nk + 2 * N.nf) x ∧ e 19 = .int .i64 (N.nk + 2 * N.nf : Nat) ∧ e 20 = .int .i64 i ∧ e 5 = .int .i64 (formF N) ∧ e 6 = .int .i64 (mxL (hts N N.ng) (ends N) i)) ?_ ?_ ?_
  · simp -implicitDefEqProofs only [vqa, Nat.reduceEqDiff, Nat.reduceAdd, reduceIte, Nat.reduceLeDiff, Nat.reduceBEq, Nat.reduceLT, Nat.reduceSub, Int.reduceLT, Int.reduceLE, Int.reduceEq, Int.reduceToNat, Nat.reduceMul, eq_self, implies_true, forall_const]
    rfl
  · rintro i e m hi hi' ⟨h4, h18, h19, h20, h5, h6⟩
    obtain ⟨d1, d2⟩ := ends_lt gd i hi
    unfold a33_0
    simp -implicitDefEqProofs only [vqa, Nat.reduceEqDiff, Nat.reduceAdd, reduceIte, Nat.reduceLeDiff, Nat.reduceBEq, Nat.reduceLT, Nat.reduceSub, Int.reduceLT, Int.reduceLE, Int.reduceEq, Int.reduceToNat, Nat.reduceMul, eq_self, implies_true, forall_const, h4, h18, h19, h20, h5, h6, hi', hx i hi, hf (ends N i).toNat (by omega)]
    exact ⟨by omega, by omega, hi, wI (by omega) (by omega), rfl⟩
  · rintro e m ⟨h4, h18, h19, h20, h5, h6⟩
    unfold a33_0
    simp -implicitDefEqProofs only [vqa, Nat.reduceEqDiff, Nat.reduceAdd, reduceIte, Nat.reduceLeDiff, Nat.reduceBEq, Nat.reduceLT, Nat.reduceSub, Int.reduceLT, Int.reduceLE, Int.reduceEq, Int.reduceToNat, Nat.reduceMul, eq_self, implies_true, forall_const, h4, h18, h19, h20, h5, h6]
    rw [hz]
    rfl

theorem p36 {N : Net} {cs : List AV} (hN : NetC cs N) (ok : N.Ok) (gd : N.Good) : Pure PP 36 [.agg cs] fun r => r = .int .i64 (depthF N) := by
  have hN0 := hN
  obtain ⟨f0, f1, f2, f3, f4, rfl, g0, g1, g2, g3, g4⟩ := hN
  refine Fn.pure fmix f36 ?_
  unfold a36 r36
  simp -implicitDefEqProofs only [vqa, Nat.reduceEqDiff, Nat.reduceAdd, reduceIte, Nat.reduceLeDiff, Nat.reduceBEq, Nat.reduceLT, Nat.reduceSub, Int.reduceLT, Int.reduceLE, Int.reduceEq, Int.reduceToNat, Nat.reduceMul, eq_self, implies_true, forall_const]
  refine CallW.fz (p35 hN0 ok gd) rfl rfl fun r ⟨f, hr, hf⟩ => ⟨by subst hr; rfl, ?_⟩
  subst hr
  simp -implicitDefEqProofs only [vqa, Nat.reduceEqDiff, Nat.reduceAdd, reduceIte, Nat.reduceLeDiff, Nat.reduceBEq, Nat.reduceLT, Nat.reduceSub, Int.reduceLT, Int.reduceLE, Int.reduceEq, Int.reduceToNat, Nat.reduceMul, eq_self, implies_true, forall_const]
  have b1 := gd.nf; have b2 := gd.nk; have b3 := gd.no
  refine CallW.fz (p89 hN0 ok) rfl rfl fun r ⟨x, hr, hx⟩ => ⟨by subst hr; rfl, ?_⟩
  subst hr
  simp -implicitDefEqProofs only [vqa, Nat.reduceEqDiff, Nat.reduceAdd, reduceIte, Nat.reduceLeDiff, Nat.reduceBEq, Nat.reduceLT, Nat.reduceSub, Int.reduceLT, Int.reduceLE, Int.reduceEq, Int.reduceToNat, Nat.reduceMul, eq_self, implies_true, forall_const]
  refine vFor (N.nk + 2 * N.nf) (fun i e m => e 3 = .fs N.nets f ∧ e 10 = .fs (N.nk + 2 * N.nf) x ∧ e 11 = .int .i64 (N.nk + 2 * N.nf : Nat) ∧ e 12 = .int .i64 i ∧ e 4 = .int .i64 (mxL (hts N N.ng) (ends N) i)) ?_ ?_ ?_
  · simp -implicitDefEqProofs only [vqa, Nat.reduceEqDiff, Nat.reduceAdd, reduceIte, Nat.reduceLeDiff, Nat.reduceBEq, Nat.reduceLT, Nat.reduceSub, Int.reduceLT, Int.reduceLE, Int.reduceEq, Int.reduceToNat, Nat.reduceMul, eq_self, implies_true, forall_const]
    rfl
  · rintro i e m hi hi' ⟨h3, h10, h11, h12, h4⟩
    obtain ⟨d1, d2⟩ := ends_lt gd i hi
    unfold a36_0
    simp -implicitDefEqProofs only [vqa, Nat.reduceEqDiff, Nat.reduceAdd, reduceIte, Nat.reduceLeDiff, Nat.reduceBEq, Nat.reduceLT, Nat.reduceSub, Int.reduceLT, Int.reduceLE, Int.reduceEq, Int.reduceToNat, Nat.reduceMul, eq_self, implies_true, forall_const, h3, h10, h11, h12, h4, hi', hx i hi, hf (ends N i).toNat (by omega)]
    exact ⟨by omega, by omega, hi, wI (by omega) (by omega), rfl⟩
  · rintro e m ⟨h3, h10, h11, h12, h4⟩
    unfold a36_0
    simp -implicitDefEqProofs only [vqa, Nat.reduceEqDiff, Nat.reduceAdd, reduceIte, Nat.reduceLeDiff, Nat.reduceBEq, Nat.reduceLT, Nat.reduceSub, Int.reduceLT, Int.reduceLE, Int.reduceEq, Int.reduceToNat, Nat.reduceMul, eq_self, implies_true, forall_const, h3, h10, h11, h12, h4]
    rfl
end Go.Ab
