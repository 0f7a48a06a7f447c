/- Walks: Same and Copy of graphs. -/
import Derived.Test.YtodncnlnadgkhacSaGraph
import Derived.Test.YtodncnlnadgkhacSaMaker
set_option linter.unusedSimpArgs false
set_option linter.unusedVariables false
namespace Go.Ab
open Go
def a31_0 : AC := (.seq (.ops [⟨(some 14), none, (.v (.bin .lss (.t 13) (.t 12)))⟩]) (.seq (.cond (.t 14) .skip (.exit 0)) (.seq (.block 1 (.seq (.ops [⟨(some 15), none, (.v (.mv (.t 13)))⟩, ⟨(some 5), none, (.v (.mv (.t 15)))⟩]) (.seq (.any [⟨(some 16), none, (.v (.mv (.t 0)))⟩, ⟨(some 17), none, (.v (.mv (.t 5)))⟩, ⟨(some 18), none, (.v (.idx 1 (.t 16) (.t 17)))⟩, ⟨(some 19), none, (.v (.load 1 false (.t 18)))⟩, ⟨(some 20), none, (.v (.mv (.t 1)))⟩, ⟨(some 21), none, (.v (.mv (.t 5)))⟩, ⟨(some 22), none, (.v (.idx 1 (.t 20) (.t 21)))⟩, ⟨(some 23), none, (.v (.load 1 false (.t 22)))⟩, ⟨(some 24), none, (.v (.bin .neq (.t 19) (.t 23)))⟩] [[], [], [0, 1], [2], [], [], [4, 5], [6], [3, 7]]) (.cond (.t 24) (.seq (.ops [⟨(some 4), none, (.v (.mv (.c (.bool false))))⟩]) .ret) .skip)))) (.ops [⟨(some 25), none, (.v (.bin .add (.t 13) (.c (.int .i64 1))))⟩, ⟨(some 13), none, (.v (.mv (.t 25)))⟩]))))
def a31 : AC := (.seq (.ops [⟨(some 4), none, (.v (.mv (.c (.bool false))))⟩]) (.seq (.seq (.ops [⟨(some 6), none, (.v (.mv (.t 0)))⟩, ⟨(some 7), none, (.v (.len (.t 6)))⟩, ⟨(some 8), none, (.v (.mv (.t 1)))⟩, ⟨(some 9), none, (.v (.len (.t 8)))⟩, ⟨(some 10), none, (.v (.bin .neq (.t 7) (.t 9)))⟩]) (.cond (.t 10) (.seq (.ops [⟨(some 4), none, (.v (.mv (.c (.bool false))))⟩]) .ret) .skip)) (.seq (.seq (.ops [⟨(some 11), none, (.v (.mv (.t 0)))⟩, ⟨(some 12), none, (.v (.len (.t 11)))⟩, ⟨(some 13), none, (.v (.mv (.c (.int .i64 0))))⟩]) (.block 0 (.loop a31_0))) (.seq (.ops [⟨(some 4), none, (.v (.mv (.c (.bool true))))⟩]) .ret))))
def r31 : List AI := [(.mv (.t 4))]
theorem f31 : Fn PP 31 2 a31 r31 := Fn.of (fn := Go.Proofs.Try.f31) (by kernel_rfl) (by kernel_rfl) (by kernel_rfl)
def a60_0 : AC := (.seq (.ops [⟨(some 14), none, (.v (.bin .lss (.t 13) (.t 12)))⟩]) (.seq (.cond (.t 14) .skip (.exit 0)) (.seq (.block 1 (.seq (.ops [⟨(some 15), none, (.v (.mv (.t 13)))⟩, ⟨(some 5), none, (.v (.mv (.t 15)))⟩]) (.seq (.any [⟨(some 16), none, (.v (.mv (.t 0)))⟩, ⟨(some 17), none, (.v (.mv (.t 5)))⟩, ⟨(some 18), none, (.v (.idx 1 (.t 16) (.t 17)))⟩, ⟨(some 19), none, (.v (.load 1 false (.t 18)))⟩, ⟨(some 20), none, (.v (.mv (.t 1)))⟩, ⟨(some 21), none, (.v (.mv (.t 5)))⟩, ⟨(some 22), none, (.v (.idx 1 (.t 20) (.t 21)))⟩, ⟨(some 23), none, (.v (.load 1 false (.t 22)))⟩, ⟨(some 24), none, (.v (.sbin .neq (.t 19) (.t 23)))⟩] [[], [], [0, 1], [2], [], [], [4, 5], [6], [3, 7]]) (.cond (.t 24) (.seq (.ops [⟨(some 4), none, (.v (.mv (.c (.bool false))))⟩]) .ret) .skip)))) (.ops [⟨(some 25), none, (.v (.bin .add (.t 13) (.c (.int .i64 1))))⟩, ⟨(some 13), none, (.v (.mv (.t 25)))⟩]))))
def a60 : AC := (.seq (.ops [⟨(some 4), none, (.v (.mv (.c (.bool false))))⟩]) (.seq (.seq (.ops [⟨(some 6), none, (.v (.mv (.t 0)))⟩, ⟨(some 7), none, (.v (.len (.t 6)))⟩, ⟨(some 8), none, (.v (.mv (.t 1)))⟩, ⟨(some 9), none, (.v (.len (.t 8)))⟩, ⟨(some 10), none, (.v (.bin .neq (.t 7) (.t 9)))⟩]) (.cond (.t 10) (.seq (.ops [⟨(some 4), none, (.v (.mv (.c (.bool false))))⟩]) .ret) .skip)) (.seq (.seq (.ops [⟨(some 11), none, (.v (.mv (.t 0)))⟩, ⟨(some 12), none, (.v (.len (.t 11)))⟩, ⟨(some 13), none, (.v (.mv (.c (.int .i64 0))))⟩]) (.block 0 (.loop a60_0))) (.seq (.ops [⟨(some 4), none, (.v (.mv (.c (.bool true))))⟩]) .ret))))
def r60 : List AI := [(.mv (.t 4))]
theorem f60 : Fn PP 60 2 a60 r60 := Fn.of (fn := Go.Proofs.Try.f60) (by kernel_rfl) (by kernel_rfl) (by kernel_rfl)
def a61_0 : AC := (.seq (.ops [⟨(some 14), none, (.v (.bin .lss (.t 13) (.t 12)))⟩]) (.seq (.cond (.t 14) .skip (.exit 0)) (.seq (.block 1 (.seq (.ops [⟨(some 15), none, (.v (.mv (.t 13)))⟩, ⟨(some 5), none, (.v (.mv (.t 15)))⟩]) (.seq (.any [⟨(some 16), none, (.v (.mv (.t 0)))⟩, ⟨(some 17), none, (.v (.mv (.t 5)))⟩, ⟨(some 18), none, (.v (.idx 3 (.t 16) (.t 17)))⟩, ⟨(some 19), none, (.v (.load 3 true (.t 18)))⟩, ⟨(some 20), none, (.v (.mv (.t 1)))⟩, ⟨(some 21), none, (.v (.mv (.t 5)))⟩, ⟨(some 22), none, (.v (.idx 3 (.t 20) (.t 21)))⟩, ⟨(some 23), none, (.v (.load 3 true (.t 22)))⟩, ⟨(some 24), none, (.v (.aeq [.str, .int, .bool] true (.t 19) (.t 23)))⟩] [[], [], [0, 1], [2], [], [], [4, 5], [6], [3, 7]]) (.cond (.t 24) (.seq (.ops [⟨(some 4), none, (.v (.mv (.c (.bool false))))⟩]) .ret) .skip)))) (.ops [⟨(some 25), none, (.v (.bin .add (.t 13) (.c (.int .i64 1))))⟩, ⟨(some 13), none, (.v (.mv (.t 25)))⟩]))))
def a61 : AC := (.seq (.ops [⟨(some 4), none, (.v (.mv (.c (.bool false))))⟩]) (.seq (.seq (.ops [⟨(some 6), none, (.v (.mv (.t 0)))⟩, ⟨(some 7), none, (.v (.len (.t 6)))⟩, ⟨(some 8), none, (.v (.mv (.t 1)))⟩, ⟨(some 9), none, (.v (.len (.t 8)))⟩, ⟨(some 10), none, (.v (.bin .neq (.t 7) (.t 9)))⟩]) (.cond (.t 10) (.seq (.ops [⟨(some 4), none, (.v (.mv (.c (.bool false))))⟩]) .ret) .skip)) (.seq (.seq (.ops [⟨(some 11), none, (.v (.mv (.t 0)))⟩, ⟨(some 12), none, (.v (.len (.t 11)))⟩, ⟨(some 13), none, (.v (.mv (.c (.int .i64 0))))⟩]) (.block 0 (.loop a61_0))) (.seq (.ops [⟨(some 4), none, (.v (.mv (.c (.bool true))))⟩]) .ret))))
def r61 : List AI := [(.mv (.t 4))]
theorem f61 : Fn PP 61 2 a61 r61 := Fn.of (fn := Go.Proofs.Try.f61) (by kernel_rfl) (by kernel_rfl) (by kernel_rfl)
def a62_0 : AC := (.seq (.ops [⟨(some 14), none, (.v (.bin .lss (.t 13) (.t 12)))⟩]) (.seq (.cond (.t 14) .skip (.exit 0)) (.seq (.block 1 (.seq (.ops [⟨(some 15), none, (.v (.mv (.t 13)))⟩, ⟨(some 5), none, (.v (.mv (.t 15)))⟩]) (.seq (.any [⟨(some 16), none, (.v (.mv (.t 0)))⟩, ⟨(some 17), none, (.v (.mv (.t 5)))⟩, ⟨(some 18), none, (.v (.idx 2 (.t 16) (.t 17)))⟩, ⟨(some 19), none, (.v (.load 2 true (.t 18)))⟩, ⟨(some 20), none, (.v (.mv (.t 1)))⟩, ⟨(some 21), none, (.v (.mv (.t 5)))⟩, ⟨(some 22), none, (.v (.idx 2 (.t 20) (.t 21)))⟩, ⟨(some 23), none, (.v (.load 2 true (.t 22)))⟩, ⟨(some 24), none, (.v (.aeq [.int, .int] true (.t 19) (.t 23)))⟩] [[], [], [0, 1], [2], [], [], [4, 5], [6], [3, 7]]) (.cond (.t 24) (.seq (.ops [⟨(some 4), none, (.v (.mv (.c (.bool false))))⟩]) .ret) .skip)))) (.ops [⟨(some 25), none, (.v (.bin .add (.t 13) (.c (.int .i64 1))))⟩, ⟨(some 13), none, (.v (.mv (.t 25)))⟩]))))
def a62 : AC := (.seq (.ops [⟨(some 4), none, (.v (.mv (.c (.bool false))))⟩]) (.seq (.seq (.ops [⟨(some 6), none, (.v (.mv (.t 0)))⟩, ⟨(some 7), none, (.v (.len (.t 6)))⟩, ⟨(some 8), none, (.v (.mv (.t 1)))⟩, ⟨(some 9), none, (.v (.len (.t 8)))⟩, ⟨(some 10), none, (.v (.bin .neq (.t 7) (.t 9)))⟩]) (.cond (.t 10) (.seq (.ops [⟨(some 4), none, (.v (.mv (.c (.bool false))))⟩]) .ret) .skip)) (.seq (.seq (.ops [⟨(some 11), none, (.v (.mv (.t 0)))⟩, ⟨(some 12), none, (.v (.len (.t 11)))⟩, ⟨(some 13), none, (.v (.mv (.c (.int .i64 0))))⟩]) (.block 0 (.loop a62_0))) (.seq (.ops [⟨(some 4), none, (.v (.mv (.c (.bool true))))⟩]) .ret))))
def r62 : List AI := [(.mv (.t 4))]
theorem f62 : Fn PP 62 2 a62 r62 := Fn.of (fn := Go.Proofs.Try.f62) (by kernel_rfl) (by kernel_rfl) (by kernel_rfl)
def a30 : AC := (.seq (.ops [⟨(some 2), none, (.e (.box 2 0 (.t 0)))⟩, ⟨(some 3), none, (.e (.box 3 0 (.t 1)))⟩, ⟨(some 4), none, (.v (.mv (.c (.bool false))))⟩]) (.seq (.ops [⟨(some 5), none, (.v (.fld 0 (.t 2)))⟩, ⟨(some 6), none, (.v (.load 1 false (.t 5)))⟩, ⟨(some 7), none, (.v (.fld 0 (.t 3)))⟩, ⟨(some 8), none, (.v (.load 1 false (.t 7)))⟩, ⟨(some 9), none, (.call (.c (.fn 60 [])) [(.t 6), (.t 8)])⟩, ⟨(some 10), none, (.v (.mv (.t 9)))⟩, ⟨(some 11), (some (10, true)), (.v (.fld 1 (.t 2)))⟩, ⟨(some 12), (some (10, true)), (.v (.load 1 false (.t 11)))⟩, ⟨(some 13), (some (10, true)), (.v (.fld 1 (.t 3)))⟩, ⟨(some 14), (some (10, true)), (.v (.load 1 false (.t 13)))⟩, ⟨(some 15), (some (10, true)), (.call (.c (.fn 60 [])) [(.t 12), (.t 14)])⟩, ⟨(some 16), none, (.v (.pick (.t 10) (.t 15) (.c (.bool false))))⟩, ⟨(some 17), none, (.v (.mv (.t 16)))⟩, ⟨(some 18), (some (17, true)), (.v (.fld 4 (.t 2)))⟩, ⟨(some 19), (some (17, true)), (.v (.load 1 false (.t 18)))⟩, ⟨(some 20), (some (17, true)), (.v (.fld 4 (.t 3)))⟩, ⟨(some 21), (some (17, true)), (.v (.load 1 false (.t 20)))⟩, ⟨(some 22), (some (17, true)), (.call (.c (.fn 31 [])) [(.t 19), (.t 21)])⟩, ⟨(some 23), none, (.v (.pick (.t 17) (.t 22) (.c (.bool false))))⟩, ⟨(some 24), none, (.v (.mv (.t 23)))⟩, ⟨(some 25), (some (24, true)), (.v (.fld 2 (.t 2)))⟩, ⟨(some 26), (some (24, true)), (.v (.load 1 false (.t 25)))⟩, ⟨(some 27), (some (24, true)), (.v (.fld 2 (.t 3)))⟩, ⟨(some 28), (some (24, true)), (.v (.load 1 false (.t 27)))⟩, ⟨(some 29), (some (24, true)), (.call (.c (.fn 61 [])) [(.t 26), (.t 28)])⟩, ⟨(some 30), none, (.v (.pick (.t 24) (.t 29) (.c (.bool false))))⟩, ⟨(some 31), none, (.v (.mv (.t 30)))⟩, ⟨(some 32), (some (31, true)), (.v (.fld 3 (.t 2)))⟩, ⟨(some 33), (some (31, true)), (.v (.load 1 false (.t 32)))⟩, ⟨(some 34), (some (31, true)), (.v (.fld 3 (.t 3)))⟩, ⟨(some 35), (some (31, true)), (.v (.load 1 false (.t 34)))⟩, ⟨(some 36), (some (31, true)), (.call (.c (.fn 62 [])) [(.t 33), (.t 35)])⟩, ⟨(some 37), none, (.v (.pick (.t 31) (.t 36) (.c (.bool false))))⟩, ⟨(some 4), none, (.v (.mv (.t 37)))⟩]) .ret))
def r30 : List AI := [(.mv (.t 4))]
theorem f30 : Fn PP 30 2 a30 r30 := Fn.of (fn := Go.Proofs.Try.f30) (by kernel_rfl) (by kernel_rfl) (by kernel_rfl)
def a21 : AC := (.seq (.ops [⟨(some 2), none, (.v (.mv (.c .cap0)))⟩]) (.seq (.seq (.ops [⟨(some 3), none, (.v (.mv (.t 0)))⟩, ⟨(some 4), none, (.isnil false (.t 3))⟩]) (.cond (.t 4) (.seq (.ops [⟨(some 2), none, (.v (.mv (.c .cap0)))⟩]) .ret) .skip)) (.seq (.ops [⟨(some 5), none, (.e (.lit 5 35 1 0 [(.int .i64 0)] []))⟩, ⟨(some 6), none, (.v (.mv (.t 0)))⟩, ⟨(some 7), none, (.e (.app 7 35 1 8 (.t 5) (.t 6)))⟩, ⟨(some 2), none, (.v (.mv (.t 7)))⟩]) .ret)))
def r21 : List AI := [(.mv (.t 2))]
theorem f21 : Fn PP 21 1 a21 r21 := Fn.of (fn := Go.Proofs.Try.f21) (by kernel_rfl) (by kernel_rfl) (by kernel_rfl)
def a82 : AC := (.seq (.ops [⟨(some 2), none, (.v (.mv (.c .cap0)))⟩]) (.seq (.seq (.ops [⟨(some 3), none, (.v (.mv (.t 0)))⟩, ⟨(some 4), none, (.isnil false (.t 3))⟩]) (.cond (.t 4) (.seq (.ops [⟨(some 2), none, (.v (.mv (.c .cap0)))⟩]) .ret) .skip)) (.seq (.ops [⟨(some 5), none, (.e (.lit 5 103 2 0 [(.int .i64 0), (.int .i64 0)] []))⟩, ⟨(some 6), none, (.v (.mv (.t 0)))⟩, ⟨(some 7), none, (.e (.app 7 103 2 16 (.t 5) (.t 6)))⟩, ⟨(some 2), none, (.v (.mv (.t 7)))⟩]) .ret)))
def r82 : List AI := [(.mv (.t 2))]
theorem f82 : Fn PP 82 1 a82 r82 := Fn.of (fn := Go.Proofs.Try.f82) (by kernel_rfl) (by kernel_rfl) (by kernel_rfl)
def a45 : AC := (.seq (.ops [⟨(some 1), none, (.e (.box 1 0 (.t 0)))⟩, ⟨(some 2), none, (.e (.alloc 2 [.cap0, .cap0, .cap0, .cap0, .cap0]))⟩]) (.seq (.any [⟨(some 3), none, (.v (.fld 0 (.t 1)))⟩, ⟨(some 4), none, (.v (.load 1 false (.t 3)))⟩, ⟨(some 5), none, (.call (.c (.fn 40 [])) [(.t 4)])⟩, ⟨(some 6), none, (.v (.fld 1 (.t 1)))⟩, ⟨(some 7), none, (.v (.load 1 false (.t 6)))⟩, ⟨(some 8), none, (.call (.c (.fn 40 [])) [(.t 7)])⟩, ⟨(some 9), none, (.v (.fld 2 (.t 1)))⟩, ⟨(some 10), none, (.v (.load 1 false (.t 9)))⟩, ⟨(some 11), none, (.call (.c (.fn 41 [])) [(.t 10)])⟩, ⟨(some 12), none, (.v (.fld 3 (.t 1)))⟩, ⟨(some 13), none, (.v (.load 1 false (.t 12)))⟩, ⟨(some 14), none, (.call (.c (.fn 82 [])) [(.t 13)])⟩, ⟨(some 15), none, (.v (.fld 4 (.t 1)))⟩, ⟨(some 16), none, (.v (.load 1 false (.t 15)))⟩, ⟨(some 17), none, (.call (.c (.fn 21 [])) [(.t 16)])⟩, ⟨(some 18), none, (.v (.build [.cap0, .cap0, .cap0, .cap0, .cap0] [(0, (1, (.t 5))), (1, (1, (.t 8))), (2, (1, (.t 11))), (3, (1, (.t 14))), (4, (1, (.t 17)))]))⟩, ⟨none, none, (.e (.store 5 (.t 2) (.t 18)))⟩] [[], [0], [1], [], [3], [4, 2], [], [6], [7, 5], [], [9], [10, 8], [], [12], [13, 11], [2, 5, 8, 11, 14], [15, 14, 0, 1, 2, 3, 4, 5, 6, 7, 8, 9, 10, 11, 12, 13, 14, 15]]) .ret))
def r45 : List AI := [(.load 5 true (.t 2))]
theorem f45 : Fn PP 45 1 a45 r45 := Fn.of (fn := Go.Proofs.Try.f45) (by kernel_rfl) (by kernel_rfl) (by kernel_rfl)
def sameG (N K : Gra) : Prop := (N.ni = K.ni ∧ ∀ i, i < N.ni → N.inn i = K.inn i) ∧ (N.no = K.no ∧ ∀ i, i < N.no → N.out i = K.out i) ∧ (N.nr = K.nr ∧ ∀ i, i < N.nr → N.reg i = K.reg i) ∧ (N.na = K.na ∧ ∀ i, i < N.na → N.A i = K.A i ∧ N.B i = K.B i) ∧ (N.nk = K.nk ∧ ∀ i, i < N.nk → N.outs i = K.outs i)
theorem sameG_refl (N : Gra) : sameG N N := ⟨⟨rfl, fun _ _ => rfl⟩, ⟨rfl, fun _ _ => rfl⟩, ⟨rfl, fun _ _ => rfl⟩, ⟨rfl, fun _ _ => ⟨rfl, rfl⟩⟩, ⟨rfl, fun _ _ => rfl⟩⟩

theorem p31 (n m : Nat) (x y : Nat → Int) (f g : Nat → AV) (hf : ∀ i, i < n → f i = .int .i64 (x i)) (hg : ∀ i, i < m → g i = .int .i64 (y i)) (hn : n ≤ 4194304) (hm : m ≤ 4194304) :
    Pure PP 31 [.fs n f, .fs m g] fun r => ∃ b, r = .bool b ∧ (b = true ↔ n = m ∧ ∀ i, i < n → x i = y i) := by
  refine Fn.pure fmix f31 ?_
  unfold a31 r31
  simp -implicitDefEqProofs only [vqa, Nat.reduceEqDiff, Nat.reduceAdd, reduceIte, Nat.reduceLeDiff, Nat.reduceBEq, Nat.reduceLT, Nat.reduceSub, Int.reduceLT, Int.reduceLE, Int.reduceEq, Int.reduceToNat, Nat.reduceMul, eq_self, implies_true, forall_const]
  refine ⟨fun h => ⟨_, rfl, ⟨fun e => Bool.noConfusion e, fun e => absurd (congrArg Nat.cast e.1) h⟩⟩, fun h => ?_⟩
  obtain rfl : n = m := by omega
  refine vFor n (fun i e mm => e 0 = .fs n f ∧ e 1 = .fs n g ∧ e 12 = .int .i64 n ∧ e 13 = .int .i64 i ∧ ∀ j, j < i → x j = y j) ?_ ?_ ?_
  · simp -implicitDefEqProofs only [vqa, Nat.reduceEqDiff, Nat.reduceAdd, reduceIte, Nat.reduceLeDiff, Nat.reduceBEq, Nat.reduceLT, Nat.reduceSub, Int.reduceLT, Int.reduceLE, Int.reduceEq, Int.reduceToNat, Nat.reduceMul, eq_self, implies_true, forall_const]
  · rintro i e mm hi hi' ⟨h0, h1, h12, h13, hs⟩
    unfold a31_0
    simp -implicitDefEqProofs only [vqa, Nat.reduceEqDiff, Nat.reduceAdd, reduceIte, Nat.reduceLeDiff, Nat.reduceBEq, Nat.reduceLT, Nat.reduceSub, Int.reduceLT, Int.reduceLE, Int.reduceEq, Int.reduceToNat, Nat.reduceMul, eq_self, implies_true, forall_const, h0, h1, h12, h13, hi']
    refine vAny [0, 1, 2, 3, 4, 5, 6, 7, 8] 9 allL (by kernel_rfl) (by kernel_rfl) ?_
    simp -implicitDefEqProofs only [vqa, Nat.reduceEqDiff, Nat.reduceAdd, reduceIte, Nat.reduceLeDiff, Nat.reduceBEq, Nat.reduceLT, Nat.reduceSub, Int.reduceLT, Int.reduceLE, Int.reduceEq, Int.reduceToNat, Nat.reduceMul, eq_self, implies_true, forall_const, h0, h1, h12, h13, hf i hi, hg i hi]
    refine ⟨by omega, by omega, fun k => ⟨_, rfl, ⟨fun e => Bool.noConfusion e, fun e => absurd (e i hi) k⟩⟩, fun k => ⟨hi, wI (by omega) (by omega), fun j hj => ?_⟩⟩
    by_cases e : j = i
    · subst e; exact Classical.not_not.1 k
    · exact hs j (by omega)
  · rintro e mm ⟨h0, h1, h12, h13, hs⟩
    unfold a31_0
    simp -implicitDefEqProofs only [vqa, Nat.reduceEqDiff, Nat.reduceAdd, reduceIte, Nat.reduceLeDiff, Nat.reduceBEq, Nat.reduceLT, Nat.reduceSub, Int.reduceLT, Int.reduceLE, Int.reduceEq, Int.reduceToNat, Nat.reduceMul, eq_self, implies_true, forall_const, h0, h1, h12, h13]
    exact ⟨_, rfl, ⟨fun _ => hs, fun _ => rfl⟩⟩


theorem p60 (n m : Nat) (x y : Nat → ByteArray) (f g : Nat → AV) (hf : ∀ i, i < n → f i = .str (x i)) (hg : ∀ i, i < m → g i = .str (y i)) (hn : n ≤ 1048576) (hm : m ≤ 1048576) :
    Pure PP 60 [.fs n f, .fs m g] fun r => ∃ b, r = .bool b ∧ (b = true ↔ n = m ∧ ∀ i, i < n → x i = y i) := by
  refine Fn.pure fmix f60 ?_
  unfold a60 r60
  simp -implicitDefEqProofs only [vqa, Nat.reduceEqDiff, Nat.reduceAdd, reduceIte, Nat.reduceLeDiff, Nat.reduceBEq, Nat.reduceLT, Nat.reduceSub, Int.reduceLT, Int.reduceLE, Int.reduceEq, Int.reduceToNat, Nat.reduceMul, eq_self, implies_true, forall_const]
  refine ⟨fun h => ⟨_, rfl, ⟨fun e => Bool.noConfusion e, fun e => absurd (congrArg Nat.cast e.1) h⟩⟩, fun h => ?_⟩
  obtain rfl : n = m := by omega
  refine vFor n (fun i e mm => e 0 = .fs n f ∧ e 1 = .fs n g ∧ e 12 = .int .i64 n ∧ e 13 = .int .i64 i ∧ ∀ j, j < i → x j = y j) ?_ ?_ ?_
  · simp -implicitDefEqProofs only [vqa, Nat.reduceEqDiff, Nat.reduceAdd, reduceIte, Nat.reduceLeDiff, Nat.reduceBEq, Nat.reduceLT, Nat.reduceSub, Int.reduceLT, Int.reduceLE, Int.reduceEq, Int.reduceToNat, Nat.reduceMul, eq_self, implies_true, forall_const]
  · rintro i e mm hi hi' ⟨h0, h1, h12, h13, hs⟩
    unfold a60_0
    simp -implicitDefEqProofs only [vqa, Nat.reduceEqDiff, Nat.reduceAdd, reduceIte, Nat.reduceLeDiff, Nat.reduceBEq, Nat.reduceLT, Nat.reduceSub, Int.reduceLT, Int.reduceLE, Int.reduceEq, Int.reduceToNat, Nat.reduceMul, eq_self, implies_true, forall_const, h0, h1, h12, h13, hi']
    refine vAny [0, 1, 2, 3, 4, 5, 6, 7, 8] 9 allL (by kernel_rfl) (by kernel_rfl) ?_
    simp -implicitDefEqProofs only [vqa, Nat.reduceEqDiff, Nat.reduceAdd, reduceIte, Nat.reduceLeDiff, Nat.reduceBEq, Nat.reduceLT, Nat.reduceSub, Int.reduceLT, Int.reduceLE, Int.reduceEq, Int.reduceToNat, Nat.reduceMul, eq_self, implies_true, forall_const, h0, h1, h12, h13, hf i hi, hg i hi]
    refine ⟨by omega, by omega, fun k => ⟨_, rfl, ⟨fun e => Bool.noConfusion e, fun e => absurd (e i hi) k⟩⟩, fun k => ⟨hi, wI (by omega) (by omega), fun j hj => ?_⟩⟩
    by_cases e : j = i
    · subst e; exact Classical.not_not.1 k
    · exact hs j (by omega)
  · rintro e mm ⟨h0, h1, h12, h13, hs⟩
    unfold a60_0
    simp -implicitDefEqProofs only [vqa, Nat.reduceEqDiff, Nat.reduceAdd, reduceIte, Nat.reduceLeDiff, Nat.reduceBEq, Nat.reduceLT, Nat.reduceSub, Int.reduceLT, Int.reduceLE, Int.reduceEq, Int.reduceToNat, Nat.reduceMul, eq_self, implies_true, forall_const, h0, h1, h12, h13]
    exact ⟨_, rfl, ⟨fun _ => hs, fun _ => rfl⟩⟩

theorem reg_eq (a b : RegV) : ∃ t : Bool, eqCells [.str, .int, .bool] [.str a.name, .int .i64 a.next, .bool a.init] [.str b.name, .int .i64 b.next, .bool b.init] = some t ∧ (t = true ↔ a = b) := by
  refine ⟨_, rfl, ?_⟩
  obtain ⟨n1, c1, i1⟩ := a
  obtain ⟨n2, c2, i2⟩ := b
  simp only [Bool.and_eq_true, beq_iff_eq, RegV.mk.injEq, Bool.and_true]
  exact ⟨fun ⟨h1, h2, h3⟩ => ⟨toList_inj h1, h2, h3⟩, fun ⟨h1, h2, h3⟩ => ⟨by rw [h1], h2, h3⟩⟩
theorem node_eq (a b : Int × Int) : ∃ t : Bool, eqCells [.int, .int] [.int .i64 a.1, .int .i64 a.2] [.int .i64 b.1, .int .i64 b.2] = some t ∧ (t = true ↔ a = b) := by
  refine ⟨_, rfl, ?_⟩
  obtain ⟨n1, c1⟩ := a
  obtain ⟨n2, c2⟩ := b
  simp only [Bool.and_eq_true, beq_iff_eq, Prod.mk.injEq, Bool.and_true]


theorem p61 (n m : Nat) (x y : Nat → RegV) (f g : Nat → AV) (hf : ∀ i, i < n → f i = (x i).av) (hg : ∀ i, i < m → g i = (y i).av) (hn : n ≤ 1048576) (hm : m ≤ 1048576) :
    Pure PP 61 [.fs n f, .fs m g] fun r => ∃ b, r = .bool b ∧ (b = true ↔ n = m ∧ ∀ i, i < n → x i = y i) := by
  refine Fn.pure fmix f61 ?_
  unfold a61 r61
  simp -implicitDefEqProofs only [vqa, Nat.reduceEqDiff, Nat.reduceAdd, reduceIte, Nat.reduceLeDiff, Nat.reduceBEq, Nat.reduceLT, Nat.reduceSub, Int.reduceLT, Int.reduceLE, Int.reduceEq, Int.reduceToNat, Nat.reduceMul, eq_self, implies_true, forall_const]
  refine ⟨fun h => ⟨_, rfl, ⟨fun e => Bool.noConfusion e, fun e => absurd (congrArg Nat.cast e.1) h⟩⟩, fun h => ?_⟩
  obtain rfl : n = m := by omega
  refine vFor n (fun i e mm => e 0 = .fs n f ∧ e 1 = .fs n g ∧ e 12 = .int .i64 n ∧ e 13 = .int .i64 i ∧ ∀ j, j < i → x j = y j) ?_ ?_ ?_
  · simp -implicitDefEqProofs only [vqa, Nat.reduceEqDiff, Nat.reduceAdd, reduceIte, Nat.reduceLeDiff, Nat.reduceBEq, Nat.reduceLT, Nat.reduceSub, Int.reduceLT, Int.reduceLE, Int.reduceEq, Int.reduceToNat, Nat.reduceMul, eq_self, implies_true, forall_const]
  · rintro i e mm hi hi' ⟨h0, h1, h12, h13, hs⟩
    unfold a61_0
    simp -implicitDefEqProofs only [vqa, Nat.reduceEqDiff, Nat.reduceAdd, reduceIte, Nat.reduceLeDiff, Nat.reduceBEq, Nat.reduceLT, Nat.reduceSub, Int.reduceLT, Int.reduceLE, Int.reduceEq, Int.reduceToNat, Nat.reduceMul, eq_self, implies_true, forall_const, h0, h1, h12, h13, hi']
    refine vAny [0, 1, 2, 3, 4, 5, 6, 7, 8] 9 allL (by kernel_rfl) (by kernel_rfl) ?_
    obtain ⟨t, ht, htt⟩ := reg_eq (x i) (y i)
    cases t with
    | true =>
      simp -implicitDefEqProofs only [vqb, Nat.reduceEqDiff, Nat.reduceAdd, reduceIte, Nat.reduceLeDiff, Nat.reduceBEq, Nat.reduceLT, Nat.reduceSub, Int.reduceLT, Int.reduceLE, Int.reduceEq, Int.reduceToNat, Nat.reduceMul, eq_self, implies_true, forall_const, h0, h1, h12, h13, hf i hi, hg i hi, RegV.av, ht]
      refine ⟨by omega, by omega, hi, wI (by omega) (by omega), fun j hj => ?_⟩
      by_cases e : j = i
      · subst e; exact htt.1 rfl
      · exact hs j (by omega)
    | false =>
      simp -implicitDefEqProofs only [vqb, Nat.reduceEqDiff, Nat.reduceAdd, reduceIte, Nat.reduceLeDiff, Nat.reduceBEq, Nat.reduceLT, Nat.reduceSub, Int.reduceLT, Int.reduceLE, Int.reduceEq, Int.reduceToNat, Nat.reduceMul, eq_self, implies_true, forall_const, h0, h1, h12, h13, hf i hi, hg i hi, RegV.av, ht]
      exact ⟨by omega, by omega, _, rfl, ⟨fun e => Bool.noConfusion e, fun e => by have := htt.2 (e i hi); cases this⟩⟩
  · rintro e mm ⟨h0, h1, h12, h13, hs⟩
    unfold a61_0
    simp -implicitDefEqProofs only [vqa, Nat.reduceEqDiff, Nat.reduceAdd, reduceIte, Nat.reduceLeDiff, Nat.reduceBEq, Nat.reduceLT, Nat.reduceSub, Int.reduceLT, Int.reduceLE, Int.reduceEq, Int.reduceToNat, Nat.reduceMul, eq_self, implies_true, forall_const, h0, h1, h12, h13]
    exact ⟨_, rfl, ⟨fun _ => hs, fun _ => rfl⟩⟩


theorem p62 (n m : Nat) (x y : Nat → Int × Int) (f g : Nat → AV) (hf : ∀ i, i < n → f i = .agg [.int .i64 (x i).1, .int .i64 (x i).2]) (hg : ∀ i, i < m → g i = .agg [.int .i64 (y i).1, .int .i64 (y i).2]) (hn : n ≤ 1048576) (hm : m ≤ 1048576) :
    Pure PP 62 [.fs n f, .fs m g] fun r => ∃ b, r = .bool b ∧ (b = true ↔ n = m ∧ ∀ i, i < n → x i = y i) := by
  refine Fn.pure fmix f62 ?_
  unfold a62 r62
  simp -implicitDefEqProofs only [vqa, Nat.reduceEqDiff, Nat.reduceAdd, reduceIte, Nat.reduceLeDiff, Nat.reduceBEq, Nat.reduceLT, Nat.reduceSub, Int.reduceLT, Int.reduceLE, Int.reduceEq, Int.reduceToNat, Nat.reduceMul, eq_self, implies_true, forall_const]
  refine ⟨fun h => ⟨_, rfl, ⟨fun e => Bool.noConfusion e, fun e => absurd (congrArg Nat.cast e.1) h⟩⟩, fun h => ?_⟩
  obtain rfl : n = m := by omega
  refine vFor n (fun i e mm => e 0 = .fs n f ∧ e 1 = .fs n g ∧ e 12 = .int .i64 n ∧ e 13 = .int .i64 i ∧ ∀ j, j < i → x j = y j) ?_ ?_ ?_
  · simp -implicitDefEqProofs only [vqa, Nat.reduceEqDiff, Nat.reduceAdd, reduceIte, Nat.reduceLeDiff, Nat.reduceBEq, Nat.reduceLT, Nat.reduceSub, Int.reduceLT, Int.reduceLE, Int.reduceEq, Int.reduceToNat, Nat.reduceMul, eq_self, implies_true, forall_const]
  · rintro i e mm hi hi' ⟨h0, h1, h12, h13, hs⟩
    unfold a62_0
    simp -implicitDefEqProofs only [vqa, Nat.reduceEqDiff, Nat.reduceAdd, reduceIte, Nat.reduceLeDiff, Nat.reduceBEq, Nat.reduceLT, Nat.reduceSub, Int.reduceLT, Int.reduceLE, Int.reduceEq, Int.reduceToNat, Nat.reduceMul, eq_self, implies_true, forall_const, h0, h1, h12, h13, hi']
    refine vAny [0, 1, 2, 3, 4, 5, 6, 7, 8] 9 allL (by kernel_rfl) (by kernel_rfl) ?_
    obtain ⟨t, ht, htt⟩ := node_eq (x i) (y i)
    cases t with
    | true =>
      simp -implicitDefEqProofs only [vqb, Nat.reduceEqDiff, Nat.reduceAdd, reduceIte, Nat.reduceLeDiff, Nat.reduceBEq, Nat.reduceLT, Nat.reduceSub, Int.reduceLT, Int.reduceLE, Int.reduceEq, Int.reduceToNat, Nat.reduceMul, eq_self, implies_true, forall_const, h0, h1, h12, h13, hf i hi, hg i hi, ht]
      refine ⟨by omega, by omega, hi, wI (by omega) (by omega), fun j hj => ?_⟩
      by_cases e : j = i
      · subst e; exact htt.1 rfl
      · exact hs j (by omega)
    | false =>
      simp -implicitDefEqProofs only [vqb, Nat.reduceEqDiff, Nat.reduceAdd, reduceIte, Nat.reduceLeDiff, Nat.reduceBEq, Nat.reduceLT, Nat.reduceSub, Int.reduceLT, Int.reduceLE, Int.reduceEq, Int.reduceToNat, Nat.reduceMul, eq_self, implies_true, forall_const, h0, h1, h12, h13, hf i hi, hg i hi, ht]
      exact ⟨by omega, by omega, _, rfl, ⟨fun e => Bool.noConfusion e, fun e => by have := htt.2 (e i hi); cases this⟩⟩
  · rintro e mm ⟨h0, h1, h12, h13, hs⟩
    unfold a62_0
    simp -implicitDefEqProofs only [vqa, Nat.reduceEqDiff, Nat.reduceAdd, reduceIte, Nat.reduceLeDiff, Nat.reduceBEq, Nat.reduceLT, Nat.reduceSub, Int.reduceLT, Int.reduceLE, Int.reduceEq, Int.reduceToNat, Nat.reduceMul, eq_self, implies_true, forall_const, h0, h1, h12, h13]
    exact ⟨_, rfl, ⟨fun _ => hs, fun _ => rfl⟩⟩

theorem and_of {N K : Gra} (h : N.na = K.na ∧ ∀ i, i < N.na → N.A i = K.A i ∧ N.B i = K.B i) : N.na = K.na ∧ ∀ i, i < N.na → (N.A i, N.B i) = (K.A i, K.B i) := ⟨h.1, fun i hi => Prod.ext (h.2 i hi).1 (h.2 i hi).2⟩
theorem of_and {N K : Gra} (h : N.na = K.na ∧ ∀ i, i < N.na → (N.A i, N.B i) = (K.A i, K.B i)) : N.na = K.na ∧ ∀ i, i < N.na → N.A i = K.A i ∧ N.B i = K.B i := ⟨h.1, fun i hi => ⟨congrArg Prod.fst (h.2 i hi), congrArg Prod.snd (h.2 i hi)⟩⟩

theorem p30 {N K : Gra} {cs ds : List AV} (hN : GraC cs N) (ok : N.Ok) (hK : GraC ds K) (kk : K.Ok) : Pure PP 30 [.agg cs, .agg ds] fun r => ∃ b, r = .bool b ∧ (b = true ↔ sameG N K) := by
  obtain ⟨f0, f1, f2, f3, f4, rfl, g0, g1, g2, g3, g4⟩ := hN
  obtain ⟨e0, e1, e2, e3, e4, rfl, k0, k1, k2, k3, k4⟩ := hK
  have hni := ok.ni; have hno := ok.no; have hnr := ok.nr; have hna := ok.na; have hnk := ok.nk
  have kni := kk.ni; have kno := kk.no; have knr := kk.nr; have kna := kk.na; have knk := kk.nk
  refine Fn.pure fmix f30 ?_
  unfold a30 r30
  simp -implicitDefEqProofs only [vqa, Nat.reduceEqDiff, Nat.reduceAdd, reduceIte, Nat.reduceLeDiff, Nat.reduceBEq, Nat.reduceLT, Nat.reduceSub, Int.reduceLT, Int.reduceLE, Int.reduceEq, Int.reduceToNat, Nat.reduceMul, eq_self, implies_true, forall_const]
  refine CallW.sc (p60 N.ni K.ni N.inn K.inn f0 e0 g0 k0 hni kni) rfl ⟨trivial, trivial, trivial⟩ fun r ⟨bin, hr, hbin⟩ => ⟨by subst hr; rfl, ?_⟩
  subst hr
  cases bin with
  | false =>
    simp -implicitDefEqProofs only [vqa, Nat.reduceEqDiff, Nat.reduceAdd, reduceIte, Nat.reduceLeDiff, Nat.reduceBEq, Nat.reduceLT, Nat.reduceSub, Int.reduceLT, Int.reduceLE, Int.reduceEq, Int.reduceToNat, Nat.reduceMul, eq_self, implies_true, forall_const]
    exact ⟨_, rfl, ⟨fun e => Bool.noConfusion e, fun e => by have := hbin.2 e.1; cases this⟩⟩
  | true =>
    simp -implicitDefEqProofs only [vqa, Nat.reduceEqDiff, Nat.reduceAdd, reduceIte, Nat.reduceLeDiff, Nat.reduceBEq, Nat.reduceLT, Nat.reduceSub, Int.reduceLT, Int.reduceLE, Int.reduceEq, Int.reduceToNat, Nat.reduceMul, eq_self, implies_true, forall_const]
    refine CallW.sc (p60 N.no K.no N.out K.out f1 e1 g1 k1 hno kno) rfl ⟨trivial, trivial, trivial⟩ fun r ⟨bout, hr, hbout⟩ => ⟨by subst hr; rfl, ?_⟩
    subst hr
    cases bout with
    | false =>
      simp -implicitDefEqProofs only [vqa, Nat.reduceEqDiff, Nat.reduceAdd, reduceIte, Nat.reduceLeDiff, Nat.reduceBEq, Nat.reduceLT, Nat.reduceSub, Int.reduceLT, Int.reduceLE, Int.reduceEq, Int.reduceToNat, Nat.reduceMul, eq_self, implies_true, forall_const]
      exact ⟨_, rfl, ⟨fun e => Bool.noConfusion e, fun e => by have := hbout.2 e.2.1; cases this⟩⟩
    | true =>
      simp -implicitDefEqProofs only [vqa, Nat.reduceEqDiff, Nat.reduceAdd, reduceIte, Nat.reduceLeDiff, Nat.reduceBEq, Nat.reduceLT, Nat.reduceSub, Int.reduceLT, Int.reduceLE, Int.reduceEq, Int.reduceToNat, Nat.reduceMul, eq_self, implies_true, forall_const]
      refine CallW.sc (p31 N.nk K.nk N.outs K.outs f4 e4 g4 k4 (by omega) (by omega)) rfl ⟨trivial, trivial, trivial⟩ fun r ⟨bouts, hr, hbouts⟩ => ⟨by subst hr; rfl, ?_⟩
      subst hr
      cases bouts with
      | false =>
        simp -implicitDefEqProofs only [vqa, Nat.reduceEqDiff, Nat.reduceAdd, reduceIte, Nat.reduceLeDiff, Nat.reduceBEq, Nat.reduceLT, Nat.reduceSub, Int.reduceLT, Int.reduceLE, Int.reduceEq, Int.reduceToNat, Nat.reduceMul, eq_self, implies_true, forall_const]
        exact ⟨_, rfl, ⟨fun e => Bool.noConfusion e, fun e => by have := hbouts.2 e.2.2.2.2; cases this⟩⟩
      | true =>
        simp -implicitDefEqProofs only [vqa, Nat.reduceEqDiff, Nat.reduceAdd, reduceIte, Nat.reduceLeDiff, Nat.reduceBEq, Nat.reduceLT, Nat.reduceSub, Int.reduceLT, Int.reduceLE, Int.reduceEq, Int.reduceToNat, Nat.reduceMul, eq_self, implies_true, forall_const]
        refine CallW.sc (p61 N.nr K.nr N.reg K.reg f2 e2 g2 k2 hnr knr) rfl ⟨trivial, trivial, trivial⟩ fun r ⟨breg, hr, hbreg⟩ => ⟨by subst hr; rfl, ?_⟩
        subst hr
        cases breg with
        | false =>
          simp -implicitDefEqProofs only [vqa, Nat.reduceEqDiff, Nat.reduceAdd, reduceIte, Nat.reduceLeDiff, Nat.reduceBEq, Nat.reduceLT, Nat.reduceSub, Int.reduceLT, Int.reduceLE, Int.reduceEq, Int.reduceToNat, Nat.reduceMul, eq_self, implies_true, forall_const]
          exact ⟨_, rfl, ⟨fun e => Bool.noConfusion e, fun e => by have := hbreg.2 e.2.2.1; cases this⟩⟩
        | true =>
          simp -implicitDefEqProofs only [vqa, Nat.reduceEqDiff, Nat.reduceAdd, reduceIte, Nat.reduceLeDiff, Nat.reduceBEq, Nat.reduceLT, Nat.reduceSub, Int.reduceLT, Int.reduceLE, Int.reduceEq, Int.reduceToNat, Nat.reduceMul, eq_self, implies_true, forall_const]
          refine CallW.sc (p62 N.na K.na (fun i => (N.A i, N.B i)) (fun i => (K.A i, K.B i)) f3 e3 g3 k3 hna kna) rfl ⟨trivial, trivial, trivial⟩ fun r ⟨band, hr, hband⟩ => ⟨by subst hr; rfl, ?_⟩
          subst hr
          cases band with
          | false =>
            simp -implicitDefEqProofs only [vqa, Nat.reduceEqDiff, Nat.reduceAdd, reduceIte, Nat.reduceLeDiff, Nat.reduceBEq, Nat.reduceLT, Nat.reduceSub, Int.reduceLT, Int.reduceLE, Int.reduceEq, Int.reduceToNat, Nat.reduceMul, eq_self, implies_true, forall_const]
            exact ⟨_, rfl, ⟨fun e => Bool.noConfusion e, fun e => by have := hband.2 (and_of e.2.2.2.1); cases this⟩⟩
          | true =>
            simp -implicitDefEqProofs only [vqa, Nat.reduceEqDiff, Nat.reduceAdd, reduceIte, Nat.reduceLeDiff, Nat.reduceBEq, Nat.reduceLT, Nat.reduceSub, Int.reduceLT, Int.reduceLE, Int.reduceEq, Int.reduceToNat, Nat.reduceMul, eq_self, implies_true, forall_const]
            exact ⟨_, rfl, ⟨fun _ => ⟨hbin.1 rfl, hbout.1 rfl, hbreg.1 rfl, of_and (hband.1 rfl), hbouts.1 rfl⟩, fun _ => rfl⟩⟩

theorem p21z (n : Nat) (f : Nat → AV) (hf : ∀ i, i < n → (f i).cells.length = 1 ∧ (f i).cells.all AV.isCell = true) (hn : n ≤ 1048576) : Pure PP 21 [.fs n f] fun r => ∃ g, r = .fs n g ∧ ∀ i, i < n → g i = f i := by
  refine Fn.pure fmix f21 ?_
  unfold a21 r21
  simp -implicitDefEqProofs only [vqa, Nat.reduceEqDiff, Nat.reduceAdd, reduceIte, Nat.reduceLeDiff, Nat.reduceBEq, Nat.reduceLT, Nat.reduceSub, Int.reduceLT, Int.reduceLE, Int.reduceEq, Int.reduceToNat, Nat.reduceMul, eq_self, implies_true, forall_const]
  refine ⟨?_, fun h => ⟨_, by rw [h], fun i hi => absurd hi (by omega)⟩⟩
  cases n with
  | zero => simp -implicitDefEqProofs only [vqa, Nat.reduceEqDiff, Nat.reduceAdd, reduceIte, Nat.reduceLeDiff, Nat.reduceBEq, Nat.reduceLT, Nat.reduceSub, Int.reduceLT, Int.reduceLE, Int.reduceEq, Int.reduceToNat, Nat.reduceMul, eq_self, implies_true, forall_const]; exact ⟨_, rfl⟩
  | succ n =>
    simp -implicitDefEqProofs only [vqa, Nat.reduceEqDiff, Nat.reduceAdd, reduceIte, Nat.reduceLeDiff, Nat.reduceBEq, Nat.reduceLT, Nat.reduceSub, Int.reduceLT, Int.reduceLE, Int.reduceEq, Int.reduceToNat, Nat.reduceMul, eq_self, implies_true, forall_const]
    exact ⟨⟨hf, by omega, by omega⟩, _, rfl, fun i hi => rfl⟩
theorem p82z (n : Nat) (f : Nat → AV) (hf : ∀ i, i < n → (f i).cells.length = 2 ∧ (f i).cells.all AV.isCell = true) (hn : n ≤ 1048576) : Pure PP 82 [.fs n f] fun r => ∃ g, r = .fs n g ∧ ∀ i, i < n → g i = f i := by
  refine Fn.pure fmix f82 ?_
  unfold a82 r82
  simp -implicitDefEqProofs only [vqa, Nat.reduceEqDiff, Nat.reduceAdd, reduceIte, Nat.reduceLeDiff, Nat.reduceBEq, Nat.reduceLT, Nat.reduceSub, Int.reduceLT, Int.reduceLE, Int.reduceEq, Int.reduceToNat, Nat.reduceMul, eq_self, implies_true, forall_const]
  refine ⟨?_, fun h => ⟨_, by rw [h], fun i hi => absurd hi (by omega)⟩⟩
  cases n with
  | zero => simp -implicitDefEqProofs only [vqa, Nat.reduceEqDiff, Nat.reduceAdd, reduceIte, Nat.reduceLeDiff, Nat.reduceBEq, Nat.reduceLT, Nat.reduceSub, Int.reduceLT, Int.reduceLE, Int.reduceEq, Int.reduceToNat, Nat.reduceMul, eq_self, implies_true, forall_const]; exact ⟨_, rfl⟩
  | succ n =>
    simp -implicitDefEqProofs only [vqa, Nat.reduceEqDiff, Nat.reduceAdd, reduceIte, Nat.reduceLeDiff, Nat.reduceBEq, Nat.reduceLT, Nat.reduceSub, Int.reduceLT, Int.reduceLE, Int.reduceEq, Int.reduceToNat, Nat.reduceMul, eq_self, implies_true, forall_const]
    exact ⟨⟨hf, by omega, by omega⟩, _, rfl, fun i hi => rfl⟩

theorem p45 {N : Gra} {cs : List AV} (hN : GraC cs N) (ok : N.Ok) : Pure PP 45 [.agg cs] fun r => ∃ ds, r = .agg ds ∧ GraC ds N := by
  obtain ⟨f0, f1, f2, f3, f4, rfl, g0, g1, g2, g3, g4⟩ := hN
  have hni := ok.ni; have hno := ok.no; have hnr := ok.nr; have hna := ok.na; have hnk := ok.nk
  refine Fn.pure fmix f45 ?_
  unfold a45 r45
  simp -implicitDefEqProofs only [vqa, Nat.reduceEqDiff, Nat.reduceAdd, reduceIte, Nat.reduceLeDiff, Nat.reduceBEq, Nat.reduceLT, Nat.reduceSub, Int.reduceLT, Int.reduceLE, Int.reduceEq, Int.reduceToNat, Nat.reduceMul, eq_self, implies_true, forall_const]
  refine vAny [0, 1, 3, 4, 6, 7, 9, 10, 12, 13, 2, 5, 8, 11, 14, 15, 16] 16 allL (by kernel_rfl) (by kernel_rfl) ?_
  simp -implicitDefEqProofs only [vqa, Nat.reduceEqDiff, Nat.reduceAdd, reduceIte, Nat.reduceLeDiff, Nat.reduceBEq, Nat.reduceLT, Nat.reduceSub, Int.reduceLT, Int.reduceLE, Int.reduceEq, Int.reduceToNat, Nat.reduceMul, eq_self, implies_true, forall_const]
  refine CallW.fz (p40z N.ni f0 (fun i hi => by rw [g0 i hi]; exact ⟨rfl, rfl⟩) hni) rfl rfl fun r ⟨a0, hr, h0⟩ => ⟨by subst hr; rfl, ?_⟩
  subst hr
  simp -implicitDefEqProofs only [vqa, Nat.reduceEqDiff, Nat.reduceAdd, reduceIte, Nat.reduceLeDiff, Nat.reduceBEq, Nat.reduceLT, Nat.reduceSub, Int.reduceLT, Int.reduceLE, Int.reduceEq, Int.reduceToNat, Nat.reduceMul, eq_self, implies_true, forall_const]
  refine CallW.fz (p40z N.no f1 (fun i hi => by rw [g1 i hi]; exact ⟨rfl, rfl⟩) hno) rfl rfl fun r ⟨a1, hr, h1⟩ => ⟨by subst hr; rfl, ?_⟩
  subst hr
  simp -implicitDefEqProofs only [vqa, Nat.reduceEqDiff, Nat.reduceAdd, reduceIte, Nat.reduceLeDiff, Nat.reduceBEq, Nat.reduceLT, Nat.reduceSub, Int.reduceLT, Int.reduceLE, Int.reduceEq, Int.reduceToNat, Nat.reduceMul, eq_self, implies_true, forall_const]
  refine CallW.fz (p41z N.nr f2 (fun i hi => by rw [g2 i hi]; exact ⟨rfl, rfl⟩) hnr) rfl rfl fun r ⟨a2, hr, h2⟩ => ⟨by subst hr; rfl, ?_⟩
  subst hr
  simp -implicitDefEqProofs only [vqa, Nat.reduceEqDiff, Nat.reduceAdd, reduceIte, Nat.reduceLeDiff, Nat.reduceBEq, Nat.reduceLT, Nat.reduceSub, Int.reduceLT, Int.reduceLE, Int.reduceEq, Int.reduceToNat, Nat.reduceMul, eq_self, implies_true, forall_const]
  refine CallW.fz (p82z N.na f3 (fun i hi => by rw [g3 i hi]; exact ⟨rfl, rfl⟩) hna) rfl rfl fun r ⟨a3, hr, h3⟩ => ⟨by subst hr; rfl, ?_⟩
  subst hr
  simp -implicitDefEqProofs only [vqa, Nat.reduceEqDiff, Nat.reduceAdd, reduceIte, Nat.reduceLeDiff, Nat.reduceBEq, Nat.reduceLT, Nat.reduceSub, Int.reduceLT, Int.reduceLE, Int.reduceEq, Int.reduceToNat, Nat.reduceMul, eq_self, implies_true, forall_const]
  refine CallW.fz (p21z N.nk f4 (fun i hi => by rw [g4 i hi]; exact ⟨rfl, rfl⟩) hnk) rfl rfl fun r ⟨a4, hr, h4⟩ => ⟨by subst hr; rfl, ?_⟩
  subst hr
  simp -implicitDefEqProofs only [vqa, Nat.reduceEqDiff, Nat.reduceAdd, reduceIte, Nat.reduceLeDiff, Nat.reduceBEq, Nat.reduceLT, Nat.reduceSub, Int.reduceLT, Int.reduceLE, Int.reduceEq, Int.reduceToNat, Nat.reduceMul, eq_self, implies_true, forall_const]
  exact ⟨_, rfl, a0, a1, a2, a3, a4, rfl, fun i hi => by rw [h0 i hi, g0 i hi], fun i hi => by rw [h1 i hi, g1 i hi], fun i hi => by rw [h2 i hi, g2 i hi], fun i hi => by rw [h3 i hi, g3 i hi], fun i hi => by rw [h4 i hi, g4 i hi]⟩
end Go.Ab
