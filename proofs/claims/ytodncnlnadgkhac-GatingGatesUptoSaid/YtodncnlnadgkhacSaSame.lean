/- The netlist without anything. -/
import Derived.Test.YtodncnlnadgkhacSaForm
import Derived.Test.YtodncnlnadgkhacLwLevel
set_option linter.unusedSimpArgs false
set_option linter.unusedVariables false
namespace Go.Ab
open Go
def a60_0 : AC := (.seq (.ops [⟨(some 14), none, (.v (.bin .lss (.t 13) (.t 12)))⟩]) (.seq (.cond (.t 14) .skip (.exit 0)) (.seq (.block 1 (.seq (.ops [⟨(some 15), none, (.v (.mv (.t 13)))⟩, ⟨(some 5), none, (.v (.mv (.t 15)))⟩]) (.seq (.any [⟨(some 16), none, (.v (.mv (.t 0)))⟩, ⟨(some 17), none, (.v (.mv (.t 5)))⟩, ⟨(some 18), none, (.v (.idx 1 (.t 16) (.t 17)))⟩, ⟨(some 19), none, (.v (.load 1 false (.t 18)))⟩, ⟨(some 20), none, (.v (.mv (.t 1)))⟩, ⟨(some 21), none, (.v (.mv (.t 5)))⟩, ⟨(some 22), none, (.v (.idx 1 (.t 20) (.t 21)))⟩, ⟨(some 23), none, (.v (.load 1 false (.t 22)))⟩, ⟨(some 24), none, (.v (.sbin .neq (.t 19) (.t 23)))⟩] [[], [], [0, 1], [2], [], [], [4, 5], [6], [3, 7]]) (.cond (.t 24) (.seq (.ops [⟨(some 4), none, (.v (.mv (.c (.bool false))))⟩]) .ret) .skip)))) (.ops [⟨(some 25), none, (.v (.bin .add (.t 13) (.c (.int .i64 1))))⟩, ⟨(some 13), none, (.v (.mv (.t 25)))⟩]))))
def a60 : AC := (.seq (.ops [⟨(some 4), none, (.v (.mv (.c (.bool false))))⟩]) (.seq (.seq (.ops [⟨(some 6), none, (.v (.mv (.t 0)))⟩, ⟨(some 7), none, (.v (.len (.t 6)))⟩, ⟨(some 8), none, (.v (.mv (.t 1)))⟩, ⟨(some 9), none, (.v (.len (.t 8)))⟩, ⟨(some 10), none, (.v (.bin .neq (.t 7) (.t 9)))⟩]) (.cond (.t 10) (.seq (.ops [⟨(some 4), none, (.v (.mv (.c (.bool false))))⟩]) .ret) .skip)) (.seq (.seq (.ops [⟨(some 11), none, (.v (.mv (.t 0)))⟩, ⟨(some 12), none, (.v (.len (.t 11)))⟩, ⟨(some 13), none, (.v (.mv (.c (.int .i64 0))))⟩]) (.block 0 (.loop a60_0))) (.seq (.ops [⟨(some 4), none, (.v (.mv (.c (.bool true))))⟩]) .ret))))
def r60 : List AI := [(.mv (.t 4))]
theorem f60 : Fn PP 60 2 a60 r60 := Fn.of (fn := Go.Proofs.Try.f60) (by kernel_rfl) (by kernel_rfl) (by kernel_rfl)
def a76_0 : AC := (.seq (.ops [⟨(some 14), none, (.v (.bin .lss (.t 13) (.t 12)))⟩]) (.seq (.cond (.t 14) .skip (.exit 0)) (.seq (.block 1 (.seq (.ops [⟨(some 15), none, (.v (.mv (.t 13)))⟩, ⟨(some 5), none, (.v (.mv (.t 15)))⟩]) (.seq (.any [⟨(some 16), none, (.v (.mv (.t 0)))⟩, ⟨(some 17), none, (.v (.mv (.t 5)))⟩, ⟨(some 18), none, (.v (.idx 5 (.t 16) (.t 17)))⟩, ⟨(some 19), none, (.v (.load 5 true (.t 18)))⟩, ⟨(some 20), none, (.v (.mv (.t 1)))⟩, ⟨(some 21), none, (.v (.mv (.t 5)))⟩, ⟨(some 22), none, (.v (.idx 5 (.t 20) (.t 21)))⟩, ⟨(some 23), none, (.v (.load 5 true (.t 22)))⟩, ⟨(some 24), none, (.v (.aeq [.str, .int, .int, .int, .bool] true (.t 19) (.t 23)))⟩] [[], [], [0, 1], [2], [], [], [4, 5], [6], [3, 7]]) (.cond (.t 24) (.seq (.ops [⟨(some 4), none, (.v (.mv (.c (.bool false))))⟩]) .ret) .skip)))) (.ops [⟨(some 25), none, (.v (.bin .add (.t 13) (.c (.int .i64 1))))⟩, ⟨(some 13), none, (.v (.mv (.t 25)))⟩]))))
def a76 : AC := (.seq (.ops [⟨(some 4), none, (.v (.mv (.c (.bool false))))⟩]) (.seq (.seq (.ops [⟨(some 6), none, (.v (.mv (.t 0)))⟩, ⟨(some 7), none, (.v (.len (.t 6)))⟩, ⟨(some 8), none, (.v (.mv (.t 1)))⟩, ⟨(some 9), none, (.v (.len (.t 8)))⟩, ⟨(some 10), none, (.v (.bin .neq (.t 7) (.t 9)))⟩]) (.cond (.t 10) (.seq (.ops [⟨(some 4), none, (.v (.mv (.c (.bool false))))⟩]) .ret) .skip)) (.seq (.seq (.ops [⟨(some 11), none, (.v (.mv (.t 0)))⟩, ⟨(some 12), none, (.v (.len (.t 11)))⟩, ⟨(some 13), none, (.v (.mv (.c (.int .i64 0))))⟩]) (.block 0 (.loop a76_0))) (.seq (.ops [⟨(some 4), none, (.v (.mv (.c (.bool true))))⟩]) .ret))))
def r76 : List AI := [(.mv (.t 4))]
theorem f76 : Fn PP 76 2 a76 r76 := Fn.of (fn := Go.Proofs.Try.f76) (by kernel_rfl) (by kernel_rfl) (by kernel_rfl)
def a78 : AC := (.seq (.ops [⟨(some 2), none, (.e (.box 2 0 (.t 0)))⟩, ⟨(some 3), none, (.e (.box 3 0 (.t 1)))⟩, ⟨(some 4), none, (.v (.mv (.c (.bool false))))⟩]) (.seq (.ops [⟨(some 5), none, (.v (.fld 0 (.t 2)))⟩, ⟨(some 6), none, (.v (.load 1 false (.t 5)))⟩, ⟨(some 7), none, (.v (.fld 0 (.t 3)))⟩, ⟨(some 8), none, (.v (.load 1 false (.t 7)))⟩, ⟨(some 9), none, (.v (.bin .eql (.t 6) (.t 8)))⟩, ⟨(some 10), none, (.v (.mv (.t 9)))⟩, ⟨(some 11), (some (10, true)), (.v (.fld 1 (.t 2)))⟩, ⟨(some 12), (some (10, true)), (.v (.load 1 false (.t 11)))⟩, ⟨(some 13), (some (10, true)), (.v (.fld 1 (.t 3)))⟩, ⟨(some 14), (some (10, true)), (.v (.load 1 false (.t 13)))⟩, ⟨(some 15), (some (10, true)), (.v (.bin .eql (.t 12) (.t 14)))⟩, ⟨(some 16), none, (.v (.pick (.t 10) (.t 15) (.c (.bool false))))⟩, ⟨(some 17), none, (.v (.mv (.t 16)))⟩, ⟨(some 18), (some (17, true)), (.v (.fld 2 (.t 2)))⟩, ⟨(some 19), (some (17, true)), (.v (.load 1 false (.t 18)))⟩, ⟨(some 20), (some (17, true)), (.v (.fld 2 (.t 3)))⟩, ⟨(some 21), (some (17, true)), (.v (.load 1 false (.t 20)))⟩, ⟨(some 22), (some (17, true)), (.call (.c (.fn 75 [])) [(.t 19), (.t 21)])⟩, ⟨(some 23), none, (.v (.pick (.t 17) (.t 22) (.c (.bool false))))⟩, ⟨(some 4), none, (.v (.mv (.t 23)))⟩]) .ret))
def r78 : List AI := [(.mv (.t 4))]
theorem f78 : Fn PP 78 2 a78 r78 := Fn.of (fn := Go.Proofs.Try.f78) (by kernel_rfl) (by kernel_rfl) (by kernel_rfl)
def a77_0 : AC := (.seq (.ops [⟨(some 18), none, (.v (.bin .lss (.t 17) (.t 16)))⟩]) (.seq (.cond (.t 18) .skip (.exit 0)) (.seq (.block 1 (.seq (.ops [⟨(some 19), none, (.v (.mv (.t 17)))⟩, ⟨(some 20), none, (.v (.idx 3 (.t 15) (.t 17)))⟩, ⟨(some 21), none, (.v (.load 3 true (.t 20)))⟩, ⟨(some 8), none, (.e (.alloc 8 [(.int .i64 0), (.int .u64 0), .cap0]))⟩, ⟨(some 7), none, (.v (.mv (.t 19)))⟩, ⟨none, none, (.e (.store 3 (.t 8) (.t 21)))⟩]) (.seq (.ops [⟨(some 22), none, (.v (.mv (.t 1)))⟩, ⟨(some 23), none, (.v (.mv (.t 7)))⟩, ⟨(some 24), none, (.v (.idx 3 (.t 22) (.t 23)))⟩, ⟨(some 25), none, (.v (.load 3 true (.t 24)))⟩, ⟨(some 9), none, (.e (.alloc 9 [(.int .i64 0), (.int .u64 0), .cap0]))⟩, ⟨none, none, (.e (.store 3 (.t 9) (.t 25)))⟩]) (.seq (.ops [⟨(some 26), none, (.v (.mv (.t 2)))⟩, ⟨(some 27), none, (.v (.load 3 true (.t 8)))⟩, ⟨(some 28), none, (.v (.load 3 true (.t 9)))⟩, ⟨(some 29), none, (.call (.t 26) [(.t 27), (.t 28)])⟩, ⟨(some 30), none, (.v (.not (.t 29)))⟩]) (.cond (.t 30) (.seq (.ops [⟨(some 6), none, (.v (.mv (.c (.bool false))))⟩]) .ret) .skip))))) (.ops [⟨(some 31), none, (.v (.bin .add (.t 17) (.c (.int .i64 1))))⟩, ⟨(some 17), none, (.v (.mv (.t 31)))⟩]))))
def a77 : AC := (.seq (.ops [⟨(some 6), none, (.v (.mv (.c (.bool false))))⟩]) (.seq (.seq (.ops [⟨(some 10), none, (.v (.mv (.t 0)))⟩, ⟨(some 11), none, (.v (.len (.t 10)))⟩, ⟨(some 12), none, (.v (.mv (.t 1)))⟩, ⟨(some 13), none, (.v (.len (.t 12)))⟩, ⟨(some 14), none, (.v (.bin .neq (.t 11) (.t 13)))⟩]) (.cond (.t 14) (.seq (.ops [⟨(some 6), none, (.v (.mv (.c (.bool false))))⟩]) .ret) .skip)) (.seq (.seq (.ops [⟨(some 15), none, (.v (.mv (.t 0)))⟩, ⟨(some 16), none, (.v (.len (.t 15)))⟩, ⟨(some 17), none, (.v (.mv (.c (.int .i64 0))))⟩]) (.block 0 (.loop a77_0))) (.seq (.ops [⟨(some 6), none, (.v (.mv (.c (.bool true))))⟩]) .ret))))
def r77 : List AI := [(.mv (.t 6))]
theorem f77 : Fn PP 77 3 a77 r77 := Fn.of (fn := Go.Proofs.Try.f77) (by kernel_rfl) (by kernel_rfl) (by kernel_rfl)
def a38 : AC := (.seq (.ops [⟨(some 2), none, (.e (.box 2 0 (.t 0)))⟩, ⟨(some 3), none, (.e (.box 3 0 (.t 1)))⟩, ⟨(some 4), none, (.v (.mv (.c (.bool false))))⟩]) (.seq (.ops [⟨(some 5), none, (.v (.fld 0 (.t 2)))⟩, ⟨(some 6), none, (.v (.load 1 false (.t 5)))⟩, ⟨(some 7), none, (.v (.fld 0 (.t 3)))⟩, ⟨(some 8), none, (.v (.load 1 false (.t 7)))⟩, ⟨(some 9), none, (.call (.c (.fn 60 [])) [(.t 6), (.t 8)])⟩, ⟨(some 10), none, (.v (.mv (.t 9)))⟩, ⟨(some 11), (some (10, true)), (.v (.fld 1 (.t 2)))⟩, ⟨(some 12), (some (10, true)), (.v (.load 1 false (.t 11)))⟩, ⟨(some 13), (some (10, true)), (.v (.fld 1 (.t 3)))⟩, ⟨(some 14), (some (10, true)), (.v (.load 1 false (.t 13)))⟩, ⟨(some 15), (some (10, true)), (.call (.c (.fn 60 [])) [(.t 12), (.t 14)])⟩, ⟨(some 16), none, (.v (.pick (.t 10) (.t 15) (.c (.bool false))))⟩, ⟨(some 17), none, (.v (.mv (.t 16)))⟩, ⟨(some 18), (some (17, true)), (.v (.fld 4 (.t 2)))⟩, ⟨(some 19), (some (17, true)), (.v (.load 1 false (.t 18)))⟩, ⟨(some 20), (some (17, true)), (.v (.fld 4 (.t 3)))⟩, ⟨(some 21), (some (17, true)), (.v (.load 1 false (.t 20)))⟩, ⟨(some 22), (some (17, true)), (.call (.c (.fn 75 [])) [(.t 19), (.t 21)])⟩, ⟨(some 23), none, (.v (.pick (.t 17) (.t 22) (.c (.bool false))))⟩, ⟨(some 24), none, (.v (.mv (.t 23)))⟩, ⟨(some 25), (some (24, true)), (.v (.fld 2 (.t 2)))⟩, ⟨(some 26), (some (24, true)), (.v (.load 1 false (.t 25)))⟩, ⟨(some 27), (some (24, true)), (.v (.fld 2 (.t 3)))⟩, ⟨(some 28), (some (24, true)), (.v (.load 1 false (.t 27)))⟩, ⟨(some 29), (some (24, true)), (.call (.c (.fn 76 [])) [(.t 26), (.t 28)])⟩, ⟨(some 30), none, (.v (.pick (.t 24) (.t 29) (.c (.bool false))))⟩, ⟨(some 31), none, (.v (.mv (.t 30)))⟩, ⟨(some 32), (some (31, true)), (.v (.fld 3 (.t 2)))⟩, ⟨(some 33), (some (31, true)), (.v (.load 1 false (.t 32)))⟩, ⟨(some 34), (some (31, true)), (.v (.fld 3 (.t 3)))⟩, ⟨(some 35), (some (31, true)), (.v (.load 1 false (.t 34)))⟩, ⟨(some 36), (some (31, true)), (.call (.c (.fn 77 [])) [(.t 33), (.t 35), (.c (.fn 78 []))])⟩, ⟨(some 37), none, (.v (.pick (.t 31) (.t 36) (.c (.bool false))))⟩, ⟨(some 4), none, (.v (.mv (.t 37)))⟩]) .ret))
def r38 : List AI := [(.mv (.t 4))]
theorem f38 : Fn PP 38 2 a38 r38 := Fn.of (fn := Go.Proofs.Try.f38) (by kernel_rfl) (by kernel_rfl) (by kernel_rfl)

def gateSame (g h : GateV) : Prop := g.cell = h.cell ∧ g.table = h.table ∧ g.n = h.n ∧ ∀ i, i < g.n → g.ins i = h.ins i
def sameN (N K : Net) : Prop := (N.ni = K.ni ∧ ∀ i, i < N.ni → N.inn i = K.inn i) ∧ (N.no = K.no ∧ ∀ i, i < N.no → N.out i = K.out i) ∧ (N.nf = K.nf ∧ ∀ i, i < N.nf → N.flop i = K.flop i) ∧ (N.ng = K.ng ∧ ∀ i, i < N.ng → gateSame (N.gate i) (K.gate i)) ∧ (N.nk = K.nk ∧ ∀ i, i < N.nk → N.outs i = K.outs i)

theorem p60 (n m : Nat) (x y : Nat → ByteArray) (f g : Nat → AV) (hf : ∀ i, i < n → f i = .str (x i)) (hg : ∀ i, i < m → g i = .str (y i)) (hn : n ≤ 1048576) (hm : m ≤ 1048576) :
    Pure PP 60 [.fs n f, .fs m g] fun r => ∃ b, r = .bool b ∧ (b = true ↔ n = m ∧ ∀ i, i < n → x i = y i) := by
  refine Fn.pure fmix f60 ?_
  unfold a60 r60
  simp -implicitDefEqProofs only [vqa, Nat.reduceEqDiff, Nat.reduceAdd, reduceIte, Nat.reduceLeDiff, Nat.reduceBEq, Nat.reduceLT, Nat.reduceSub, Int.reduceLT, Int.reduceLE, Int.reduceEq, Int.reduceToNat, Nat.reduceMul, eq_self, implies_true, forall_const]
  refine ⟨fun h => ⟨_, rfl, ⟨fun e => Bool.noConfusion e, fun e => absurd (congrArg Nat.cast e.1) h⟩⟩, fun h => ?_⟩
  obtain rfl : n = m := by omega
  refine vFor n (fun i e mm => e 0 = .fs n f ∧ e 1 = .fs n g ∧ e 12 = .int .i64 n ∧ e 13 = .int .i64 i ∧ ∀ j, j < i → x j = y j) ?_ ?_ ?_
  · simp -implicitDefEqProofs only [vqa, Nat.reduceEqDiff, Nat.reduceAdd, reduceIte, Nat.reduceLeDiff, Nat.reduceBEq, Nat.reduceLT, Nat.reduceSub, Int.reduceLT, Int.reduceLE, Int.reduceEq, Int.reduceToNat, Nat.reduceMul, eq_self, implies_true, forall_const]
  · rintro i e mm hi hi' ⟨h0, h1, h12, h13, hs⟩
    unfold a60_0
    simp -implicitDefEqProofs only [vqa, Nat.reduceEqDiff, Nat.reduceAdd, reduceIte, Nat.reduceLeDiff, Nat.reduceBEq, Nat.reduceLT, Nat.reduceSub, Int.reduceLT, Int.reduceLE, Int.reduceEq, Int.reduceToNat, Nat.reduceMul, eq_self, implies_true, forall_const, h0, h1, h12, h13, hi']
    refine vAny [0, 1, 2, 3, 4, 5, 6, 7, 8] 9 allL rfl rfl ?_
    simp -implicitDefEqProofs only [vqa, Nat.reduceEqDiff, Nat.reduceAdd, reduceIte, Nat.reduceLeDiff, Nat.reduceBEq, Nat.reduceLT, Nat.reduceSub, Int.reduceLT, Int.reduceLE, Int.reduceEq, Int.reduceToNat, Nat.reduceMul, eq_self, implies_true, forall_const, h0, h1, h12, h13, hf i hi, hg i hi]
    refine ⟨by omega, by omega, fun k => ⟨_, rfl, ⟨fun e => Bool.noConfusion e, fun e => absurd (e i hi) k⟩⟩, fun k => ⟨hi, wI (by omega) (by omega), fun j hj => ?_⟩⟩
    by_cases e : j = i
    · subst e; exact Classical.not_not.1 k
    · exact hs j (by omega)
  · rintro e mm ⟨h0, h1, h12, h13, hs⟩
    unfold a60_0
    simp -implicitDefEqProofs only [vqa, Nat.reduceEqDiff, Nat.reduceAdd, reduceIte, Nat.reduceLeDiff, Nat.reduceBEq, Nat.reduceLT, Nat.reduceSub, Int.reduceLT, Int.reduceLE, Int.reduceEq, Int.reduceToNat, Nat.reduceMul, eq_self, implies_true, forall_const, h0, h1, h12, h13]
    exact ⟨_, rfl, ⟨fun _ => hs, fun _ => rfl⟩⟩

theorem flop_eq (a b : FlopV) : ∃ t : Bool, eqCells [.str, .int, .int, .int, .bool] [.str a.name, .int .i64 a.cell, .int .i64 a.d, .int .i64 a.en, .bool a.init] [.str b.name, .int .i64 b.cell, .int .i64 b.d, .int .i64 b.en, .bool b.init] = some t ∧ (t = true ↔ a = b) := by
  refine ⟨_, rfl, ?_⟩
  obtain ⟨n1, c1, d1, e1, i1⟩ := a
  obtain ⟨n2, c2, d2, e2, i2⟩ := b
  simp only [Bool.and_eq_true, beq_iff_eq, FlopV.mk.injEq, Bool.and_true]
  exact ⟨fun ⟨h1, h2, h3, h4, h5⟩ => ⟨toList_inj h1, h2, h3, h4, h5⟩, fun ⟨h1, h2, h3, h4, h5⟩ => ⟨by rw [h1], h2, h3, h4, h5⟩⟩

theorem p76 (n m : Nat) (x y : Nat → FlopV) (f g : Nat → AV) (hf : ∀ i, i < n → f i = (x i).av) (hg : ∀ i, i < m → g i = (y i).av) (hn : n ≤ 1048576) (hm : m ≤ 1048576) :
    Pure PP 76 [.fs n f, .fs m g] fun r => ∃ b, r = .bool b ∧ (b = true ↔ n = m ∧ ∀ i, i < n → x i = y i) := by
  refine Fn.pure fmix f76 ?_
  unfold a76 r76
  simp -implicitDefEqProofs only [vqa, Nat.reduceEqDiff, Nat.reduceAdd, reduceIte, Nat.reduceLeDiff, Nat.reduceBEq, Nat.reduceLT, Nat.reduceSub, Int.reduceLT, Int.reduceLE, Int.reduceEq, Int.reduceToNat, Nat.reduceMul, eq_self, implies_true, forall_const]
  refine ⟨fun h => ⟨_, rfl, ⟨fun e => Bool.noConfusion e, fun e => absurd (congrArg Nat.cast e.1) h⟩⟩, fun h => ?_⟩
  obtain rfl : n = m := by omega
  refine vFor n (fun i e mm => e 0 = .fs n f ∧ e 1 = .fs n g ∧ e 12 = .int .i64 n ∧ e 13 = .int .i64 i ∧ ∀ j, j < i → x j = y j) ?_ ?_ ?_
  · simp -implicitDefEqProofs only [vqa, Nat.reduceEqDiff, Nat.reduceAdd, reduceIte, Nat.reduceLeDiff, Nat.reduceBEq, Nat.reduceLT, Nat.reduceSub, Int.reduceLT, Int.reduceLE, Int.reduceEq, Int.reduceToNat, Nat.reduceMul, eq_self, implies_true, forall_const]
  · rintro i e mm hi hi' ⟨h0, h1, h12, h13, hs⟩
    obtain ⟨t, ht, htt⟩ := flop_eq (x i) (y i)
    unfold a76_0
    simp -implicitDefEqProofs only [vqa, Nat.reduceEqDiff, Nat.reduceAdd, reduceIte, Nat.reduceLeDiff, Nat.reduceBEq, Nat.reduceLT, Nat.reduceSub, Int.reduceLT, Int.reduceLE, Int.reduceEq, Int.reduceToNat, Nat.reduceMul, eq_self, implies_true, forall_const, h0, h1, h12, h13, hi']
    refine vAny [0, 1, 2, 3, 4, 5, 6, 7, 8] 9 allL rfl rfl ?_
    cases t with
    | true =>
      simp -implicitDefEqProofs only [vqb, Nat.reduceEqDiff, Nat.reduceAdd, reduceIte, Nat.reduceLeDiff, Nat.reduceBEq, Nat.reduceLT, Nat.reduceSub, Int.reduceLT, Int.reduceLE, Int.reduceEq, Int.reduceToNat, Nat.reduceMul, eq_self, implies_true, forall_const, h0, h1, h12, h13, hf i hi, hg i hi, FlopV.av, ht]
      refine ⟨by omega, by omega, hi, wI (by omega) (by omega), fun j hj => ?_⟩
      by_cases e : j = i
      · subst e; exact htt.1 rfl
      · exact hs j (by omega)
    | false =>
      simp -implicitDefEqProofs only [vqb, Nat.reduceEqDiff, Nat.reduceAdd, reduceIte, Nat.reduceLeDiff, Nat.reduceBEq, Nat.reduceLT, Nat.reduceSub, Int.reduceLT, Int.reduceLE, Int.reduceEq, Int.reduceToNat, Nat.reduceMul, eq_self, implies_true, forall_const, h0, h1, h12, h13, hf i hi, hg i hi, FlopV.av, ht]
      exact ⟨by omega, by omega, _, rfl, ⟨fun e => Bool.noConfusion e, fun e => by have := htt.2 (e i hi); cases this⟩⟩
  · rintro e mm ⟨h0, h1, h12, h13, hs⟩
    unfold a76_0
    simp -implicitDefEqProofs only [vqa, Nat.reduceEqDiff, Nat.reduceAdd, reduceIte, Nat.reduceLeDiff, Nat.reduceBEq, Nat.reduceLT, Nat.reduceSub, Int.reduceLT, Int.reduceLE, Int.reduceEq, Int.reduceToNat, Nat.reduceMul, eq_self, implies_true, forall_const, h0, h1, h12, h13]
    exact ⟨_, rfl, ⟨fun _ => hs, fun _ => rfl⟩⟩

theorem p78 {v w : AV} {g h : GateV} (hv : GateA v g) (hw : GateA w h) (l1 : g.n ≤ 1048576) (l2 : h.n ≤ 1048576) : Pure PP 78 [v, w] fun r => ∃ b, r = .bool b ∧ (b = true ↔ gateSame g h) := by
  obtain ⟨q, rfl, hq⟩ := hv
  obtain ⟨q', rfl, hq'⟩ := hw
  refine Fn.pure fmix f78 ?_
  unfold a78 r78
  simp -implicitDefEqProofs only [vqa, Nat.reduceEqDiff, Nat.reduceAdd, reduceIte, Nat.reduceLeDiff, Nat.reduceBEq, Nat.reduceLT, Nat.reduceSub, Int.reduceLT, Int.reduceLE, Int.reduceEq, Int.reduceToNat, Nat.reduceMul, eq_self, implies_true, forall_const]
  refine ⟨fun k1 => ⟨fun k2 => ?_, fun k2 => ?_⟩, fun k1 => ?_⟩
  · refine CallW.sc (p75 g.n h.n g.ins h.ins q q' hq hq' l1 l2) rfl ⟨trivial, trivial, trivial⟩ fun r ⟨b, hr, hb⟩ => ⟨by subst hr; rfl, ?_⟩
    subst hr
    simp -implicitDefEqProofs only [vqa, Nat.reduceEqDiff, Nat.reduceAdd, reduceIte, Nat.reduceLeDiff, Nat.reduceBEq, Nat.reduceLT, Nat.reduceSub, Int.reduceLT, Int.reduceLE, Int.reduceEq, Int.reduceToNat, Nat.reduceMul, eq_self, implies_true, forall_const]
    exact ⟨b, rfl, ⟨fun e => ⟨k1, k2, hb.1 e⟩, fun e => hb.2 e.2.2⟩⟩
  · exact ⟨_, rfl, ⟨fun e => Bool.noConfusion e, fun e => absurd e.2.1 k2⟩⟩
  · exact ⟨_, rfl, ⟨fun e => Bool.noConfusion e, fun e => absurd e.1 k1⟩⟩

theorem p77 (fid : Nat) (n m : Nat) (x y : Nat → GateV) (f g : Nat → AV) (hf : ∀ i, i < n → GateA (f i) (x i)) (hg : ∀ i, i < m → GateA (g i) (y i)) (hn : n ≤ 1048576) (hm : m ≤ 1048576)
    (hp : ∀ i j, i < n → j < m → Pure PP fid [f i, g j] fun r => ∃ b, r = .bool b ∧ (b = true ↔ gateSame (x i) (y j))) :
    Pure PP 77 [.fs n f, .fs m g, .fn fid []] fun r => ∃ b, r = .bool b ∧ (b = true ↔ n = m ∧ ∀ i, i < n → gateSame (x i) (y i)) := by
  refine Fn.pure fmix f77 ?_
  unfold a77 r77
  simp -implicitDefEqProofs only [vqa, Nat.reduceEqDiff, Nat.reduceAdd, reduceIte, Nat.reduceLeDiff, Nat.reduceBEq, Nat.reduceLT, Nat.reduceSub, Int.reduceLT, Int.reduceLE, Int.reduceEq, Int.reduceToNat, Nat.reduceMul, eq_self, implies_true, forall_const]
  refine ⟨fun h => ⟨_, rfl, ⟨fun e => Bool.noConfusion e, fun e => absurd (congrArg Nat.cast e.1) h⟩⟩, fun h => ?_⟩
  obtain rfl : n = m := by omega
  refine vFor n (fun i e mm => e 1 = .fs n g ∧ e 2 = .fn fid [] ∧ e 15 = .fs n f ∧ e 16 = .int .i64 n ∧ e 17 = .int .i64 i ∧ ∀ j, j < i → gateSame (x j) (y j)) ?_ ?_ ?_
  · simp -implicitDefEqProofs only [vqa, Nat.reduceEqDiff, Nat.reduceAdd, reduceIte, Nat.reduceLeDiff, Nat.reduceBEq, Nat.reduceLT, Nat.reduceSub, Int.reduceLT, Int.reduceLE, Int.reduceEq, Int.reduceToNat, Nat.reduceMul, eq_self, implies_true, forall_const]
  · rintro i e mm hi hi' ⟨h1, h2, h15, h16, h17, hs⟩
    have hc := hp i i hi hi
    obtain ⟨q, hq, _⟩ := hf i hi
    obtain ⟨q', hq', _⟩ := hg i hi
    rw [hq, hq'] at hc
    unfold a77_0
    simp -implicitDefEqProofs only [vqa, Nat.reduceEqDiff, Nat.reduceAdd, reduceIte, Nat.reduceLeDiff, Nat.reduceBEq, Nat.reduceLT, Nat.reduceSub, Int.reduceLT, Int.reduceLE, Int.reduceEq, Int.reduceToNat, Nat.reduceMul, eq_self, implies_true, forall_const, h1, h2, h15, h16, h17, hi', hq, hq']
    refine ⟨by omega, by omega, ?_⟩
    refine CallW.sc hc ?_ ?_ fun r ⟨b, hr, hb⟩ => ⟨by subst hr; rfl, ?_⟩
    · simp only [rsC, rs2, rs1, rs0, vqa, Nat.reduceEqDiff, Nat.reduceAdd, reduceIte, Nat.reduceLeDiff, Nat.reduceBEq, Nat.reduceLT, Nat.reduceSub, Int.reduceLT, Int.reduceLE, Int.reduceEq, Int.reduceToNat, Nat.reduceMul, eq_self, implies_true, forall_const]
    · simp only [rsC, rs2, rs1, rs0, vqa, Nat.reduceEqDiff, Nat.reduceAdd, reduceIte, Nat.reduceLeDiff, Nat.reduceBEq, Nat.reduceLT, Nat.reduceSub, Int.reduceLT, Int.reduceLE, Int.reduceEq, Int.reduceToNat, Nat.reduceMul, eq_self, implies_true, forall_const]
    subst hr
    cases b with
    | true =>
      simp -implicitDefEqProofs only [vqa, Nat.reduceEqDiff, Nat.reduceAdd, reduceIte, Nat.reduceLeDiff, Nat.reduceBEq, Nat.reduceLT, Nat.reduceSub, Int.reduceLT, Int.reduceLE, Int.reduceEq, Int.reduceToNat, Nat.reduceMul, eq_self, implies_true, forall_const, h1, h2, h15, h16, h17]
      refine ⟨hi, wI (by omega) (by omega), fun j hj => ?_⟩
      by_cases e : j = i
      · subst e; exact hb.1 rfl
      · exact hs j (by omega)
    | false =>
      simp -implicitDefEqProofs only [vqa, Nat.reduceEqDiff, Nat.reduceAdd, reduceIte, Nat.reduceLeDiff, Nat.reduceBEq, Nat.reduceLT, Nat.reduceSub, Int.reduceLT, Int.reduceLE, Int.reduceEq, Int.reduceToNat, Nat.reduceMul, eq_self, implies_true, forall_const, h1, h2, h15, h16, h17]
      exact ⟨_, rfl, ⟨fun e => Bool.noConfusion e, fun e => by have := hb.2 (e i hi); cases this⟩⟩
  · rintro e mm ⟨h1, h2, h15, h16, h17, hs⟩
    unfold a77_0
    simp -implicitDefEqProofs only [vqa, Nat.reduceEqDiff, Nat.reduceAdd, reduceIte, Nat.reduceLeDiff, Nat.reduceBEq, Nat.reduceLT, Nat.reduceSub, Int.reduceLT, Int.reduceLE, Int.reduceEq, Int.reduceToNat, Nat.reduceMul, eq_self, implies_true, forall_const, h1, h2, h15, h16, h17]
    exact ⟨_, rfl, ⟨fun _ => hs, fun _ => rfl⟩⟩

theorem p38 {N K : Net} {cs ds : List AV} (hN : NetC cs N) (ok : N.Ok) (hK : NetC ds K) (kk : K.Ok) : Pure PP 38 [.agg cs, .agg ds] fun r => ∃ b, r = .bool b ∧ (b = true ↔ sameN N K) := by
  obtain ⟨f0, f1, f2, f3, f4, rfl, g0, g1, g2, g3, g4⟩ := hN
  obtain ⟨e0, e1, e2, e3, e4, rfl, k0, k1, k2, k3, k4⟩ := hK
  refine Fn.pure fmix f38 ?_
  unfold a38 r38
  simp -implicitDefEqProofs only [vqa, Nat.reduceEqDiff, Nat.reduceAdd, reduceIte, Nat.reduceLeDiff, Nat.reduceBEq, Nat.reduceLT, Nat.reduceSub, Int.reduceLT, Int.reduceLE, Int.reduceEq, Int.reduceToNat, Nat.reduceMul, eq_self, implies_true, forall_const]
  refine CallW.sc (p60 N.ni K.ni _ _ f0 e0 g0 k0 ok.ni kk.ni) rfl ⟨trivial, trivial, trivial⟩ fun r ⟨b, hr, hb⟩ => ⟨by subst hr; rfl, ?_⟩
  subst hr
  cases b with
  | false => simp -implicitDefEqProofs only [vqa, Nat.reduceEqDiff, Nat.reduceAdd, reduceIte, Nat.reduceLeDiff, Nat.reduceBEq, Nat.reduceLT, Nat.reduceSub, Int.reduceLT, Int.reduceLE, Int.reduceEq, Int.reduceToNat, Nat.reduceMul, eq_self, implies_true, forall_const]; exact ⟨_, rfl, ⟨fun e => Bool.noConfusion e, fun e => by have := hb.2 e.1; cases this⟩⟩
  | true =>
  simp -implicitDefEqProofs only [vqa, Nat.reduceEqDiff, Nat.reduceAdd, reduceIte, Nat.reduceLeDiff, Nat.reduceBEq, Nat.reduceLT, Nat.reduceSub, Int.reduceLT, Int.reduceLE, Int.reduceEq, Int.reduceToNat, Nat.reduceMul, eq_self, implies_true, forall_const]
  refine CallW.sc (p60 N.no K.no _ _ f1 e1 g1 k1 ok.no kk.no) rfl ⟨trivial, trivial, trivial⟩ fun r ⟨b, hr, hb1⟩ => ⟨by subst hr; rfl, ?_⟩
  subst hr
  cases b with
  | false => simp -implicitDefEqProofs only [vqa, Nat.reduceEqDiff, Nat.reduceAdd, reduceIte, Nat.reduceLeDiff, Nat.reduceBEq, Nat.reduceLT, Nat.reduceSub, Int.reduceLT, Int.reduceLE, Int.reduceEq, Int.reduceToNat, Nat.reduceMul, eq_self, implies_true, forall_const]; exact ⟨_, rfl, ⟨fun e => Bool.noConfusion e, fun e => by have := hb1.2 e.2.1; cases this⟩⟩
  | true =>
  simp -implicitDefEqProofs only [vqa, Nat.reduceEqDiff, Nat.reduceAdd, reduceIte, Nat.reduceLeDiff, Nat.reduceBEq, Nat.reduceLT, Nat.reduceSub, Int.reduceLT, Int.reduceLE, Int.reduceEq, Int.reduceToNat, Nat.reduceMul, eq_self, implies_true, forall_const]
  refine CallW.sc (p75 N.nk K.nk _ _ f4 e4 g4 k4 ok.nk kk.nk) rfl ⟨trivial, trivial, trivial⟩ fun r ⟨b, hr, hb4⟩ => ⟨by subst hr; rfl, ?_⟩
  subst hr
  cases b with
  | false => simp -implicitDefEqProofs only [vqa, Nat.reduceEqDiff, Nat.reduceAdd, reduceIte, Nat.reduceLeDiff, Nat.reduceBEq, Nat.reduceLT, Nat.reduceSub, Int.reduceLT, Int.reduceLE, Int.reduceEq, Int.reduceToNat, Nat.reduceMul, eq_self, implies_true, forall_const]; exact ⟨_, rfl, ⟨fun e => Bool.noConfusion e, fun e => by have := hb4.2 e.2.2.2.2; cases this⟩⟩
  | true =>
  simp -implicitDefEqProofs only [vqa, Nat.reduceEqDiff, Nat.reduceAdd, reduceIte, Nat.reduceLeDiff, Nat.reduceBEq, Nat.reduceLT, Nat.reduceSub, Int.reduceLT, Int.reduceLE, Int.reduceEq, Int.reduceToNat, Nat.reduceMul, eq_self, implies_true, forall_const]
  refine CallW.sc (p76 N.nf K.nf _ _ f2 e2 g2 k2 ok.nf kk.nf) rfl ⟨trivial, trivial, trivial⟩ fun r ⟨b, hr, hb2⟩ => ⟨by subst hr; rfl, ?_⟩
  subst hr
  cases b with
  | false => simp -implicitDefEqProofs only [vqa, Nat.reduceEqDiff, Nat.reduceAdd, reduceIte, Nat.reduceLeDiff, Nat.reduceBEq, Nat.reduceLT, Nat.reduceSub, Int.reduceLT, Int.reduceLE, Int.reduceEq, Int.reduceToNat, Nat.reduceMul, eq_self, implies_true, forall_const]; exact ⟨_, rfl, ⟨fun e => Bool.noConfusion e, fun e => by have := hb2.2 e.2.2.1; cases this⟩⟩
  | true =>
  simp -implicitDefEqProofs only [vqa, Nat.reduceEqDiff, Nat.reduceAdd, reduceIte, Nat.reduceLeDiff, Nat.reduceBEq, Nat.reduceLT, Nat.reduceSub, Int.reduceLT, Int.reduceLE, Int.reduceEq, Int.reduceToNat, Nat.reduceMul, eq_self, implies_true, forall_const]
  refine CallW.sc (p77 78 N.ng K.ng _ _ f3 e3 g3 k3 ok.ng kk.ng fun i j hi hj => p78 (g3 i hi) (k3 j hj) (ok.gate i hi).1 (kk.gate j hj).1) rfl ⟨trivial, trivial, ⟨trivial, trivial⟩⟩ fun r ⟨b, hr, hb3⟩ => ⟨by subst hr; rfl, ?_⟩
  subst hr
  simp -implicitDefEqProofs only [vqa, Nat.reduceEqDiff, Nat.reduceAdd, reduceIte, Nat.reduceLeDiff, Nat.reduceBEq, Nat.reduceLT, Nat.reduceSub, Int.reduceLT, Int.reduceLE, Int.reduceEq, Int.reduceToNat, Nat.reduceMul, eq_self, implies_true, forall_const]
  exact ⟨b, rfl, ⟨fun e => ⟨hb.1 rfl, hb1.1 rfl, hb2.1 rfl, hb3.1 e, hb4.1 rfl⟩, fun e => hb3.2 e.2.2.2.1⟩⟩
/-- The netlist without anything. -/
def eN : Net := ⟨0, fun _ => ⟨#[]⟩, 0, fun _ => ⟨#[]⟩, 0, fun _ => default, 0, fun _ => default, 0, fun _ => 0⟩
theorem eN_c (z0 z1 z2 z3 z4 : Nat → AV) : NetC [.fs 0 z0, .fs 0 z1, .fs 0 z2, .fs 0 z3, .fs 0 z4] eN :=
  ⟨z0, z1, z2, z3, z4, rfl, fun i hi => absurd hi (Nat.not_lt_zero _), fun i hi => absurd hi (Nat.not_lt_zero _), fun i hi => absurd hi (Nat.not_lt_zero _), fun i hi => absurd hi (Nat.not_lt_zero _), fun i hi => absurd hi (Nat.not_lt_zero _)⟩
theorem eN_ok : eN.Ok := ⟨Nat.zero_le _, Nat.zero_le _, Nat.zero_le _, Nat.zero_le _, Nat.zero_le _, fun i hi => absurd hi (Nat.not_lt_zero _), fun i hi => absurd hi (Nat.not_lt_zero _), fun i hi => absurd hi (Nat.not_lt_zero _), fun i hi => absurd hi (Nat.not_lt_zero _), fun i hi => absurd hi (Nat.not_lt_zero _)⟩
theorem sameN_refl (N : Net) : sameN N N := ⟨⟨rfl, fun _ _ => rfl⟩, ⟨rfl, fun _ _ => rfl⟩, ⟨rfl, fun _ _ => rfl⟩, ⟨rfl, fun _ _ => ⟨rfl, rfl, rfl, fun _ _ => rfl⟩⟩, ⟨rfl, fun _ _ => rfl⟩⟩
end Go.Ab
