/- Walk: GraphFault. -/
import Derived.Test.YtodncnlnadgkhacSaGraph
import Derived.Test.YtodncnlnadgkhacSaOr
set_option linter.unusedSimpArgs false
set_option linter.unusedVariables false
namespace Go.Ab
open Go
def a48_0 : AC := (.seq (.ops [⟨(some 14), none, (.v (.bin .lss (.t 13) (.t 12)))⟩]) (.seq (.cond (.t 14) .skip (.exit 0)) (.seq (.block 1 (.seq (.ops [⟨(some 15), none, (.v (.idx 3 (.t 11) (.t 13)))⟩, ⟨(some 16), none, (.v (.load 3 true (.t 15)))⟩, ⟨(some 5), none, (.e (.alloc 5 [(.str ⟨#[]⟩), (.int .i64 0), (.bool false)]))⟩, ⟨none, none, (.e (.store 3 (.t 5) (.t 16)))⟩]) (.ops [⟨(some 17), none, (.v (.mv (.t 3)))⟩, ⟨(some 18), none, (.v (.fld 0 (.t 5)))⟩, ⟨(some 19), none, (.v (.load 1 false (.t 18)))⟩, ⟨(some 20), none, (.e (.lit 20 9 1 1 [(.str ⟨#[]⟩)] [(0, (.t 19))]))⟩, ⟨(some 21), none, (.e (.app 21 9 1 16 (.t 17) (.t 20)))⟩, ⟨(some 3), none, (.v (.mv (.t 21)))⟩]))) (.ops [⟨(some 22), none, (.v (.bin .add (.t 13) (.c (.int .i64 1))))⟩, ⟨(some 13), none, (.v (.mv (.t 22)))⟩]))))
def a48 : AC := (.seq (.ops [⟨(some 1), none, (.e (.box 1 0 (.t 0)))⟩, ⟨(some 2), none, (.v (.mv (.c .cap0)))⟩]) (.seq (.ops [⟨(some 6), none, (.e (.lit 6 9 1 0 [(.str ⟨#[]⟩)] []))⟩, ⟨(some 7), none, (.v (.fld 0 (.t 1)))⟩, ⟨(some 8), none, (.v (.load 1 false (.t 7)))⟩, ⟨(some 9), none, (.e (.app 9 9 1 16 (.t 6) (.t 8)))⟩, ⟨(some 3), none, (.v (.mv (.t 9)))⟩]) (.seq (.seq (.ops [⟨(some 10), none, (.v (.fld 2 (.t 1)))⟩, ⟨(some 11), none, (.v (.load 1 false (.t 10)))⟩, ⟨(some 12), none, (.v (.len (.t 11)))⟩, ⟨(some 13), none, (.v (.mv (.c (.int .i64 0))))⟩]) (.block 0 (.loop a48_0))) (.seq (.ops [⟨(some 23), none, (.v (.mv (.t 3)))⟩, ⟨(some 2), none, (.v (.mv (.t 23)))⟩]) .ret))))
def r48 : List AI := [(.mv (.t 2))]
theorem f48 : Fn PP 48 1 a48 r48 := Fn.of (fn := Go.Proofs.Try.f48) (by kernel_rfl) (by kernel_rfl) (by kernel_rfl)
def a49 : AC := (.seq (.ops [⟨(some 3), none, (.v (.mv (.c (.bool false))))⟩]) (.seq (.ops [⟨(some 4), none, (.v (.mv (.t 0)))⟩, ⟨(some 5), none, (.v (.bin .lss (.t 4) (.c (.int .i64 0))))⟩, ⟨(some 6), none, (.v (.mv (.t 5)))⟩, ⟨(some 7), (some (6, false)), (.v (.mv (.t 0)))⟩, ⟨(some 8), (some (6, false)), (.v (.load 1 false (.t 1)))⟩, ⟨(some 9), (some (6, false)), (.v (.bin .geq (.t 7) (.t 8)))⟩, ⟨(some 10), none, (.v (.pick (.t 6) (.c (.bool true)) (.t 9)))⟩, ⟨(some 3), none, (.v (.mv (.t 10)))⟩]) .ret))
def r49 : List AI := [(.mv (.t 3))]
theorem f49 : Fn PP 49 2 a49 r49 := Fn.of (fn := Go.Proofs.Try.f49) (by kernel_rfl) (by kernel_rfl) (by kernel_rfl)
def a53_0 : AC := (.seq (.ops [⟨(some 9), none, (.v (.bin .lss (.t 8) (.t 7)))⟩]) (.seq (.cond (.t 9) .skip (.exit 0)) (.seq (.block 1 (.seq (.ops [⟨(some 10), none, (.v (.mv (.t 8)))⟩, ⟨(some 5), none, (.v (.mv (.t 10)))⟩]) (.seq (.ops [⟨(some 11), none, (.v (.mv (.t 1)))⟩, ⟨(some 12), none, (.v (.mv (.t 0)))⟩, ⟨(some 13), none, (.v (.mv (.t 5)))⟩, ⟨(some 14), none, (.v (.idx 1 (.t 12) (.t 13)))⟩, ⟨(some 15), none, (.v (.load 1 false (.t 14)))⟩, ⟨(some 16), none, (.call (.t 11) [(.t 15)])⟩]) (.cond (.t 16) (.seq (.ops [⟨(some 17), none, (.v (.mv (.t 5)))⟩, ⟨(some 4), none, (.v (.mv (.t 17)))⟩]) .ret) .skip)))) (.ops [⟨(some 18), none, (.v (.bin .add (.t 8) (.c (.int .i64 1))))⟩, ⟨(some 8), none, (.v (.mv (.t 18)))⟩]))))
def a53 : AC := (.seq (.ops [⟨(some 4), none, (.v (.mv (.c (.int .i64 0))))⟩]) (.seq (.seq (.ops [⟨(some 6), none, (.v (.mv (.t 0)))⟩, ⟨(some 7), none, (.v (.len (.t 6)))⟩, ⟨(some 8), none, (.v (.mv (.c (.int .i64 0))))⟩]) (.block 0 (.loop a53_0))) (.seq (.ops [⟨(some 4), none, (.v (.mv (.c (.int .i64 (-1)))))⟩]) .ret)))
def r53 : List AI := [(.mv (.t 4))]
theorem f53 : Fn PP 53 2 a53 r53 := Fn.of (fn := Go.Proofs.Try.f53) (by kernel_rfl) (by kernel_rfl) (by kernel_rfl)
def a23 : AC := (.seq (.ops [⟨(some 4), none, (.v (.mv (.c (.bool false))))⟩]) (.seq (.ops [⟨(some 5), none, (.v (.mv (.t 0)))⟩, ⟨(some 6), none, (.v (.mv (.t 1)))⟩, ⟨(some 7), none, (.call (.c (.fn 53 [])) [(.t 5), (.t 6)])⟩, ⟨(some 8), none, (.v (.bin .geq (.t 7) (.c (.int .i64 0))))⟩, ⟨(some 4), none, (.v (.mv (.t 8)))⟩]) .ret))
def r23 : List AI := [(.mv (.t 4))]
theorem f23 : Fn PP 23 2 a23 r23 := Fn.of (fn := Go.Proofs.Try.f23) (by kernel_rfl) (by kernel_rfl) (by kernel_rfl)
def a16_0 : AC := (.seq (.ops [⟨(some 64), none, (.v (.bin .lss (.t 63) (.t 62)))⟩]) (.seq (.cond (.t 64) .skip (.exit 0)) (.seq (.block 1 (.seq (.ops [⟨(some 65), none, (.v (.idx 2 (.t 61) (.t 63)))⟩, ⟨(some 66), none, (.v (.load 2 true (.t 65)))⟩, ⟨(some 7), none, (.e (.alloc 7 [(.int .i64 0), (.int .i64 0)]))⟩, ⟨none, none, (.e (.store 2 (.t 7) (.t 66)))⟩]) (.seq (.seq (.ops [⟨(some 67), none, (.v (.mv (.t 5)))⟩, ⟨(some 68), none, (.v (.fld 0 (.t 7)))⟩, ⟨(some 69), none, (.v (.load 1 false (.t 68)))⟩, ⟨(some 70), none, (.call (.t 67) [(.t 69)])⟩, ⟨(some 71), none, (.v (.mv (.t 70)))⟩, ⟨(some 72), (some (71, false)), (.v (.mv (.t 5)))⟩, ⟨(some 73), (some (71, false)), (.v (.fld 1 (.t 7)))⟩, ⟨(some 74), (some (71, false)), (.v (.load 1 false (.t 73)))⟩, ⟨(some 75), (some (71, false)), (.call (.t 72) [(.t 74)])⟩, ⟨(some 76), none, (.v (.pick (.t 71) (.c (.bool true)) (.t 75)))⟩]) (.cond (.t 76) (.seq (.ops [⟨(some 2), none, (.v (.mv (.c (.int .i64 2))))⟩]) .ret) .skip)) (.ops [⟨(some 77), none, (.v (.load 1 false (.t 4)))⟩, ⟨(some 78), none, (.v (.bin .add (.t 77) (.c (.int .i64 2))))⟩, ⟨none, none, (.e (.store 1 (.t 4) (.t 78)))⟩])))) (.ops [⟨(some 79), none, (.v (.bin .add (.t 63) (.c (.int .i64 1))))⟩, ⟨(some 63), none, (.v (.mv (.t 79)))⟩]))))
def a16_1 : AC := (.seq (.ops [⟨(some 84), none, (.v (.bin .lss (.t 83) (.t 82)))⟩]) (.seq (.cond (.t 84) .skip (.exit 2)) (.seq (.block 3 (.seq (.ops [⟨(some 85), none, (.v (.idx 3 (.t 81) (.t 83)))⟩, ⟨(some 86), none, (.v (.load 3 true (.t 85)))⟩, ⟨(some 9), none, (.e (.alloc 9 [(.str ⟨#[]⟩), (.int .i64 0), (.bool false)]))⟩, ⟨none, none, (.e (.store 3 (.t 9) (.t 86)))⟩]) (.seq (.ops [⟨(some 87), none, (.v (.mv (.t 5)))⟩, ⟨(some 88), none, (.v (.fld 1 (.t 9)))⟩, ⟨(some 89), none, (.v (.load 1 false (.t 88)))⟩, ⟨(some 90), none, (.call (.t 87) [(.t 89)])⟩]) (.cond (.t 90) (.seq (.ops [⟨(some 2), none, (.v (.mv (.c (.int .i64 2))))⟩]) .ret) .skip)))) (.ops [⟨(some 91), none, (.v (.bin .add (.t 83) (.c (.int .i64 1))))⟩, ⟨(some 83), none, (.v (.mv (.t 91)))⟩]))))
def a16 : AC := (.seq (.ops [⟨(some 1), none, (.e (.box 1 0 (.t 0)))⟩, ⟨(some 2), none, (.v (.mv (.c (.int .i64 0))))⟩]) (.seq (.seq (.ops [⟨(some 10), none, (.v (.fld 0 (.t 1)))⟩, ⟨(some 11), none, (.v (.load 1 false (.t 10)))⟩, ⟨(some 12), none, (.v (.len (.t 11)))⟩, ⟨(some 13), none, (.v (.bin .gtr (.t 12) (.c (.int .i64 128))))⟩, ⟨(some 14), none, (.v (.mv (.t 13)))⟩, ⟨(some 15), (some (14, false)), (.v (.fld 1 (.t 1)))⟩, ⟨(some 16), (some (14, false)), (.v (.load 1 false (.t 15)))⟩, ⟨(some 17), (some (14, false)), (.v (.len (.t 16)))⟩, ⟨(some 18), (some (14, false)), (.v (.bin .gtr (.t 17) (.c (.int .i64 128))))⟩, ⟨(some 19), none, (.v (.pick (.t 14) (.c (.bool true)) (.t 18)))⟩, ⟨(some 20), none, (.v (.mv (.t 19)))⟩, ⟨(some 21), (some (20, false)), (.v (.fld 2 (.t 1)))⟩, ⟨(some 22), (some (20, false)), (.v (.load 1 false (.t 21)))⟩, ⟨(some 23), (some (20, false)), (.v (.len (.t 22)))⟩, ⟨(some 24), (some (20, false)), (.v (.bin .gtr (.t 23) (.c (.int .i64 288))))⟩, ⟨(some 25), none, (.v (.pick (.t 20) (.c (.bool true)) (.t 24)))⟩, ⟨(some 26), none, (.v (.mv (.t 25)))⟩, ⟨(some 27), (some (26, false)), (.v (.fld 3 (.t 1)))⟩, ⟨(some 28), (some (26, false)), (.v (.load 1 false (.t 27)))⟩, ⟨(some 29), (some (26, false)), (.v (.len (.t 28)))⟩, ⟨(some 30), (some (26, false)), (.v (.bin .gtr (.t 29) (.c (.int .i64 4000))))⟩, ⟨(some 31), none, (.v (.pick (.t 26) (.c (.bool true)) (.t 30)))⟩]) (.cond (.t 31) (.seq (.ops [⟨(some 2), none, (.v (.mv (.c (.int .i64 3))))⟩]) .ret) .skip)) (.seq (.seq (.ops [⟨(some 32), none, (.v (.fld 4 (.t 1)))⟩, ⟨(some 33), none, (.v (.load 1 false (.t 32)))⟩, ⟨(some 34), none, (.v (.len (.t 33)))⟩, ⟨(some 35), none, (.v (.fld 1 (.t 1)))⟩, ⟨(some 36), none, (.v (.load 1 false (.t 35)))⟩, ⟨(some 37), none, (.v (.len (.t 36)))⟩, ⟨(some 38), none, (.v (.bin .neq (.t 34) (.t 37)))⟩]) (.cond (.t 38) (.seq (.ops [⟨(some 2), none, (.v (.mv (.c (.int .i64 4))))⟩]) .ret) .skip)) (.seq (.seq (.any [⟨(some 39), none, (.v (.load 5 true (.t 1)))⟩, ⟨(some 40), none, (.call (.c (.fn 48 [])) [(.t 39)])⟩, ⟨(some 41), none, (.call (.c (.fn 47 [])) [(.t 40)])⟩, ⟨(some 42), none, (.v (.fld 1 (.t 1)))⟩, ⟨(some 43), none, (.v (.load 1 false (.t 42)))⟩, ⟨(some 44), none, (.call (.c (.fn 47 [])) [(.t 43)])⟩, ⟨(some 45), none, (.e (.lit 45 52 1 2 [(.int .i64 0)] [(0, (.t 41)), (1, (.t 44))]))⟩, ⟨(some 46), none, (.call (.c (.fn 46 [])) [(.t 45)])⟩, ⟨(some 3), none, (.v (.mv (.t 46)))⟩] [[], [0], [1, 1], [], [3], [4, 2], [2, 5], [6, 5], [7, 7, 0, 1, 2, 3, 4, 5, 6, 7]]) (.seq (.ops [⟨(some 47), none, (.v (.mv (.t 3)))⟩, ⟨(some 48), none, (.v (.bin .neq (.t 47) (.c (.int .i64 0))))⟩]) (.cond (.t 48) (.seq (.ops [⟨(some 49), none, (.v (.mv (.t 3)))⟩, ⟨(some 2), none, (.v (.mv (.t 49)))⟩]) .ret) .skip))) (.seq (.ops [⟨(some 50), none, (.v (.fld 0 (.t 1)))⟩, ⟨(some 51), none, (.v (.load 1 false (.t 50)))⟩, ⟨(some 52), none, (.v (.len (.t 51)))⟩, ⟨(some 53), none, (.v (.bin .add (.c (.int .i64 1)) (.t 52)))⟩, ⟨(some 54), none, (.v (.fld 2 (.t 1)))⟩, ⟨(some 55), none, (.v (.load 1 false (.t 54)))⟩, ⟨(some 56), none, (.v (.len (.t 55)))⟩, ⟨(some 57), none, (.v (.bin .add (.t 53) (.t 56)))⟩, ⟨(some 58), none, (.v (.bin .mul (.c (.int .i64 2)) (.t 57)))⟩, ⟨(some 4), none, (.e (.alloc 4 [(.int .i64 0)]))⟩, ⟨none, none, (.e (.store 1 (.t 4) (.t 58)))⟩]) (.seq (.ops [⟨(some 59), none, (.v (.mkfn 49 [(.t 4)]))⟩, ⟨(some 5), none, (.v (.mv (.t 59)))⟩]) (.seq (.seq (.ops [⟨(some 60), none, (.v (.fld 3 (.t 1)))⟩, ⟨(some 61), none, (.v (.load 1 false (.t 60)))⟩, ⟨(some 62), none, (.v (.len (.t 61)))⟩, ⟨(some 63), none, (.v (.mv (.c (.int .i64 0))))⟩]) (.block 0 (.loop a16_0))) (.seq (.seq (.ops [⟨(some 80), none, (.v (.fld 2 (.t 1)))⟩, ⟨(some 81), none, (.v (.load 1 false (.t 80)))⟩, ⟨(some 82), none, (.v (.len (.t 81)))⟩, ⟨(some 83), none, (.v (.mv (.c (.int .i64 0))))⟩]) (.block 2 (.loop a16_1))) (.seq (.seq (.ops [⟨(some 92), none, (.v (.fld 4 (.t 1)))⟩, ⟨(some 93), none, (.v (.load 1 false (.t 92)))⟩, ⟨(some 94), none, (.v (.mv (.t 5)))⟩, ⟨(some 95), none, (.call (.c (.fn 23 [])) [(.t 93), (.t 94)])⟩]) (.cond (.t 95) (.seq (.ops [⟨(some 2), none, (.v (.mv (.c (.int .i64 2))))⟩]) .ret) .skip)) (.seq (.ops [⟨(some 2), none, (.v (.mv (.c (.int .i64 0))))⟩]) .ret))))))))))
def r16 : List AI := [(.mv (.t 2))]
theorem f16 : Fn PP 16 1 a16 r16 := Fn.of (fn := Go.Proofs.Try.f16) (by kernel_rfl) (by kernel_rfl) (by kernel_rfl)
theorem nLit {n : Nat} {l : Int} : (l < 0 ∨ 2 * (n : Int) ≤ l) ↔ ¬ litOk n l := by unfold litOk; omega
theorem p49 (n : Nat) (l : Int) : Pure PP 49 [.int .i64 l, .fp [.int .i64 (2 * (n : Int))]] fun r => r = .bool (decide (¬ litOk n l)) := by
  refine Fn.pure fmix f49 ?_
  unfold a49 r49
  simp -implicitDefEqProofs only [vqa, Nat.reduceEqDiff, Nat.reduceAdd, reduceIte, Nat.reduceLeDiff, Nat.reduceBEq, Nat.reduceLT, Nat.reduceSub, Int.reduceLT, Int.reduceLE, Int.reduceEq, Int.reduceToNat, Nat.reduceMul, eq_self, implies_true, forall_const]
  have e : decide (¬ litOk n l) = decide (l < 0 ∨ 2 * (n : Int) ≤ l) := decide_eq_decide.2 nLit.symm
  rw [e]
  exact ⟨fun h => by simp [h], fun h => by simp [h]⟩
theorem p53 (n : Nat) (x : Nat → Int) (f : Nat → AV) (k : Nat) (hf : ∀ i, i < n → f i = .int .i64 (x i)) (hn : n ≤ 1048576) : Pure PP 53 [.fs n f, .fn 49 [.fp [.int .i64 (2 * (k : Int))]]] fun r => ∃ j : Int, r = .int .i64 j ∧ (0 ≤ j ↔ scan (fun i => badLit k (x i)) n ≠ 0) := by
  refine Fn.pure fmix f53 ?_
  unfold a53 r53
  simp -implicitDefEqProofs only [vqa, Nat.reduceEqDiff, Nat.reduceAdd, reduceIte, Nat.reduceLeDiff, Nat.reduceBEq, Nat.reduceLT, Nat.reduceSub, Int.reduceLT, Int.reduceLE, Int.reduceEq, Int.reduceToNat, Nat.reduceMul, eq_self, implies_true, forall_const]
  refine vFor n (fun i e m => e 0 = .fs n f ∧ e 1 = .fn 49 [.fp [.int .i64 (2 * (k : Int))]] ∧ e 6 = .fs n f ∧ e 7 = .int .i64 n ∧ e 8 = .int .i64 i ∧ scan (fun i => badLit k (x i)) i = 0) ?_ ?_ ?_
  · simp -implicitDefEqProofs only [vqa, Nat.reduceEqDiff, Nat.reduceAdd, reduceIte, Nat.reduceLeDiff, Nat.reduceBEq, Nat.reduceLT, Nat.reduceSub, Int.reduceLT, Int.reduceLE, Int.reduceEq, Int.reduceToNat, Nat.reduceMul, eq_self, implies_true, forall_const]
    rfl
  · rintro i e m hi hi' ⟨h0, h1, h6, h7, h8, hs⟩
    unfold a53_0
    simp -implicitDefEqProofs only [vqa, Nat.reduceEqDiff, Nat.reduceAdd, reduceIte, Nat.reduceLeDiff, Nat.reduceBEq, Nat.reduceLT, Nat.reduceSub, Int.reduceLT, Int.reduceLE, Int.reduceEq, Int.reduceToNat, Nat.reduceMul, eq_self, implies_true, forall_const, h0, h1, h6, h7, h8, hi', hf i hi]
    refine ⟨by omega, ?_⟩
    refine CallW.sc (p49 k (x i)) rfl ⟨trivial, trivial, trivial⟩ fun r hr => ⟨by subst hr; rfl, ?_⟩
    subst hr
    simp -implicitDefEqProofs only [vqa, Nat.reduceEqDiff, Nat.reduceAdd, reduceIte, Nat.reduceLeDiff, Nat.reduceBEq, Nat.reduceLT, Nat.reduceSub, Int.reduceLT, Int.reduceLE, Int.reduceEq, Int.reduceToNat, Nat.reduceMul, eq_self, implies_true, forall_const, h0, h1, h6, h7, h8]
    refine ⟨fun hb => ⟨_, rfl, fun _ => ?_, fun _ => by omega⟩, fun hb => ⟨hi, wI (by omega) (by omega), scan_step hs (by unfold badLit; rw [if_pos (Classical.not_not.1 hb)])⟩⟩
    rw [scan_stop hs (c := 2) (by unfold badLit; rw [if_neg hb]) (by decide) n hi]; decide
  · rintro e m ⟨h0, h1, h6, h7, h8, hs⟩
    unfold a53_0
    simp -implicitDefEqProofs only [vqa, Nat.reduceEqDiff, Nat.reduceAdd, reduceIte, Nat.reduceLeDiff, Nat.reduceBEq, Nat.reduceLT, Nat.reduceSub, Int.reduceLT, Int.reduceLE, Int.reduceEq, Int.reduceToNat, Nat.reduceMul, eq_self, implies_true, forall_const, h0, h1, h6, h7, h8]
    exact ⟨_, rfl, fun h => absurd h (by decide), fun h => absurd hs h⟩
theorem p23 (n : Nat) (x : Nat → Int) (f : Nat → AV) (k : Nat) (hf : ∀ i, i < n → f i = .int .i64 (x i)) (hn : n ≤ 1048576) : Pure PP 23 [.fs n f, .fn 49 [.fp [.int .i64 (2 * (k : Int))]]] fun r => r = .bool (decide (scan (fun i => badLit k (x i)) n ≠ 0)) := by
  refine Fn.pure fmix f23 ?_
  unfold a23 r23
  simp -implicitDefEqProofs only [vqa, Nat.reduceEqDiff, Nat.reduceAdd, reduceIte, Nat.reduceLeDiff, Nat.reduceBEq, Nat.reduceLT, Nat.reduceSub, Int.reduceLT, Int.reduceLE, Int.reduceEq, Int.reduceToNat, Nat.reduceMul, eq_self, implies_true, forall_const]
  refine CallW.sc (p53 n x f k hf hn) rfl ⟨trivial, ⟨trivial, trivial⟩, trivial⟩ fun r ⟨j, hr, hk⟩ => ⟨by subst hr; rfl, ?_⟩
  subst hr
  simp -implicitDefEqProofs only [vqa, Nat.reduceEqDiff, Nat.reduceAdd, reduceIte, Nat.reduceLeDiff, Nat.reduceBEq, Nat.reduceLT, Nat.reduceSub, Int.reduceLT, Int.reduceLE, Int.reduceEq, Int.reduceToNat, Nat.reduceMul, eq_self, implies_true, forall_const]
  by_cases h : 0 ≤ j
  · simp [h, hk.1 h]
  · have : ¬ (scan (fun i => badLit k (x i)) n ≠ 0) := fun h2 => h (hk.2 h2)
    simp [h, this]

theorem p48 {G : Gra} {cs : List AV} (hG : GraC cs G) (ok : G.Ok) : Pure PP 48 [.agg cs] fun r => Fro (G.ni + G.nr) (fun k a => a = .str (G.names k)) r := by
  obtain ⟨f0, f1, f2, f3, f4, rfl, g0, g1, g2, g3, g4⟩ := hG
  have hni := ok.ni; have hnr := ok.nr
  refine Fn.pure fmix f48 ?_
  unfold a48 r48
  simp -implicitDefEqProofs only [vqa, Nat.reduceEqDiff, Nat.reduceAdd, reduceIte, Nat.reduceLeDiff, Nat.reduceBEq, Nat.reduceLT, Nat.reduceSub, Int.reduceLT, Int.reduceLE, Int.reduceEq, Int.reduceToNat, Nat.reduceMul, eq_self, implies_true, forall_const]
  have hnm : ∀ j, j < G.ni → f0 j = .str (G.names j) := fun j hj => by rw [g0 j hj]; unfold Gra.names; rw [if_pos hj]
  refine ⟨⟨fun i hi => by rw [hnm i hi]; exact ⟨rfl, rfl⟩, by omega, by omega⟩, ?_⟩
  refine vFor G.nr (fun i e m => e 11 = .fs G.nr f2 ∧ e 12 = .int .i64 G.nr ∧ e 13 = .int .i64 i ∧ Acc2 6 21 9 1 (G.ni + i) (fun k a => a = .str (G.names k)) (e 3) m) ?_ ?_ ?_
  · simp -implicitDefEqProofs only [vqa, Nat.reduceEqDiff, Nat.reduceAdd, reduceIte, Nat.reduceLeDiff, Nat.reduceBEq, Nat.reduceLT, Nat.reduceSub, Int.reduceLT, Int.reduceLE, Int.reduceEq, Int.reduceToNat, Nat.reduceMul, eq_self, implies_true, forall_const]
    exact .inr ⟨6, _, _, .inl rfl, rfl, set_same _ _ _, fun j hj => hnm j hj⟩
  · rintro i e m hi hi' ⟨h11, h12, h13, hA⟩
    have hnm : G.names (G.ni + i) = (G.reg i).name := by unfold Gra.names; rw [if_neg (by omega)]; congr 2; omega
    unfold a48_0
    rcases hA with ⟨hz, h3⟩ | ⟨s, ver, g, rfl | rfl, h3, hm3, hg⟩
    · simp -implicitDefEqProofs only [vqa, Nat.reduceEqDiff, Nat.reduceAdd, reduceIte, Nat.reduceLeDiff, Nat.reduceBEq, Nat.reduceLT, Nat.reduceSub, Int.reduceLT, Int.reduceLE, Int.reduceEq, Int.reduceToNat, Nat.reduceMul, eq_self, implies_true, forall_const, h11, h12, h13, h3, hi', g2 i hi, RegV.av]
      have e0 : G.ni = 0 := by omega
      have e1 : i = 0 := by omega
      subst e1
      rw [e0] at hnm
      exact ⟨by omega, hi, wI (by omega) (by omega), Acc2.keep (by rw [e0]; exact (Acc.first (p := fun k a => a = .str (G.names k)) (congrArg _ hnm.symm)).two') rfl rfl⟩
    · simp -implicitDefEqProofs only [vqa, Nat.reduceEqDiff, Nat.reduceAdd, reduceIte, Nat.reduceLeDiff, Nat.reduceBEq, Nat.reduceLT, Nat.reduceSub, Int.reduceLT, Int.reduceLE, Int.reduceEq, Int.reduceToNat, Nat.reduceMul, eq_self, implies_true, forall_const, h11, h12, h13, h3, hm3, hi', g2 i hi, RegV.av]
      exact ⟨by omega, ⟨by omega, by omega⟩, hi, wI (by omega) (by omega), (Acc.push (p := fun k a => a = .str (G.names k)) hg (congrArg _ hnm.symm)).two⟩
    · simp -implicitDefEqProofs only [vqa, Nat.reduceEqDiff, Nat.reduceAdd, reduceIte, Nat.reduceLeDiff, Nat.reduceBEq, Nat.reduceLT, Nat.reduceSub, Int.reduceLT, Int.reduceLE, Int.reduceEq, Int.reduceToNat, Nat.reduceMul, eq_self, implies_true, forall_const, h11, h12, h13, h3, hm3, hi', g2 i hi, RegV.av]
      exact ⟨by omega, ⟨by omega, by omega⟩, hi, wI (by omega) (by omega), (Acc.push (p := fun k a => a = .str (G.names k)) hg (congrArg _ hnm.symm)).two'⟩
  · rintro e m ⟨h11, h12, h13, hA⟩
    unfold a48_0
    rcases hA with ⟨hz, h3⟩ | ⟨s, ver, g, rfl | rfl, h3, hm3, hg⟩
    · simp -implicitDefEqProofs only [vqa, Nat.reduceEqDiff, Nat.reduceAdd, reduceIte, Nat.reduceLeDiff, Nat.reduceBEq, Nat.reduceLT, Nat.reduceSub, Int.reduceLT, Int.reduceLE, Int.reduceEq, Int.reduceToNat, Nat.reduceMul, eq_self, implies_true, forall_const, h11, h12, h13, h3]
      exact ⟨_, by rw [hz], fun j hj => absurd hj (by omega)⟩
    · simp -implicitDefEqProofs only [vqa, Nat.reduceEqDiff, Nat.reduceAdd, reduceIte, Nat.reduceLeDiff, Nat.reduceBEq, Nat.reduceLT, Nat.reduceSub, Int.reduceLT, Int.reduceLE, Int.reduceEq, Int.reduceToNat, Nat.reduceMul, eq_self, implies_true, forall_const, h11, h12, h13, h3, hm3]
      exact ⟨g, rfl, hg⟩
    · simp -implicitDefEqProofs only [vqa, Nat.reduceEqDiff, Nat.reduceAdd, reduceIte, Nat.reduceLeDiff, Nat.reduceBEq, Nat.reduceLT, Nat.reduceSub, Int.reduceLT, Int.reduceLE, Int.reduceEq, Int.reduceToNat, Nat.reduceMul, eq_self, implies_true, forall_const, h11, h12, h13, h3, hm3]
      exact ⟨g, rfl, hg⟩

theorem andAt_neg {G : Gra} {i : Nat} (h : ¬ (litOk (G.base + i) (G.A i) ∧ litOk (G.base + i) (G.B i))) : andAt G i = 2 := by unfold andAt; rw [if_neg h]

theorem p16 {G : Gra} {cs : List AV} (hG : GraC cs G) (ok : G.Ok) : Pure PP 16 [.agg cs] fun r => r = .int .i64 (graphF G) := by
  have pR := p48 hG ok
  obtain ⟨f0, f1, f2, f3, f4, rfl, g0, g1, g2, g3, g4⟩ := hG
  have hni := ok.ni; have hnr := ok.nr; have hno := ok.no; have hna := ok.na; have hnk := ok.nk
  have hbE : G.base = 1 + G.ni + G.nr := rfl
  have hnE : G.nodes = G.base + G.na := rfl
  refine Fn.pure fmix f16 ?_
  unfold a16 r16
  simp -implicitDefEqProofs only [vqa, Nat.reduceEqDiff, Nat.reduceAdd, reduceIte, Nat.reduceLeDiff, Nat.reduceBEq, Nat.reduceLT, Nat.reduceSub, Int.reduceLT, Int.reduceLE, Int.reduceEq, Int.reduceToNat, Nat.reduceMul, eq_self, implies_true, forall_const]
  have big : 128 < G.ni ∨ 128 < G.no ∨ 288 < G.nr ∨ 4000 < G.na → (3 : Int) = graphF G := fun h => by unfold graphF; rw [if_pos h]
  refine ⟨fun b1 => ⟨fun b2 => ⟨fun b3 => ⟨fun b4 => big (by omega), fun b4 => ⟨fun b5 => ?_, fun b5 => ?_⟩⟩, fun b3 => big (by omega)⟩, fun b2 => big (by omega)⟩, fun b1 => big (by omega)⟩
  · unfold graphF; rw [if_neg (by omega), if_pos (by omega)]
  have s1 : graphF G = if (if namesF G.names (G.ni + G.nr) ≠ 0 then namesF G.names (G.ni + G.nr) else namesF G.out G.no) ≠ 0 then (if namesF G.names (G.ni + G.nr) ≠ 0 then namesF G.names (G.ni + G.nr) else namesF G.out G.no)
      else if scan (andAt G) G.na ≠ 0 then 2
      else if scan (fun i => badLit G.nodes (G.reg i).next) G.nr ≠ 0 then 2
      else scan (fun i => badLit G.nodes (G.outs i)) G.nk := by
    unfold graphF; rw [if_neg (by omega), if_neg (by omega)]
    by_cases e1 : namesF G.names (G.ni + G.nr) = 0
    · simp only [e1, ne_eq, not_true, if_false]
    · simp only [e1, ne_eq, not_false_eq_true, if_true]
  have hnames : ∀ i, i < G.ni + G.nr → (G.names i).size ≤ 1048576 := fun i hi => by
    unfold Gra.names
    split
    · exact ok.inn i (by omega)
    · exact (ok.reg _ (by omega)).1
  refine vAny [0, 3, 4, 1, 2, 5, 6, 7, 8] 9 (oneL 1) (by kernel_rfl) (by kernel_rfl) ?_
  simp -implicitDefEqProofs only [vqa, Nat.reduceEqDiff, Nat.reduceAdd, reduceIte, Nat.reduceLeDiff, Nat.reduceBEq, Nat.reduceLT, Nat.reduceSub, Int.reduceLT, Int.reduceLE, Int.reduceEq, Int.reduceToNat, Nat.reduceMul, eq_self, implies_true, forall_const]
  refine CallW.fz pR rfl rfl fun r ⟨gg, hr, hgg⟩ => ⟨by subst hr; rfl, ?_⟩
  subst hr
  simp -implicitDefEqProofs only [vqa, Nat.reduceEqDiff, Nat.reduceAdd, reduceIte, Nat.reduceLeDiff, Nat.reduceBEq, Nat.reduceLT, Nat.reduceSub, Int.reduceLT, Int.reduceLE, Int.reduceEq, Int.reduceToNat, Nat.reduceMul, eq_self, implies_true, forall_const]
  refine CallW.sc (p47 _ G.names gg hgg hnames (by omega)) rfl ⟨trivial, trivial⟩ fun r hr => ⟨by subst hr; rfl, ?_⟩
  subst hr
  simp -implicitDefEqProofs only [vqa, Nat.reduceEqDiff, Nat.reduceAdd, reduceIte, Nat.reduceLeDiff, Nat.reduceBEq, Nat.reduceLT, Nat.reduceSub, Int.reduceLT, Int.reduceLE, Int.reduceEq, Int.reduceToNat, Nat.reduceMul, eq_self, implies_true, forall_const]
  refine CallW.sc (p47 G.no G.out f1 g1 ok.out hno) rfl ⟨trivial, trivial⟩ fun r hr => ⟨by subst hr; rfl, ?_⟩
  subst hr
  simp -implicitDefEqProofs only [vqa, Nat.reduceEqDiff, Nat.reduceAdd, reduceIte, Nat.reduceLeDiff, Nat.reduceBEq, Nat.reduceLT, Nat.reduceSub, Int.reduceLT, Int.reduceLE, Int.reduceEq, Int.reduceToNat, Nat.reduceMul, eq_self, implies_true, forall_const]
  refine CallW.sc (p46 (namesF G.names (G.ni + G.nr)) (namesF G.out G.no) (fun i => [AV.int IntKind.i64 (namesF G.names (G.ni + G.nr)), AV.int IntKind.i64 (namesF G.out G.no)].getD i AV.undef) ⟨rfl, rfl⟩) ?_ ?_ fun r hr => ⟨by subst hr; rfl, ?_⟩
  · simp only [rsC, rs2, rs1, rs0, vqa, Nat.reduceEqDiff, Nat.reduceAdd, reduceIte, Nat.reduceLeDiff, Nat.reduceBEq, Nat.reduceLT, Nat.reduceSub, Int.reduceLT, Int.reduceLE, Int.reduceEq, Int.reduceToNat, Nat.reduceMul, eq_self, implies_true, forall_const]
  · simp only [rsC, rs2, rs1, rs0, vqa, Nat.reduceEqDiff, Nat.reduceAdd, reduceIte, Nat.reduceLeDiff, Nat.reduceBEq, Nat.reduceLT, Nat.reduceSub, Int.reduceLT, Int.reduceLE, Int.reduceEq, Int.reduceToNat, Nat.reduceMul, eq_self, implies_true, forall_const]
  subst hr
  generalize hnm : (if namesF G.names (G.ni + G.nr) ≠ 0 then namesF G.names (G.ni + G.nr) else namesF G.out G.no) = nm at s1
  simp -implicitDefEqProofs only [vqa, Nat.reduceEqDiff, Nat.reduceAdd, reduceIte, Nat.reduceLeDiff, Nat.reduceBEq, Nat.reduceLT, Nat.reduceSub, Int.reduceLT, Int.reduceLE, Int.reduceEq, Int.reduceToNat, Nat.reduceMul, eq_self, implies_true, forall_const]
  refine ⟨fun e1 => by rw [s1, if_pos e1], fun e1 => ?_⟩
  rw [if_neg e1] at s1
  rw [wI (n := 1 + (G.ni : Int)) (by omega) (by omega), wI (n := 1 + (G.ni : Int) + G.nr) (by omega) (by omega), wI (n := 2 * (1 + (G.ni : Int) + G.nr)) (by omega) (by omega)]
  refine vFor G.na (fun i e m => e 1 = .ptr 1 ((mem0 1).ver + 1) 0 ∧ e 5 = .fn 49 [.ptr 4 ((mem0 4).ver + 1) 0] ∧ e 4 = .ptr 4 ((mem0 4).ver + 1) 0 ∧ e 61 = .fs G.na f3 ∧ e 62 = .int .i64 G.na ∧ e 63 = .int .i64 i ∧ m 1 = .var ((mem0 1).ver + 1) [.fs G.ni f0, .fs G.no f1, .fs G.nr f2, .fs G.na f3, .fs G.nk f4] ∧ m 4 = .var ((mem0 4).ver + 1) [.int .i64 (2 * ((G.base + i : Nat) : Int))] ∧ scan (andAt G) i = 0) ?_ ?_ ?_
  · simp -implicitDefEqProofs only [vqa, Nat.reduceEqDiff, Nat.reduceAdd, reduceIte, Nat.reduceLeDiff, Nat.reduceBEq, Nat.reduceLT, Nat.reduceSub, Int.reduceLT, Int.reduceLE, Int.reduceEq, Int.reduceToNat, Nat.reduceMul, eq_self, implies_true, forall_const]
    refine ⟨?_, rfl⟩
    rw [show 2 * (1 + (G.ni : Int) + G.nr) = 2 * ((G.base : Nat) : Int) from by omega]
  · rintro i e m hi hi' ⟨h1, h5, h4, h61, h62, h63, hm, hm4, hs⟩
    have hend : andAt G i = 2 → (2 : Int) = graphF G := fun h => by rw [s1, if_pos (by rw [scan_stop hs h (by decide) _ hi]; decide)]
    unfold a16_0
    simp -implicitDefEqProofs only [vqa, Nat.reduceEqDiff, Nat.reduceAdd, reduceIte, Nat.reduceLeDiff, Nat.reduceBEq, Nat.reduceLT, Nat.reduceSub, Int.reduceLT, Int.reduceLE, Int.reduceEq, Int.reduceToNat, Nat.reduceMul, eq_self, implies_true, forall_const, h1, h5, h4, h61, h62, h63, hm, hm4, hi', g3 i hi]
    refine ⟨by omega, CallW.sc (p49 (G.base + i) (G.A i)) ?_ ?_ fun r hr => ⟨by subst hr; rfl, ?_⟩⟩
    · simp only [rsC, rs2, rs1, rs0, vqa, Nat.reduceEqDiff, Nat.reduceAdd, reduceIte, Nat.reduceLeDiff, Nat.reduceBEq, Nat.reduceLT, Nat.reduceSub, Int.reduceLT, Int.reduceLE, Int.reduceEq, Int.reduceToNat, Nat.reduceMul, eq_self, implies_true, forall_const, hm4]
    · simp only [rsC, rs2, rs1, rs0, vqa, Nat.reduceEqDiff, Nat.reduceAdd, reduceIte, Nat.reduceLeDiff, Nat.reduceBEq, Nat.reduceLT, Nat.reduceSub, Int.reduceLT, Int.reduceLE, Int.reduceEq, Int.reduceToNat, Nat.reduceMul, eq_self, implies_true, forall_const, hm4]
    subst hr
    simp -implicitDefEqProofs only [vqa, Nat.reduceEqDiff, Nat.reduceAdd, reduceIte, Nat.reduceLeDiff, Nat.reduceBEq, Nat.reduceLT, Nat.reduceSub, Int.reduceLT, Int.reduceLE, Int.reduceEq, Int.reduceToNat, Nat.reduceMul, eq_self, implies_true, forall_const, h1, h5, h4, h61, h62, h63, hm, hm4]
    refine ⟨fun k1 => ?_, fun k1 => hend (andAt_neg fun q => k1 q.1)⟩
    refine CallW.sc (p49 (G.base + i) (G.B i)) ?_ ?_ fun r hr => ⟨by subst hr; rfl, ?_⟩
    · simp only [rsC, rs2, rs1, rs0, vqa, Nat.reduceEqDiff, Nat.reduceAdd, reduceIte, Nat.reduceLeDiff, Nat.reduceBEq, Nat.reduceLT, Nat.reduceSub, Int.reduceLT, Int.reduceLE, Int.reduceEq, Int.reduceToNat, Nat.reduceMul, eq_self, implies_true, forall_const, hm4]
    · simp only [rsC, rs2, rs1, rs0, vqa, Nat.reduceEqDiff, Nat.reduceAdd, reduceIte, Nat.reduceLeDiff, Nat.reduceBEq, Nat.reduceLT, Nat.reduceSub, Int.reduceLT, Int.reduceLE, Int.reduceEq, Int.reduceToNat, Nat.reduceMul, eq_self, implies_true, forall_const, hm4]
    subst hr
    simp -implicitDefEqProofs only [vqa, Nat.reduceEqDiff, Nat.reduceAdd, reduceIte, Nat.reduceLeDiff, Nat.reduceBEq, Nat.reduceLT, Nat.reduceSub, Int.reduceLT, Int.reduceLE, Int.reduceEq, Int.reduceToNat, Nat.reduceMul, eq_self, implies_true, forall_const, h1, h5, h4, h61, h62, h63, hm, hm4]
    refine ⟨fun k2 => hend (andAt_neg fun q => k2 q.2), fun k2 => ⟨hi, wI (by omega) (by omega), ?_, scan_step hs (by unfold andAt; rw [if_pos ⟨Classical.not_not.1 k1, Classical.not_not.1 k2⟩])⟩⟩
    rw [wI (by omega) (by omega)]
    rw [show 2 * ((G.base + i : Nat) : Int) + 2 = 2 * ((G.base + (i + 1) : Nat) : Int) from by omega]
  · rintro e m ⟨h1, h5, h4, h61, h62, h63, hm, hm4, hs⟩
    rw [hs] at s1
    simp only [ne_eq, not_true, if_false] at s1
    unfold a16_0
    simp -implicitDefEqProofs only [vqa, Nat.reduceEqDiff, Nat.reduceAdd, reduceIte, Nat.reduceLeDiff, Nat.reduceBEq, Nat.reduceLT, Nat.reduceSub, Int.reduceLT, Int.reduceLE, Int.reduceEq, Int.reduceToNat, Nat.reduceMul, eq_self, implies_true, forall_const, h1, h5, h4, h61, h62, h63, hm, hm4]
    rw [← hnE] at hm4
    refine vFor G.nr (fun i e m => e 1 = .ptr 1 ((mem0 1).ver + 1) 0 ∧ e 5 = .fn 49 [.ptr 4 ((mem0 4).ver + 1) 0] ∧ e 81 = .fs G.nr f2 ∧ e 82 = .int .i64 G.nr ∧ e 83 = .int .i64 i ∧ m 1 = .var ((mem0 1).ver + 1) [.fs G.ni f0, .fs G.no f1, .fs G.nr f2, .fs G.na f3, .fs G.nk f4] ∧ m 4 = .var ((mem0 4).ver + 1) [.int .i64 (2 * ((G.nodes : Nat) : Int))] ∧ scan (fun i => badLit G.nodes (G.reg i).next) i = 0) ?_ ?_ ?_
    · simp -implicitDefEqProofs only [vqa, Nat.reduceEqDiff, Nat.reduceAdd, reduceIte, Nat.reduceLeDiff, Nat.reduceBEq, Nat.reduceLT, Nat.reduceSub, Int.reduceLT, Int.reduceLE, Int.reduceEq, Int.reduceToNat, Nat.reduceMul, eq_self, implies_true, forall_const, h1, h5, hm, hm4]
      rfl
    · rintro i e m hi hi' ⟨h1, h5, h81, h82, h83, hm, hm4, hs⟩
      unfold a16_1
      simp -implicitDefEqProofs only [vqa, Nat.reduceEqDiff, Nat.reduceAdd, reduceIte, Nat.reduceLeDiff, Nat.reduceBEq, Nat.reduceLT, Nat.reduceSub, Int.reduceLT, Int.reduceLE, Int.reduceEq, Int.reduceToNat, Nat.reduceMul, eq_self, implies_true, forall_const, h1, h5, h81, h82, h83, hm, hm4, hi', g2 i hi, RegV.av]
      refine ⟨by omega, CallW.sc (p49 G.nodes (G.reg i).next) ?_ ?_ fun r hr => ⟨by subst hr; rfl, ?_⟩⟩
      · simp only [rsC, rs2, rs1, rs0, vqa, Nat.reduceEqDiff, Nat.reduceAdd, reduceIte, Nat.reduceLeDiff, Nat.reduceBEq, Nat.reduceLT, Nat.reduceSub, Int.reduceLT, Int.reduceLE, Int.reduceEq, Int.reduceToNat, Nat.reduceMul, eq_self, implies_true, forall_const, hm4]
      · simp only [rsC, rs2, rs1, rs0, vqa, Nat.reduceEqDiff, Nat.reduceAdd, reduceIte, Nat.reduceLeDiff, Nat.reduceBEq, Nat.reduceLT, Nat.reduceSub, Int.reduceLT, Int.reduceLE, Int.reduceEq, Int.reduceToNat, Nat.reduceMul, eq_self, implies_true, forall_const, hm4]
      subst hr
      simp -implicitDefEqProofs only [vqa, Nat.reduceEqDiff, Nat.reduceAdd, reduceIte, Nat.reduceLeDiff, Nat.reduceBEq, Nat.reduceLT, Nat.reduceSub, Int.reduceLT, Int.reduceLE, Int.reduceEq, Int.reduceToNat, Nat.reduceMul, eq_self, implies_true, forall_const, h1, h5, h81, h82, h83, hm, hm4]
      refine ⟨fun k1 => ?_, fun k1 => ⟨hi, wI (by omega) (by omega), scan_step hs (by unfold badLit; rw [if_pos (Classical.not_not.1 k1)])⟩⟩
      rw [s1, if_pos (by rw [scan_stop hs (c := 2) (by unfold badLit; rw [if_neg k1]) (by decide) _ hi]; decide)]
    · rintro e m ⟨h1, h5, h81, h82, h83, hm, hm4, hs⟩
      rw [hs] at s1
      simp only [ne_eq, not_true, if_false] at s1
      unfold a16_1
      simp -implicitDefEqProofs only [vqa, Nat.reduceEqDiff, Nat.reduceAdd, reduceIte, Nat.reduceLeDiff, Nat.reduceBEq, Nat.reduceLT, Nat.reduceSub, Int.reduceLT, Int.reduceLE, Int.reduceEq, Int.reduceToNat, Nat.reduceMul, eq_self, implies_true, forall_const, h1, h5, h81, h82, h83, hm, hm4]
      refine CallW.sc (p23 G.nk G.outs f4 G.nodes g4 hnk) ?_ ?_ fun r hr => ⟨by subst hr; rfl, ?_⟩
      · simp only [rsC, rs2, rs1, rs0, vqa, Nat.reduceEqDiff, Nat.reduceAdd, reduceIte, Nat.reduceLeDiff, Nat.reduceBEq, Nat.reduceLT, Nat.reduceSub, Int.reduceLT, Int.reduceLE, Int.reduceEq, Int.reduceToNat, Nat.reduceMul, eq_self, implies_true, forall_const, hm4]
      · simp only [rsC, rs2, rs1, rs0, vqa, Nat.reduceEqDiff, Nat.reduceAdd, reduceIte, Nat.reduceLeDiff, Nat.reduceBEq, Nat.reduceLT, Nat.reduceSub, Int.reduceLT, Int.reduceLE, Int.reduceEq, Int.reduceToNat, Nat.reduceMul, eq_self, implies_true, forall_const, hm4]
      subst hr
      simp -implicitDefEqProofs only [vqa, Nat.reduceEqDiff, Nat.reduceAdd, reduceIte, Nat.reduceLeDiff, Nat.reduceBEq, Nat.reduceLT, Nat.reduceSub, Int.reduceLT, Int.reduceLE, Int.reduceEq, Int.reduceToNat, Nat.reduceMul, eq_self, implies_true, forall_const]
      rw [s1]
      refine ⟨fun h => ?_, fun h => (Classical.not_not.1 h).symm⟩
      have hin : ∀ n, scan (fun i => badLit G.nodes (G.outs i)) n = 0 ∨ scan (fun i => badLit G.nodes (G.outs i)) n = 2 := fun n => by
        induction n with
        | zero => exact .inl rfl
        | succ n ih =>
          rcases ih with h | h
          · rcases @badLit_in G.nodes (G.outs n) with k | k
            · exact .inl (scan_step h k)
            · exact .inr (scan_stop h k (by decide) _ (Nat.lt_succ_self n))
          · right; simp only [scan, h]; exact if_neg (by decide)
      rcases hin G.nk with k | k
      · exact absurd k h
      · exact k.symm
end Go.Ab
