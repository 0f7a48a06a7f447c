/- Walk: gates() is true. -/
import Derived.Test.YtodncnlnadgkhacSaIdx
import Derived.Test.YtodncnlnadgkhacSaGate
import Derived.Test.YtodncnlnadgkhacFwT
set_option linter.unusedSimpArgs false
set_option linter.unusedVariables false
namespace Go.Ab
open Go
def a31_0 : AC := (.seq (.ops [⟨(some 14), none, (.v (.bin .lss (.t 13) (.t 12)))⟩]) (.seq (.cond (.t 14) .skip (.exit 0)) (.seq (.block 1 (.seq (.ops [⟨(some 15), none, (.v (.mv (.t 13)))⟩, ⟨(some 5), none, (.v (.mv (.t 15)))⟩]) (.seq (.any [⟨(some 16), none, (.v (.mv (.t 0)))⟩, ⟨(some 17), none, (.v (.mv (.t 5)))⟩, ⟨(some 18), none, (.v (.idx 1 (.t 16) (.t 17)))⟩, ⟨(some 19), none, (.v (.load 1 false (.t 18)))⟩, ⟨(some 20), none, (.v (.mv (.t 1)))⟩, ⟨(some 21), none, (.v (.mv (.t 5)))⟩, ⟨(some 22), none, (.v (.idx 1 (.t 20) (.t 21)))⟩, ⟨(some 23), none, (.v (.load 1 false (.t 22)))⟩, ⟨(some 24), none, (.v (.bin .neq (.t 19) (.t 23)))⟩] [[], [], [0, 1], [2], [], [], [4, 5], [6], [3, 7]]) (.cond (.t 24) (.seq (.ops [⟨(some 4), none, (.v (.mv (.c (.bool false))))⟩]) .ret) .skip)))) (.ops [⟨(some 25), none, (.v (.bin .add (.t 13) (.c (.int .i64 1))))⟩, ⟨(some 13), none, (.v (.mv (.t 25)))⟩]))))
def a31 : AC := (.seq (.ops [⟨(some 4), none, (.v (.mv (.c (.bool false))))⟩]) (.seq (.seq (.ops [⟨(some 6), none, (.v (.mv (.t 0)))⟩, ⟨(some 7), none, (.v (.len (.t 6)))⟩, ⟨(some 8), none, (.v (.mv (.t 1)))⟩, ⟨(some 9), none, (.v (.len (.t 8)))⟩, ⟨(some 10), none, (.v (.bin .neq (.t 7) (.t 9)))⟩]) (.cond (.t 10) (.seq (.ops [⟨(some 4), none, (.v (.mv (.c (.bool false))))⟩]) .ret) .skip)) (.seq (.seq (.ops [⟨(some 11), none, (.v (.mv (.t 0)))⟩, ⟨(some 12), none, (.v (.len (.t 11)))⟩, ⟨(some 13), none, (.v (.mv (.c (.int .i64 0))))⟩]) (.block 0 (.loop a31_0))) (.seq (.ops [⟨(some 4), none, (.v (.mv (.c (.bool true))))⟩]) .ret))))
def r31 : List AI := [(.mv (.t 4))]
theorem f31 : Fn PP 31 2 a31 r31 := Fn.of (fn := Go.Proofs.Try.f31) (by kernel_rfl) (by kernel_rfl) (by kernel_rfl)
def b66 (b : Nat) : AC := (.seq (.ops [⟨(some 4), none, (.v (.mv (.c .cap0)))⟩]) (.seq (.seq (.ops [⟨(some 6), none, (.v (.mv (.t 0)))⟩, ⟨(some 7), none, (.v (.load 1 false (.t 1)))⟩, ⟨(some 8), none, (.v (.bin .lss (.t 6) (.t 7)))⟩, ⟨(some 9), none, (.v (.mv (.t 8)))⟩, ⟨(some 10), (some (9, false)), (.v (.mv (.t 0)))⟩, ⟨(some 11), (some (9, false)), (.v (.bin .and (.t 10) (.c (.int .i64 1))))⟩, ⟨(some 12), (some (9, false)), (.v (.bin .eql (.t 11) (.c (.int .i64 1))))⟩, ⟨(some 13), none, (.v (.pick (.t 9) (.c (.bool true)) (.t 12)))⟩]) (.cond (.t 13) (.seq (.ops [⟨(some 4), none, (.v (.mv (.c .cap0)))⟩]) .ret) .skip)) (.seq (.ops [⟨(some 14), none, (.v (.fld 3 (.t 2)))⟩, ⟨(some 15), none, (.v (.load 1 false (.t 14)))⟩, ⟨(some 16), none, (.v (.mv (.t 0)))⟩, ⟨(some 17), none, (.v (.load 1 false (.t 1)))⟩, ⟨(some 18), none, (.v (.bin .sub (.t 16) (.t 17)))⟩, ⟨(some 19), none, (.v (.bin .quo (.t 18) (.c (.int .i64 2))))⟩, ⟨(some 20), none, (.v (.idx 2 (.t 15) (.t 19)))⟩, ⟨(some 21), none, (.v (.load 2 true (.t 20)))⟩, ⟨(some 5), none, (.e (.alloc (b + 5) [(.int .i64 0), (.int .i64 0)]))⟩, ⟨none, none, (.e (.store 2 (.t 5) (.t 21)))⟩]) (.seq (.ops [⟨(some 22), none, (.v (.fld 0 (.t 5)))⟩, ⟨(some 23), none, (.v (.load 1 false (.t 22)))⟩, ⟨(some 24), none, (.v (.fld 1 (.t 5)))⟩, ⟨(some 25), none, (.v (.load 1 false (.t 24)))⟩, ⟨(some 26), none, (.e (.lit (b + 26) 35 1 2 [(.int .i64 0)] [(0, (.t 23)), (1, (.t 25))]))⟩, ⟨(some 4), none, (.v (.mv (.t 26)))⟩]) .ret))))
def q66 : List AI := [(.mv (.t 4))]
theorem g66 (b : Nat) : Fn PP 66 3 (b66 b) q66 := Fn.ofB b (fn := Go.Proofs.Try.f66) (by kernel_rfl) (by kernel_rfl) (by kernel_rfl)
def a33_0 : AC := (.seq (.ops [⟨(some 58), none, (.v (.bin .lss (.t 57) (.c (.int .i64 4))))⟩]) (.seq (.cond (.t 58) .skip (.exit 0)) (.seq (.block 1 (.seq (.ops [⟨(some 59), none, (.v (.mv (.t 57)))⟩, ⟨(some 12), none, (.v (.mv (.t 59)))⟩]) (.seq (.ops [⟨(some 60), none, (.v (.mv (.t 10)))⟩, ⟨(some 61), none, (.v (.mv (.t 11)))⟩, ⟨(some 13), none, (.v (.mv (.t 60)))⟩, ⟨(some 14), none, (.v (.mv (.t 61)))⟩]) (.seq (.seq (.ops [⟨(some 62), none, (.v (.mv (.t 12)))⟩, ⟨(some 63), none, (.v (.bin .geq (.t 62) (.c (.int .i64 2))))⟩]) (.cond (.t 63) (.ops [⟨(some 64), none, (.v (.mv (.t 11)))⟩, ⟨(some 65), none, (.v (.mv (.t 10)))⟩, ⟨(some 13), none, (.v (.mv (.t 64)))⟩, ⟨(some 14), none, (.v (.mv (.t 65)))⟩]) .skip)) (.seq (.any [⟨(some 66), none, (.v (.mv (.t 13)))⟩, ⟨(some 67), none, (.v (.mv (.t 12)))⟩, ⟨(some 68), none, (.v (.bin .rem (.t 67) (.c (.int .i64 2))))⟩, ⟨(some 69), none, (.v (.idx 1 (.t 66) (.t 68)))⟩, ⟨(some 70), none, (.v (.load 1 false (.t 69)))⟩, ⟨(some 71), none, (.v (.mv (.t 13)))⟩, ⟨(some 72), none, (.v (.mv (.t 12)))⟩, ⟨(some 73), none, (.v (.bin .rem (.t 72) (.c (.int .i64 2))))⟩, ⟨(some 74), none, (.v (.bin .sub (.c (.int .i64 1)) (.t 73)))⟩, ⟨(some 75), none, (.v (.idx 1 (.t 71) (.t 74)))⟩, ⟨(some 76), none, (.v (.load 1 false (.t 75)))⟩, ⟨(some 15), none, (.v (.mv (.t 70)))⟩, ⟨(some 16), none, (.v (.mv (.t 76)))⟩] [[], [], [1], [0, 2], [3], [], [], [6], [7], [5, 8], [9], [4, 0, 1, 2, 3, 4], [10, 11, 0, 1, 2, 3, 4, 5, 6, 7, 8, 9, 10, 11]]) (.seq (.ops [⟨(some 77), none, (.v (.mv (.t 14)))⟩, ⟨(some 78), none, (.v (.mv (.t 15)))⟩, ⟨(some 79), none, (.v (.bin .xor (.t 78) (.c (.int .i64 1))))⟩, ⟨(some 80), none, (.v (.mv (.t 2)))⟩, ⟨(some 81), none, (.e (.lit 81 35 1 2 [(.int .i64 0)] [(0, (.t 79)), (1, (.t 80))]))⟩, ⟨(some 82), none, (.call (.c (.fn 31 [])) [(.t 77), (.t 81)])⟩, ⟨(some 83), none, (.v (.mv (.t 82)))⟩, ⟨(some 84), (some (83, false)), (.v (.mv (.t 14)))⟩, ⟨(some 85), (some (83, false)), (.v (.mv (.t 2)))⟩, ⟨(some 86), (some (83, false)), (.v (.mv (.t 15)))⟩, ⟨(some 87), (some (83, false)), (.v (.bin .xor (.t 86) (.c (.int .i64 1))))⟩, ⟨(some 88), (some (83, false)), (.e (.lit 88 35 1 2 [(.int .i64 0)] [(0, (.t 85)), (1, (.t 87))]))⟩, ⟨(some 89), (some (83, false)), (.call (.c (.fn 31 [])) [(.t 84), (.t 88)])⟩, ⟨(some 90), none, (.v (.pick (.t 83) (.c (.bool true)) (.t 89)))⟩]) (.cond (.t 90) (.seq (.ops [⟨(some 91), none, (.v (.mv (.t 15)))⟩, ⟨(some 92), none, (.v (.mv (.t 16)))⟩, ⟨(some 93), none, (.v (.build [(.int .i64 0), (.int .i64 0)] [(0, (1, (.t 91))), (1, (1, (.t 92)))]))⟩, ⟨none, none, (.e (.store 2 (.t 6) (.t 93)))⟩]) .ret) .skip))))))) (.ops [⟨(some 94), none, (.v (.bin .add (.t 57) (.c (.int .i64 1))))⟩, ⟨(some 57), none, (.v (.mv (.t 94)))⟩]))))
def a33 : AC := (.seq (.ops [⟨(some 3), none, (.e (.box 3 0 (.t 0)))⟩, ⟨(some 6), none, (.e (.alloc 6 [(.int .i64 0), (.int .i64 0)]))⟩]) (.seq (.ops [⟨(some 19), none, (.v (.fld 0 (.t 3)))⟩, ⟨(some 20), none, (.v (.load 1 false (.t 19)))⟩, ⟨(some 21), none, (.v (.len (.t 20)))⟩, ⟨(some 22), none, (.v (.bin .add (.c (.int .i64 1)) (.t 21)))⟩, ⟨(some 23), none, (.v (.fld 2 (.t 3)))⟩, ⟨(some 24), none, (.v (.load 1 false (.t 23)))⟩, ⟨(some 25), none, (.v (.len (.t 24)))⟩, ⟨(some 26), none, (.v (.bin .add (.t 22) (.t 25)))⟩, ⟨(some 27), none, (.v (.bin .mul (.c (.int .i64 2)) (.t 26)))⟩, ⟨(some 7), none, (.e (.alloc 7 [(.int .i64 0)]))⟩, ⟨none, none, (.e (.store 1 (.t 7) (.t 27)))⟩]) (.seq (.ops [⟨(some 28), none, (.v (.mkfn 66 [(.t 7), (.t 3)]))⟩, ⟨(some 8), none, (.v (.mv (.t 28)))⟩]) (.seq (.seq (.ops [⟨(some 29), none, (.v (.mv (.t 1)))⟩, ⟨(some 30), none, (.v (.mv (.t 2)))⟩, ⟨(some 31), none, (.v (.bin .eql (.t 29) (.t 30)))⟩]) (.cond (.t 31) (.seq (.ops [⟨(some 32), none, (.v (.build [(.int .i64 0), (.int .i64 0)] []))⟩, ⟨none, none, (.e (.store 2 (.t 6) (.t 32)))⟩]) .ret) .skip)) (.seq (.seq (.ops [⟨(some 33), none, (.v (.mv (.t 8)))⟩, ⟨(some 34), none, (.v (.mv (.t 1)))⟩, ⟨(some 35), none, (.v (.bin .xor (.t 34) (.c (.int .i64 1))))⟩, ⟨(some 36), none, (.call (.t 33) [(.t 35)])⟩, ⟨(some 9), none, (.v (.mv (.t 36)))⟩]) (.seq (.ops [⟨(some 37), none, (.v (.mv (.t 9)))⟩, ⟨(some 38), none, (.isnil true (.t 37))⟩]) (.cond (.t 38) (.seq (.any [⟨(some 39), none, (.v (.mv (.t 8)))⟩, ⟨(some 40), none, (.v (.mv (.t 9)))⟩, ⟨(some 41), none, (.v (.idx 1 (.t 40) (.c (.int .i64 0))))⟩, ⟨(some 42), none, (.v (.load 1 false (.t 41)))⟩, ⟨(some 43), none, (.v (.bin .xor (.t 42) (.c (.int .i64 1))))⟩, ⟨(some 44), none, (.call (.t 39) [(.t 43)])⟩, ⟨(some 45), none, (.v (.mv (.t 8)))⟩, ⟨(some 46), none, (.v (.mv (.t 9)))⟩, ⟨(some 47), none, (.v (.idx 1 (.t 46) (.c (.int .i64 1))))⟩, ⟨(some 48), none, (.v (.load 1 false (.t 47)))⟩, ⟨(some 49), none, (.v (.bin .xor (.t 48) (.c (.int .i64 1))))⟩, ⟨(some 50), none, (.call (.t 45) [(.t 49)])⟩, ⟨(some 10), none, (.v (.mv (.t 44)))⟩, ⟨(some 11), none, (.v (.mv (.t 50)))⟩] [[], [], [1], [2], [3], [0, 4], [], [], [7], [8], [9], [6, 10, 5], [5, 11, 0, 1, 2, 3, 4, 5], [11, 12, 0, 1, 2, 3, 4, 5, 6, 7, 8, 9, 10, 11, 12]]) (.seq (.ops [⟨(some 51), none, (.v (.mv (.t 10)))⟩, ⟨(some 52), none, (.isnil true (.t 51))⟩, ⟨(some 53), none, (.v (.mv (.t 52)))⟩, ⟨(some 54), (some (53, true)), (.v (.mv (.t 11)))⟩, ⟨(some 55), (some (53, true)), (.isnil true (.t 54))⟩, ⟨(some 56), none, (.v (.pick (.t 53) (.t 55) (.c (.bool false))))⟩]) (.cond (.t 56) (.seq (.ops [⟨(some 57), none, (.v (.mv (.c (.int .i64 0))))⟩]) (.block 0 (.loop a33_0))) .skip))) .skip))) (.seq (.seq (.ops [⟨(some 95), none, (.v (.mv (.t 8)))⟩, ⟨(some 96), none, (.v (.mv (.t 1)))⟩, ⟨(some 97), none, (.call (.t 95) [(.t 96)])⟩, ⟨(some 98), none, (.v (.mv (.t 2)))⟩, ⟨(some 99), none, (.call (.c (.fn 67 [])) [(.t 97), (.t 98)])⟩, ⟨(some 17), none, (.v (.mv (.t 99)))⟩]) (.seq (.ops [⟨(some 100), none, (.v (.mv (.t 17)))⟩, ⟨(some 101), none, (.v (.bin .geq (.t 100) (.c (.int .i64 0))))⟩]) (.cond (.t 101) (.seq (.ops [⟨(some 102), none, (.v (.mv (.t 8)))⟩, ⟨(some 103), none, (.v (.mv (.t 1)))⟩, ⟨(some 104), none, (.call (.t 102) [(.t 103)])⟩, ⟨(some 105), none, (.v (.mv (.t 17)))⟩, ⟨(some 106), none, (.v (.bin .sub (.c (.int .i64 1)) (.t 105)))⟩, ⟨(some 107), none, (.v (.idx 1 (.t 104) (.t 106)))⟩, ⟨(some 108), none, (.v (.load 1 false (.t 107)))⟩, ⟨(some 109), none, (.v (.bin .xor (.t 108) (.c (.int .i64 1))))⟩, ⟨(some 110), none, (.v (.build [(.int .i64 0), (.int .i64 0)] [(0, (1, (.t 109)))]))⟩, ⟨none, none, (.e (.store 2 (.t 6) (.t 110)))⟩]) .ret) .skip))) (.seq (.seq (.ops [⟨(some 111), none, (.v (.mv (.t 8)))⟩, ⟨(some 112), none, (.v (.mv (.t 1)))⟩, ⟨(some 113), none, (.v (.bin .xor (.t 112) (.c (.int .i64 1))))⟩, ⟨(some 114), none, (.call (.t 111) [(.t 113)])⟩, ⟨(some 115), none, (.v (.mv (.t 2)))⟩, ⟨(some 116), none, (.v (.bin .xor (.t 115) (.c (.int .i64 1))))⟩, ⟨(some 117), none, (.call (.c (.fn 67 [])) [(.t 114), (.t 116)])⟩, ⟨(some 18), none, (.v (.mv (.t 117)))⟩]) (.seq (.ops [⟨(some 118), none, (.v (.mv (.t 18)))⟩, ⟨(some 119), none, (.v (.bin .geq (.t 118) (.c (.int .i64 0))))⟩]) (.cond (.t 119) (.seq (.ops [⟨(some 120), none, (.v (.mv (.t 8)))⟩, ⟨(some 121), none, (.v (.mv (.t 1)))⟩, ⟨(some 122), none, (.v (.bin .xor (.t 121) (.c (.int .i64 1))))⟩, ⟨(some 123), none, (.call (.t 120) [(.t 122)])⟩, ⟨(some 124), none, (.v (.mv (.t 18)))⟩, ⟨(some 125), none, (.v (.bin .sub (.c (.int .i64 1)) (.t 124)))⟩, ⟨(some 126), none, (.v (.idx 1 (.t 123) (.t 125)))⟩, ⟨(some 127), none, (.v (.load 1 false (.t 126)))⟩, ⟨(some 128), none, (.v (.bin .xor (.t 127) (.c (.int .i64 1))))⟩, ⟨(some 129), none, (.v (.build [(.int .i64 0), (.int .i64 0)] [(0, (1, (.t 128))), (1, (1, (.c (.int .i64 1))))]))⟩, ⟨none, none, (.e (.store 2 (.t 6) (.t 129)))⟩]) .ret) .skip))) (.seq (.ops [⟨(some 130), none, (.v (.mv (.t 1)))⟩, ⟨(some 131), none, (.v (.build [(.int .i64 0), (.int .i64 0)] [(0, (1, (.c (.int .i64 1)))), (1, (1, (.t 130)))]))⟩, ⟨none, none, (.e (.store 2 (.t 6) (.t 131)))⟩]) .ret))))))))
def r33 : List AI := [(.load 2 true (.t 6))]
theorem f33 : Fn PP 33 3 a33 r33 := Fn.of (fn := Go.Proofs.Try.f33) (by kernel_rfl) (by kernel_rfl) (by kernel_rfl)
theorem p31 (n m : Nat) (x y : Nat → Int) (f g : Nat → AV) (hf : ∀ i, i < n → f i = .int .i64 (x i)) (hg : ∀ i, i < m → g i = .int .i64 (y i)) (hn : n ≤ 4194304) (hm : m ≤ 4194304) :
    Pure PP 31 [.fs n f, .fs m g] fun r => ∃ b, r = .bool b ∧ (b = true ↔ n = m ∧ ∀ i, i < n → x i = y i) := by
  refine Fn.pure fmix f31 ?_
  unfold a31 r31
  simp -implicitDefEqProofs only [vqa, Nat.reduceEqDiff, Nat.reduceAdd, reduceIte, Nat.reduceLeDiff, Nat.reduceBEq, Nat.reduceLT, Nat.reduceSub, Int.reduceLT, Int.reduceLE, Int.reduceEq, Int.reduceToNat, Nat.reduceMul, eq_self, implies_true, forall_const]
  refine ⟨fun h => ⟨_, rfl, ⟨fun e => Bool.noConfusion e, fun e => absurd (congrArg Nat.cast e.1) h⟩⟩, fun h => ?_⟩
  obtain rfl : n = m := by omega
  refine vFor n (fun i e mm => e 0 = .fs n f ∧ e 1 = .fs n g ∧ e 12 = .int .i64 n ∧ e 13 = .int .i64 i ∧ ∀ j, j < i → x j = y j) ?_ ?_ ?_
  · simp -implicitDefEqProofs only [vqa, Nat.reduceEqDiff, Nat.reduceAdd, reduceIte, Nat.reduceLeDiff, Nat.reduceBEq, Nat.reduceLT, Nat.reduceSub, Int.reduceLT, Int.reduceLE, Int.reduceEq, Int.reduceToNat, Nat.reduceMul, eq_self, implies_true, forall_const]
  · rintro i e mm hi hi' ⟨h0, h1, h12, h13, hs⟩
    unfold a31_0
    simp -implicitDefEqProofs only [vqa, Nat.reduceEqDiff, Nat.reduceAdd, reduceIte, Nat.reduceLeDiff, Nat.reduceBEq, Nat.reduceLT, Nat.reduceSub, Int.reduceLT, Int.reduceLE, Int.reduceEq, Int.reduceToNat, Nat.reduceMul, eq_self, implies_true, forall_const, h0, h1, h12, h13, hi']
    refine vAny [0, 1, 2, 3, 4, 5, 6, 7, 8] 9 allL (by kernel_rfl) (by kernel_rfl) ?_
    simp -implicitDefEqProofs only [vqa, Nat.reduceEqDiff, Nat.reduceAdd, reduceIte, Nat.reduceLeDiff, Nat.reduceBEq, Nat.reduceLT, Nat.reduceSub, Int.reduceLT, Int.reduceLE, Int.reduceEq, Int.reduceToNat, Nat.reduceMul, eq_self, implies_true, forall_const, h0, h1, h12, h13, hf i hi, hg i hi]
    refine ⟨by omega, by omega, fun k => ⟨_, rfl, ⟨fun e => Bool.noConfusion e, fun e => absurd (e i hi) k⟩⟩, fun k => ⟨hi, wI (by omega) (by omega), fun j hj => ?_⟩⟩
    by_cases e : j = i
    · subst e; exact Classical.not_not.1 k
    · exact hs j (by omega)
  · rintro e mm ⟨h0, h1, h12, h13, hs⟩
    unfold a31_0
    simp -implicitDefEqProofs only [vqa, Nat.reduceEqDiff, Nat.reduceAdd, reduceIte, Nat.reduceLeDiff, Nat.reduceBEq, Nat.reduceLT, Nat.reduceSub, Int.reduceLT, Int.reduceLE, Int.reduceEq, Int.reduceToNat, Nat.reduceMul, eq_self, implies_true, forall_const, h0, h1, h12, h13]
    exact ⟨_, rfl, ⟨fun _ => hs, fun _ => rfl⟩⟩
theorem p31h (y z e q : Int) (f g : Nat → AV) (f0 : f 0 = .int .i64 y) (f1 : f 1 = .int .i64 z) (h0 : g 0 = .int .i64 e) (h1 : g 1 = .int .i64 q) : Pure PP 31 [.fs 2 f, .fs 2 g] fun r => r = .bool (decide (y = e) && decide (z = q)) := by
  refine (p31 2 2 (fun i => if i = 0 then y else z) (fun i => if i = 0 then e else q) f g (fun i hi => ?_) (fun i hi => ?_) (by decide) (by decide)).mono fun r m ⟨b, hr, hb⟩ => ?_
  · obtain rfl | rfl : i = 0 ∨ i = 1 := by omega
    · exact f0
    · exact f1
  · obtain rfl | rfl : i = 0 ∨ i = 1 := by omega
    · exact h0
    · exact h1
  · subst hr
    congr 1
    rw [Bool.eq_iff_iff, hb]
    simp only [Bool.and_eq_true, decide_eq_true_eq, true_and]
    refine ⟨fun h => ⟨h 0 (by decide), h 1 (by decide)⟩, fun h i hi => ?_⟩
    obtain rfl | rfl : i = 0 ∨ i = 1 := by omega
    · exact h.1
    · exact h.2
theorem p67c (q : Int) (f : Nat → AV) : Pure PP 67 [.fs 0 f, .int .i64 q] fun r => r = .int .i64 (-1) := by
  refine Fn.pure fmix f67 ?_
  unfold a67 r67
  simp -implicitDefEqProofs only [vqa, Nat.reduceEqDiff, Nat.reduceAdd, reduceIte, Nat.reduceLeDiff, Nat.reduceBEq, Nat.reduceLT, Nat.reduceSub, Int.reduceLT, Int.reduceLE, Int.reduceEq, Int.reduceToNat, Nat.reduceMul, eq_self, implies_true, forall_const]
  refine vFor 0 (fun i e m => e 7 = .int .i64 (0 : Nat) ∧ e 8 = .int .i64 i) ?_ ?_ ?_
  · simp -implicitDefEqProofs only [vqa, Nat.reduceEqDiff, Nat.reduceAdd, reduceIte, Nat.reduceLeDiff, Nat.reduceBEq, Nat.reduceLT, Nat.reduceSub, Int.reduceLT, Int.reduceLE, Int.reduceEq, Int.reduceToNat, Nat.reduceMul, eq_self, implies_true, forall_const]
  · exact fun i e m hi => absurd hi (Nat.not_lt_zero _)
  · rintro e m ⟨h7, h8⟩
    unfold a67_0
    simp -implicitDefEqProofs only [vqa, Nat.reduceEqDiff, Nat.reduceAdd, reduceIte, Nat.reduceLeDiff, Nat.reduceBEq, Nat.reduceLT, Nat.reduceSub, Int.reduceLT, Int.reduceLE, Int.reduceEq, Int.reduceToNat, Nat.reduceMul, eq_self, implies_true, forall_const, h7, h8]
theorem p67y (y z q : Int) (f : Nat → AV) (f0 : f 0 = .int .i64 y) (f1 : f 1 = .int .i64 z) : Pure PP 67 [.fs 2 f, .int .i64 q] fun r => ∃ j : Int, r = .int .i64 j ∧ (j = 0 ∧ y = q ∨ j = 1 ∧ y ≠ q ∧ z = q ∨ j = -1 ∧ y ≠ q ∧ z ≠ q) := by
  refine Fn.pure fmix f67 ?_
  unfold a67 r67
  simp -implicitDefEqProofs only [vqa, Nat.reduceEqDiff, Nat.reduceAdd, reduceIte, Nat.reduceLeDiff, Nat.reduceBEq, Nat.reduceLT, Nat.reduceSub, Int.reduceLT, Int.reduceLE, Int.reduceEq, Int.reduceToNat, Nat.reduceMul, eq_self, implies_true, forall_const]
  refine vFor 2 (fun i e m => e 0 = .fs 2 f ∧ e 1 = .int .i64 q ∧ e 7 = .int .i64 (2 : Nat) ∧ e 8 = .int .i64 i ∧ (1 ≤ i → y ≠ q) ∧ (2 ≤ i → z ≠ q)) ?_ ?_ ?_
  · simp -implicitDefEqProofs only [vqa, Nat.reduceEqDiff, Nat.reduceAdd, reduceIte, Nat.reduceLeDiff, Nat.reduceBEq, Nat.reduceLT, Nat.reduceSub, Int.reduceLT, Int.reduceLE, Int.reduceEq, Int.reduceToNat, Nat.reduceMul, eq_self, implies_true, forall_const]
  · rintro i e m hi hi' ⟨h0, h1, h7, h8, p1, p2⟩
    have hi2 : (i : Int) < 2 := by omega
    unfold a67_0
    obtain rfl | rfl : i = 0 ∨ i = 1 := by omega
    · simp -implicitDefEqProofs only [vqa, Nat.reduceEqDiff, Nat.reduceAdd, reduceIte, Nat.reduceLeDiff, Nat.reduceBEq, Nat.reduceLT, Nat.reduceSub, Int.reduceLT, Int.reduceLE, Int.reduceEq, Int.reduceToNat, Nat.reduceMul, eq_self, implies_true, forall_const, h0, h1, h7, h8, f0]
      exact ⟨fun h => ⟨_, rfl, .inl ⟨rfl, h.symm⟩⟩, fun h => ⟨wI (by decide) (by decide), fun k => h k.symm⟩⟩
    · simp -implicitDefEqProofs only [vqa, Nat.reduceEqDiff, Nat.reduceAdd, reduceIte, Nat.reduceLeDiff, Nat.reduceBEq, Nat.reduceLT, Nat.reduceSub, Int.reduceLT, Int.reduceLE, Int.reduceEq, Int.reduceToNat, Nat.reduceMul, eq_self, implies_true, forall_const, h0, h1, h7, h8, f1]
      exact ⟨fun h => ⟨_, rfl, .inr (.inl ⟨rfl, p1 (by decide), h.symm⟩)⟩, fun h => ⟨wI (by decide) (by decide), p1 (by decide), fun k => h k.symm⟩⟩
  · rintro e m ⟨h0, h1, h7, h8, p1, p2⟩
    unfold a67_0
    simp -implicitDefEqProofs only [vqa, Nat.reduceEqDiff, Nat.reduceAdd, reduceIte, Nat.reduceLeDiff, Nat.reduceBEq, Nat.reduceLT, Nat.reduceSub, Int.reduceLT, Int.reduceLE, Int.reduceEq, Int.reduceToNat, Nat.reduceMul, eq_self, implies_true, forall_const, h0, h1, h7, h8]
    exact ⟨_, rfl, .inr (.inr ⟨rfl, p1 (by decide), p2 (by decide)⟩)⟩

theorem p66 (b : Nat) {G : Gra} {cs : List AV} (hG : GraC cs G) (gd : G.Good) {mem : Mem} {o1 v1 o2 v2 : Nat} (h1 : o1 < b) (h2 : o2 < b) (m1 : mem o1 = .var v1 [.int .i64 (2 * (G.base : Int))]) (m2 : mem o2 = .var v2 cs) (l : Int) (hl : litOk G.nodes l) :
    CallW PP 66 [.int .i64 l, .ptr o1 v1 0, .ptr o2 v2 0] mem fun r m => Keeps b mem m ∧ ((isAnd G l = false ∧ r = .cap0) ∨ (isAnd G l = true ∧ ∃ V g, r = .sl (b + 26) V 2 ∧ m (b + 26) = .row V 35 1 2 g ∧ g 0 = .int .i64 (sA G l) ∧ g 1 = .int .i64 (sB G l))) := by
  obtain ⟨f0, f1, f2, f3, f4, rfl, g0, g1, g2, g3, g4⟩ := hG
  have hn := gd.nodes_le
  have hl1 := hl.1; have hl2 := hl.2
  have hb : G.base ≤ G.nodes := by unfold Gra.nodes; omega
  have wa := and_one hl1 (by omega)
  refine Fn.call fmix (g66 b) ?_
  unfold b66 q66
  simp -implicitDefEqProofs only [vqa, Nat.reduceEqDiff, Nat.reduceAdd, reduceIte, Nat.reduceLeDiff, Nat.reduceBEq, Nat.reduceLT, Nat.reduceSub, Int.reduceLT, Int.reduceLE, Int.reduceEq, Int.reduceToNat, Nat.reduceMul, eq_self, implies_true, forall_const, bNe h1, bNe h2, bNe' h1, bNe' h2, m1, m2, wa]
  refine ⟨fun c1 => ⟨fun c2 => .inl ?_, fun c2 => ⟨by decide, ?_⟩⟩, fun c1 => .inl ?_⟩
  · cases h : isAnd G l with
    | false => rfl
    | true => have := (isAnd_iff.1 h).2; omega
  · have hA : isAnd G l = true := isAnd_iff.2 ⟨by omega, by omega⟩
    have hi := sIx_lt hl hA
    have wx : IntKind.i64.wrap ((IntKind.i64.wrap (l - 2 * (G.base : Int))).tdiv 2) = l / 2 - G.base := by
      rw [wI (n := l - 2 * (G.base : Int)) (by omega) (by omega), tdiv_two (by omega), wI (by omega) (by omega)]; omega
    have wy : (l / 2 - (G.base : Int)).toNat = sIx G l := by unfold sIx; omega
    simp -implicitDefEqProofs only [vqa, Nat.reduceEqDiff, Nat.reduceAdd, reduceIte, Nat.reduceLeDiff, Nat.reduceBEq, Nat.reduceLT, Nat.reduceSub, Int.reduceLT, Int.reduceLE, Int.reduceEq, Int.reduceToNat, Nat.reduceMul, eq_self, implies_true, forall_const, bNe h1, bNe h2, bNe' h1, bNe' h2, m1, m2, wx, wy, g3 _ hi]
    refine ⟨⟨by omega, by omega⟩, .inr ⟨hA, _, _, rfl, rfl, ?_, ?_⟩⟩
    · unfold sA; rw [hA]; rfl
    · unfold sB; rw [hA]; rfl
  · cases h : isAnd G l with
    | false => rfl
    | true => have := (isAnd_iff.1 h).1; omega

theorem sideG_f {G : Gra} {n q : Int} (h : isAnd G n = false) : sideG G n q = none := by unfold sideG; rw [h]; rfl
theorem sideG_0 {G : Gra} {n q : Int} (h : isAnd G n = true) (e : sA G n = q) : sideG G n q = some (sB G n) := by unfold sideG; rw [h, if_pos e]; rfl
theorem sideG_1 {G : Gra} {n q : Int} (h : isAnd G n = true) (e : sA G n ≠ q) (e' : sB G n = q) : sideG G n q = some (sA G n) := by unfold sideG; rw [h, if_neg e, if_pos e']; rfl
theorem sideG_n {G : Gra} {n q : Int} (h : isAnd G n = true) (e : sA G n ≠ q) (e' : sB G n ≠ q) : sideG G n q = none := by unfold sideG; rw [h, if_neg e, if_neg e']; rfl
theorem muxG_f {G : Gra} {n q : Int} (h : isAnd G (x1 n) = false) : muxG G n q = none := by unfold muxG; rw [h]; rfl
theorem muxG_a {G : Gra} {n q : Int} (h : isAnd G (x1 (sA G (x1 n))) = false) : muxG G n q = none := by unfold muxG; rw [h]; cases isAnd G (x1 n) <;> rfl
theorem muxG_b {G : Gra} {n q : Int} (h : isAnd G (x1 (sB G (x1 n))) = false) : muxG G n q = none := by unfold muxG; rw [h]; cases isAnd G (x1 n) <;> cases isAnd G (x1 (sA G (x1 n))) <;> rfl
theorem muxG_t {G : Gra} {n q : Int} (h : isAnd G (x1 n) = true) (h2 : isAnd G (x1 (sA G (x1 n))) = true) (h3 : isAnd G (x1 (sB G (x1 n))) = true) : muxG G n q = mux4 (sA G (x1 (sA G (x1 n)))) (sB G (x1 (sA G (x1 n)))) (sA G (x1 (sB G (x1 n)))) (sB G (x1 (sB G (x1 n)))) q := by unfold muxG; rw [h, h2, h3]; rfl

theorem p33 {G : Gra} {cs : List AV} (hG : GraC cs G) (ok : G.Ok) (gd : G.Good) (n q : Int) (hn : litOk G.nodes n) : Pure PP 33 [.agg cs, .int .i64 n, .int .i64 q] fun r => r = .agg [.int .i64 (keptG G n q).1, .int .i64 (keptG G n q).2] := by
  have k1 := x1_ok gd hn
  have k2 := x1_ok gd (sA_ok gd k1)
  have k3 := x1_ok gd (sB_ok gd k1)
  have hG0 := hG
  obtain ⟨f0, f1, f2, f3, f4, rfl, g0, g1, g2, g3, g4⟩ := hG
  have x1r : ∀ x, bitop .xor .i64 x 1 = x1 x := fun _ => rfl
  have w10 : IntKind.i64.wrap (1 - 0) = 1 := by decide
  have w11 : IntKind.i64.wrap (1 - 1) = 0 := by decide
  have hb := gd.nodes_le
  have hni := gd.ni; have hnr := gd.nr
  have wb : IntKind.i64.wrap (2 * IntKind.i64.wrap (IntKind.i64.wrap (1 + (G.ni : Int)) + (G.nr : Int))) = 2 * (G.base : Int) := by
    rw [wI (n := 1 + (G.ni : Int)) (by omega) (by omega), wI (n := 1 + (G.ni : Int) + (G.nr : Int)) (by omega) (by omega), wI (by omega) (by omega)]; unfold Gra.base; omega
  refine Fn.pure fmix f33 ?_
  unfold a33 r33
  simp -implicitDefEqProofs only [vqa, Nat.reduceEqDiff, Nat.reduceAdd, reduceIte, Nat.reduceLeDiff, Nat.reduceBEq, Nat.reduceLT, Nat.reduceSub, Int.reduceLT, Int.reduceLE, Int.reduceEq, Int.reduceToNat, Nat.reduceMul, eq_self, implies_true, forall_const, x1r, wb]
  refine ⟨fun h => by rw [keptG_q h], fun hnq => ?_⟩
  generalize (mem0 3).ver + 1 = V3
  generalize (mem0 6).ver + 1 = V6
  generalize (mem0 7).ver + 1 = V7
  refine (p66 1000 hG0 gd (o1 := 7) (v1 := V7) (o2 := 3) (v2 := V3) (by decide) (by decide) rfl rfl (x1 n) k1).mono fun r m ⟨hK, hr⟩ => ?_
  have m3 := hK 3 (by decide)
  have m6 := hK 6 (by decide)
  have m7 := hK 7 (by decide)
  simp -implicitDefEqProofs only [vqa, Nat.reduceEqDiff, Nat.reduceAdd, reduceIte, Nat.reduceLeDiff, Nat.reduceBEq, Nat.reduceLT, Nat.reduceSub, Int.reduceLT, Int.reduceLE, Int.reduceEq, Int.reduceToNat, Nat.reduceMul, eq_self, implies_true, forall_const] at m3 m6 m7
  clear hK
  refine call_join (fun e m => e 1 = .int .i64 n ∧ e 2 = .int .i64 q ∧ e 6 = .ptr 6 V6 0 ∧ e 8 = .fn 66 [.ptr 7 V7 0, .ptr 3 V3 0] ∧ m 3 = .var V3 [.fs G.ni f0, .fs G.no f1, .fs G.nr f2, .fs G.na f3, .fs G.nk f4] ∧ m 6 = .var V6 [.int .i64 0, .int .i64 0] ∧ m 7 = .var V7 [.int .i64 (2 * (G.base : Int))] ∧ muxG G n q = none) ?_ ?_
  · rcases hr with ⟨hz, rfl⟩ | ⟨hz, V, g, rfl, m9, ga, gb⟩
    · simp -implicitDefEqProofs only [vqa, Nat.reduceEqDiff, Nat.reduceAdd, reduceIte, Nat.reduceLeDiff, Nat.reduceBEq, Nat.reduceLT, Nat.reduceSub, Int.reduceLT, Int.reduceLE, Int.reduceEq, Int.reduceToNat, Nat.reduceMul, eq_self, implies_true, forall_const, joinN, m3, m6, m7]
      exact muxG_f hz
    · simp -implicitDefEqProofs only [vqa, Nat.reduceEqDiff, Nat.reduceAdd, reduceIte, Nat.reduceLeDiff, Nat.reduceBEq, Nat.reduceLT, Nat.reduceSub, Int.reduceLT, Int.reduceLE, Int.reduceEq, Int.reduceToNat, Nat.reduceMul, eq_self, implies_true, forall_const, joinN, m3, m6, m7, m9]
      intro b hbb
      subst hbb
      simp -implicitDefEqProofs only [vqa, Nat.reduceEqDiff, Nat.reduceAdd, reduceIte, Nat.reduceLeDiff, Nat.reduceBEq, Nat.reduceLT, Nat.reduceSub, Int.reduceLT, Int.reduceLE, Int.reduceEq, Int.reduceToNat, Nat.reduceMul, eq_self, implies_true, forall_const]
      refine vAny [0, 1, 2, 3, 4, 6, 7, 8, 9, 10, 5, 11, 12, 13] 14 (oneL 1026) (by kernel_rfl) (by kernel_rfl) ?_
      have q1 : ∀ (m : Mem), restr (oneL 1026) m 1026 = m 1026 := fun _ => restr_one
      simp -implicitDefEqProofs only [vqa, Nat.reduceEqDiff, Nat.reduceAdd, reduceIte, Nat.reduceLeDiff, Nat.reduceBEq, Nat.reduceLT, Nat.reduceSub, Int.reduceLT, Int.reduceLE, Int.reduceEq, Int.reduceToNat, Nat.reduceMul, eq_self, implies_true, forall_const, q1, agree_one, m3, m6, m7, m9, ga, gb, x1r]
      refine (p66 2000 hG0 gd (o1 := 7) (v1 := V7) (o2 := 3) (v2 := V3) (by decide) (by decide) m7 m3 _ k2).mono fun r2 m' ⟨hK2, hr2⟩ => ?_
      have n3 := (hK2 3 (by decide)).trans m3
      have n6 := (hK2 6 (by decide)).trans m6
      have n7 := (hK2 7 (by decide)).trans m7
      have n9 := (hK2 1026 (by decide)).trans m9
      simp -implicitDefEqProofs only [vqa, Nat.reduceEqDiff, Nat.reduceAdd, reduceIte, Nat.reduceLeDiff, Nat.reduceBEq, Nat.reduceLT, Nat.reduceSub, Int.reduceLT, Int.reduceLE, Int.reduceEq, Int.reduceToNat, Nat.reduceMul, eq_self, implies_true, forall_const, q1, agree_one, n3, n6, n7, n9, m9, ga, gb, x1r]
      refine (p66 3000 hG0 gd (o1 := 7) (v1 := V7) (o2 := 3) (v2 := V3) (by decide) (by decide) n7 n3 _ k3).mono fun r3 m'' ⟨hK3, hr3⟩ => ?_
      have o3 := (hK3 3 (by decide)).trans n3
      have o6 := (hK3 6 (by decide)).trans n6
      have o7 := (hK3 7 (by decide)).trans n7
      have o9 := (hK3 1026 (by decide)).trans n9
      have oa := hK3 2026 (by decide)
      simp -implicitDefEqProofs only [vqa, Nat.reduceEqDiff, Nat.reduceAdd, reduceIte, Nat.reduceLeDiff, Nat.reduceBEq, Nat.reduceLT, Nat.reduceSub, Int.reduceLT, Int.reduceLE, Int.reduceEq, Int.reduceToNat, Nat.reduceMul, eq_self, implies_true, forall_const, q1, agree_one, o3, o6, o7, o9, m9, n9]
      rcases hr2 with ⟨hz2, rfl⟩ | ⟨hz2, Va, gA, rfl, mA, gA0, gA1⟩
      · simp -implicitDefEqProofs only [vqa, Nat.reduceEqDiff, Nat.reduceAdd, reduceIte, Nat.reduceLeDiff, Nat.reduceBEq, Nat.reduceLT, Nat.reduceSub, Int.reduceLT, Int.reduceLE, Int.reduceEq, Int.reduceToNat, Nat.reduceMul, eq_self, implies_true, forall_const, joinN, o3, o6, o7]
        exact muxG_a hz2
      · replace oa := oa.trans mA
        simp -implicitDefEqProofs only [vqa, Nat.reduceEqDiff, Nat.reduceAdd, reduceIte, Nat.reduceLeDiff, Nat.reduceBEq, Nat.reduceLT, Nat.reduceSub, Int.reduceLT, Int.reduceLE, Int.reduceEq, Int.reduceToNat, Nat.reduceMul, eq_self, implies_true, forall_const, joinN, o3, o6, o7, oa]
        intro b hbb
        subst hbb
        rcases hr3 with ⟨hz3, rfl⟩ | ⟨hz3, Vb, gB, rfl, mB, gB0, gB1⟩
        · simp -implicitDefEqProofs only [vqa, Nat.reduceEqDiff, Nat.reduceAdd, reduceIte, Nat.reduceLeDiff, Nat.reduceBEq, Nat.reduceLT, Nat.reduceSub, Int.reduceLT, Int.reduceLE, Int.reduceEq, Int.reduceToNat, Nat.reduceMul, eq_self, implies_true, forall_const, joinN, o3, o6, o7]
          exact muxG_b hz3
        · simp -implicitDefEqProofs only [vqa, Nat.reduceEqDiff, Nat.reduceAdd, reduceIte, Nat.reduceLeDiff, Nat.reduceBEq, Nat.reduceLT, Nat.reduceSub, Int.reduceLT, Int.reduceLE, Int.reduceEq, Int.reduceToNat, Nat.reduceMul, eq_self, implies_true, forall_const, joinN, o3, o6, o7, mB]
          intro b hbb
          subst hbb
          have hM := @muxG_t G n q hz hz2 hz3
          generalize sA G (x1 (sA G (x1 n))) = a1 at *
          generalize sB G (x1 (sA G (x1 n))) = a2 at *
          generalize sA G (x1 (sB G (x1 n))) = b1 at *
          generalize sB G (x1 (sB G (x1 n))) = b2 at *
          clear hK2 hK3 n3 n6 n7 n9 o9 m3 m6 m7 m9 mA
          simp -implicitDefEqProofs only [vqa, Nat.reduceEqDiff, Nat.reduceAdd, reduceIte, Nat.reduceLeDiff, Nat.reduceBEq, Nat.reduceLT, Nat.reduceSub, Int.reduceLT, Int.reduceLE, Int.reduceEq, Int.reduceToNat, Nat.reduceMul, eq_self, implies_true, forall_const]
          refine vFor 4 (fun k e m => e 1 = .int .i64 n ∧ e 2 = .int .i64 q ∧ e 6 = .ptr 6 V6 0 ∧ e 8 = .fn 66 [.ptr 7 V7 0, .ptr 3 V3 0] ∧ m 3 = .var V3 [.fs G.ni f0, .fs G.no f1, .fs G.nr f2, .fs G.na f3, .fs G.nk f4] ∧ m 6 = .var V6 [.int .i64 0, .int .i64 0] ∧ m 7 = .var V7 [.int .i64 (2 * (G.base : Int))] ∧ e 10 = .sl 2026 Va 2 ∧ e 11 = .sl 3026 Vb 2 ∧ m 2026 = .row Va 35 1 2 gA ∧ m 3026 = .row Vb 35 1 2 gB ∧ e 57 = .int .i64 k ∧ (1 ≤ k → hitG b1 b2 a1 q = false) ∧ (2 ≤ k → hitG b1 b2 a2 q = false) ∧ (3 ≤ k → hitG a1 a2 b1 q = false) ∧ (4 ≤ k → hitG a1 a2 b2 q = false)) ?_ ?_ ?_
          · simp -implicitDefEqProofs only [vqa, Nat.reduceEqDiff, Nat.reduceAdd, reduceIte, Nat.reduceLeDiff, Nat.reduceBEq, Nat.reduceLT, Nat.reduceSub, Int.reduceLT, Int.reduceLE, Int.reduceEq, Int.reduceToNat, Nat.reduceMul, eq_self, implies_true, forall_const, o3, o6, o7, oa, mB]
          · rintro k e m hk hk' ⟨h1, h2, h6, h8, m3, m6, m7, h10, h11, mA, mB, h57, p1, p2, p3, p4⟩
            have q2 : ∀ (m : Mem), restr (twoL 2026 3026) m 2026 = m 2026 := fun _ => restr_two1
            have q3 : ∀ (m : Mem), restr (twoL 2026 3026) m 3026 = m 3026 := fun _ => restr_two2
            have T0 : (0 : Int).tmod 2 = 0 := by decide
            have T1 : (1 : Int).tmod 2 = 1 := by decide
            have T2 : (2 : Int).tmod 2 = 0 := by decide
            have T3 : (3 : Int).tmod 2 = 1 := by decide
            unfold a33_0
            obtain rfl | rfl | rfl | rfl : k = 0 ∨ k = 1 ∨ k = 2 ∨ k = 3 := by omega
            · have hmx : hitG b1 b2 a1 q = true → keptG G n q = (a1, a2) := fun hh => by
                refine keptG_m hnq ?_
                rw [hM]; unfold mux4; rw [hh]; rfl
              simp -implicitDefEqProofs only [vqa, Nat.reduceEqDiff, Nat.reduceAdd, reduceIte, Nat.reduceLeDiff, Nat.reduceBEq, Nat.reduceLT, Nat.reduceSub, Int.reduceLT, Int.reduceLE, Int.reduceEq, Int.reduceToNat, Nat.reduceMul, eq_self, implies_true, forall_const, h1, h2, h6, h8, m3, m6, m7, h10, h11, mA, mB, h57, T0, T1, T2, T3, w10, w11]
              refine vAny [0, 1, 2, 3, 4, 5, 6, 7, 8, 9, 10, 11, 12] 13 (twoL 2026 3026) (by kernel_rfl) (by kernel_rfl) ?_
              simp -implicitDefEqProofs only [vqa, Nat.reduceEqDiff, Nat.reduceAdd, reduceIte, Nat.reduceLeDiff, Nat.reduceBEq, Nat.reduceLT, Nat.reduceSub, Int.reduceLT, Int.reduceLE, Int.reduceEq, Int.reduceToNat, Nat.reduceMul, eq_self, implies_true, forall_const, q2, q3, agree_two, h1, h2, h6, h8, m3, m6, m7, h10, h11, mA, mB, h57, gA0, gA1, gB0, gB1, T0, T1, T2, T3, w10, w11, x1r]
              refine ⟨by decide, by decide, ?_⟩
              refine CallW.sc (p31h b1 b2 (x1 a1) q gB (fun i => [AV.int .i64 (x1 a1), .int .i64 q].getD i .undef) gB0 gB1 rfl rfl) ?_ ?_ fun r hr => ⟨by subst hr; rfl, ?_⟩
              · simp only [rsC, rs2, rs1, rs0, vqa, Nat.reduceEqDiff, Nat.reduceAdd, reduceIte, Nat.reduceLeDiff, Nat.reduceBEq, Nat.reduceLT, Nat.reduceSub, Int.reduceLT, Int.reduceLE, Int.reduceEq, Int.reduceToNat, Nat.reduceMul, eq_self, implies_true, forall_const, mB]
              · simp only [rsC, rs2, rs1, rs0, vqa, Nat.reduceEqDiff, Nat.reduceAdd, reduceIte, Nat.reduceLeDiff, Nat.reduceBEq, Nat.reduceLT, Nat.reduceSub, Int.reduceLT, Int.reduceLE, Int.reduceEq, Int.reduceToNat, Nat.reduceMul, eq_self, implies_true, forall_const, mB]
              subst hr
              cases hB : (decide (b1 = x1 a1) && decide (b2 = q)) with
              | true =>
                rw [hmx (by unfold hitG; rw [hB]; rfl)]
                simp -implicitDefEqProofs only [vqa, Nat.reduceEqDiff, Nat.reduceAdd, reduceIte, Nat.reduceLeDiff, Nat.reduceBEq, Nat.reduceLT, Nat.reduceSub, Int.reduceLT, Int.reduceLE, Int.reduceEq, Int.reduceToNat, Nat.reduceMul, eq_self, implies_true, forall_const, h1, h2, h6, h8, m3, m6, m7, h10, h11, mA, mB, h57]
              | false =>
                simp -implicitDefEqProofs only [vqa, Nat.reduceEqDiff, Nat.reduceAdd, reduceIte, Nat.reduceLeDiff, Nat.reduceBEq, Nat.reduceLT, Nat.reduceSub, Int.reduceLT, Int.reduceLE, Int.reduceEq, Int.reduceToNat, Nat.reduceMul, eq_self, implies_true, forall_const, h1, h2, h6, h8, m3, m6, m7, h10, h11, mA, mB, h57, x1r]
                refine CallW.sc (p31h b1 b2 q (x1 a1) gB (fun i => [AV.int .i64 q, .int .i64 (x1 a1)].getD i .undef) gB0 gB1 rfl rfl) ?_ ?_ fun r hr => ⟨by subst hr; rfl, ?_⟩
                · simp only [rsC, rs2, rs1, rs0, vqa, Nat.reduceEqDiff, Nat.reduceAdd, reduceIte, Nat.reduceLeDiff, Nat.reduceBEq, Nat.reduceLT, Nat.reduceSub, Int.reduceLT, Int.reduceLE, Int.reduceEq, Int.reduceToNat, Nat.reduceMul, eq_self, implies_true, forall_const, mB]
                · simp only [rsC, rs2, rs1, rs0, vqa, Nat.reduceEqDiff, Nat.reduceAdd, reduceIte, Nat.reduceLeDiff, Nat.reduceBEq, Nat.reduceLT, Nat.reduceSub, Int.reduceLT, Int.reduceLE, Int.reduceEq, Int.reduceToNat, Nat.reduceMul, eq_self, implies_true, forall_const, mB]
                subst hr
                cases hC : (decide (b1 = q) && decide (b2 = x1 a1)) with
                | true =>
                  rw [hmx (by unfold hitG; rw [hB, hC]; rfl)]
                  simp -implicitDefEqProofs only [vqa, Nat.reduceEqDiff, Nat.reduceAdd, reduceIte, Nat.reduceLeDiff, Nat.reduceBEq, Nat.reduceLT, Nat.reduceSub, Int.reduceLT, Int.reduceLE, Int.reduceEq, Int.reduceToNat, Nat.reduceMul, eq_self, implies_true, forall_const, h1, h2, h6, h8, m3, m6, m7, h10, h11, mA, mB, h57]
                | false =>
                  have hh : hitG b1 b2 a1 q = false := by unfold hitG; rw [hB, hC]; rfl
                  simp -implicitDefEqProofs only [vqa, Nat.reduceEqDiff, Nat.reduceAdd, reduceIte, Nat.reduceLeDiff, Nat.reduceBEq, Nat.reduceLT, Nat.reduceSub, Int.reduceLT, Int.reduceLE, Int.reduceEq, Int.reduceToNat, Nat.reduceMul, eq_self, implies_true, forall_const, h1, h2, h6, h8, m3, m6, m7, h10, h11, mA, mB, h57]
                  exact ⟨by decide, hh⟩
            · have hmx : hitG b1 b2 a2 q = true → keptG G n q = (a2, a1) := fun hh => by
                refine keptG_m hnq ?_
                rw [hM]; unfold mux4; rw [p1 (by decide), hh]; rfl
              simp -implicitDefEqProofs only [vqa, Nat.reduceEqDiff, Nat.reduceAdd, reduceIte, Nat.reduceLeDiff, Nat.reduceBEq, Nat.reduceLT, Nat.reduceSub, Int.reduceLT, Int.reduceLE, Int.reduceEq, Int.reduceToNat, Nat.reduceMul, eq_self, implies_true, forall_const, h1, h2, h6, h8, m3, m6, m7, h10, h11, mA, mB, h57, T0, T1, T2, T3, w10, w11]
              refine vAny [0, 1, 2, 3, 4, 5, 6, 7, 8, 9, 10, 11, 12] 13 (twoL 2026 3026) (by kernel_rfl) (by kernel_rfl) ?_
              simp -implicitDefEqProofs only [vqa, Nat.reduceEqDiff, Nat.reduceAdd, reduceIte, Nat.reduceLeDiff, Nat.reduceBEq, Nat.reduceLT, Nat.reduceSub, Int.reduceLT, Int.reduceLE, Int.reduceEq, Int.reduceToNat, Nat.reduceMul, eq_self, implies_true, forall_const, q2, q3, agree_two, h1, h2, h6, h8, m3, m6, m7, h10, h11, mA, mB, h57, gA0, gA1, gB0, gB1, T0, T1, T2, T3, w10, w11, x1r]
              refine ⟨by decide, by decide, ?_⟩
              refine CallW.sc (p31h b1 b2 (x1 a2) q gB (fun i => [AV.int .i64 (x1 a2), .int .i64 q].getD i .undef) gB0 gB1 rfl rfl) ?_ ?_ fun r hr => ⟨by subst hr; rfl, ?_⟩
              · simp only [rsC, rs2, rs1, rs0, vqa, Nat.reduceEqDiff, Nat.reduceAdd, reduceIte, Nat.reduceLeDiff, Nat.reduceBEq, Nat.reduceLT, Nat.reduceSub, Int.reduceLT, Int.reduceLE, Int.reduceEq, Int.reduceToNat, Nat.reduceMul, eq_self, implies_true, forall_const, mB]
              · simp only [rsC, rs2, rs1, rs0, vqa, Nat.reduceEqDiff, Nat.reduceAdd, reduceIte, Nat.reduceLeDiff, Nat.reduceBEq, Nat.reduceLT, Nat.reduceSub, Int.reduceLT, Int.reduceLE, Int.reduceEq, Int.reduceToNat, Nat.reduceMul, eq_self, implies_true, forall_const, mB]
              subst hr
              cases hB : (decide (b1 = x1 a2) && decide (b2 = q)) with
              | true =>
                rw [hmx (by unfold hitG; rw [hB]; rfl)]
                simp -implicitDefEqProofs only [vqa, Nat.reduceEqDiff, Nat.reduceAdd, reduceIte, Nat.reduceLeDiff, Nat.reduceBEq, Nat.reduceLT, Nat.reduceSub, Int.reduceLT, Int.reduceLE, Int.reduceEq, Int.reduceToNat, Nat.reduceMul, eq_self, implies_true, forall_const, h1, h2, h6, h8, m3, m6, m7, h10, h11, mA, mB, h57]
              | false =>
                simp -implicitDefEqProofs only [vqa, Nat.reduceEqDiff, Nat.reduceAdd, reduceIte, Nat.reduceLeDiff, Nat.reduceBEq, Nat.reduceLT, Nat.reduceSub, Int.reduceLT, Int.reduceLE, Int.reduceEq, Int.reduceToNat, Nat.reduceMul, eq_self, implies_true, forall_const, h1, h2, h6, h8, m3, m6, m7, h10, h11, mA, mB, h57, x1r]
                refine CallW.sc (p31h b1 b2 q (x1 a2) gB (fun i => [AV.int .i64 q, .int .i64 (x1 a2)].getD i .undef) gB0 gB1 rfl rfl) ?_ ?_ fun r hr => ⟨by subst hr; rfl, ?_⟩
                · simp only [rsC, rs2, rs1, rs0, vqa, Nat.reduceEqDiff, Nat.reduceAdd, reduceIte, Nat.reduceLeDiff, Nat.reduceBEq, Nat.reduceLT, Nat.reduceSub, Int.reduceLT, Int.reduceLE, Int.reduceEq, Int.reduceToNat, Nat.reduceMul, eq_self, implies_true, forall_const, mB]
                · simp only [rsC, rs2, rs1, rs0, vqa, Nat.reduceEqDiff, Nat.reduceAdd, reduceIte, Nat.reduceLeDiff, Nat.reduceBEq, Nat.reduceLT, Nat.reduceSub, Int.reduceLT, Int.reduceLE, Int.reduceEq, Int.reduceToNat, Nat.reduceMul, eq_self, implies_true, forall_const, mB]
                subst hr
                cases hC : (decide (b1 = q) && decide (b2 = x1 a2)) with
                | true =>
                  rw [hmx (by unfold hitG; rw [hB, hC]; rfl)]
                  simp -implicitDefEqProofs only [vqa, Nat.reduceEqDiff, Nat.reduceAdd, reduceIte, Nat.reduceLeDiff, Nat.reduceBEq, Nat.reduceLT, Nat.reduceSub, Int.reduceLT, Int.reduceLE, Int.reduceEq, Int.reduceToNat, Nat.reduceMul, eq_self, implies_true, forall_const, h1, h2, h6, h8, m3, m6, m7, h10, h11, mA, mB, h57]
                | false =>
                  have hh : hitG b1 b2 a2 q = false := by unfold hitG; rw [hB, hC]; rfl
                  simp -implicitDefEqProofs only [vqa, Nat.reduceEqDiff, Nat.reduceAdd, reduceIte, Nat.reduceLeDiff, Nat.reduceBEq, Nat.reduceLT, Nat.reduceSub, Int.reduceLT, Int.reduceLE, Int.reduceEq, Int.reduceToNat, Nat.reduceMul, eq_self, implies_true, forall_const, h1, h2, h6, h8, m3, m6, m7, h10, h11, mA, mB, h57]
                  exact ⟨by decide, p1 (by decide), hh⟩
            · have hmx : hitG a1 a2 b1 q = true → keptG G n q = (b1, b2) := fun hh => by
                refine keptG_m hnq ?_
                rw [hM]; unfold mux4; rw [p1 (by decide), p2 (by decide), hh]; rfl
              simp -implicitDefEqProofs only [vqa, Nat.reduceEqDiff, Nat.reduceAdd, reduceIte, Nat.reduceLeDiff, Nat.reduceBEq, Nat.reduceLT, Nat.reduceSub, Int.reduceLT, Int.reduceLE, Int.reduceEq, Int.reduceToNat, Nat.reduceMul, eq_self, implies_true, forall_const, h1, h2, h6, h8, m3, m6, m7, h10, h11, mA, mB, h57, T0, T1, T2, T3, w10, w11]
              refine vAny [0, 1, 2, 3, 4, 5, 6, 7, 8, 9, 10, 11, 12] 13 (twoL 2026 3026) (by kernel_rfl) (by kernel_rfl) ?_
              simp -implicitDefEqProofs only [vqa, Nat.reduceEqDiff, Nat.reduceAdd, reduceIte, Nat.reduceLeDiff, Nat.reduceBEq, Nat.reduceLT, Nat.reduceSub, Int.reduceLT, Int.reduceLE, Int.reduceEq, Int.reduceToNat, Nat.reduceMul, eq_self, implies_true, forall_const, q2, q3, agree_two, h1, h2, h6, h8, m3, m6, m7, h10, h11, mA, mB, h57, gA0, gA1, gB0, gB1, T0, T1, T2, T3, w10, w11, x1r]
              refine ⟨by decide, by decide, ?_⟩
              refine CallW.sc (p31h a1 a2 (x1 b1) q gA (fun i => [AV.int .i64 (x1 b1), .int .i64 q].getD i .undef) gA0 gA1 rfl rfl) ?_ ?_ fun r hr => ⟨by subst hr; rfl, ?_⟩
              · simp only [rsC, rs2, rs1, rs0, vqa, Nat.reduceEqDiff, Nat.reduceAdd, reduceIte, Nat.reduceLeDiff, Nat.reduceBEq, Nat.reduceLT, Nat.reduceSub, Int.reduceLT, Int.reduceLE, Int.reduceEq, Int.reduceToNat, Nat.reduceMul, eq_self, implies_true, forall_const, mA]
              · simp only [rsC, rs2, rs1, rs0, vqa, Nat.reduceEqDiff, Nat.reduceAdd, reduceIte, Nat.reduceLeDiff, Nat.reduceBEq, Nat.reduceLT, Nat.reduceSub, Int.reduceLT, Int.reduceLE, Int.reduceEq, Int.reduceToNat, Nat.reduceMul, eq_self, implies_true, forall_const, mA]
              subst hr
              cases hB : (decide (a1 = x1 b1) && decide (a2 = q)) with
              | true =>
                rw [hmx (by unfold hitG; rw [hB]; rfl)]
                simp -implicitDefEqProofs only [vqa, Nat.reduceEqDiff, Nat.reduceAdd, reduceIte, Nat.reduceLeDiff, Nat.reduceBEq, Nat.reduceLT, Nat.reduceSub, Int.reduceLT, Int.reduceLE, Int.reduceEq, Int.reduceToNat, Nat.reduceMul, eq_self, implies_true, forall_const, h1, h2, h6, h8, m3, m6, m7, h10, h11, mA, mB, h57]
              | false =>
                simp -implicitDefEqProofs only [vqa, Nat.reduceEqDiff, Nat.reduceAdd, reduceIte, Nat.reduceLeDiff, Nat.reduceBEq, Nat.reduceLT, Nat.reduceSub, Int.reduceLT, Int.reduceLE, Int.reduceEq, Int.reduceToNat, Nat.reduceMul, eq_self, implies_true, forall_const, h1, h2, h6, h8, m3, m6, m7, h10, h11, mA, mB, h57, x1r]
                refine CallW.sc (p31h a1 a2 q (x1 b1) gA (fun i => [AV.int .i64 q, .int .i64 (x1 b1)].getD i .undef) gA0 gA1 rfl rfl) ?_ ?_ fun r hr => ⟨by subst hr; rfl, ?_⟩
                · simp only [rsC, rs2, rs1, rs0, vqa, Nat.reduceEqDiff, Nat.reduceAdd, reduceIte, Nat.reduceLeDiff, Nat.reduceBEq, Nat.reduceLT, Nat.reduceSub, Int.reduceLT, Int.reduceLE, Int.reduceEq, Int.reduceToNat, Nat.reduceMul, eq_self, implies_true, forall_const, mA]
                · simp only [rsC, rs2, rs1, rs0, vqa, Nat.reduceEqDiff, Nat.reduceAdd, reduceIte, Nat.reduceLeDiff, Nat.reduceBEq, Nat.reduceLT, Nat.reduceSub, Int.reduceLT, Int.reduceLE, Int.reduceEq, Int.reduceToNat, Nat.reduceMul, eq_self, implies_true, forall_const, mA]
                subst hr
                cases hC : (decide (a1 = q) && decide (a2 = x1 b1)) with
                | true =>
                  rw [hmx (by unfold hitG; rw [hB, hC]; rfl)]
                  simp -implicitDefEqProofs only [vqa, Nat.reduceEqDiff, Nat.reduceAdd, reduceIte, Nat.reduceLeDiff, Nat.reduceBEq, Nat.reduceLT, Nat.reduceSub, Int.reduceLT, Int.reduceLE, Int.reduceEq, Int.reduceToNat, Nat.reduceMul, eq_self, implies_true, forall_const, h1, h2, h6, h8, m3, m6, m7, h10, h11, mA, mB, h57]
                | false =>
                  have hh : hitG a1 a2 b1 q = false := by unfold hitG; rw [hB, hC]; rfl
                  simp -implicitDefEqProofs only [vqa, Nat.reduceEqDiff, Nat.reduceAdd, reduceIte, Nat.reduceLeDiff, Nat.reduceBEq, Nat.reduceLT, Nat.reduceSub, Int.reduceLT, Int.reduceLE, Int.reduceEq, Int.reduceToNat, Nat.reduceMul, eq_self, implies_true, forall_const, h1, h2, h6, h8, m3, m6, m7, h10, h11, mA, mB, h57]
                  exact ⟨by decide, p1 (by decide), p2 (by decide), hh⟩
            · have hmx : hitG a1 a2 b2 q = true → keptG G n q = (b2, b1) := fun hh => by
                refine keptG_m hnq ?_
                rw [hM]; unfold mux4; rw [p1 (by decide), p2 (by decide), p3 (by decide), hh]; rfl
              simp -implicitDefEqProofs only [vqa, Nat.reduceEqDiff, Nat.reduceAdd, reduceIte, Nat.reduceLeDiff, Nat.reduceBEq, Nat.reduceLT, Nat.reduceSub, Int.reduceLT, Int.reduceLE, Int.reduceEq, Int.reduceToNat, Nat.reduceMul, eq_self, implies_true, forall_const, h1, h2, h6, h8, m3, m6, m7, h10, h11, mA, mB, h57, T0, T1, T2, T3, w10, w11]
              refine vAny [0, 1, 2, 3, 4, 5, 6, 7, 8, 9, 10, 11, 12] 13 (twoL 2026 3026) (by kernel_rfl) (by kernel_rfl) ?_
              simp -implicitDefEqProofs only [vqa, Nat.reduceEqDiff, Nat.reduceAdd, reduceIte, Nat.reduceLeDiff, Nat.reduceBEq, Nat.reduceLT, Nat.reduceSub, Int.reduceLT, Int.reduceLE, Int.reduceEq, Int.reduceToNat, Nat.reduceMul, eq_self, implies_true, forall_const, q2, q3, agree_two, h1, h2, h6, h8, m3, m6, m7, h10, h11, mA, mB, h57, gA0, gA1, gB0, gB1, T0, T1, T2, T3, w10, w11, x1r]
              refine ⟨by decide, by decide, ?_⟩
              refine CallW.sc (p31h a1 a2 (x1 b2) q gA (fun i => [AV.int .i64 (x1 b2), .int .i64 q].getD i .undef) gA0 gA1 rfl rfl) ?_ ?_ fun r hr => ⟨by subst hr; rfl, ?_⟩
              · simp only [rsC, rs2, rs1, rs0, vqa, Nat.reduceEqDiff, Nat.reduceAdd, reduceIte, Nat.reduceLeDiff, Nat.reduceBEq, Nat.reduceLT, Nat.reduceSub, Int.reduceLT, Int.reduceLE, Int.reduceEq, Int.reduceToNat, Nat.reduceMul, eq_self, implies_true, forall_const, mA]
              · simp only [rsC, rs2, rs1, rs0, vqa, Nat.reduceEqDiff, Nat.reduceAdd, reduceIte, Nat.reduceLeDiff, Nat.reduceBEq, Nat.reduceLT, Nat.reduceSub, Int.reduceLT, Int.reduceLE, Int.reduceEq, Int.reduceToNat, Nat.reduceMul, eq_self, implies_true, forall_const, mA]
              subst hr
              cases hB : (decide (a1 = x1 b2) && decide (a2 = q)) with
              | true =>
                rw [hmx (by unfold hitG; rw [hB]; rfl)]
                simp -implicitDefEqProofs only [vqa, Nat.reduceEqDiff, Nat.reduceAdd, reduceIte, Nat.reduceLeDiff, Nat.reduceBEq, Nat.reduceLT, Nat.reduceSub, Int.reduceLT, Int.reduceLE, Int.reduceEq, Int.reduceToNat, Nat.reduceMul, eq_self, implies_true, forall_const, h1, h2, h6, h8, m3, m6, m7, h10, h11, mA, mB, h57]
              | false =>
                simp -implicitDefEqProofs only [vqa, Nat.reduceEqDiff, Nat.reduceAdd, reduceIte, Nat.reduceLeDiff, Nat.reduceBEq, Nat.reduceLT, Nat.reduceSub, Int.reduceLT, Int.reduceLE, Int.reduceEq, Int.reduceToNat, Nat.reduceMul, eq_self, implies_true, forall_const, h1, h2, h6, h8, m3, m6, m7, h10, h11, mA, mB, h57, x1r]
                refine CallW.sc (p31h a1 a2 q (x1 b2) gA (fun i => [AV.int .i64 q, .int .i64 (x1 b2)].getD i .undef) gA0 gA1 rfl rfl) ?_ ?_ fun r hr => ⟨by subst hr; rfl, ?_⟩
                · simp only [rsC, rs2, rs1, rs0, vqa, Nat.reduceEqDiff, Nat.reduceAdd, reduceIte, Nat.reduceLeDiff, Nat.reduceBEq, Nat.reduceLT, Nat.reduceSub, Int.reduceLT, Int.reduceLE, Int.reduceEq, Int.reduceToNat, Nat.reduceMul, eq_self, implies_true, forall_const, mA]
                · simp only [rsC, rs2, rs1, rs0, vqa, Nat.reduceEqDiff, Nat.reduceAdd, reduceIte, Nat.reduceLeDiff, Nat.reduceBEq, Nat.reduceLT, Nat.reduceSub, Int.reduceLT, Int.reduceLE, Int.reduceEq, Int.reduceToNat, Nat.reduceMul, eq_self, implies_true, forall_const, mA]
                subst hr
                cases hC : (decide (a1 = q) && decide (a2 = x1 b2)) with
                | true =>
                  rw [hmx (by unfold hitG; rw [hB, hC]; rfl)]
                  simp -implicitDefEqProofs only [vqa, Nat.reduceEqDiff, Nat.reduceAdd, reduceIte, Nat.reduceLeDiff, Nat.reduceBEq, Nat.reduceLT, Nat.reduceSub, Int.reduceLT, Int.reduceLE, Int.reduceEq, Int.reduceToNat, Nat.reduceMul, eq_self, implies_true, forall_const, h1, h2, h6, h8, m3, m6, m7, h10, h11, mA, mB, h57]
                | false =>
                  have hh : hitG a1 a2 b2 q = false := by unfold hitG; rw [hB, hC]; rfl
                  simp -implicitDefEqProofs only [vqa, Nat.reduceEqDiff, Nat.reduceAdd, reduceIte, Nat.reduceLeDiff, Nat.reduceBEq, Nat.reduceLT, Nat.reduceSub, Int.reduceLT, Int.reduceLE, Int.reduceEq, Int.reduceToNat, Nat.reduceMul, eq_self, implies_true, forall_const, h1, h2, h6, h8, m3, m6, m7, h10, h11, mA, mB, h57]
                  exact ⟨by decide, p1 (by decide), p2 (by decide), p3 (by decide), hh⟩
          · rintro e m ⟨h1, h2, h6, h8, m3, m6, m7, h10, h11, mA, mB, h57, p1, p2, p3, p4⟩
            unfold a33_0
            simp -implicitDefEqProofs only [vqa, Nat.reduceEqDiff, Nat.reduceAdd, reduceIte, Nat.reduceLeDiff, Nat.reduceBEq, Nat.reduceLT, Nat.reduceSub, Int.reduceLT, Int.reduceLE, Int.reduceEq, Int.reduceToNat, Nat.reduceMul, eq_self, implies_true, forall_const, joinN, h1, h2, h6, h8, m3, m6, m7, h10, h11, mA, mB, h57]
            rw [hM]; unfold mux4; rw [p1 (by decide), p2 (by decide), p3 (by decide), p4 (by decide)]; rfl
  · clear m3 m6 m7
    rintro e m ⟨h1, h2, h6, h8, m3, m6, m7, hM⟩
    simp -implicitDefEqProofs only [vqa, Nat.reduceEqDiff, Nat.reduceAdd, reduceIte, Nat.reduceLeDiff, Nat.reduceBEq, Nat.reduceLT, Nat.reduceSub, Int.reduceLT, Int.reduceLE, Int.reduceEq, Int.reduceToNat, Nat.reduceMul, eq_self, implies_true, forall_const, h1, h2, h6, h8, m3, m6, m7]
    refine (p66 4000 hG0 gd (o1 := 7) (v1 := V7) (o2 := 3) (v2 := V3) (by decide) (by decide) m7 m3 (n) hn).mono fun r mm ⟨hK, hr⟩ => ?_
    have n3 := (hK 3 (by decide)).trans m3
    have n6 := (hK 6 (by decide)).trans m6
    have n7 := (hK 7 (by decide)).trans m7
    clear hK
    refine call_join (fun e m => e 1 = .int .i64 n ∧ e 2 = .int .i64 q ∧ e 6 = .ptr 6 V6 0 ∧ e 8 = .fn 66 [.ptr 7 V7 0, .ptr 3 V3 0] ∧ m 3 = .var V3 [.fs G.ni f0, .fs G.no f1, .fs G.nr f2, .fs G.na f3, .fs G.nk f4] ∧ m 6 = .var V6 [.int .i64 0, .int .i64 0] ∧ m 7 = .var V7 [.int .i64 (2 * (G.base : Int))] ∧ muxG G n q = none ∧ sideG G n q = none) ?_ ?_
    · rcases hr with ⟨hz, rfl⟩ | ⟨hz, V, g, rfl, m9, ga, gb⟩
      · simp -implicitDefEqProofs only [vqa, Nat.reduceEqDiff, Nat.reduceAdd, reduceIte, Nat.reduceLeDiff, Nat.reduceBEq, Nat.reduceLT, Nat.reduceSub, Int.reduceLT, Int.reduceLE, Int.reduceEq, Int.reduceToNat, Nat.reduceMul, eq_self, implies_true, forall_const, h1, h2, h6, h8, n3, n6, n7, x1r]
        refine CallW.sc (p67c (q) (fun _ => .undef)) ?_ ?_ fun r hr => ⟨by subst hr; rfl, ?_⟩
        · simp only [rsC, rs2, rs1, rs0, vqa, Nat.reduceEqDiff, Nat.reduceAdd, reduceIte, Nat.reduceLeDiff, Nat.reduceBEq, Nat.reduceLT, Nat.reduceSub, Int.reduceLT, Int.reduceLE, Int.reduceEq, Int.reduceToNat, Nat.reduceMul, eq_self, implies_true, forall_const]
        · simp only [rsC, rs2, rs1, rs0, vqa, Nat.reduceEqDiff, Nat.reduceAdd, reduceIte, Nat.reduceLeDiff, Nat.reduceBEq, Nat.reduceLT, Nat.reduceSub, Int.reduceLT, Int.reduceLE, Int.reduceEq, Int.reduceToNat, Nat.reduceMul, eq_self, implies_true, forall_const]
        subst hr
        simp -implicitDefEqProofs only [vqa, Nat.reduceEqDiff, Nat.reduceAdd, reduceIte, Nat.reduceLeDiff, Nat.reduceBEq, Nat.reduceLT, Nat.reduceSub, Int.reduceLT, Int.reduceLE, Int.reduceEq, Int.reduceToNat, Nat.reduceMul, eq_self, implies_true, forall_const, joinN, h1, h2, h6, h8, n3, n6, n7]
        exact ⟨hM, sideG_f hz⟩
      · simp -implicitDefEqProofs only [vqa, Nat.reduceEqDiff, Nat.reduceAdd, reduceIte, Nat.reduceLeDiff, Nat.reduceBEq, Nat.reduceLT, Nat.reduceSub, Int.reduceLT, Int.reduceLE, Int.reduceEq, Int.reduceToNat, Nat.reduceMul, eq_self, implies_true, forall_const, h1, h2, h6, h8, n3, n6, n7, x1r]
        refine CallW.sc (p67y _ _ (q) g ga gb) ?_ ?_ fun r ⟨j, hr, hj⟩ => ⟨by subst hr; rfl, ?_⟩
        · simp only [rsC, rs2, rs1, rs0, vqa, Nat.reduceEqDiff, Nat.reduceAdd, reduceIte, Nat.reduceLeDiff, Nat.reduceBEq, Nat.reduceLT, Nat.reduceSub, Int.reduceLT, Int.reduceLE, Int.reduceEq, Int.reduceToNat, Nat.reduceMul, eq_self, implies_true, forall_const, m9]
        · simp only [rsC, rs2, rs1, rs0, vqa, Nat.reduceEqDiff, Nat.reduceAdd, reduceIte, Nat.reduceLeDiff, Nat.reduceBEq, Nat.reduceLT, Nat.reduceSub, Int.reduceLT, Int.reduceLE, Int.reduceEq, Int.reduceToNat, Nat.reduceMul, eq_self, implies_true, forall_const, m9]
        subst hr
        rcases hj with ⟨hj, e0⟩ | ⟨hj, e0, e1⟩ | ⟨hj, e0, e1⟩
        · subst hj
          simp -implicitDefEqProofs only [vqa, Nat.reduceEqDiff, Nat.reduceAdd, reduceIte, Nat.reduceLeDiff, Nat.reduceBEq, Nat.reduceLT, Nat.reduceSub, Int.reduceLT, Int.reduceLE, Int.reduceEq, Int.reduceToNat, Nat.reduceMul, eq_self, implies_true, forall_const, h1, h2, h6, h8, n3, n6, n7, x1r]
          refine (p66 5000 hG0 gd (o1 := 7) (v1 := V7) (o2 := 3) (v2 := V3) (by decide) (by decide) n7 n3 (n) hn).mono fun r' m' ⟨hK', hr'⟩ => ?_
          have p6 := (hK' 6 (by decide)).trans n6
          rcases hr' with ⟨hz', _⟩ | ⟨hz', V', g', rfl, m9', ga', gb'⟩
          · rw [hz] at hz'; cases hz'
          simp -implicitDefEqProofs only [vqa, Nat.reduceEqDiff, Nat.reduceAdd, reduceIte, Nat.reduceLeDiff, Nat.reduceBEq, Nat.reduceLT, Nat.reduceSub, Int.reduceLT, Int.reduceLE, Int.reduceEq, Int.reduceToNat, Nat.reduceMul, eq_self, implies_true, forall_const, h6, p6, m9', ga', gb', x1r, w10, w11]
          rw [keptG_s hnq hM (sideG_0 hz e0)]
        · subst hj
          simp -implicitDefEqProofs only [vqa, Nat.reduceEqDiff, Nat.reduceAdd, reduceIte, Nat.reduceLeDiff, Nat.reduceBEq, Nat.reduceLT, Nat.reduceSub, Int.reduceLT, Int.reduceLE, Int.reduceEq, Int.reduceToNat, Nat.reduceMul, eq_self, implies_true, forall_const, h1, h2, h6, h8, n3, n6, n7, x1r]
          refine (p66 5000 hG0 gd (o1 := 7) (v1 := V7) (o2 := 3) (v2 := V3) (by decide) (by decide) n7 n3 (n) hn).mono fun r' m' ⟨hK', hr'⟩ => ?_
          have p6 := (hK' 6 (by decide)).trans n6
          rcases hr' with ⟨hz', _⟩ | ⟨hz', V', g', rfl, m9', ga', gb'⟩
          · rw [hz] at hz'; cases hz'
          simp -implicitDefEqProofs only [vqa, Nat.reduceEqDiff, Nat.reduceAdd, reduceIte, Nat.reduceLeDiff, Nat.reduceBEq, Nat.reduceLT, Nat.reduceSub, Int.reduceLT, Int.reduceLE, Int.reduceEq, Int.reduceToNat, Nat.reduceMul, eq_self, implies_true, forall_const, h6, p6, m9', ga', gb', x1r, w10, w11]
          rw [keptG_s hnq hM (sideG_1 hz e0 e1)]
        · subst hj
          simp -implicitDefEqProofs only [vqa, Nat.reduceEqDiff, Nat.reduceAdd, reduceIte, Nat.reduceLeDiff, Nat.reduceBEq, Nat.reduceLT, Nat.reduceSub, Int.reduceLT, Int.reduceLE, Int.reduceEq, Int.reduceToNat, Nat.reduceMul, eq_self, implies_true, forall_const, joinN, h1, h2, h6, h8, n3, n6, n7]
          exact ⟨hM, sideG_n hz e0 e1⟩
    · clear n3 n6 n7 h1 h2 h6 h8 m3 m6 m7
      rintro e m ⟨h1, h2, h6, h8, m3, m6, m7, hM, hS⟩
      simp -implicitDefEqProofs only [vqa, Nat.reduceEqDiff, Nat.reduceAdd, reduceIte, Nat.reduceLeDiff, Nat.reduceBEq, Nat.reduceLT, Nat.reduceSub, Int.reduceLT, Int.reduceLE, Int.reduceEq, Int.reduceToNat, Nat.reduceMul, eq_self, implies_true, forall_const, h1, h2, h6, h8, m3, m6, m7, x1r]
      refine (p66 6000 hG0 gd (o1 := 7) (v1 := V7) (o2 := 3) (v2 := V3) (by decide) (by decide) m7 m3 (x1 n) k1).mono fun r mm ⟨hK, hr⟩ => ?_
      have n3 := (hK 3 (by decide)).trans m3
      have n6 := (hK 6 (by decide)).trans m6
      have n7 := (hK 7 (by decide)).trans m7
      clear hK
      rcases hr with ⟨hz, rfl⟩ | ⟨hz, V, g, rfl, m9, ga, gb⟩
      · simp -implicitDefEqProofs only [vqa, Nat.reduceEqDiff, Nat.reduceAdd, reduceIte, Nat.reduceLeDiff, Nat.reduceBEq, Nat.reduceLT, Nat.reduceSub, Int.reduceLT, Int.reduceLE, Int.reduceEq, Int.reduceToNat, Nat.reduceMul, eq_self, implies_true, forall_const, h1, h2, h6, h8, n3, n6, n7, x1r]
        refine CallW.sc (p67c (x1 q) (fun _ => .undef)) ?_ ?_ fun r hr => ⟨by subst hr; rfl, ?_⟩
        · simp only [rsC, rs2, rs1, rs0, vqa, Nat.reduceEqDiff, Nat.reduceAdd, reduceIte, Nat.reduceLeDiff, Nat.reduceBEq, Nat.reduceLT, Nat.reduceSub, Int.reduceLT, Int.reduceLE, Int.reduceEq, Int.reduceToNat, Nat.reduceMul, eq_self, implies_true, forall_const]
        · simp only [rsC, rs2, rs1, rs0, vqa, Nat.reduceEqDiff, Nat.reduceAdd, reduceIte, Nat.reduceLeDiff, Nat.reduceBEq, Nat.reduceLT, Nat.reduceSub, Int.reduceLT, Int.reduceLE, Int.reduceEq, Int.reduceToNat, Nat.reduceMul, eq_self, implies_true, forall_const]
        subst hr
        simp -implicitDefEqProofs only [vqa, Nat.reduceEqDiff, Nat.reduceAdd, reduceIte, Nat.reduceLeDiff, Nat.reduceBEq, Nat.reduceLT, Nat.reduceSub, Int.reduceLT, Int.reduceLE, Int.reduceEq, Int.reduceToNat, Nat.reduceMul, eq_self, implies_true, forall_const, joinN, h1, h2, h6, h8, n3, n6, n7]
        rw [keptG_n hnq hM hS (sideG_f hz)]
      · simp -implicitDefEqProofs only [vqa, Nat.reduceEqDiff, Nat.reduceAdd, reduceIte, Nat.reduceLeDiff, Nat.reduceBEq, Nat.reduceLT, Nat.reduceSub, Int.reduceLT, Int.reduceLE, Int.reduceEq, Int.reduceToNat, Nat.reduceMul, eq_self, implies_true, forall_const, h1, h2, h6, h8, n3, n6, n7, x1r]
        refine CallW.sc (p67y _ _ (x1 q) g ga gb) ?_ ?_ fun r ⟨j, hr, hj⟩ => ⟨by subst hr; rfl, ?_⟩
        · simp only [rsC, rs2, rs1, rs0, vqa, Nat.reduceEqDiff, Nat.reduceAdd, reduceIte, Nat.reduceLeDiff, Nat.reduceBEq, Nat.reduceLT, Nat.reduceSub, Int.reduceLT, Int.reduceLE, Int.reduceEq, Int.reduceToNat, Nat.reduceMul, eq_self, implies_true, forall_const, m9]
        · simp only [rsC, rs2, rs1, rs0, vqa, Nat.reduceEqDiff, Nat.reduceAdd, reduceIte, Nat.reduceLeDiff, Nat.reduceBEq, Nat.reduceLT, Nat.reduceSub, Int.reduceLT, Int.reduceLE, Int.reduceEq, Int.reduceToNat, Nat.reduceMul, eq_self, implies_true, forall_const, m9]
        subst hr
        rcases hj with ⟨hj, e0⟩ | ⟨hj, e0, e1⟩ | ⟨hj, e0, e1⟩
        · subst hj
          simp -implicitDefEqProofs only [vqa, Nat.reduceEqDiff, Nat.reduceAdd, reduceIte, Nat.reduceLeDiff, Nat.reduceBEq, Nat.reduceLT, Nat.reduceSub, Int.reduceLT, Int.reduceLE, Int.reduceEq, Int.reduceToNat, Nat.reduceMul, eq_self, implies_true, forall_const, h1, h2, h6, h8, n3, n6, n7, x1r]
          refine (p66 7000 hG0 gd (o1 := 7) (v1 := V7) (o2 := 3) (v2 := V3) (by decide) (by decide) n7 n3 (x1 n) k1).mono fun r' m' ⟨hK', hr'⟩ => ?_
          have p6 := (hK' 6 (by decide)).trans n6
          rcases hr' with ⟨hz', _⟩ | ⟨hz', V', g', rfl, m9', ga', gb'⟩
          · rw [hz] at hz'; cases hz'
          simp -implicitDefEqProofs only [vqa, Nat.reduceEqDiff, Nat.reduceAdd, reduceIte, Nat.reduceLeDiff, Nat.reduceBEq, Nat.reduceLT, Nat.reduceSub, Int.reduceLT, Int.reduceLE, Int.reduceEq, Int.reduceToNat, Nat.reduceMul, eq_self, implies_true, forall_const, h6, p6, m9', ga', gb', x1r, w10, w11]
          rw [keptG_t hnq hM hS (sideG_0 hz e0)]
        · subst hj
          simp -implicitDefEqProofs only [vqa, Nat.reduceEqDiff, Nat.reduceAdd, reduceIte, Nat.reduceLeDiff, Nat.reduceBEq, Nat.reduceLT, Nat.reduceSub, Int.reduceLT, Int.reduceLE, Int.reduceEq, Int.reduceToNat, Nat.reduceMul, eq_self, implies_true, forall_const, h1, h2, h6, h8, n3, n6, n7, x1r]
          refine (p66 7000 hG0 gd (o1 := 7) (v1 := V7) (o2 := 3) (v2 := V3) (by decide) (by decide) n7 n3 (x1 n) k1).mono fun r' m' ⟨hK', hr'⟩ => ?_
          have p6 := (hK' 6 (by decide)).trans n6
          rcases hr' with ⟨hz', _⟩ | ⟨hz', V', g', rfl, m9', ga', gb'⟩
          · rw [hz] at hz'; cases hz'
          simp -implicitDefEqProofs only [vqa, Nat.reduceEqDiff, Nat.reduceAdd, reduceIte, Nat.reduceLeDiff, Nat.reduceBEq, Nat.reduceLT, Nat.reduceSub, Int.reduceLT, Int.reduceLE, Int.reduceEq, Int.reduceToNat, Nat.reduceMul, eq_self, implies_true, forall_const, h6, p6, m9', ga', gb', x1r, w10, w11]
          rw [keptG_t hnq hM hS (sideG_1 hz e0 e1)]
        · subst hj
          simp -implicitDefEqProofs only [vqa, Nat.reduceEqDiff, Nat.reduceAdd, reduceIte, Nat.reduceLeDiff, Nat.reduceBEq, Nat.reduceLT, Nat.reduceSub, Int.reduceLT, Int.reduceLE, Int.reduceEq, Int.reduceToNat, Nat.reduceMul, eq_self, implies_true, forall_const, joinN, h1, h2, h6, h8, n3, n6, n7]
          rw [keptG_n hnq hM hS (sideG_n hz e0 e1)]
end Go.Ab
namespace Go.Ab
open Go
def a37 : AC := (.seq (.ops [⟨(some 0), none, (.v (.mv (.c (.bool false))))⟩]) (.seq (.ops [⟨(some 4), none, (.e (.lit 4 9 1 2 [(.str ⟨#[]⟩)] [(0, (.c (.str ⟨#[101]⟩))), (1, (.c (.str ⟨#[100]⟩)))]))⟩, ⟨(some 5), none, (.v (.build [(.str ⟨#[]⟩), (.int .i64 0), (.bool false)] [(0, (1, (.c (.str ⟨#[113]⟩)))), (1, (1, (.c (.int .i64 13))))]))⟩, ⟨(some 6), none, (.e (.lit 6 37 3 1 [(.str ⟨#[]⟩), (.int .i64 0), (.bool false)] [(0, (.t 5))]))⟩, ⟨(some 7), none, (.v (.build [(.int .i64 0), (.int .i64 0)] [(0, (1, (.c (.int .i64 2)))), (1, (1, (.c (.int .i64 4))))]))⟩, ⟨(some 8), none, (.v (.build [(.int .i64 0), (.int .i64 0)] [(0, (1, (.c (.int .i64 3)))), (1, (1, (.c (.int .i64 6))))]))⟩, ⟨(some 9), none, (.v (.build [(.int .i64 0), (.int .i64 0)] [(0, (1, (.c (.int .i64 9)))), (1, (1, (.c (.int .i64 11))))]))⟩, ⟨(some 10), none, (.e (.lit 10 103 2 3 [(.int .i64 0), (.int .i64 0)] [(0, (.t 7)), (1, (.t 8)), (2, (.t 9))]))⟩, ⟨(some 11), none, (.v (.build [.cap0, .cap0, .cap0, .cap0, .cap0] [(0, (1, (.t 4))), (2, (1, (.t 6))), (3, (1, (.t 10)))]))⟩, ⟨(some 1), none, (.e (.alloc 1 [.cap0, .cap0, .cap0, .cap0, .cap0]))⟩, ⟨none, none, (.e (.store 5 (.t 1) (.t 11)))⟩]) (.seq (.ops [⟨(some 13), none, (.v (.load 5 true (.t 1)))⟩, ⟨(some 14), none, (.call (.c (.fn 63 [])) [(.t 13)])⟩, ⟨(some 12), none, (.v (.mv (.t 14)))⟩, ⟨(some 15), none, (.v (.ext 0 (.t 12)))⟩, ⟨(some 16), none, (.v (.ext 1 (.t 12)))⟩, ⟨(some 2), none, (.v (.mv (.t 15)))⟩, ⟨(some 3), none, (.v (.mv (.t 16)))⟩]) (.seq (.ops [⟨(some 17), none, (.v (.mv (.t 3)))⟩, ⟨(some 18), none, (.v (.bin .eql (.t 17) (.c (.int .i64 0))))⟩, ⟨(some 19), none, (.v (.mv (.t 18)))⟩, ⟨(some 20), (some (19, true)), (.v (.mv (.t 2)))⟩, ⟨(some 21), (some (19, true)), (.v (.len (.t 20)))⟩, ⟨(some 22), (some (19, true)), (.v (.bin .eql (.t 21) (.c (.int .i64 1))))⟩, ⟨(some 23), none, (.v (.pick (.t 19) (.t 22) (.c (.bool false))))⟩, ⟨(some 24), none, (.v (.mv (.t 23)))⟩, ⟨(some 25), (some (24, true)), (.v (.mv (.t 2)))⟩, ⟨(some 26), (some (24, true)), (.v (.idx 2 (.t 25) (.c (.int .i64 0))))⟩, ⟨(some 27), (some (24, true)), (.v (.load 2 true (.t 26)))⟩, ⟨(some 28), (some (24, true)), (.v (.build [(.int .i64 0), (.int .i64 0)] [(0, (1, (.c (.int .i64 2)))), (1, (1, (.c (.int .i64 4))))]))⟩, ⟨(some 29), (some (24, true)), (.v (.aeq [.int, .int] false (.t 27) (.t 28)))⟩, ⟨(some 30), none, (.v (.pick (.t 24) (.t 29) (.c (.bool false))))⟩, ⟨(some 0), none, (.v (.mv (.t 30)))⟩]) .ret))))
def r37 : List AI := [(.mv (.t 0))]
theorem f37 : Fn PP 37 0 a37 r37 := Fn.of (fn := Go.Proofs.Try.f37) (by kernel_rfl) (by kernel_rfl) (by kernel_rfl)
def gatesG : Gra := ⟨2, fun i => [⟨#[101]⟩, ⟨#[100]⟩].getD i default, 0, fun _ => default, 1, fun _ => ⟨⟨#[113]⟩, 13, false⟩, 3, fun i => [2, 3, 9].getD i 0, fun i => [4, 6, 11].getD i 0, 0, fun _ => 0⟩
theorem gatesG_ok : gatesG.Ok := by
  refine ⟨by decide, by decide, by decide, by decide, by decide, fun i hi => ?_, fun i hi => absurd hi (Nat.not_lt_zero _), fun i hi => ?_, fun i hi => ?_, fun i hi => ?_, fun i hi => absurd hi (Nat.not_lt_zero _)⟩
  · have hi : i < 2 := hi
    obtain rfl | rfl : i = 0 ∨ i = 1 := by omega
    · show (ByteArray.mk #[101]).size ≤ 1048576; decide
    · show (ByteArray.mk #[100]).size ≤ 1048576; decide
  · refine ⟨by show (ByteArray.mk #[113]).size ≤ 1048576; decide, by show L64 13; unfold L64; decide⟩
  · have hi : i < 3 := hi
    obtain rfl | rfl | rfl : i = 0 ∨ i = 1 ∨ i = 2 := by omega
    · show L64 2; unfold L64; decide
    · show L64 3; unfold L64; decide
    · show L64 9; unfold L64; decide
  · have hi : i < 3 := hi
    obtain rfl | rfl | rfl : i = 0 ∨ i = 1 ∨ i = 2 := by omega
    · show L64 4; unfold L64; decide
    · show L64 6; unfold L64; decide
    · show L64 11; unfold L64; decide
theorem gatesG_F : graphF gatesG = 0 := by
  have hs : namesF gatesG.names 3 = 0 := by
    have e0 : gatesG.names 0 = ⟨#[101]⟩ := rfl
    have e1 : gatesG.names 1 = ⟨#[100]⟩ := rfl
    have e2 : gatesG.names 2 = ⟨#[113]⟩ := rfl
    have s0 : scan (nameAt gatesG.names) 0 = 0 := rfl
    have s1 := scan_step s0 (nameAt_ok (by rw [e0]; decide) (fun ⟨j, hj, _⟩ => absurd hj (Nat.not_lt_zero _)))
    have s2 := scan_step s1 (nameAt_ok (by rw [e1]; decide) (fun ⟨j, hj, h⟩ => by
      obtain rfl : j = 0 := by omega
      rw [e0, e1] at h
      exact absurd (congrArg (fun b : ByteArray => b.data.toList) h) (by decide)))
    exact scan_step s2 (nameAt_ok (by rw [e2]; decide) (fun ⟨j, hj, h⟩ => by
      rw [e2] at h
      obtain rfl | rfl : j = 0 ∨ j = 1 := by omega
      · rw [e0] at h; exact absurd (congrArg (fun b : ByteArray => b.data.toList) h) (by decide)
      · rw [e1] at h; exact absurd (congrArg (fun b : ByteArray => b.data.toList) h) (by decide)))
  unfold graphF
  rw [if_neg (by decide), if_neg (by decide), if_neg (by show ¬ namesF gatesG.names 3 ≠ 0; rw [hs]; decide), if_neg (by show ¬ (0 : Int) ≠ 0; decide), if_neg (by decide +kernel), if_neg (by decide +kernel)]
  rfl
theorem gatesG_K : gatP gatesG 0 = (2, 4) := by decide +kernel

theorem p37 : Pure PP 37 [] fun r => r = .bool true := by
  have hE : GraC [.fs 2 (fun i => [AV.str ⟨#[101]⟩, AV.str ⟨#[100]⟩].getD i .undef), .fs 0 (fun _ => .undef), .fs 1 (fun i => [AV.agg [AV.str ⟨#[113]⟩, AV.int .i64 13, AV.bool false]].getD i .undef), .fs 3 (fun i => [AV.agg [AV.int .i64 2, AV.int .i64 4], AV.agg [AV.int .i64 3, AV.int .i64 6], AV.agg [AV.int .i64 9, AV.int .i64 11]].getD i .undef), .fs 0 (fun _ => .undef)] gatesG := by
    refine ⟨_, _, _, _, _, rfl, fun i hi => ?_, fun i hi => absurd hi (Nat.not_lt_zero _), fun i hi => ?_, fun i hi => ?_, fun i hi => absurd hi (Nat.not_lt_zero _)⟩
    · have hi : i < 2 := hi
      obtain rfl | rfl : i = 0 ∨ i = 1 := by omega
      · rfl
      · rfl
    · have hi : i < 1 := hi
      obtain rfl : i = 0 := by omega
      rfl
    · have hi : i < 3 := hi
      obtain rfl | rfl | rfl : i = 0 ∨ i = 1 ∨ i = 2 := by omega
      · rfl
      · rfl
      · rfl
  have pE := p63 hE gatesG_ok
  rw [gatesG_F] at pE
  refine Fn.pure fmix f37 ?_
  unfold a37 r37
  simp -implicitDefEqProofs only [vqa, Nat.reduceEqDiff, Nat.reduceAdd, reduceIte, Nat.reduceLeDiff, Nat.reduceBEq, Nat.reduceLT, Nat.reduceSub, Int.reduceLT, Int.reduceLE, Int.reduceEq, Int.reduceToNat, Nat.reduceMul, eq_self, implies_true, forall_const]
  refine CallW.frz rfl ⟨⟨rfl, trivial, rfl, rfl, trivial, trivial⟩, trivial⟩ ?_
  refine CallW.fz pE rfl rfl fun r ⟨k, f, hr, _, h1⟩ => ⟨by subst hr; rfl, ?_⟩
  subst hr
  obtain ⟨hk, hf⟩ := h1 rfl
  have hk : k = 1 := hk
  subst hk
  have h0 : f 0 = .agg [.int .i64 2, .int .i64 4] := by
    rw [hf 0 (by decide)]; unfold gatV; rw [gatesG_K]
  simp -implicitDefEqProofs only [vqa, Nat.reduceEqDiff, Nat.reduceAdd, reduceIte, Nat.reduceLeDiff, Nat.reduceBEq, Nat.reduceLT, Nat.reduceSub, Int.reduceLT, Int.reduceLE, Int.reduceEq, Int.reduceToNat, Nat.reduceMul, eq_self, implies_true, forall_const, h0]
end Go.Ab
