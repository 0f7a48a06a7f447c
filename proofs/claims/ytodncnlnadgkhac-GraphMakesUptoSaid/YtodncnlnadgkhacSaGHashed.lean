/- Walks: Hashed. -/
import Derived.Test.YtodncnlnadgkhacSaHs0
import Derived.Test.YtodncnlnadgkhacSaGNil
import Derived.Test.YtodncnlnadgkhacSaGraph
import Derived.Test.YtodncnlnadgkhacSaGSame
import Derived.Test.YtodncnlnadgkhacFwT
set_option linter.unusedSimpArgs false
set_option linter.unusedVariables false
namespace Go.Ab
open Go
def a17_0 : AC := (.seq (.ops [⟨(some 28), none, (.v (.bin .lss (.t 27) (.t 26)))⟩]) (.seq (.cond (.t 28) .skip (.exit 0)) (.seq (.block 1 (.seq (.ops [⟨(some 29), none, (.v (.mv (.t 27)))⟩, ⟨(some 6), none, (.v (.mv (.t 29)))⟩]) (.ops [⟨(some 30), none, (.v (.mv (.t 5)))⟩, ⟨(some 31), none, (.v (.mv (.t 6)))⟩, ⟨(some 32), none, (.v (.mv (.t 6)))⟩, ⟨(some 33), none, (.v (.bin .add (.t 31) (.t 32)))⟩, ⟨(some 34), none, (.e (.lit 34 35 1 1 [(.int .i64 0)] [(0, (.t 33))]))⟩, ⟨(some 35), none, (.e (.app 35 35 1 8 (.t 30) (.t 34)))⟩, ⟨(some 5), none, (.v (.mv (.t 35)))⟩]))) (.ops [⟨(some 36), none, (.v (.bin .add (.t 27) (.c (.int .i64 1))))⟩, ⟨(some 27), none, (.v (.mv (.t 36)))⟩]))))
def a17_1 : AC := (.seq (.ops [⟨(some 41), none, (.v (.bin .lss (.t 40) (.t 39)))⟩]) (.seq (.cond (.t 41) .skip (.exit 2)) (.seq (.block 3 (.seq (.ops [⟨(some 42), none, (.v (.idx 2 (.t 38) (.t 40)))⟩, ⟨(some 43), none, (.v (.load 2 true (.t 42)))⟩, ⟨(some 9), none, (.e (.alloc 9 [(.int .i64 0), (.int .i64 0)]))⟩, ⟨none, none, (.e (.store 2 (.t 9) (.t 43)))⟩]) (.seq (.any [⟨(some 44), none, (.v (.mv (.t 5)))⟩, ⟨(some 45), none, (.v (.fld 0 (.t 9)))⟩, ⟨(some 46), none, (.v (.load 1 false (.t 45)))⟩, ⟨(some 47), none, (.v (.bin .shr (.t 46) (.c (.int .u64 1))))⟩, ⟨(some 48), none, (.v (.idx 1 (.t 44) (.t 47)))⟩, ⟨(some 49), none, (.v (.load 1 false (.t 48)))⟩, ⟨(some 50), none, (.v (.fld 0 (.t 9)))⟩, ⟨(some 51), none, (.v (.load 1 false (.t 50)))⟩, ⟨(some 52), none, (.v (.bin .and (.t 51) (.c (.int .i64 1))))⟩, ⟨(some 53), none, (.v (.bin .xor (.t 49) (.t 52)))⟩, ⟨(some 54), none, (.v (.mv (.t 5)))⟩, ⟨(some 55), none, (.v (.fld 1 (.t 9)))⟩, ⟨(some 56), none, (.v (.load 1 false (.t 55)))⟩, ⟨(some 57), none, (.v (.bin .shr (.t 56) (.c (.int .u64 1))))⟩, ⟨(some 58), none, (.v (.idx 1 (.t 54) (.t 57)))⟩, ⟨(some 59), none, (.v (.load 1 false (.t 58)))⟩, ⟨(some 60), none, (.v (.fld 1 (.t 9)))⟩, ⟨(some 61), none, (.v (.load 1 false (.t 60)))⟩, ⟨(some 62), none, (.v (.bin .and (.t 61) (.c (.int .i64 1))))⟩, ⟨(some 63), none, (.v (.bin .xor (.t 59) (.t 62)))⟩, ⟨(some 10), none, (.v (.mv (.t 53)))⟩, ⟨(some 11), none, (.v (.mv (.t 63)))⟩] [[], [], [1], [2], [0, 3], [4], [], [6], [7], [5, 8], [], [], [11], [12], [10, 13], [14], [], [16], [17], [15, 18], [9, 0, 1, 2, 3, 4, 5, 6, 7, 8, 9], [19, 20, 0, 1, 2, 3, 4, 5, 6, 7, 8, 9, 10, 11, 12, 13, 14, 15, 16, 17, 18, 19, 20]]) (.seq (.seq (.ops [⟨(some 64), none, (.v (.mv (.t 10)))⟩, ⟨(some 65), none, (.v (.mv (.t 11)))⟩, ⟨(some 66), none, (.v (.bin .gtr (.t 64) (.t 65)))⟩]) (.cond (.t 66) (.ops [⟨(some 67), none, (.v (.mv (.t 11)))⟩, ⟨(some 68), none, (.v (.mv (.t 10)))⟩, ⟨(some 10), none, (.v (.mv (.t 67)))⟩, ⟨(some 11), none, (.v (.mv (.t 68)))⟩]) .skip)) (.seq (.ops [⟨(some 69), none, (.v (.mv (.t 7)))⟩, ⟨(some 70), none, (.v (.mv (.t 10)))⟩, ⟨(some 71), none, (.v (.mv (.t 11)))⟩, ⟨(some 72), none, (.v (.build [(.int .i64 0), (.int .i64 0)] [(0, (1, (.t 70))), (1, (1, (.t 71)))]))⟩, ⟨(some 73), none, (.call (.c (.fn 50 [])) [(.t 69), (.t 72)])⟩, ⟨(some 12), none, (.v (.mv (.t 73)))⟩]) (.block 4 (.seq (.seq (.ops [⟨(some 90), none, (.v (.mv (.t 10)))⟩, ⟨(some 91), none, (.v (.bin .eql (.t 90) (.c (.int .i64 0))))⟩, ⟨(some 89), none, (.v (.mv (.t 91)))⟩]) (.cond (.t 89) .skip (.ops [⟨(some 92), none, (.v (.mv (.t 10)))⟩, ⟨(some 93), none, (.v (.bin .xor (.t 92) (.c (.int .i64 1))))⟩, ⟨(some 94), none, (.v (.mv (.t 11)))⟩, ⟨(some 95), none, (.v (.bin .eql (.t 93) (.t 94)))⟩, ⟨(some 89), none, (.v (.mv (.t 95)))⟩]))) (.cond (.t 89) (.ops [⟨(some 96), none, (.v (.mv (.t 5)))⟩, ⟨(some 97), none, (.e (.lit 97 35 1 1 [(.int .i64 0)] [(0, (.c (.int .i64 0)))]))⟩, ⟨(some 98), none, (.e (.app 98 35 1 8 (.t 96) (.t 97)))⟩, ⟨(some 5), none, (.v (.mv (.t 98)))⟩]) (.seq (.seq (.ops [⟨(some 100), none, (.v (.mv (.t 10)))⟩, ⟨(some 101), none, (.v (.bin .eql (.t 100) (.c (.int .i64 1))))⟩, ⟨(some 99), none, (.v (.mv (.t 101)))⟩]) (.cond (.t 99) .skip (.ops [⟨(some 102), none, (.v (.mv (.t 10)))⟩, ⟨(some 103), none, (.v (.mv (.t 11)))⟩, ⟨(some 104), none, (.v (.bin .eql (.t 102) (.t 103)))⟩, ⟨(some 99), none, (.v (.mv (.t 104)))⟩]))) (.cond (.t 99) (.ops [⟨(some 105), none, (.v (.mv (.t 5)))⟩, ⟨(some 106), none, (.v (.mv (.t 11)))⟩, ⟨(some 107), none, (.e (.lit 107 35 1 1 [(.int .i64 0)] [(0, (.t 106))]))⟩, ⟨(some 108), none, (.e (.app 108 35 1 8 (.t 105) (.t 107)))⟩, ⟨(some 5), none, (.v (.mv (.t 108)))⟩]) (.seq (.ops [⟨(some 110), none, (.v (.mv (.t 12)))⟩, ⟨(some 111), none, (.v (.bin .geq (.t 110) (.c (.int .i64 0))))⟩, ⟨(some 109), none, (.v (.mv (.t 111)))⟩]) (.cond (.t 109) (.ops [⟨(some 112), none, (.v (.mv (.t 5)))⟩, ⟨(some 113), none, (.v (.mv (.t 4)))⟩, ⟨(some 114), none, (.v (.mv (.t 12)))⟩, ⟨(some 115), none, (.v (.bin .add (.t 113) (.t 114)))⟩, ⟨(some 116), none, (.v (.bin .mul (.c (.int .i64 2)) (.t 115)))⟩, ⟨(some 117), none, (.e (.lit 117 35 1 1 [(.int .i64 0)] [(0, (.t 116))]))⟩, ⟨(some 118), none, (.e (.app 118 35 1 8 (.t 112) (.t 117)))⟩, ⟨(some 5), none, (.v (.mv (.t 118)))⟩]) (.seq (.ops [⟨(some 74), none, (.v (.mv (.t 7)))⟩, ⟨(some 75), none, (.v (.mv (.t 10)))⟩, ⟨(some 76), none, (.v (.mv (.t 11)))⟩, ⟨(some 77), none, (.v (.build [(.int .i64 0), (.int .i64 0)] [(0, (1, (.t 75))), (1, (1, (.t 76)))]))⟩, ⟨(some 78), none, (.e (.lit 78 103 2 1 [(.int .i64 0), (.int .i64 0)] [(0, (.t 77))]))⟩, ⟨(some 79), none, (.e (.app 79 103 2 16 (.t 74) (.t 78)))⟩, ⟨(some 7), none, (.v (.mv (.t 79)))⟩]) (.ops [⟨(some 80), none, (.v (.mv (.t 5)))⟩, ⟨(some 81), none, (.v (.mv (.t 4)))⟩, ⟨(some 82), none, (.v (.mv (.t 7)))⟩, ⟨(some 83), none, (.v (.len (.t 82)))⟩, ⟨(some 84), none, (.v (.bin .add (.t 81) (.t 83)))⟩, ⟨(some 85), none, (.v (.bin .sub (.t 84) (.c (.int .i64 1))))⟩, ⟨(some 86), none, (.v (.bin .mul (.c (.int .i64 2)) (.t 85)))⟩, ⟨(some 87), none, (.e (.lit 87 35 1 1 [(.int .i64 0)] [(0, (.t 86))]))⟩, ⟨(some 88), none, (.e (.app 88 35 1 8 (.t 80) (.t 87)))⟩, ⟨(some 5), none, (.v (.mv (.t 88)))⟩])))))))))))))) (.ops [⟨(some 119), none, (.v (.bin .add (.t 40) (.c (.int .i64 1))))⟩, ⟨(some 40), none, (.v (.mv (.t 119)))⟩]))))
def a17_2 : AC := (.seq (.ops [⟨(some 130), none, (.v (.bin .lss (.t 129) (.t 128)))⟩]) (.seq (.cond (.t 130) .skip (.exit 5)) (.seq (.block 6 (.seq (.ops [⟨(some 131), none, (.v (.idx 3 (.t 127) (.t 129)))⟩, ⟨(some 132), none, (.v (.load 3 true (.t 131)))⟩, ⟨(some 15), none, (.e (.alloc 15 [(.str ⟨#[]⟩), (.int .i64 0), (.bool false)]))⟩, ⟨none, none, (.e (.store 3 (.t 15) (.t 132)))⟩]) (.any [⟨(some 133), none, (.v (.fld 2 (.t 13)))⟩, ⟨(some 134), none, (.v (.load 1 false (.t 133)))⟩, ⟨(some 135), none, (.v (.fld 0 (.t 15)))⟩, ⟨(some 136), none, (.v (.load 1 false (.t 135)))⟩, ⟨(some 137), none, (.v (.fld 2 (.t 15)))⟩, ⟨(some 138), none, (.v (.load 1 false (.t 137)))⟩, ⟨(some 139), none, (.v (.mv (.t 5)))⟩, ⟨(some 140), none, (.v (.fld 1 (.t 15)))⟩, ⟨(some 141), none, (.v (.load 1 false (.t 140)))⟩, ⟨(some 142), none, (.v (.bin .shr (.t 141) (.c (.int .u64 1))))⟩, ⟨(some 143), none, (.v (.idx 1 (.t 139) (.t 142)))⟩, ⟨(some 144), none, (.v (.load 1 false (.t 143)))⟩, ⟨(some 145), none, (.v (.fld 1 (.t 15)))⟩, ⟨(some 146), none, (.v (.load 1 false (.t 145)))⟩, ⟨(some 147), none, (.v (.bin .and (.t 146) (.c (.int .i64 1))))⟩, ⟨(some 148), none, (.v (.bin .xor (.t 144) (.t 147)))⟩, ⟨(some 149), none, (.v (.build [(.str ⟨#[]⟩), (.int .i64 0), (.bool false)] [(0, (1, (.t 136))), (2, (1, (.t 138))), (1, (1, (.t 148)))]))⟩, ⟨(some 150), none, (.e (.lit 150 37 3 1 [(.str ⟨#[]⟩), (.int .i64 0), (.bool false)] [(0, (.t 149))]))⟩, ⟨(some 151), none, (.e (.app 151 37 3 32 (.t 134) (.t 150)))⟩, ⟨(some 152), none, (.v (.fld 2 (.t 13)))⟩, ⟨none, none, (.e (.store 1 (.t 152) (.t 151)))⟩] [[], [0], [], [2], [], [4], [], [], [7], [8], [6, 9], [10], [], [12], [13], [11, 14], [3, 5, 15], [16], [1, 17], [0, 1, 2, 3, 4, 5, 6, 7, 8, 9, 10, 11, 12, 13, 14, 15, 16, 17, 18], [19, 18, 18, 0, 1, 2, 3, 4, 5, 6, 7, 8, 9, 10, 11, 12, 13, 14, 15, 16, 17, 18]]))) (.ops [⟨(some 153), none, (.v (.bin .add (.t 129) (.c (.int .i64 1))))⟩, ⟨(some 129), none, (.v (.mv (.t 153)))⟩]))))
def a17_3 : AC := (.seq (.ops [⟨(some 158), none, (.v (.bin .lss (.t 157) (.t 156)))⟩]) (.seq (.cond (.t 158) .skip (.exit 7)) (.seq (.block 8 (.seq (.ops [⟨(some 159), none, (.v (.idx 1 (.t 155) (.t 157)))⟩, ⟨(some 160), none, (.v (.load 1 false (.t 159)))⟩, ⟨(some 17), none, (.v (.mv (.t 160)))⟩]) (.any [⟨(some 161), none, (.v (.fld 4 (.t 13)))⟩, ⟨(some 162), none, (.v (.load 1 false (.t 161)))⟩, ⟨(some 163), none, (.v (.mv (.t 5)))⟩, ⟨(some 164), none, (.v (.mv (.t 17)))⟩, ⟨(some 165), none, (.v (.bin .shr (.t 164) (.c (.int .u64 1))))⟩, ⟨(some 166), none, (.v (.idx 1 (.t 163) (.t 165)))⟩, ⟨(some 167), none, (.v (.load 1 false (.t 166)))⟩, ⟨(some 168), none, (.v (.mv (.t 17)))⟩, ⟨(some 169), none, (.v (.bin .and (.t 168) (.c (.int .i64 1))))⟩, ⟨(some 170), none, (.v (.bin .xor (.t 167) (.t 169)))⟩, ⟨(some 171), none, (.e (.lit 171 35 1 1 [(.int .i64 0)] [(0, (.t 170))]))⟩, ⟨(some 172), none, (.e (.app 172 35 1 8 (.t 162) (.t 171)))⟩, ⟨(some 173), none, (.v (.fld 4 (.t 13)))⟩, ⟨none, none, (.e (.store 1 (.t 173) (.t 172)))⟩] [[], [0], [], [], [3], [2, 4], [5], [], [7], [6, 8], [9], [1, 10], [0, 1, 2, 3, 4, 5, 6, 7, 8, 9, 10, 11], [12, 11, 11, 0, 1, 2, 3, 4, 5, 6, 7, 8, 9, 10, 11]]))) (.ops [⟨(some 174), none, (.v (.bin .add (.t 157) (.c (.int .i64 1))))⟩, ⟨(some 157), none, (.v (.mv (.t 174)))⟩]))))
def a17 : AC := (.seq (.ops [⟨(some 1), none, (.e (.box 1 0 (.t 0)))⟩, ⟨(some 2), none, (.e (.alloc 2 [.cap0, .cap0, .cap0, .cap0, .cap0]))⟩, ⟨(some 3), none, (.v (.mv (.c .cap0)))⟩]) (.seq (.ops [⟨(some 18), none, (.v (.fld 0 (.t 1)))⟩, ⟨(some 19), none, (.v (.load 1 false (.t 18)))⟩, ⟨(some 20), none, (.v (.len (.t 19)))⟩, ⟨(some 21), none, (.v (.bin .add (.c (.int .i64 1)) (.t 20)))⟩, ⟨(some 22), none, (.v (.fld 2 (.t 1)))⟩, ⟨(some 23), none, (.v (.load 1 false (.t 22)))⟩, ⟨(some 24), none, (.v (.len (.t 23)))⟩, ⟨(some 25), none, (.v (.bin .add (.t 21) (.t 24)))⟩, ⟨(some 4), none, (.v (.mv (.t 25)))⟩]) (.seq (.ops [⟨(some 5), none, (.v (.mv (.c .cap0)))⟩]) (.seq (.seq (.ops [⟨(some 26), none, (.v (.mv (.t 4)))⟩, ⟨(some 27), none, (.v (.mv (.c (.int .i64 0))))⟩]) (.block 0 (.loop a17_0))) (.seq (.ops [⟨(some 7), none, (.v (.mv (.c .cap0)))⟩]) (.seq (.seq (.ops [⟨(some 37), none, (.v (.fld 3 (.t 1)))⟩, ⟨(some 38), none, (.v (.load 1 false (.t 37)))⟩, ⟨(some 39), none, (.v (.len (.t 38)))⟩, ⟨(some 40), none, (.v (.mv (.c (.int .i64 0))))⟩]) (.block 2 (.loop a17_1))) (.seq (.ops [⟨(some 120), none, (.v (.fld 0 (.t 1)))⟩, ⟨(some 121), none, (.v (.load 1 false (.t 120)))⟩, ⟨(some 122), none, (.v (.fld 1 (.t 1)))⟩, ⟨(some 123), none, (.v (.load 1 false (.t 122)))⟩, ⟨(some 124), none, (.v (.mv (.t 7)))⟩, ⟨(some 125), none, (.v (.build [.cap0, .cap0, .cap0, .cap0, .cap0] [(0, (1, (.t 121))), (1, (1, (.t 123))), (3, (1, (.t 124)))]))⟩, ⟨(some 13), none, (.e (.alloc 13 [.cap0, .cap0, .cap0, .cap0, .cap0]))⟩, ⟨none, none, (.e (.store 5 (.t 13) (.t 125)))⟩]) (.seq (.seq (.ops [⟨(some 126), none, (.v (.fld 2 (.t 1)))⟩, ⟨(some 127), none, (.v (.load 1 false (.t 126)))⟩, ⟨(some 128), none, (.v (.len (.t 127)))⟩, ⟨(some 129), none, (.v (.mv (.c (.int .i64 0))))⟩]) (.block 5 (.loop a17_2))) (.seq (.seq (.ops [⟨(some 154), none, (.v (.fld 4 (.t 1)))⟩, ⟨(some 155), none, (.v (.load 1 false (.t 154)))⟩, ⟨(some 156), none, (.v (.len (.t 155)))⟩, ⟨(some 157), none, (.v (.mv (.c (.int .i64 0))))⟩]) (.block 7 (.loop a17_3))) (.seq (.ops [⟨(some 175), none, (.v (.load 5 true (.t 13)))⟩, ⟨(some 176), none, (.v (.mv (.t 5)))⟩, ⟨none, none, (.e (.store 5 (.t 2) (.t 175)))⟩, ⟨(some 3), none, (.v (.mv (.t 176)))⟩]) .ret))))))))))
def r17 : List AI := [(.load 5 true (.t 2)), (.mv (.t 3))]
theorem f17 : Fn PP 17 1 a17 r17 := Fn.of (fn := Go.Proofs.Try.f17) (by kernel_rfl) (by kernel_rfl) (by kernel_rfl)
def a50_0 : AC := (.seq (.ops [⟨(some 9), none, (.v (.bin .lss (.t 8) (.t 7)))⟩]) (.seq (.cond (.t 9) .skip (.exit 0)) (.seq (.block 1 (.seq (.ops [⟨(some 10), none, (.v (.mv (.t 8)))⟩, ⟨(some 5), none, (.v (.mv (.t 10)))⟩]) (.seq (.any [⟨(some 11), none, (.v (.load 2 true (.t 3)))⟩, ⟨(some 12), none, (.v (.mv (.t 0)))⟩, ⟨(some 13), none, (.v (.mv (.t 5)))⟩, ⟨(some 14), none, (.v (.idx 2 (.t 12) (.t 13)))⟩, ⟨(some 15), none, (.v (.load 2 true (.t 14)))⟩, ⟨(some 16), none, (.v (.aeq [.int, .int] false (.t 11) (.t 15)))⟩] [[], [], [], [1, 2], [3], [0, 4]]) (.cond (.t 16) (.seq (.ops [⟨(some 17), none, (.v (.mv (.t 5)))⟩, ⟨(some 4), none, (.v (.mv (.t 17)))⟩]) .ret) .skip)))) (.ops [⟨(some 18), none, (.v (.bin .add (.t 8) (.c (.int .i64 1))))⟩, ⟨(some 8), none, (.v (.mv (.t 18)))⟩]))))
def a50 : AC := (.seq (.ops [⟨(some 3), none, (.e (.box 3 0 (.t 1)))⟩, ⟨(some 4), none, (.v (.mv (.c (.int .i64 0))))⟩]) (.seq (.seq (.ops [⟨(some 6), none, (.v (.mv (.t 0)))⟩, ⟨(some 7), none, (.v (.len (.t 6)))⟩, ⟨(some 8), none, (.v (.mv (.c (.int .i64 0))))⟩]) (.block 0 (.loop a50_0))) (.seq (.ops [⟨(some 4), none, (.v (.mv (.c (.int .i64 (-1)))))⟩]) .ret)))
def r50 : List AI := [(.mv (.t 4))]
theorem f50 : Fn PP 50 2 a50 r50 := Fn.of (fn := Go.Proofs.Try.f50) (by kernel_rfl) (by kernel_rfl) (by kernel_rfl)
theorem p50 (n : Nat) (A B : Nat → Int) (f : Nat → AV) (hf : ∀ i, i < n → f i = .agg [.int .i64 (A i), .int .i64 (B i)]) (hn : n ≤ 1048576) (a b : Int) :
    Pure PP 50 [.fs n f, .agg [.int .i64 a, .int .i64 b]] fun r => r = .int .i64 (if find2 A B a b n < n then (find2 A B a b n : Nat) else -1) := by
  refine Fn.pure fmix f50 ?_
  unfold a50 r50
  simp -implicitDefEqProofs only [vqa, Nat.reduceEqDiff, Nat.reduceAdd, reduceIte, Nat.reduceLeDiff, Nat.reduceBEq, Nat.reduceLT, Nat.reduceSub, Int.reduceLT, Int.reduceLE, Int.reduceEq, Int.reduceToNat, Nat.reduceMul, eq_self, implies_true, forall_const]
  generalize (mem0 3).ver + 1 = V3
  refine vFor n (fun i e m => e 0 = .fs n f ∧ e 3 = .ptr 3 V3 0 ∧ m 3 = .var V3 [.int .i64 a, .int .i64 b] ∧ e 7 = .int .i64 n ∧ e 8 = .int .i64 i ∧ find2 A B a b i = i) ?_ ?_ ?_
  · simp -implicitDefEqProofs only [vqa, Nat.reduceEqDiff, Nat.reduceAdd, reduceIte, Nat.reduceLeDiff, Nat.reduceBEq, Nat.reduceLT, Nat.reduceSub, Int.reduceLT, Int.reduceLE, Int.reduceEq, Int.reduceToNat, Nat.reduceMul, eq_self, implies_true, forall_const]
    rfl
  · rintro i e m hi hi' ⟨h0, h3, m3, h7, h8, hs⟩
    unfold a50_0
    simp -implicitDefEqProofs only [vqa, Nat.reduceEqDiff, Nat.reduceAdd, reduceIte, Nat.reduceLeDiff, Nat.reduceBEq, Nat.reduceLT, Nat.reduceSub, Int.reduceLT, Int.reduceLE, Int.reduceEq, Int.reduceToNat, Nat.reduceMul, eq_self, implies_true, forall_const, h0, h3, m3, h7, h8, hi']
    refine vAny [0, 1, 2, 3, 4, 5] 6 allL (by kernel_rfl) (by kernel_rfl) ?_
    simp -implicitDefEqProofs only [vqa, Nat.reduceEqDiff, Nat.reduceAdd, reduceIte, Nat.reduceLeDiff, Nat.reduceBEq, Nat.reduceLT, Nat.reduceSub, Int.reduceLT, Int.reduceLE, Int.reduceEq, Int.reduceToNat, Nat.reduceMul, eq_self, implies_true, forall_const, h0, h3, m3, h7, h8, hf i hi]
    have hstop : ∀ k, A i = a → B i = b → i < k → find2 A B a b k = i := fun k h1 h2 => by
      induction k with
      | zero => intro h; omega
      | succ k ih =>
        intro hk
        unfold find2
        by_cases e : i = k
        · subst e; rw [if_neg (by omega), if_pos ⟨h1, h2⟩]
        · rw [ih (by omega), if_pos (by omega)]
    refine ⟨by omega, ?_⟩
    rw [← Bool.decide_and]
    simp -implicitDefEqProofs only [vqa, Nat.reduceEqDiff, Nat.reduceAdd, reduceIte, Nat.reduceLeDiff, Nat.reduceBEq, Nat.reduceLT, Nat.reduceSub, Int.reduceLT, Int.reduceLE, Int.reduceEq, Int.reduceToNat, Nat.reduceMul, eq_self, implies_true, forall_const, h0, h3, m3, h7, h8]
    refine ⟨fun k => ?_, fun k => ⟨hi, wI (by omega) (by omega), ?_⟩⟩
    · rw [hstop n k.1.symm k.2.symm hi, if_pos hi]
    · unfold find2
      rw [hs, if_neg (by omega), if_neg (fun q => k ⟨q.1.symm, q.2.symm⟩)]
  · rintro e m ⟨h0, h3, m3, h7, h8, hs⟩
    unfold a50_0
    simp -implicitDefEqProofs only [vqa, Nat.reduceEqDiff, Nat.reduceAdd, reduceIte, Nat.reduceLeDiff, Nat.reduceBEq, Nat.reduceLT, Nat.reduceSub, Int.reduceLT, Int.reduceLE, Int.reduceEq, Int.reduceToNat, Nat.reduceMul, eq_self, implies_true, forall_const, h0, h3, m3, h7, h8]
    rw [hs, if_neg (by omega)]

theorem x1_swap {a b : Int} (ha : 0 ≤ a) (ha' : a ≤ 4194304) (hb : 0 ≤ b) (hb' : b ≤ 4194304) : x1 a = b ↔ a = x1 b := by
  rw [x1_val ha (by omega), x1_val hb (by omega)]
  constructor
  · intro h
    split at h <;> split <;> omega
  · intro h
    split at h <;> split <;> omega
def mnL (x y : Int) : Int := if y < x then y else x
def mxL2 (x y : Int) : Int := if y > x then y else x
theorem hs_step {G : Gra} (gd : G.Good) {i : Nat} (hi : i < G.na) (a b : Int) (ha : a = mvL (hs G i).2 (G.A i)) (hb : b = mvL (hs G i).2 (G.B i)) :
    (hs G i).1.bef (mnL a b) ∧ (hs G i).1.bef (mxL2 a b) ∧ (hs G (i + 1)).1 = ((hs G i).1.andS (mnL a b) (mxL2 a b)).2.2 ∧ (hs G (i + 1)).2 = fun k => if k = G.base + i then ((hs G i).1.andS (mnL a b) (mxL2 a b)).1 else (hs G i).2 k := by
  have h := hs_inv gd i (by omega)
  have b1 := gd.ni; have b2 := gd.nr; have b3 := gd.na
  have hB := nodes_eq h.ni h.nr
  have hN : (hs G i).1.nodes ≤ 1048576 := by
    have := h.n
    show (hs G i).1.base + (hs G i).1.n ≤ _
    rw [hB]
    have hb : G.base = 1 + G.ni + G.nr := rfl
    omega
  have ha0 : (hs G i).1.bef a := by rw [ha]; exact bef_bit hN (h.to _ (ndx_lt (gd.A i (by omega)))) (by omega)
  have hb0 : (hs G i).1.bef b := by rw [hb]; exact bef_bit hN (h.to _ (ndx_lt (gd.B i (by omega)))) (by omega)
  have key : (hs G i).1.andF a b = (((hs G i).1.andS (mnL a b) (mxL2 a b)).1, ((hs G i).1.andS (mnL a b) (mxL2 a b)).2.2) := by
    unfold Mak.andF
    rw [if_pos ⟨ha0, hb0⟩]
    rfl
  refine ⟨by unfold mnL; split <;> assumption, by unfold mxL2; split <;> assumption, ?_, ?_⟩
  · show ((hs G i).1.andF (mvL (hs G i).2 (G.A i)) (mvL (hs G i).2 (G.B i))).2 = _
    rw [← ha, ← hb, key]
  · show (fun k => if k = G.base + i then ((hs G i).1.andF (mvL (hs G i).2 (G.A i)) (mvL (hs G i).2 (G.B i))).1 else (hs G i).2 k) = _
    rw [← ha, ← hb, key]

def ndM (M : Mak) (j : Nat) : AV := .agg [.int .i64 (M.A j), .int .i64 (M.B j)]

theorem p17 {G : Gra} {cs : List AV} (hG : GraC cs G) (ok : G.Ok) (gd : G.Good) : Pure PP 17 [.agg cs] fun r => ∃ ds f, r = .tup [.agg ds, .fs G.nodes f] ∧ GraC ds (strG G) ∧ ∀ k, k < G.nodes → f k = .int .i64 ((hs G G.na).2 k) := by
  have hG0 := hG
  obtain ⟨f0, f1, f2, f3, f4, rfl, g0, g1, g2, g3, g4⟩ := hG
  have b1 := gd.ni; have b2 := gd.nr; have b3 := gd.na; have b4 := gd.no; have b5 := gd.nk
  have hbE : G.base = 1 + G.ni + G.nr := rfl
  have hnE : G.nodes = G.base + G.na := rfl
  have wb : IntKind.i64.wrap (IntKind.i64.wrap (1 + (G.ni : Int)) + (G.nr : Int)) = (G.base : Nat) := by
    rw [wI (n := 1 + (G.ni : Int)) (by omega) (by omega), wI (by omega) (by omega)]; omega
  refine Fn.pure fmix f17 ?_
  unfold a17 r17
  simp -implicitDefEqProofs only [vqa, Nat.reduceEqDiff, Nat.reduceAdd, reduceIte, Nat.reduceLeDiff, Nat.reduceBEq, Nat.reduceLT, Nat.reduceSub, Int.reduceLT, Int.reduceLE, Int.reduceEq, Int.reduceToNat, Nat.reduceMul, eq_self, implies_true, forall_const, wb]
  generalize (mem0 1).ver + 1 = V1
  generalize (mem0 2).ver + 1 = V2
  refine vFor G.base (fun i e m => e 1 = .ptr 1 V1 0 ∧ m 1 = .var V1 [.fs G.ni f0, .fs G.no f1, .fs G.nr f2, .fs G.na f3, .fs G.nk f4] ∧ e 2 = .ptr 2 V2 0 ∧ m 2 = .var V2 [.cap0, .cap0, .cap0, .cap0, .cap0] ∧ e 3 = .cap0 ∧ e 4 = .int .i64 (G.base : Nat) ∧ e 26 = .int .i64 (G.base : Nat) ∧ e 27 = .int .i64 i ∧ Acc 35 35 1 i (fun k a => a = .int .i64 (2 * (k : Int))) (e 5) m) ?_ ?_ ?_
  · simp -implicitDefEqProofs only [vqa, Nat.reduceEqDiff, Nat.reduceAdd, reduceIte, Nat.reduceLeDiff, Nat.reduceBEq, Nat.reduceLT, Nat.reduceSub, Int.reduceLT, Int.reduceLE, Int.reduceEq, Int.reduceToNat, Nat.reduceMul, eq_self, implies_true, forall_const]
    exact .none
  · rintro i e m hi hi' ⟨h1, m1, h2, m2, h3, h4, h26, h27, hA⟩
    have w2 : IntKind.i64.wrap ((i : Int) + (i : Nat)) = 2 * (i : Int) := by rw [wI (by omega) (by omega)]; omega
    unfold a17_0
    rcases hA with ⟨hzz, h5⟩ | ⟨V, g, h5, m35, hg⟩
    · simp -implicitDefEqProofs only [vqa, Nat.reduceEqDiff, Nat.reduceAdd, reduceIte, Nat.reduceLeDiff, Nat.reduceBEq, Nat.reduceLT, Nat.reduceSub, Int.reduceLT, Int.reduceLE, Int.reduceEq, Int.reduceToNat, Nat.reduceMul, eq_self, implies_true, forall_const, h1, m1, h2, m2, h3, h4, h5, h26, h27, hi', w2]
      subst hzz
      exact ⟨hi, wI (by omega) (by omega), .first (p := fun k a => a = .int .i64 (2 * (k : Int))) rfl⟩
    · simp -implicitDefEqProofs only [vqa, Nat.reduceEqDiff, Nat.reduceAdd, reduceIte, Nat.reduceLeDiff, Nat.reduceBEq, Nat.reduceLT, Nat.reduceSub, Int.reduceLT, Int.reduceLE, Int.reduceEq, Int.reduceToNat, Nat.reduceMul, eq_self, implies_true, forall_const, h1, m1, h2, m2, h3, h4, h5, h26, h27, hi', w2, m35]
      exact ⟨⟨by omega, by omega⟩, hi, wI (by omega) (by omega), .push (p := fun k a => a = .int .i64 (2 * (k : Int))) hg rfl⟩
  · rintro e m ⟨h1, m1, h2, m2, h3, h4, h26, h27, hA⟩
    unfold a17_0
    rcases hA with ⟨hzz, h5⟩ | ⟨V, g, h5, m35, hg⟩
    · omega
    simp -implicitDefEqProofs only [vqa, Nat.reduceEqDiff, Nat.reduceAdd, reduceIte, Nat.reduceLeDiff, Nat.reduceBEq, Nat.reduceLT, Nat.reduceSub, Int.reduceLT, Int.reduceLE, Int.reduceEq, Int.reduceToNat, Nat.reduceMul, eq_self, implies_true, forall_const, h1, m1, h2, m2, h3, h4, h5, h26, h27]
    refine vFor G.na (fun i e m => e 1 = .ptr 1 V1 0 ∧ m 1 = .var V1 [.fs G.ni f0, .fs G.no f1, .fs G.nr f2, .fs G.na f3, .fs G.nk f4] ∧ e 2 = .ptr 2 V2 0 ∧ m 2 = .var V2 [.cap0, .cap0, .cap0, .cap0, .cap0] ∧ e 3 = .cap0 ∧ e 4 = .int .i64 (G.base : Nat) ∧ e 38 = .fs G.na f3 ∧ e 39 = .int .i64 G.na ∧ e 40 = .int .i64 i ∧ (∃ V g, e 5 = .sl 35 V (G.base + i) ∧ m 35 = .row V 35 1 (G.base + i) g ∧ ∀ k, k < G.base + i → g k = .int .i64 ((hs G i).2 k)) ∧ Acc 79 103 2 (hs G i).1.n (fun k a => a = ndM (hs G i).1 k) (e 7) m) ?_ ?_ ?_
    · simp -implicitDefEqProofs only [vqa, Nat.reduceEqDiff, Nat.reduceAdd, reduceIte, Nat.reduceLeDiff, Nat.reduceBEq, Nat.reduceLT, Nat.reduceSub, Int.reduceLT, Int.reduceLE, Int.reduceEq, Int.reduceToNat, Nat.reduceMul, eq_self, implies_true, forall_const, h1, m1, h2, m2, h3, h4, h5]
      exact ⟨⟨_, _, rfl, m35, hg⟩, .none⟩
    · rintro i e m hi hi' ⟨h1, m1, h2, m2, h3, h4, h38, h39, h40, ⟨V, g, h5, m35, hg⟩, hA⟩
      have hI := hs_inv gd i (by omega)
      have hMb := nodes_eq hI.ni hI.nr
      have hMn := hI.n
      have okA := gd.A i hi
      have okB := gd.B i hi
      have lA := ndx_lt okA
      have lB := ndx_lt okB
      have wA := ndx_shr okA
      have wB := ndx_shr okB
      have xA := and_one okA.1 (show G.A i ≤ 9223372036854775807 by have := okA.2; omega)
      have xB := and_one okB.1 (show G.B i ≤ 9223372036854775807 by have := okB.2; omega)
      have q1 : ∀ (m : Mem), restr (twoL 9 35) m 9 = m 9 := fun _ => restr_two1
      have q2 : ∀ (m : Mem), restr (twoL 9 35) m 35 = m 35 := fun _ => restr_two2
      unfold a17_1
      simp -implicitDefEqProofs only [vqa, Nat.reduceEqDiff, Nat.reduceAdd, reduceIte, Nat.reduceLeDiff, Nat.reduceBEq, Nat.reduceLT, Nat.reduceSub, Int.reduceLT, Int.reduceLE, Int.reduceEq, Int.reduceToNat, Nat.reduceMul, eq_self, implies_true, forall_const, h1, m1, h2, m2, h3, h4, h5, m35, h38, h39, h40, hi', g3 i hi]
      refine ⟨by omega, ?_⟩
      generalize ha : mvL (hs G i).2 (G.A i) = a
      generalize hb : mvL (hs G i).2 (G.B i) = b
      have ha' : bitop .xor .i64 ((hs G i).2 (ndx (G.A i))) (G.A i % 2) = a := ha
      have hb' : bitop .xor .i64 ((hs G i).2 (ndx (G.B i))) (G.B i % 2) = b := hb
      obtain ⟨bn, bx, st1, st2⟩ := hs_step gd hi a b ha.symm hb.symm
      refine seq_join (fun e m => e 1 = .ptr 1 V1 0 ∧ m 1 = .var V1 [.fs G.ni f0, .fs G.no f1, .fs G.nr f2, .fs G.na f3, .fs G.nk f4] ∧ e 2 = .ptr 2 V2 0 ∧ m 2 = .var V2 [.cap0, .cap0, .cap0, .cap0, .cap0] ∧ e 3 = .cap0 ∧ e 4 = .int .i64 (G.base : Nat) ∧ e 38 = .fs G.na f3 ∧ e 39 = .int .i64 G.na ∧ e 40 = .int .i64 i ∧ e 5 = .sl 35 V (G.base + i) ∧ m 35 = .row V 35 1 (G.base + i) g ∧ Acc 79 103 2 (hs G i).1.n (fun k a => a = ndM (hs G i).1 k) (e 7) m ∧ e 10 = .int .i64 a ∧ e 11 = .int .i64 b) ?_ ?_
      · refine vAny [0, 1, 2, 3, 4, 5, 6, 7, 8, 9, 10, 11, 12, 13, 14, 15, 16, 17, 18, 19, 20, 21] 22 (twoL 9 35) (by kernel_rfl) (by kernel_rfl) ?_
        simp -implicitDefEqProofs only [vqa, Nat.reduceEqDiff, Nat.reduceAdd, reduceIte, Nat.reduceLeDiff, Nat.reduceBEq, Nat.reduceLT, Nat.reduceSub, Int.reduceLT, Int.reduceLE, Int.reduceEq, Int.reduceToNat, Nat.reduceMul, eq_self, implies_true, forall_const, joinN, h1, m1, h2, m2, h3, h4, h5, m35, h38, h39, h40, hi', q1, q2, agree_two, wA, wB, xA, xB, hg _ lA, hg _ lB, ha', hb']
        exact ⟨by omega, by omega, by omega, by omega, (hA.keep (by simp only [set_at]; rfl))⟩
      · rintro e m ⟨h1, m1, h2, m2, h3, h4, h38, h39, h40, h5, m35, hA, h10, h11⟩
        rw [vSeq]
        refine seq_join (fun e m => e 1 = .ptr 1 V1 0 ∧ m 1 = .var V1 [.fs G.ni f0, .fs G.no f1, .fs G.nr f2, .fs G.na f3, .fs G.nk f4] ∧ e 2 = .ptr 2 V2 0 ∧ m 2 = .var V2 [.cap0, .cap0, .cap0, .cap0, .cap0] ∧ e 3 = .cap0 ∧ e 4 = .int .i64 (G.base : Nat) ∧ e 38 = .fs G.na f3 ∧ e 39 = .int .i64 G.na ∧ e 40 = .int .i64 i ∧ e 5 = .sl 35 V (G.base + i) ∧ m 35 = .row V 35 1 (G.base + i) g ∧ Acc 79 103 2 (hs G i).1.n (fun k a => a = ndM (hs G i).1 k) (e 7) m ∧ e 10 = .int .i64 (mnL a b) ∧ e 11 = .int .i64 (mxL2 a b)) ?_ ?_
        · simp -implicitDefEqProofs only [vqa, Nat.reduceEqDiff, Nat.reduceAdd, reduceIte, Nat.reduceLeDiff, Nat.reduceBEq, Nat.reduceLT, Nat.reduceSub, Int.reduceLT, Int.reduceLE, Int.reduceEq, Int.reduceToNat, Nat.reduceMul, eq_self, implies_true, forall_const, joinN, h1, m1, h2, m2, h3, h4, h38, h39, h40, h5, m35, h10, h11, gt_iff_lt]
          refine ⟨fun k => ⟨hA, ?_, ?_⟩, fun k => ⟨hA, ?_, ?_⟩⟩
          · unfold mnL; rw [if_pos k]
          · unfold mxL2; rw [if_neg (by omega)]
          · unfold mnL; rw [if_neg k]
          · unfold mxL2
            by_cases q : b > a
            · rw [if_pos q]
            · rw [if_neg q]; omega
        · rintro e m ⟨h1, m1, h2, m2, h3, h4, h38, h39, h40, h5, m35, hA, h10, h11⟩
          generalize mnL a b = s at *
          generalize mxL2 a b = t at *
          have hMn' : (hs G i).1.n ≤ 1048576 := by omega
          have callI : ∀ (K : AV → Mem → Prop), K (.int .i64 (if (hs G i).1.idx s t < (hs G i).1.n then ((hs G i).1.idx s t : Nat) else -1)) m → CallW PP 50 [e 7, .agg [.int .i64 s, .int .i64 t]] m K := fun K hK => by
            rcases hA with ⟨hzn, h7⟩ | ⟨W, ga, h7, m79, hga⟩
            · rw [h7]
              refine CallW.sc (p50 0 (hs G i).1.A (hs G i).1.B (fun _ => .undef) (fun i hi => absurd hi (Nat.not_lt_zero _)) (by omega) s t) rfl ⟨trivial, ⟨trivial, trivial, trivial⟩, trivial⟩ fun r hr => ⟨by subst hr; rfl, ?_⟩
              subst hr
              rw [if_neg (by omega)]
              rw [if_neg (by omega)] at hK
              exact hK
            · rw [h7]
              refine CallW.sc (p50 (hs G i).1.n (hs G i).1.A (hs G i).1.B ga (fun k hk => hga k hk) hMn' s t) ?_ ?_ fun r hr => ⟨by subst hr; rfl, ?_⟩
              · simp only [rsC, rs2, rs1, rs0, vqa, Nat.reduceEqDiff, Nat.reduceAdd, reduceIte, Nat.reduceLeDiff, Nat.reduceBEq, Nat.reduceLT, Nat.reduceSub, Int.reduceLT, Int.reduceLE, Int.reduceEq, Int.reduceToNat, Nat.reduceMul, eq_self, implies_true, forall_const, m79]
              · simp only [rsC, rs2, rs1, rs0, vqa, Nat.reduceEqDiff, Nat.reduceAdd, reduceIte, Nat.reduceLeDiff, Nat.reduceBEq, Nat.reduceLT, Nat.reduceSub, Int.reduceLT, Int.reduceLE, Int.reduceEq, Int.reduceToNat, Nat.reduceMul, eq_self, implies_true, forall_const, m79]
              subst hr
              exact hK
          have hIdx : (hs G i).1.idx s t ≤ (hs G i).1.n := find2_le _ _ _ _ _
          have hNd : (hs G i).1.nodes = G.base + (hs G i).1.n := by show (hs G i).1.base + (hs G i).1.n = _; rw [hMb]
          have s0 := bn.1; have s1 := bn.2; have t0 := bx.1; have t1 := bx.2
          have sw : bitop .xor .i64 s 1 = t ↔ s = x1 t := x1_swap s0 (by omega) t0 (by omega)
          have hAnd : (hs G i).1.andS s t = if s = 0 ∨ s = x1 t then (0, true, (hs G i).1) else if s = 1 ∨ s = t then (t, true, (hs G i).1) else if (hs G i).1.idx s t < (hs G i).1.n then (2 * ((hs G i).1.base + (hs G i).1.idx s t : Nat), true, (hs G i).1) else if (hs G i).1.n = 4000 then (0, false, (hs G i).1.fail 3) else (2 * ((hs G i).1.nodes : Nat), true, (hs G i).1.push s t) := rfl
          have finT : ∀ c, ((hs G i).1.andS s t).1 = c → ∀ k, k < G.base + (i + 1) → (bif decide (k < G.base + i) then g k else [AV.int .i64 c].getD (k - (G.base + i)) .undef) = .int .i64 ((hs G (i + 1)).2 k) := fun c hc => by
            refine pushF (p := fun k => .int .i64 ((hs G (i + 1)).2 k)) (i := G.base + i) (fun k hk => ?_) ?_
            · rw [hg k hk, show (hs G (i + 1)).2 k = (hs G i).2 k by rw [st2]; exact if_neg (by omega)]
            · rw [show (hs G (i + 1)).2 (G.base + i) = ((hs G i).1.andS s t).1 by rw [st2]; exact if_pos rfl, hc]
          have finA : ∀ {m' : Mem}, ((hs G i).1.andS s t).2.2 = (hs G i).1 → Acc 79 103 2 (hs G i).1.n (fun k a => a = ndM (hs G i).1 k) (e 7) m' → Acc 79 103 2 (hs G (i + 1)).1.n (fun k a => a = ndM (hs G (i + 1)).1 k) (e 7) m' := fun h1 h2 => by
            rw [st1, h1]; exact h2
          simp -implicitDefEqProofs only [vqa, Nat.reduceEqDiff, Nat.reduceAdd, reduceIte, Nat.reduceLeDiff, Nat.reduceBEq, Nat.reduceLT, Nat.reduceSub, Int.reduceLT, Int.reduceLE, Int.reduceEq, Int.reduceToNat, Nat.reduceMul, eq_self, implies_true, forall_const, h1, m1, h2, m2, h3, h4, h38, h39, h40, h5, m35, h10, h11]
          refine callI _ ?_
          by_cases c1 : s = 0 ∨ s = x1 t
          · rw [if_pos c1] at hAnd
            by_cases c1a : s = 0
            · subst c1a
              simp -implicitDefEqProofs only [vqa, Nat.reduceEqDiff, Nat.reduceAdd, reduceIte, Nat.reduceLeDiff, Nat.reduceBEq, Nat.reduceLT, Nat.reduceSub, Int.reduceLT, Int.reduceLE, Int.reduceEq, Int.reduceToNat, Nat.reduceMul, eq_self, implies_true, forall_const, h1, m1, h2, m2, h3, h4, h38, h39, h40, h5, m35, h10, h11]
              exact ⟨⟨by omega, by omega⟩, hi, wI (by omega) (by omega), ⟨_, _, rfl, rfl, finT _ (by rw [hAnd])⟩, finA (by rw [hAnd]) (hA.keep (by simp only [set_at]; rfl))⟩
            · have c1b := sw.2 (c1.resolve_left c1a)
              simp -implicitDefEqProofs only [vqa, Nat.reduceEqDiff, Nat.reduceAdd, reduceIte, Nat.reduceLeDiff, Nat.reduceBEq, Nat.reduceLT, Nat.reduceSub, Int.reduceLT, Int.reduceLE, Int.reduceEq, Int.reduceToNat, Nat.reduceMul, eq_self, implies_true, forall_const, h1, m1, h2, m2, h3, h4, h38, h39, h40, h5, m35, h10, h11, c1a, c1b]
              exact ⟨⟨by omega, by omega⟩, hi, wI (by omega) (by omega), ⟨_, _, rfl, rfl, finT _ (by rw [hAnd])⟩, finA (by rw [hAnd]) (hA.keep (by simp only [set_at]; rfl))⟩
          · rw [if_neg c1] at hAnd
            have c1a : ¬ s = 0 := fun h => c1 (.inl h)
            have c1b : ¬ bitop .xor .i64 s 1 = t := fun h => c1 (.inr (sw.1 h))
            by_cases c2 : s = 1 ∨ s = t
            · rw [if_pos c2] at hAnd
              by_cases c2a : s = 1
              · simp -implicitDefEqProofs only [vqa, Nat.reduceEqDiff, Nat.reduceAdd, reduceIte, Nat.reduceLeDiff, Nat.reduceBEq, Nat.reduceLT, Nat.reduceSub, Int.reduceLT, Int.reduceLE, Int.reduceEq, Int.reduceToNat, Nat.reduceMul, eq_self, implies_true, forall_const, h1, m1, h2, m2, h3, h4, h38, h39, h40, h5, m35, h10, h11, c1a, c1b, eq_true c2a]
                exact ⟨⟨by omega, by omega⟩, hi, wI (by omega) (by omega), ⟨_, _, rfl, rfl, finT _ (by rw [hAnd])⟩, finA (by rw [hAnd]) (hA.keep (by simp only [set_at]; rfl))⟩
              · have c2b := c2.resolve_left c2a
                simp -implicitDefEqProofs only [vqa, Nat.reduceEqDiff, Nat.reduceAdd, reduceIte, Nat.reduceLeDiff, Nat.reduceBEq, Nat.reduceLT, Nat.reduceSub, Int.reduceLT, Int.reduceLE, Int.reduceEq, Int.reduceToNat, Nat.reduceMul, eq_self, implies_true, forall_const, h1, m1, h2, m2, h3, h4, h38, h39, h40, h5, m35, h10, h11, c1a, c1b, c2a, eq_true c2b]
                exact ⟨⟨by omega, by omega⟩, hi, wI (by omega) (by omega), ⟨_, _, rfl, rfl, finT _ (by rw [hAnd])⟩, finA (by rw [hAnd]) (hA.keep (by simp only [set_at]; rfl))⟩
            · rw [if_neg c2] at hAnd
              have c2a : ¬ s = 1 := fun h => c2 (.inl h)
              have c2b : ¬ s = t := fun h => c2 (.inr h)
              by_cases c3 : (hs G i).1.idx s t < (hs G i).1.n
              · rw [if_pos c3] at hAnd
                have k0 : (0 : Int) ≤ ((hs G i).1.idx s t : Nat) := by omega
                have w1 : IntKind.i64.wrap (2 * IntKind.i64.wrap (((G.base : Nat) : Int) + ((hs G i).1.idx s t : Nat))) = 2 * ((G.base + (hs G i).1.idx s t : Nat) : Int) := by
                  rw [wI (n := ((G.base : Nat) : Int) + ((hs G i).1.idx s t : Nat)) (by omega) (by omega), wI (by omega) (by omega)]; omega
                simp -implicitDefEqProofs only [vqa, Nat.reduceEqDiff, Nat.reduceAdd, reduceIte, Nat.reduceLeDiff, Nat.reduceBEq, Nat.reduceLT, Nat.reduceSub, Int.reduceLT, Int.reduceLE, Int.reduceEq, Int.reduceToNat, Nat.reduceMul, eq_self, implies_true, forall_const, h1, m1, h2, m2, h3, h4, h38, h39, h40, h5, m35, h10, h11, c1a, c1b, c2a, c2b, c3, k0, w1]
                exact ⟨⟨by omega, by omega⟩, hi, wI (by omega) (by omega), ⟨_, _, rfl, rfl, finT _ (by rw [hAnd, hMb])⟩, finA (by rw [hAnd]) (hA.keep (by simp only [set_at]; rfl))⟩
              · rw [if_neg c3, if_neg (by omega)] at hAnd
                simp -implicitDefEqProofs only [vqa, Nat.reduceEqDiff, Nat.reduceAdd, reduceIte, Nat.reduceLeDiff, Nat.reduceBEq, Nat.reduceLT, Nat.reduceSub, Int.reduceLT, Int.reduceLE, Int.reduceEq, Int.reduceToNat, Nat.reduceMul, eq_self, implies_true, forall_const, h1, m1, h2, m2, h3, h4, h38, h39, h40, h5, m35, h10, h11, c1a, c1b, c2a, c2b, c3]
                rcases hA with ⟨hzn, h7⟩ | ⟨W, ga, h7, m79, hga⟩
                · have w1 : IntKind.i64.wrap (2 * IntKind.i64.wrap (IntKind.i64.wrap (((G.base : Nat) : Int) + 1) - 1)) = 2 * (((hs G i).1.nodes : Nat) : Int) := by
                    rw [wI (n := ((G.base : Nat) : Int) + 1) (by omega) (by omega), wI (n := ((G.base : Nat) : Int) + 1 - 1) (by omega) (by omega), wI (by omega) (by omega)]; omega
                  simp -implicitDefEqProofs only [vqa, Nat.reduceEqDiff, Nat.reduceAdd, reduceIte, Nat.reduceLeDiff, Nat.reduceBEq, Nat.reduceLT, Nat.reduceSub, Int.reduceLT, Int.reduceLE, Int.reduceEq, Int.reduceToNat, Nat.reduceMul, eq_self, implies_true, forall_const, h1, m1, h2, m2, h3, h4, h38, h39, h40, h5, m35, h10, h11, h7, w1]
                  refine ⟨⟨by omega, by omega⟩, hi, wI (by omega) (by omega), ⟨_, _, rfl, rfl, finT _ (by rw [hAnd])⟩, ?_⟩
                  rw [st1, hAnd]
                  show Acc 79 103 2 ((hs G i).1.n + 1) (fun k a => a = ndM ((hs G i).1.push s t) k) _ _
                  have hp0 : AV.agg [.int .i64 s, .int .i64 t] = ndM ((hs G i).1.push s t) 0 := by
                    show _ = AV.agg [.int .i64 (if 0 = (hs G i).1.n then s else _), .int .i64 (if 0 = (hs G i).1.n then t else _)]
                    rw [hzn, if_pos rfl, if_pos rfl]
                  rw [hzn]
                  refine .inr ⟨_, _, rfl, rfl, fun k hk => ?_⟩
                  obtain rfl : k = 0 := by omega
                  exact hp0
                · have w1 : IntKind.i64.wrap (2 * IntKind.i64.wrap (IntKind.i64.wrap (((G.base : Nat) : Int) + (((hs G i).1.n + 1 : Nat) : Int)) - 1)) = 2 * (((hs G i).1.nodes : Nat) : Int) := by
                    rw [wI (n := ((G.base : Nat) : Int) + (((hs G i).1.n + 1 : Nat) : Int)) (by omega) (by omega), wI (n := ((G.base : Nat) : Int) + (((hs G i).1.n + 1 : Nat) : Int) - 1) (by omega) (by omega), wI (by omega) (by omega)]; omega
                  simp -implicitDefEqProofs only [vqa, Nat.reduceEqDiff, Nat.reduceAdd, reduceIte, Nat.reduceLeDiff, Nat.reduceBEq, Nat.reduceLT, Nat.reduceSub, Int.reduceLT, Int.reduceLE, Int.reduceEq, Int.reduceToNat, Nat.reduceMul, eq_self, implies_true, forall_const, h1, m1, h2, m2, h3, h4, h38, h39, h40, h5, m35, h10, h11, h7, m79, w1]
                  refine ⟨⟨by omega, by omega⟩, ⟨by omega, by omega⟩, hi, wI (by omega) (by omega), ⟨_, _, rfl, rfl, finT _ (by rw [hAnd])⟩, ?_⟩
                  rw [st1, hAnd]
                  show Acc 79 103 2 ((hs G i).1.n + 1) (fun k a => a = ndM ((hs G i).1.push s t) k) _ _
                  refine .inr ⟨_, _, rfl, rfl, pushF (p := ndM ((hs G i).1.push s t)) (i := (hs G i).1.n) (fun k hk => ?_) ?_⟩
                  · rw [hga k hk]
                    show AV.agg [.int .i64 ((hs G i).1.A k), .int .i64 ((hs G i).1.B k)] = AV.agg [.int .i64 (if k = (hs G i).1.n then s else _), .int .i64 (if k = (hs G i).1.n then t else _)]
                    rw [if_neg (by omega), if_neg (by omega)]
                  · show _ = AV.agg [.int .i64 (if (hs G i).1.n = (hs G i).1.n then s else _), .int .i64 (if (hs G i).1.n = (hs G i).1.n then t else _)]
                    rw [if_pos rfl, if_pos rfl]
    · rintro e m ⟨h1, m1, h2, m2, h3, h4, h38, h39, h40, ⟨V, g, h5, m35, hg⟩, hA⟩
      have hI := hs_inv gd G.na (Nat.le_refl _)
      generalize h7 : e 7 = av at hA
      have oav : av.okv = true := by rcases hA with ⟨_, rfl⟩ | ⟨_, _, rfl, _, _⟩ <;> rfl
      have cav : av.cells = [av] := by rcases hA with ⟨_, rfl⟩ | ⟨_, _, rfl, _, _⟩ <;> rfl
      have iav : av.isCell = true := by rcases hA with ⟨_, rfl⟩ | ⟨_, _, rfl, _, _⟩ <;> rfl
      unfold a17_1
      simp -implicitDefEqProofs only [vqa, Nat.reduceEqDiff, Nat.reduceAdd, reduceIte, Nat.reduceLeDiff, Nat.reduceBEq, Nat.reduceLT, Nat.reduceSub, Int.reduceLT, Int.reduceLE, Int.reduceEq, Int.reduceToNat, Nat.reduceMul, eq_self, implies_true, forall_const, h1, m1, h2, m2, h3, h4, h5, h7, h38, h39, h40, oav, cav, iav]
      generalize (m 13).ver + 1 = V13
      refine vFor G.nr (fun i e m => e 2 = .ptr 2 V2 0 ∧ m 2 = .var V2 [.cap0, .cap0, .cap0, .cap0, .cap0] ∧ e 1 = .ptr 1 V1 0 ∧ m 1 = .var V1 [.fs G.ni f0, .fs G.no f1, .fs G.nr f2, .fs G.na f3, .fs G.nk f4] ∧ e 5 = .sl 35 V (G.base + G.na) ∧ m 35 = .row V 35 1 (G.base + G.na) g ∧ Acc 79 103 2 (hs G G.na).1.n (fun k a => a = ndM (hs G G.na).1 k) av m ∧ e 13 = .ptr 13 V13 0 ∧ e 127 = .fs G.nr f2 ∧ e 128 = .int .i64 G.nr ∧ e 129 = .int .i64 i ∧ ∃ rv, m 13 = .var V13 [.fs G.ni f0, .fs G.no f1, rv, av, .cap0] ∧ Acc 151 37 3 i (fun k a => a = .agg [.str (G.reg k).name, .int .i64 (mvL (hs G G.na).2 (G.reg k).next), .bool (G.reg k).init]) rv m) ?_ ?_ ?_
      · simp -implicitDefEqProofs only [vqa, Nat.reduceEqDiff, Nat.reduceAdd, reduceIte, Nat.reduceLeDiff, Nat.reduceBEq, Nat.reduceLT, Nat.reduceSub, Int.reduceLT, Int.reduceLE, Int.reduceEq, Int.reduceToNat, Nat.reduceMul, eq_self, implies_true, forall_const, h1, m1, h2, m2, h5]
        exact ⟨m35, (hA.keep (by simp only [set_at]; rfl)), _, rfl, .none⟩
      · rintro i e m hi hi' ⟨h2, m2, h1, m1, h5, m35, hA, h13, h127, h128, h129, rv, m13, hR⟩
        have okN := gd.next i hi
        have lN := ndx_lt okN
        have wN := ndx_shr okN
        have xN := and_one okN.1 (show (G.reg i).next ≤ 9223372036854775807 by have := okN.2; omega)
        have q1 : ∀ (m : Mem), restr (threeL 13 15 35) m 13 = m 13 := fun _ => restr_three1
        have q2 : ∀ (m : Mem), restr (threeL 13 15 35) m 15 = m 15 := fun _ => restr_three2
        have q3 : ∀ (m : Mem), restr (threeL 13 15 35) m 35 = m 35 := fun _ => restr_three3
        have gN := hg _ lN
        unfold a17_2
        simp -implicitDefEqProofs only [vqa, Nat.reduceEqDiff, Nat.reduceAdd, reduceIte, Nat.reduceLeDiff, Nat.reduceBEq, Nat.reduceLT, Nat.reduceSub, Int.reduceLT, Int.reduceLE, Int.reduceEq, Int.reduceToNat, Nat.reduceMul, eq_self, implies_true, forall_const, h2, m2, h1, m1, h5, m35, h13, h127, h128, h129, m13, hi', g2 i hi, RegV.av]
        refine ⟨by omega, ?_⟩
        refine vAnyS [0, 1, 2, 3, 4, 5, 6, 7, 8, 9, 10, 11, 12, 13, 14, 15, 16, 17] [18, 19, 20] 18 (threeL 13 15 35) (by kernel_rfl) (by kernel_rfl) ?_
        rcases hR with ⟨hzr, rfl⟩ | ⟨W, ga, rfl, m151, hga⟩
        · simp -implicitDefEqProofs only [vqa, Nat.reduceEqDiff, Nat.reduceAdd, reduceIte, Nat.reduceLeDiff, Nat.reduceBEq, Nat.reduceLT, Nat.reduceSub, Int.reduceLT, Int.reduceLE, Int.reduceEq, Int.reduceToNat, Nat.reduceMul, eq_self, implies_true, forall_const, opsC, opsN, h2, m2, h1, m1, h5, m35, h13, h127, h128, h129, q1, q2, q3, agree_three, m13, wN, xN, gN]
          subst hzr
          exact ⟨⟨by omega, by omega⟩, by omega, hi, hA.keep (by simp only [set_at]; rfl), wI (by omega) (by omega), _, rfl, (Acc.first (mem := m) (p := fun k a => a = .agg [.str (G.reg k).name, .int .i64 (mvL (hs G G.na).2 (G.reg k).next), .bool (G.reg k).init]) rfl).keep rfl⟩
        · simp -implicitDefEqProofs only [vqa, Nat.reduceEqDiff, Nat.reduceAdd, reduceIte, Nat.reduceLeDiff, Nat.reduceBEq, Nat.reduceLT, Nat.reduceSub, Int.reduceLT, Int.reduceLE, Int.reduceEq, Int.reduceToNat, Nat.reduceMul, eq_self, implies_true, forall_const, opsC, opsN, h2, m2, h1, m1, h5, m35, h13, h127, h128, h129, q1, q2, q3, agree_three, m13, wN, xN, gN, m151]
          exact ⟨⟨by omega, by omega⟩, by omega, ⟨by omega, by omega⟩, hi, hA.keep (by simp only [set_at]; rfl), wI (by omega) (by omega), _, rfl, (Acc.push (mem := m) (p := fun k a => a = .agg [.str (G.reg k).name, .int .i64 (mvL (hs G G.na).2 (G.reg k).next), .bool (G.reg k).init]) hga rfl).keep rfl⟩
      · rintro e m ⟨h2, m2, h1, m1, h5, m35, hA, h13, h127, h128, h129, rv, m13, hR⟩
        unfold a17_2
        simp -implicitDefEqProofs only [vqa, Nat.reduceEqDiff, Nat.reduceAdd, reduceIte, Nat.reduceLeDiff, Nat.reduceBEq, Nat.reduceLT, Nat.reduceSub, Int.reduceLT, Int.reduceLE, Int.reduceEq, Int.reduceToNat, Nat.reduceMul, eq_self, implies_true, forall_const, h2, m2, h1, m1, h5, m35, h13, h127, h128, h129, m13]
        refine vFor G.nk (fun i e m => e 2 = .ptr 2 V2 0 ∧ m 2 = .var V2 [.cap0, .cap0, .cap0, .cap0, .cap0] ∧ e 1 = .ptr 1 V1 0 ∧ m 1 = .var V1 [.fs G.ni f0, .fs G.no f1, .fs G.nr f2, .fs G.na f3, .fs G.nk f4] ∧ e 5 = .sl 35 V (G.base + G.na) ∧ m 35 = .row V 35 1 (G.base + G.na) g ∧ Acc 79 103 2 (hs G G.na).1.n (fun k a => a = ndM (hs G G.na).1 k) av m ∧ e 13 = .ptr 13 V13 0 ∧ e 155 = .fs G.nk f4 ∧ e 156 = .int .i64 G.nk ∧ e 157 = .int .i64 i ∧ Acc 151 37 3 G.nr (fun k a => a = .agg [.str (G.reg k).name, .int .i64 (mvL (hs G G.na).2 (G.reg k).next), .bool (G.reg k).init]) rv m ∧ ∃ lv, m 13 = .var V13 [.fs G.ni f0, .fs G.no f1, rv, av, lv] ∧ Acc 172 35 1 i (fun k a => a = .int .i64 (mvL (hs G G.na).2 (G.outs k))) lv m) ?_ ?_ ?_
        · simp -implicitDefEqProofs only [vqa, Nat.reduceEqDiff, Nat.reduceAdd, reduceIte, Nat.reduceLeDiff, Nat.reduceBEq, Nat.reduceLT, Nat.reduceSub, Int.reduceLT, Int.reduceLE, Int.reduceEq, Int.reduceToNat, Nat.reduceMul, eq_self, implies_true, forall_const, h2, m2, h1, m1, h5, m35, h13]
          exact ⟨hA, hR, _, m13, .none⟩
        · rintro i e m hi hi' ⟨h2, m2, h1, m1, h5, m35, hA, h13, h155, h156, h157, hR, lv, m13, hL⟩
          have okN := gd.outs i hi
          have lN := ndx_lt okN
          have wN := ndx_shr okN
          have xN := and_one okN.1 (show G.outs i ≤ 9223372036854775807 by have := okN.2; omega)
          have q1 : ∀ (m : Mem), restr (twoL 13 35) m 13 = m 13 := fun _ => restr_two1
          have q2 : ∀ (m : Mem), restr (twoL 13 35) m 35 = m 35 := fun _ => restr_two2
          have gN := hg _ lN
          unfold a17_3
          simp -implicitDefEqProofs only [vqa, Nat.reduceEqDiff, Nat.reduceAdd, reduceIte, Nat.reduceLeDiff, Nat.reduceBEq, Nat.reduceLT, Nat.reduceSub, Int.reduceLT, Int.reduceLE, Int.reduceEq, Int.reduceToNat, Nat.reduceMul, eq_self, implies_true, forall_const, h2, m2, h1, m1, h5, m35, h13, h155, h156, h157, m13, hi', g4 i hi]
          refine ⟨by omega, ?_⟩
          refine vAnyS [0, 1, 2, 3, 4, 5, 6, 7, 8, 9, 10] [11, 12, 13] 11 (twoL 13 35) (by kernel_rfl) (by kernel_rfl) ?_
          rcases hL with ⟨hzr, rfl⟩ | ⟨W, ga, rfl, m172, hga⟩
          · simp -implicitDefEqProofs only [vqa, Nat.reduceEqDiff, Nat.reduceAdd, reduceIte, Nat.reduceLeDiff, Nat.reduceBEq, Nat.reduceLT, Nat.reduceSub, Int.reduceLT, Int.reduceLE, Int.reduceEq, Int.reduceToNat, Nat.reduceMul, eq_self, implies_true, forall_const, opsC, opsN, h2, m2, h1, m1, h5, m35, h13, h155, h156, h157, q1, q2, agree_two, m13, wN, xN, gN]
            subst hzr
            exact ⟨⟨by omega, by omega⟩, by omega, hi, hA.keep (by simp only [set_at]; rfl), wI (by omega) (by omega), hR.keep (by simp only [set_at]; rfl), _, rfl, (Acc.first (mem := m) (p := fun k a => a = .int .i64 (mvL (hs G G.na).2 (G.outs k))) rfl).keep rfl⟩
          · simp -implicitDefEqProofs only [vqa, Nat.reduceEqDiff, Nat.reduceAdd, reduceIte, Nat.reduceLeDiff, Nat.reduceBEq, Nat.reduceLT, Nat.reduceSub, Int.reduceLT, Int.reduceLE, Int.reduceEq, Int.reduceToNat, Nat.reduceMul, eq_self, implies_true, forall_const, opsC, opsN, h2, m2, h1, m1, h5, m35, h13, h155, h156, h157, q1, q2, agree_two, m13, wN, xN, gN, m172]
            exact ⟨⟨by omega, by omega⟩, by omega, ⟨by omega, by omega⟩, hi, hA.keep (by simp only [set_at]; rfl), wI (by omega) (by omega), hR.keep (by simp only [set_at]; rfl), _, rfl, (Acc.push (mem := m) (p := fun k a => a = .int .i64 (mvL (hs G G.na).2 (G.outs k))) hga rfl).keep rfl⟩
        · rintro e m ⟨h2, m2, h1, m1, h5, m35, hA, h13, h155, h156, h157, hR, lv, m13, hL⟩
          have hroot : ∀ (ff rr ll : Nat → AV), (∀ k, k < (hs G G.na).1.n → ff k = ndM (hs G G.na).1 k) → (∀ i, i < G.nr → rr i = .agg [.str (G.reg i).name, .int .i64 (mvL (hs G G.na).2 (G.reg i).next), .bool (G.reg i).init]) → (∀ i, i < G.nk → ll i = .int .i64 (mvL (hs G G.na).2 (G.outs i))) →
            GraC [.fs G.ni f0, .fs G.no f1, .fs G.nr rr, .fs (hs G G.na).1.n ff, .fs G.nk ll] (strG G) := fun ff rr ll kf kr kl => ⟨f0, f1, rr, ff, ll, rfl, g0, g1, kr, kf, kl⟩
          unfold a17_3
          rcases hA with ⟨hzn, rfl⟩ | ⟨W, ff, rfl, m79, hff⟩ <;> rcases hR with ⟨hz1, rfl⟩ | ⟨v1, r1, rfl, mr, hr1⟩ <;> rcases hL with ⟨hz2, rfl⟩ | ⟨v2, r2, rfl, ml, hr2⟩
          · simp -implicitDefEqProofs only [vqa, Nat.reduceEqDiff, Nat.reduceAdd, reduceIte, Nat.reduceLeDiff, Nat.reduceBEq, Nat.reduceLT, Nat.reduceSub, Int.reduceLT, Int.reduceLE, Int.reduceEq, Int.reduceToNat, Nat.reduceMul, eq_self, implies_true, forall_const, h2, m2, h1, m1, h5, m35, h13, h155, h156, h157, m13]
            have hD := hroot (fun _ => .undef) (fun _ => .undef) (fun _ => .undef) (fun k hk => absurd hk (by omega)) (fun k hk => absurd hk (by omega)) (fun k hk => absurd hk (by omega))
            rw [hzn, hz1, hz2] at hD
            exact ⟨_, _, rfl, hD, hg⟩
          · simp -implicitDefEqProofs only [vqa, Nat.reduceEqDiff, Nat.reduceAdd, reduceIte, Nat.reduceLeDiff, Nat.reduceBEq, Nat.reduceLT, Nat.reduceSub, Int.reduceLT, Int.reduceLE, Int.reduceEq, Int.reduceToNat, Nat.reduceMul, eq_self, implies_true, forall_const, h2, m2, h1, m1, h5, m35, h13, h155, h156, h157, m13, ml]
            have hD := hroot (fun _ => .undef) (fun _ => .undef) r2 (fun k hk => absurd hk (by omega)) (fun k hk => absurd hk (by omega)) hr2
            rw [hzn, hz1] at hD
            exact ⟨_, _, rfl, hD, hg⟩
          · simp -implicitDefEqProofs only [vqa, Nat.reduceEqDiff, Nat.reduceAdd, reduceIte, Nat.reduceLeDiff, Nat.reduceBEq, Nat.reduceLT, Nat.reduceSub, Int.reduceLT, Int.reduceLE, Int.reduceEq, Int.reduceToNat, Nat.reduceMul, eq_self, implies_true, forall_const, h2, m2, h1, m1, h5, m35, h13, h155, h156, h157, m13, mr]
            have hD := hroot (fun _ => .undef) r1 (fun _ => .undef) (fun k hk => absurd hk (by omega)) hr1 (fun k hk => absurd hk (by omega))
            rw [hzn, hz2] at hD
            exact ⟨_, _, rfl, hD, hg⟩
          · simp -implicitDefEqProofs only [vqa, Nat.reduceEqDiff, Nat.reduceAdd, reduceIte, Nat.reduceLeDiff, Nat.reduceBEq, Nat.reduceLT, Nat.reduceSub, Int.reduceLT, Int.reduceLE, Int.reduceEq, Int.reduceToNat, Nat.reduceMul, eq_self, implies_true, forall_const, h2, m2, h1, m1, h5, m35, h13, h155, h156, h157, m13, mr, ml]
            have hD := hroot (fun _ => .undef) r1 r2 (fun k hk => absurd hk (by omega)) hr1 hr2
            rw [hzn] at hD
            exact ⟨_, _, rfl, hD, hg⟩
          · simp -implicitDefEqProofs only [vqa, Nat.reduceEqDiff, Nat.reduceAdd, reduceIte, Nat.reduceLeDiff, Nat.reduceBEq, Nat.reduceLT, Nat.reduceSub, Int.reduceLT, Int.reduceLE, Int.reduceEq, Int.reduceToNat, Nat.reduceMul, eq_self, implies_true, forall_const, h2, m2, h1, m1, h5, m35, h13, h155, h156, h157, m13, m79]
            have hD := hroot ff (fun _ => .undef) (fun _ => .undef) hff (fun k hk => absurd hk (by omega)) (fun k hk => absurd hk (by omega))
            rw [hz1, hz2] at hD
            exact ⟨_, _, rfl, hD, hg⟩
          · simp -implicitDefEqProofs only [vqa, Nat.reduceEqDiff, Nat.reduceAdd, reduceIte, Nat.reduceLeDiff, Nat.reduceBEq, Nat.reduceLT, Nat.reduceSub, Int.reduceLT, Int.reduceLE, Int.reduceEq, Int.reduceToNat, Nat.reduceMul, eq_self, implies_true, forall_const, h2, m2, h1, m1, h5, m35, h13, h155, h156, h157, m13, m79, ml]
            have hD := hroot ff (fun _ => .undef) r2 hff (fun k hk => absurd hk (by omega)) hr2
            rw [hz1] at hD
            exact ⟨_, _, rfl, hD, hg⟩
          · simp -implicitDefEqProofs only [vqa, Nat.reduceEqDiff, Nat.reduceAdd, reduceIte, Nat.reduceLeDiff, Nat.reduceBEq, Nat.reduceLT, Nat.reduceSub, Int.reduceLT, Int.reduceLE, Int.reduceEq, Int.reduceToNat, Nat.reduceMul, eq_self, implies_true, forall_const, h2, m2, h1, m1, h5, m35, h13, h155, h156, h157, m13, m79, mr]
            have hD := hroot ff r1 (fun _ => .undef) hff hr1 (fun k hk => absurd hk (by omega))
            rw [hz2] at hD
            exact ⟨_, _, rfl, hD, hg⟩
          · simp -implicitDefEqProofs only [vqa, Nat.reduceEqDiff, Nat.reduceAdd, reduceIte, Nat.reduceLeDiff, Nat.reduceBEq, Nat.reduceLT, Nat.reduceSub, Int.reduceLT, Int.reduceLE, Int.reduceEq, Int.reduceToNat, Nat.reduceMul, eq_self, implies_true, forall_const, h2, m2, h1, m1, h5, m35, h13, h155, h156, h157, m13, m79, mr, ml]
            have hD := hroot ff r1 r2 hff hr1 hr2
            exact ⟨_, _, rfl, hD, hg⟩
end Go.Ab
