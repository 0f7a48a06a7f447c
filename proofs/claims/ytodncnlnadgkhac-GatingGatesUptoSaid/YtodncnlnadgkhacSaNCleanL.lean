/- The law NetlistCleans. -/
import Derived.Test.YtodncnlnadgkhacSaPrune
import Derived.Test.YtodncnlnadgkhacSaForm
import Derived.Test.YtodncnlnadgkhacSaCopy
import Derived.Test.YtodncnlnadgkhacSaSame
set_option linter.unusedSimpArgs false
set_option linter.unusedVariables false
namespace Go.Ab
open Go
def a65_0 : AC := (.seq (.ops [⟨(some 36), none, (.v (.bin .lss (.t 35) (.t 34)))⟩]) (.seq (.cond (.t 36) .skip (.exit 0)) (.seq (.block 1 (.seq (.ops [⟨(some 37), none, (.v (.idx 1 (.t 33) (.t 35)))⟩, ⟨(some 38), none, (.v (.load 1 false (.t 37)))⟩, ⟨(some 8), none, (.v (.mv (.t 38)))⟩]) (.ops [⟨(some 39), none, (.v (.mv (.t 6)))⟩, ⟨(some 40), none, (.v (.mv (.t 8)))⟩, ⟨(some 41), none, (.v (.idx 1 (.t 39) (.t 40)))⟩, ⟨none, none, (.e (.store 1 (.t 41) (.c (.bool true))))⟩]))) (.ops [⟨(some 42), none, (.v (.bin .add (.t 35) (.c (.int .i64 1))))⟩, ⟨(some 35), none, (.v (.mv (.t 42)))⟩]))))
def a65_2 : AC := (.seq (.ops [⟨(some 67), none, (.v (.bin .lss (.t 66) (.t 65)))⟩]) (.seq (.cond (.t 67) .skip (.exit 4)) (.seq (.block 5 (.seq (.ops [⟨(some 68), none, (.v (.idx 1 (.t 64) (.t 66)))⟩, ⟨(some 69), none, (.v (.load 1 false (.t 68)))⟩, ⟨(some 12), none, (.v (.mv (.t 69)))⟩]) (.ops [⟨(some 70), none, (.v (.mv (.t 6)))⟩, ⟨(some 71), none, (.v (.mv (.t 12)))⟩, ⟨(some 72), none, (.v (.idx 1 (.t 70) (.t 71)))⟩, ⟨none, none, (.e (.store 1 (.t 72) (.c (.bool true))))⟩]))) (.ops [⟨(some 73), none, (.v (.bin .add (.t 66) (.c (.int .i64 1))))⟩, ⟨(some 66), none, (.v (.mv (.t 73)))⟩]))))
def a65_1 : AC := (.seq (.seq (.ops [⟨(some 49), none, (.v (.mv (.t 10)))⟩, ⟨(some 50), none, (.v (.bin .geq (.t 49) (.c (.int .i64 0))))⟩]) (.cond (.t 50) .skip (.exit 2))) (.seq (.block 3 (.seq (.ops [⟨(some 53), none, (.v (.mv (.t 6)))⟩, ⟨(some 54), none, (.v (.mv (.t 9)))⟩, ⟨(some 55), none, (.v (.mv (.t 10)))⟩, ⟨(some 56), none, (.v (.bin .add (.t 54) (.t 55)))⟩, ⟨(some 57), none, (.v (.idx 1 (.t 53) (.t 56)))⟩, ⟨(some 58), none, (.v (.load 1 false (.t 57)))⟩]) (.cond (.t 58) (.seq (.ops [⟨(some 59), none, (.v (.fld 3 (.t 1)))⟩, ⟨(some 60), none, (.v (.load 1 false (.t 59)))⟩, ⟨(some 61), none, (.v (.mv (.t 10)))⟩, ⟨(some 62), none, (.v (.idx 3 (.t 60) (.t 61)))⟩, ⟨(some 63), none, (.v (.fld 2 (.t 62)))⟩, ⟨(some 64), none, (.v (.load 1 false (.t 63)))⟩, ⟨(some 65), none, (.v (.len (.t 64)))⟩, ⟨(some 66), none, (.v (.mv (.c (.int .i64 0))))⟩]) (.block 4 (.loop a65_2))) .skip))) (.ops [⟨(some 51), none, (.v (.mv (.t 10)))⟩, ⟨(some 52), none, (.v (.bin .sub (.t 51) (.c (.int .i64 1))))⟩, ⟨(some 10), none, (.v (.mv (.t 52)))⟩])))
def a65_4 : AC := (.seq (.ops [⟨(some 110), none, (.v (.bin .lss (.t 109) (.t 108)))⟩]) (.seq (.cond (.t 110) .skip (.exit 9)) (.seq (.block 10 (.seq (.ops [⟨(some 111), none, (.v (.mv (.t 109)))⟩, ⟨(some 112), none, (.v (.idx 1 (.t 107) (.t 109)))⟩, ⟨(some 113), none, (.v (.load 1 false (.t 112)))⟩, ⟨(some 18), none, (.v (.mv (.t 111)))⟩, ⟨(some 19), none, (.v (.mv (.t 113)))⟩]) (.any [⟨(some 114), none, (.v (.fld 2 (.t 17)))⟩, ⟨(some 115), none, (.v (.load 1 false (.t 114)))⟩, ⟨(some 116), none, (.v (.mv (.t 18)))⟩, ⟨(some 117), none, (.v (.mv (.t 15)))⟩, ⟨(some 118), none, (.v (.mv (.t 19)))⟩, ⟨(some 119), none, (.v (.idx 1 (.t 117) (.t 118)))⟩, ⟨(some 120), none, (.v (.load 1 false (.t 119)))⟩, ⟨(some 121), none, (.v (.idx 1 (.t 115) (.t 116)))⟩, ⟨none, none, (.e (.store 1 (.t 121) (.t 120)))⟩] [[], [0], [], [], [], [3, 4], [5], [1, 2, 0, 1, 2, 3, 4, 5, 6], [7, 6, 0, 1, 2, 3, 4, 5, 6]]))) (.ops [⟨(some 122), none, (.v (.bin .add (.t 109) (.c (.int .i64 1))))⟩, ⟨(some 109), none, (.v (.mv (.t 122)))⟩]))))
def a65_3 : AC := (.seq (.ops [⟨(some 81), none, (.v (.bin .lss (.t 80) (.t 79)))⟩]) (.seq (.cond (.t 81) .skip (.exit 6)) (.seq (.block 7 (.seq (.ops [⟨(some 82), none, (.v (.mv (.t 80)))⟩, ⟨(some 16), none, (.v (.mv (.t 82)))⟩]) (.block 8 (.seq (.ops [⟨(some 87), none, (.v (.mv (.t 16)))⟩, ⟨(some 88), none, (.v (.mv (.t 9)))⟩, ⟨(some 89), none, (.v (.bin .lss (.t 87) (.t 88)))⟩, ⟨(some 86), none, (.v (.mv (.t 89)))⟩]) (.cond (.t 86) (.ops [⟨(some 90), none, (.v (.mv (.t 15)))⟩, ⟨(some 91), none, (.v (.mv (.t 16)))⟩, ⟨(some 92), none, (.e (.lit 92 3 1 1 [(.int .i64 0)] [(0, (.t 91))]))⟩, ⟨(some 93), none, (.e (.app 93 3 1 8 (.t 90) (.t 92)))⟩, ⟨(some 15), none, (.v (.mv (.t 93)))⟩]) (.seq (.ops [⟨(some 95), none, (.v (.mv (.t 6)))⟩, ⟨(some 96), none, (.v (.mv (.t 16)))⟩, ⟨(some 97), none, (.v (.idx 1 (.t 95) (.t 96)))⟩, ⟨(some 98), none, (.v (.load 1 false (.t 97)))⟩, ⟨(some 94), none, (.v (.mv (.t 98)))⟩]) (.cond (.t 94) (.seq (.ops [⟨(some 99), none, (.v (.fld 3 (.t 13)))⟩, ⟨(some 100), none, (.v (.load 1 false (.t 99)))⟩, ⟨(some 101), none, (.v (.mv (.t 16)))⟩, ⟨(some 102), none, (.v (.mv (.t 9)))⟩, ⟨(some 103), none, (.v (.bin .sub (.t 101) (.t 102)))⟩, ⟨(some 104), none, (.v (.idx 3 (.t 100) (.t 103)))⟩, ⟨(some 105), none, (.v (.load 3 true (.t 104)))⟩, ⟨(some 17), none, (.e (.alloc 17 [(.int .i64 0), (.int .u64 0), .cap0]))⟩, ⟨none, none, (.e (.store 3 (.t 17) (.t 105)))⟩]) (.seq (.seq (.ops [⟨(some 106), none, (.v (.fld 2 (.t 17)))⟩, ⟨(some 107), none, (.v (.load 1 false (.t 106)))⟩, ⟨(some 108), none, (.v (.len (.t 107)))⟩, ⟨(some 109), none, (.v (.mv (.c (.int .i64 0))))⟩]) (.block 9 (.loop a65_4))) (.seq (.ops [⟨(some 123), none, (.v (.mv (.t 15)))⟩, ⟨(some 124), none, (.v (.mv (.t 9)))⟩, ⟨(some 125), none, (.v (.fld 3 (.t 14)))⟩, ⟨(some 126), none, (.v (.load 1 false (.t 125)))⟩, ⟨(some 127), none, (.v (.len (.t 126)))⟩, ⟨(some 128), none, (.v (.bin .add (.t 124) (.t 127)))⟩, ⟨(some 129), none, (.e (.lit 129 3 1 1 [(.int .i64 0)] [(0, (.t 128))]))⟩, ⟨(some 130), none, (.e (.app 130 3 1 8 (.t 123) (.t 129)))⟩, ⟨(some 15), none, (.v (.mv (.t 130)))⟩]) (.ops [⟨(some 131), none, (.v (.fld 3 (.t 14)))⟩, ⟨(some 132), none, (.v (.load 1 false (.t 131)))⟩, ⟨(some 133), none, (.v (.load 3 true (.t 17)))⟩, ⟨(some 134), none, (.e (.lit 134 127 3 1 [(.int .i64 0), (.int .u64 0), .cap0] [(0, (.t 133))]))⟩, ⟨(some 135), none, (.e (.app 135 127 3 40 (.t 132) (.t 134)))⟩, ⟨(some 136), none, (.v (.fld 3 (.t 14)))⟩, ⟨none, none, (.e (.store 1 (.t 136) (.t 135)))⟩])))) (.ops [⟨(some 83), none, (.v (.mv (.t 15)))⟩, ⟨(some 84), none, (.e (.lit 84 3 1 1 [(.int .i64 0)] [(0, (.c (.int .i64 (-1))))]))⟩, ⟨(some 85), none, (.e (.app 85 3 1 8 (.t 83) (.t 84)))⟩, ⟨(some 15), none, (.v (.mv (.t 85)))⟩])))))))) (.ops [⟨(some 137), none, (.v (.bin .add (.t 80) (.c (.int .i64 1))))⟩, ⟨(some 80), none, (.v (.mv (.t 137)))⟩]))))
def a65_5 : AC := (.seq (.ops [⟨(some 142), none, (.v (.bin .lss (.t 141) (.t 140)))⟩]) (.seq (.cond (.t 142) .skip (.exit 11)) (.seq (.block 12 (.seq (.ops [⟨(some 143), none, (.v (.mv (.t 141)))⟩, ⟨(some 20), none, (.v (.mv (.t 143)))⟩]) (.any [⟨(some 144), none, (.v (.fld 2 (.t 14)))⟩, ⟨(some 145), none, (.v (.load 1 false (.t 144)))⟩, ⟨(some 146), none, (.v (.mv (.t 20)))⟩, ⟨(some 147), none, (.v (.fld 2 (.t 14)))⟩, ⟨(some 148), none, (.v (.load 1 false (.t 147)))⟩, ⟨(some 149), none, (.v (.mv (.t 20)))⟩, ⟨(some 150), none, (.v (.mv (.t 15)))⟩, ⟨(some 151), none, (.v (.fld 2 (.t 14)))⟩, ⟨(some 152), none, (.v (.load 1 false (.t 151)))⟩, ⟨(some 153), none, (.v (.mv (.t 20)))⟩, ⟨(some 154), none, (.v (.idx 5 (.t 152) (.t 153)))⟩, ⟨(some 155), none, (.v (.fld 2 (.t 154)))⟩, ⟨(some 156), none, (.v (.load 1 false (.t 155)))⟩, ⟨(some 157), none, (.v (.idx 1 (.t 150) (.t 156)))⟩, ⟨(some 158), none, (.v (.load 1 false (.t 157)))⟩, ⟨(some 159), none, (.v (.mv (.t 15)))⟩, ⟨(some 160), none, (.v (.fld 2 (.t 14)))⟩, ⟨(some 161), none, (.v (.load 1 false (.t 160)))⟩, ⟨(some 162), none, (.v (.mv (.t 20)))⟩, ⟨(some 163), none, (.v (.idx 5 (.t 161) (.t 162)))⟩, ⟨(some 164), none, (.v (.fld 3 (.t 163)))⟩, ⟨(some 165), none, (.v (.load 1 false (.t 164)))⟩, ⟨(some 166), none, (.v (.idx 1 (.t 159) (.t 165)))⟩, ⟨(some 167), none, (.v (.load 1 false (.t 166)))⟩, ⟨(some 168), none, (.v (.idx 5 (.t 145) (.t 146)))⟩, ⟨(some 169), none, (.v (.fld 2 (.t 168)))⟩, ⟨none, none, (.e (.store 1 (.t 169) (.t 158)))⟩, ⟨(some 170), none, (.v (.idx 5 (.t 148) (.t 149)))⟩, ⟨(some 171), none, (.v (.fld 3 (.t 170)))⟩, ⟨none, none, (.e (.store 1 (.t 171) (.t 167)))⟩] [[], [0], [], [], [3], [], [], [], [7], [], [8, 9], [10], [11], [6, 12], [13], [], [], [16], [], [17, 18], [19], [20], [15, 21], [22], [1, 2, 0, 1, 2, 6, 7, 8, 9, 10, 11, 12, 13, 14, 21, 23], [24, 0, 1, 2, 6, 7, 8, 9, 10, 11, 12, 13, 14, 21, 23], [25, 14, 0, 1, 2, 6, 7, 8, 9, 10, 11, 12, 13, 14, 21, 23], [4, 5, 0, 1, 2, 3, 4, 5, 6, 7, 8, 9, 10, 11, 12, 13, 14, 15, 16, 17, 18, 19, 20, 21, 22, 23, 24, 25, 26], [27, 0, 1, 2, 3, 4, 5, 6, 7, 8, 9, 10, 11, 12, 13, 14, 15, 16, 17, 18, 19, 20, 21, 22, 23, 24, 25, 26], [28, 23, 26, 0, 1, 2, 3, 4, 5, 6, 7, 8, 9, 10, 11, 12, 13, 14, 15, 16, 17, 18, 19, 20, 21, 22, 23, 24, 25, 26]]))) (.ops [⟨(some 172), none, (.v (.bin .add (.t 141) (.c (.int .i64 1))))⟩, ⟨(some 141), none, (.v (.mv (.t 172)))⟩]))))
def a65_6 : AC := (.seq (.ops [⟨(some 177), none, (.v (.bin .lss (.t 176) (.t 175)))⟩]) (.seq (.cond (.t 177) .skip (.exit 13)) (.seq (.block 14 (.seq (.ops [⟨(some 178), none, (.v (.mv (.t 176)))⟩, ⟨(some 179), none, (.v (.idx 1 (.t 174) (.t 176)))⟩, ⟨(some 180), none, (.v (.load 1 false (.t 179)))⟩, ⟨(some 21), none, (.v (.mv (.t 178)))⟩, ⟨(some 22), none, (.v (.mv (.t 180)))⟩]) (.any [⟨(some 181), none, (.v (.fld 4 (.t 14)))⟩, ⟨(some 182), none, (.v (.load 1 false (.t 181)))⟩, ⟨(some 183), none, (.v (.mv (.t 21)))⟩, ⟨(some 184), none, (.v (.mv (.t 15)))⟩, ⟨(some 185), none, (.v (.mv (.t 22)))⟩, ⟨(some 186), none, (.v (.idx 1 (.t 184) (.t 185)))⟩, ⟨(some 187), none, (.v (.load 1 false (.t 186)))⟩, ⟨(some 188), none, (.v (.idx 1 (.t 182) (.t 183)))⟩, ⟨none, none, (.e (.store 1 (.t 188) (.t 187)))⟩] [[], [0], [], [], [], [3, 4], [5], [1, 2, 0, 1, 2, 3, 4, 5, 6], [7, 6, 0, 1, 2, 3, 4, 5, 6]]))) (.ops [⟨(some 189), none, (.v (.bin .add (.t 176) (.c (.int .i64 1))))⟩, ⟨(some 176), none, (.v (.mv (.t 189)))⟩]))))
def a65 : AC := (.seq (.ops [⟨(some 1), none, (.e (.box 1 0 (.t 0)))⟩, ⟨(some 2), none, (.e (.alloc 2 [.cap0, .cap0, .cap0, .cap0, .cap0]))⟩, ⟨(some 3), none, (.v (.mv (.c .cap0)))⟩, ⟨(some 4), none, (.v (.mv (.c (.int .i64 0))))⟩]) (.seq (.seq (.ops [⟨(some 23), none, (.v (.load 5 true (.t 1)))⟩, ⟨(some 24), none, (.call (.c (.fn 92 [])) [(.t 23)])⟩, ⟨(some 5), none, (.v (.mv (.t 24)))⟩]) (.seq (.ops [⟨(some 25), none, (.v (.mv (.t 5)))⟩, ⟨(some 26), none, (.v (.bin .neq (.t 25) (.c (.int .i64 0))))⟩]) (.cond (.t 26) (.seq (.ops [⟨(some 27), none, (.v (.build [.cap0, .cap0, .cap0, .cap0, .cap0] []))⟩, ⟨(some 28), none, (.v (.mv (.t 5)))⟩, ⟨none, none, (.e (.store 5 (.t 2) (.t 27)))⟩, ⟨(some 3), none, (.v (.mv (.c .cap0)))⟩, ⟨(some 4), none, (.v (.mv (.t 28)))⟩]) .ret) .skip))) (.seq (.ops [⟨(some 29), none, (.v (.load 5 true (.t 1)))⟩, ⟨(some 30), none, (.call (.c (.fn 91 [])) [(.t 29)])⟩, ⟨(some 31), none, (.e (.make 31 4 1 1 [(.bool false)] (.t 30) (.t 30)))⟩, ⟨(some 6), none, (.v (.mv (.t 31)))⟩]) (.seq (.seq (.ops [⟨(some 32), none, (.v (.load 5 true (.t 1)))⟩, ⟨(some 33), none, (.call (.c (.fn 93 [])) [(.t 32)])⟩, ⟨(some 34), none, (.v (.len (.t 33)))⟩, ⟨(some 35), none, (.v (.mv (.c (.int .i64 0))))⟩]) (.block 0 (.loop a65_0))) (.seq (.ops [⟨(some 43), none, (.v (.load 5 true (.t 1)))⟩, ⟨(some 44), none, (.call (.c (.fn 94 [])) [(.t 43)])⟩, ⟨(some 9), none, (.v (.mv (.t 44)))⟩]) (.seq (.seq (.ops [⟨(some 45), none, (.v (.fld 3 (.t 1)))⟩, ⟨(some 46), none, (.v (.load 1 false (.t 45)))⟩, ⟨(some 47), none, (.v (.len (.t 46)))⟩, ⟨(some 48), none, (.v (.bin .sub (.t 47) (.c (.int .i64 1))))⟩, ⟨(some 10), none, (.v (.mv (.t 48)))⟩]) (.block 2 (.loop a65_1))) (.seq (.ops [⟨(some 74), none, (.v (.load 5 true (.t 1)))⟩, ⟨(some 75), none, (.call (.c (.fn 95 [])) [(.t 74)])⟩, ⟨(some 13), none, (.e (.alloc 13 [.cap0, .cap0, .cap0, .cap0, .cap0]))⟩, ⟨none, none, (.e (.store 5 (.t 13) (.t 75)))⟩]) (.seq (.ops [⟨(some 76), none, (.v (.load 5 true (.t 13)))⟩, ⟨(some 14), none, (.e (.alloc 14 [.cap0, .cap0, .cap0, .cap0, .cap0]))⟩, ⟨none, none, (.e (.store 5 (.t 14) (.t 76)))⟩]) (.seq (.ops [⟨(some 77), none, (.v (.fld 3 (.t 14)))⟩, ⟨none, none, (.e (.store 1 (.t 77) (.c .cap0)))⟩]) (.seq (.ops [⟨(some 15), none, (.v (.mv (.c .cap0)))⟩]) (.seq (.seq (.ops [⟨(some 78), none, (.v (.mv (.t 6)))⟩, ⟨(some 79), none, (.v (.len (.t 78)))⟩, ⟨(some 80), none, (.v (.mv (.c (.int .i64 0))))⟩]) (.block 6 (.loop a65_3))) (.seq (.seq (.ops [⟨(some 138), none, (.v (.fld 2 (.t 14)))⟩, ⟨(some 139), none, (.v (.load 1 false (.t 138)))⟩, ⟨(some 140), none, (.v (.len (.t 139)))⟩, ⟨(some 141), none, (.v (.mv (.c (.int .i64 0))))⟩]) (.block 11 (.loop a65_5))) (.seq (.seq (.ops [⟨(some 173), none, (.v (.fld 4 (.t 14)))⟩, ⟨(some 174), none, (.v (.load 1 false (.t 173)))⟩, ⟨(some 175), none, (.v (.len (.t 174)))⟩, ⟨(some 176), none, (.v (.mv (.c (.int .i64 0))))⟩]) (.block 13 (.loop a65_6))) (.seq (.ops [⟨(some 190), none, (.v (.load 5 true (.t 14)))⟩, ⟨(some 191), none, (.v (.mv (.t 15)))⟩, ⟨none, none, (.e (.store 5 (.t 2) (.t 190)))⟩, ⟨(some 3), none, (.v (.mv (.t 191)))⟩, ⟨(some 4), none, (.v (.mv (.c (.int .i64 0))))⟩]) .ret))))))))))))))
def r65 : List AI := [(.load 5 true (.t 2)), (.mv (.t 3)), (.mv (.t 4))]
theorem f65 : Fn PP 65 1 a65 r65 := Fn.of (fn := Go.Proofs.Try.f65) (by kernel_rfl) (by kernel_rfl) (by kernel_rfl)
def ClM (N : Net) (V2 V13 V14 V : Nat) (a0 a1 : Nat → AV) (xf xg xo : AV) (g : Nat → AV) (i : Nat) (yg : AV) (m : Mem) : Prop :=
  m 2 = .var V2 [.cap0, .cap0, .cap0, .cap0, .cap0] ∧ m 31 = .row V 4 1 N.nets g ∧ m 13 = .var V13 [.fs N.ni a0, .fs N.no a1, xf, xg, xo] ∧ m 14 = .var V14 [.fs N.ni a0, .fs N.no a1, xf, yg, xo] ∧ Acc 1013 129 5 N.nf (fun i a => a = (N.flop i).av) xf m ∧ Acc 1019 3 1 N.nk (fun i a => a = .int .i64 (N.outs i)) xo m ∧ ((N.ng = 0 ∧ xg = .cap0) ∨ ∃ v g, xg = .vs 1016 v N.ng ∧ m 1016 = .vrow v 127 3 N.ng g ∧ ∀ j, i ≤ N.first + j → j < N.ng → GateO N j (g j) m)
theorem ClM.keep {N : Net} {V2 V13 V14 V : Nat} {a0 a1 : Nat → AV} {xf xg xo : AV} {g : Nat → AV} {i i' : Nat} {yg : AV} {m m' : Mem} (h : ClM N V2 V13 V14 V a0 a1 xf xg xo g i yg m) (hi : i ≤ i') (hs : ∀ o, o ∈ [2, 31, 13, 14, 1013, 1016, 1019] → m' o = m o) (hj : ∀ j, i' ≤ N.first + j → m' (10000000 + j) = m (10000000 + j)) : ClM N V2 V13 V14 V a0 a1 xf xg xo g i' yg m' := by
  obtain ⟨q1, q2, q3, q4, q5, q6, q7⟩ := h
  refine ⟨(hs 2 (by simp)).trans q1, (hs 31 (by simp)).trans q2, (hs 13 (by simp)).trans q3, (hs 14 (by simp)).trans q4, q5.frame (hs 1013 (by simp)), q6.frame (hs 1019 (by simp)), ?_⟩
  rcases q7 with q7 | ⟨v, g, q8, q9, q10⟩
  · exact .inl q7
  · refine .inr ⟨v, g, q8, (hs 1016 (by simp)).trans q9, fun j hj1 hj2 => ?_⟩
    obtain ⟨y, hy, hY⟩ := q10 j (by omega) hj2
    exact ⟨y, hy, hY.frame (hj j hj1)⟩
theorem ClM.put {N : Net} {V2 V13 V14 V : Nat} {a0 a1 : Nat → AV} {xf xg xo : AV} {g : Nat → AV} {i i' : Nat} {yg yg' : AV} {m m' : Mem} (h : ClM N V2 V13 V14 V a0 a1 xf xg xo g i yg m) (hi : i ≤ i') (hs : ∀ o, o ∈ [2, 31, 13, 1013, 1016, 1019] → m' o = m o) (h14 : m' 14 = .var V14 [.fs N.ni a0, .fs N.no a1, xf, yg', xo]) (hj : ∀ j, i' ≤ N.first + j → m' (10000000 + j) = m (10000000 + j)) : ClM N V2 V13 V14 V a0 a1 xf xg xo g i' yg' m' := by
  obtain ⟨q1, q2, q3, q4, q5, q6, q7⟩ := h
  refine ⟨(hs 2 (by simp)).trans q1, (hs 31 (by simp)).trans q2, (hs 13 (by simp)).trans q3, h14, q5.frame (hs 1013 (by simp)), q6.frame (hs 1019 (by simp)), ?_⟩
  rcases q7 with q7 | ⟨v, g, q8, q9, q10⟩
  · exact .inl q7
  · refine .inr ⟨v, g, q8, (hs 1016 (by simp)).trans q9, fun j hj1 hj2 => ?_⟩
    obtain ⟨y, hy, hY⟩ := q10 j (by omega) hj2
    exact ⟨y, hy, hY.frame (hj j hj1)⟩
set_option maxHeartbeats 1000000 in
theorem p65 {N : Net} {cs : List AV} (hN : NetC cs N) (ok : N.Ok) : Pure PP 65 [.agg cs] fun r => ∃ ds n f, r = .tup [.agg ds, .fs n f, .int .i64 (formF N)] ∧ (formF N ≠ 0 → n = 0 ∧ ∃ h0 h1 h2 h3 h4, ds = [.fs 0 h0, .fs 0 h1, .fs 0 h2, .fs 0 h3, .fs 0 h4]) ∧
    (formF N = 0 → NetC ds (cleanN N (keepN N)) ∧ n = N.nets ∧ ∀ k, k < n → f k = .int .i64 (plcN N (keepN N) k)) := by
  have hN0 := hN
  have p93c := p93 hN ok
  obtain ⟨f0, f1, f2, f3, f4, rfl, g0, g1, g2, g3, g4⟩ := hN
  refine Fn.pure fmix f65 ?_
  unfold a65 r65
  simp -implicitDefEqProofs only [vqa, Nat.reduceEqDiff, Nat.reduceAdd, reduceIte, Nat.reduceLeDiff, Nat.reduceBEq, Nat.reduceLT, Nat.reduceSub, Int.reduceLT, Int.reduceLE, Int.reduceEq, Int.reduceToNat, Nat.reduceMul, eq_self, implies_true, forall_const]
  refine CallW.sc (p92 hN0 ok) rfl ⟨⟨trivial, trivial, trivial, trivial, trivial, trivial⟩, trivial⟩ fun r hr => ⟨by subst hr; rfl, ?_⟩
  subst hr
  simp -implicitDefEqProofs only [vqa, Nat.reduceEqDiff, Nat.reduceAdd, reduceIte, Nat.reduceLeDiff, Nat.reduceBEq, Nat.reduceLT, Nat.reduceSub, Int.reduceLT, Int.reduceLE, Int.reduceEq, Int.reduceToNat, Nat.reduceMul, eq_self, implies_true, forall_const]
  refine ⟨fun k1 => ⟨_, _, _, rfl, fun _ => ⟨rfl, _, _, _, _, _, rfl⟩, fun h => absurd h k1⟩, fun k1 => ?_⟩
  have hz : formF N = 0 := Classical.not_not.1 k1
  have gd := Net.good hz
  have b1 := gd.ni; have b2 := gd.nf; have b3 := gd.ng; have b4 := gd.nk; have b5 := gd.no
  have hf : N.first = 2 + N.ni + N.nf := rfl
  have hn : N.nets = N.first + N.ng := rfl
  rw [hz]
  refine CallW.sc (p91 hN0 ok) rfl ⟨⟨trivial, trivial, trivial, trivial, trivial, trivial⟩, trivial⟩ fun r hr => ⟨by subst hr; rfl, ?_⟩
  subst hr
  simp -implicitDefEqProofs only [vqa, Nat.reduceEqDiff, Nat.reduceAdd, reduceIte, Nat.reduceLeDiff, Nat.reduceBEq, Nat.reduceLT, Nat.reduceSub, Int.reduceLT, Int.reduceLE, Int.reduceEq, Int.reduceToNat, Nat.reduceMul, eq_self, implies_true, forall_const]
  refine ⟨by omega, ?_⟩
  refine CallW.fz p93c rfl rfl fun r ⟨fe, hr, hfe⟩ => ⟨by subst hr; rfl, ?_⟩
  subst hr
  simp -implicitDefEqProofs only [vqa, Nat.reduceEqDiff, Nat.reduceAdd, reduceIte, Nat.reduceLeDiff, Nat.reduceBEq, Nat.reduceLT, Nat.reduceSub, Int.reduceLT, Int.reduceLE, Int.reduceEq, Int.reduceToNat, Nat.reduceMul, eq_self, implies_true, forall_const]
  generalize (mem0 1).ver + 1 = V1
  generalize (mem0 2).ver + 1 = V2
  generalize hmd : (fun m : Mem => ∀ j : Nat, ∃ v, m (10000000 + j) = .dead v) = DD
  refine vFor (nEnd N) (fun i e m => e 1 = .ptr 1 V1 0 ∧ m 1 = .var V1 [.fs N.ni f0, .fs N.no f1, .fs N.nf f2, .fs N.ng f3, .fs N.nk f4] ∧ e 2 = .ptr 2 V2 0 ∧ m 2 = .var V2 [.cap0, .cap0, .cap0, .cap0, .cap0] ∧ e 33 = .fs (nEnd N) fe ∧ e 34 = .int .i64 (nEnd N : Nat) ∧ e 35 = .int .i64 i ∧ (∀ j : Nat, ∃ v, m (10000000 + j) = .dead v) ∧ ∃ V g, e 6 = .sl 31 V N.nets ∧ m 31 = .row V 4 1 N.nets g ∧ ∀ k, k < N.nets → g k = .bool (rootN N i k)) ?_ ?_ ?_
  · simp -implicitDefEqProofs only [vqa, Nat.reduceEqDiff, Nat.reduceAdd, reduceIte, Nat.reduceLeDiff, Nat.reduceBEq, Nat.reduceLT, Nat.reduceSub, Int.reduceLT, Int.reduceLE, Int.reduceEq, Int.reduceToNat, Nat.reduceMul, eq_self, implies_true, forall_const]
    refine ⟨rfl, rfl, fun j => ⟨0, ?_⟩, _, _, rfl, rfl, fun k hk => rfl⟩
    rw [if_neg (by omega), if_neg (by omega), if_neg (by omega)]; rfl
  · rintro i e m hi hi' ⟨h1, m1, h2, m2, h33, h34, h35, hD, V, g, h6, hm, hg⟩
    have hfi := hfe i hi
    have hel := ends_lt gd i hi
    have ee : ends N i = ((endW N i : Nat) : Int) := by unfold endW; omega
    have hll := end_lt gd hi
    have hbe : nEnd N = N.nk + 2 * N.nf := rfl
    unfold a65_0
    simp -implicitDefEqProofs only [vqa, Nat.reduceEqDiff, Nat.reduceAdd, reduceIte, Nat.reduceLeDiff, Nat.reduceBEq, Nat.reduceLT, Nat.reduceSub, Int.reduceLT, Int.reduceLE, Int.reduceEq, Int.reduceToNat, Nat.reduceMul, eq_self, implies_true, forall_const, h1, m1, h2, m2, h33, h34, h35, h6, hm, hi', hfi, ee]
    refine ⟨by omega, ⟨by omega, by omega⟩, hll, hi, wI (by omega) (by omega), fun j => ?_, _, _, rfl, rfl, fun k hk => ?_⟩
    · rw [if_neg (by omega)]; exact hD j
    · by_cases e : k = endW N i
      · simp only [e, decide_true, cond_true, rootN, Bool.or_true]
      · simp only [e, decide_false, cond_false, rootN, Bool.or_false]; exact hg k hk
  · rintro e m ⟨h1, m1, h2, m2, h33, h34, h35, hD, V, g, h6, hm, hg⟩
    unfold a65_0
    simp -implicitDefEqProofs only [vqa, Nat.reduceEqDiff, Nat.reduceAdd, reduceIte, Nat.reduceLeDiff, Nat.reduceBEq, Nat.reduceLT, Nat.reduceSub, Int.reduceLT, Int.reduceLE, Int.reduceEq, Int.reduceToNat, Nat.reduceMul, eq_self, implies_true, forall_const, h1, m1, h2, m2, h33, h34, h35, h6, hm]
    refine CallW.sc (p94 hN0 ok) rfl ⟨⟨trivial, trivial, trivial, trivial, trivial, trivial⟩, trivial⟩ fun r hr => ⟨by subst hr; rfl, ?_⟩
    subst hr
    simp -implicitDefEqProofs only [vqa, Nat.reduceEqDiff, Nat.reduceAdd, reduceIte, Nat.reduceLeDiff, Nat.reduceBEq, Nat.reduceLT, Nat.reduceSub, Int.reduceLT, Int.reduceLE, Int.reduceEq, Int.reduceToNat, Nat.reduceMul, eq_self, implies_true, forall_const, h1, m1, h2, m2, h6, hm]
    rw [wI (n := (N.ng : Int) - 1) (by omega) (by omega)]
    refine vLoop (fun q e m => ∃ d, q + d = N.ng ∧ e 1 = .ptr 1 V1 0 ∧ m 1 = .var V1 [.fs N.ni f0, .fs N.no f1, .fs N.nf f2, .fs N.ng f3, .fs N.nk f4] ∧ e 2 = .ptr 2 V2 0 ∧ m 2 = .var V2 [.cap0, .cap0, .cap0, .cap0, .cap0] ∧ e 9 = .int .i64 (N.first : Nat) ∧ e 10 = .int .i64 ((q : Int) - 1) ∧ (∀ j : Nat, ∃ v, m (10000000 + j) = .dead v) ∧ ∃ g, e 6 = .sl 31 V N.nets ∧ m 31 = .row V 4 1 N.nets g ∧ ∀ k, k < N.nets → g k = .bool (cnN N d k)) N.ng ⟨0, rfl, ?_⟩ ?_
    · simp -implicitDefEqProofs only [vqa, Nat.reduceEqDiff, Nat.reduceAdd, reduceIte, Nat.reduceLeDiff, Nat.reduceBEq, Nat.reduceLT, Nat.reduceSub, Int.reduceLT, Int.reduceLE, Int.reduceEq, Int.reduceToNat, Nat.reduceMul, eq_self, implies_true, forall_const, h1, m1, h2, m2, h6, hm]
      exact ⟨hD, _, rfl, hg⟩
    · rintro q e m ⟨d, hq, h1, m1, h2, m2, h9, h10, hD, g, h6, hm, hg⟩
      cases q with
      | zero =>
        obtain rfl : d = N.ng := by omega
        have c0 : ((0 : Nat) : Int) - 1 = -1 := rfl
        rw [c0] at h10
        unfold a65_1
        simp -implicitDefEqProofs only [vqa, Nat.reduceEqDiff, Nat.reduceAdd, reduceIte, Nat.reduceLeDiff, Nat.reduceBEq, Nat.reduceLT, Nat.reduceSub, Int.reduceLT, Int.reduceLE, Int.reduceEq, Int.reduceToNat, Nat.reduceMul, eq_self, implies_true, forall_const, h1, m1, h2, m2, h9, h10, h6, hm]
        have hkp : ∀ k, k < N.nets → g k = .bool (keepN N k) := fun k hk => by rw [hg k hk, keepN_eq (cnN_iff gd)]
        clear hg
        generalize hbb : keepN N = b at *
        refine (p95r hN0 ok 1000 (by decide) m (fun j _ => hD j)).mono fun r mc ⟨hC, hkeep⟩ => ?_
        obtain ⟨a0, a1, xf, xg, xo, rfl, ha0, ha1, hF, hG, hO⟩ := hC
        have k2 := (hkeep 2 (by decide)).trans m2
        have k31 := (hkeep 31 (by decide)).trans hm
        obtain ⟨kf1, kf2, kf3⟩ := hF.cell
        obtain ⟨ko1, ko2, ko3⟩ := hO.cell
        obtain ⟨kg1, kg2, kg3⟩ : xg.okv = true ∧ xg.cells = [xg] ∧ xg.isCell = true := by
          rcases hG with ⟨_, rfl⟩ | ⟨_, _, rfl, _, _⟩ <;> exact ⟨rfl, rfl, rfl⟩
        simp -implicitDefEqProofs only [vqa, Nat.reduceEqDiff, Nat.reduceAdd, reduceIte, Nat.reduceLeDiff, Nat.reduceBEq, Nat.reduceLT, Nat.reduceSub, Int.reduceLT, Int.reduceLE, Int.reduceEq, Int.reduceToNat, Nat.reduceMul, eq_self, implies_true, forall_const, h1, h2, h9, h10, h6, k2, k31, kf1, kf2, kf3, ko1, ko2, ko3, kg1, kg2, kg3]
        generalize (mc 13).ver + 1 = V13
        generalize (mc 14).ver + 1 = V14
        refine vFor N.nets (fun i e m => e 2 = .ptr 2 V2 0 ∧ e 6 = .sl 31 V N.nets ∧ e 9 = .int .i64 (N.first : Nat) ∧ e 13 = .ptr 13 V13 0 ∧ e 14 = .ptr 14 V14 0 ∧ e 79 = .int .i64 (N.nets : Nat) ∧ e 80 = .int .i64 i ∧ AccP [93, 130, 85] 3 1 i (fun k a => a = .int .i64 (plcN N b k)) (e 15) m ∧ ∃ yg, ClM N V2 V13 V14 V a0 a1 xf xg xo g i yg m ∧ AccP [135] 127 3 (cntN N b (i - N.first)) (fun j a => GateA (wk1 a) ((cleanN N b).gate j)) yg m) ?_ ?_ ?_
        · simp -implicitDefEqProofs only [vqa, Nat.reduceEqDiff, Nat.reduceAdd, reduceIte, Nat.reduceLeDiff, Nat.reduceBEq, Nat.reduceLT, Nat.reduceSub, Int.reduceLT, Int.reduceLE, Int.reduceEq, Int.reduceToNat, Nat.reduceMul, eq_self, implies_true, forall_const, h1, h2, h9, h10, h6, k2, k31]
          refine ⟨.inl ⟨rfl, rfl⟩, .cap0, ⟨?_, ?_, ?_, ?_, hF.frame ?_, hO.frame ?_, ?_⟩, .inl ⟨by simp [cntN], rfl⟩⟩
          · rw [set_ne (by decide), set_ne (by decide), set_ne (by decide), set_ne (by decide), set_ne (by decide)]; exact k2
          · rw [set_ne (by decide), set_ne (by decide), set_ne (by decide), set_ne (by decide), set_ne (by decide)]; exact k31
          · rw [set_ne (by decide), set_ne (by decide), set_ne (by decide), set_same]
          · rw [set_same]
          · rw [set_ne (by decide), set_ne (by decide), set_ne (by decide), set_ne (by decide), set_ne (by decide)]
          · rw [set_ne (by decide), set_ne (by decide), set_ne (by decide), set_ne (by decide), set_ne (by decide)]
          · rcases hG with hG | ⟨v, gg, q1, q2, q3⟩
            · exact .inl hG
            · refine .inr ⟨v, gg, q1, by rw [set_ne (by decide), set_ne (by decide), set_ne (by decide), set_ne (by decide), set_ne (by decide)]; exact q2, fun j _ hj => ?_⟩
              obtain ⟨y, hy, hY⟩ := q3 j hj
              exact ⟨y, hy, hY.frame (by rw [set_ne (by omega), set_ne (by omega), set_ne (by omega), set_ne (by omega), set_ne (by omega)])⟩
        · rintro i e m hi hi' ⟨h2, h6, h9, h13, h14, h79, h80, hP, yg, hC, hY⟩
          have hC0 := hC
          obtain ⟨m2, m31, m13, m14, hF, hO, hG⟩ := hC
          have hkpi := hkp i hi
          unfold a65_3
          by_cases c1 : i < N.first
          · have c1' : (i : Int) < (N.first : Nat) := by omega
            simp -implicitDefEqProofs only [vqa, Nat.reduceEqDiff, Nat.reduceAdd, reduceIte, Nat.reduceLeDiff, Nat.reduceBEq, Nat.reduceLT, Nat.reduceSub, Int.reduceLT, Int.reduceLE, Int.reduceEq, Int.reduceToNat, Nat.reduceMul, eq_self, implies_true, forall_const, h2, h6, h9, h13, h14, h79, h80, hi', c1', m2, m31, m13, m14]
            refine eL_join (fun v mm => AccP [93, 130, 85] 3 1 (i + 1) (fun k a => a = .int .i64 (plcN N b k)) v mm ∧ ∀ o, o ≠ 92 → o ≠ 93 → o ≠ 130 → o ≠ 85 → mm o = m o) ?_ fun v mm ⟨hP', hfr⟩ => ?_
            · have hv : (.int .i64 (i : Int) : AV) = .int .i64 (plcN N b i) := by unfold plcN; rw [if_pos c1]
              rcases hP with ⟨hz, hp⟩ | ⟨s', ver, gy, hs', hp, hxm, hxg, hxn⟩
              · rw [hp]
                refine ⟨_, _, _, rfl, trivial, ?_, fun o q1 q2 _ _ => ?_⟩
                · obtain rfl : i = 0 := hz
                  exact AccP.first (by simp) hv
                · rw [set_ne q2, set_ne q1]
              · have hs3 : s' = 93 ∨ s' = 130 ∨ s' = 85 := by simpa using hs'
                have h92 : s' ≠ 92 := by omega
                rw [hp]
                simp only [if_neg h92, hxm]
                refine ⟨_, _, _, rfl, ⟨trivial, Nat.le_refl _, by omega, by omega⟩, ?_, fun o q1 q2 q3 q4 => ?_⟩
                · exact AccP.push hs' hxg hv
                · rw [set_ne (by omega), set_ne q1]
            · simp -implicitDefEqProofs only [vqa, Nat.reduceEqDiff, Nat.reduceAdd, reduceIte, Nat.reduceLeDiff, Nat.reduceBEq, Nat.reduceLT, Nat.reduceSub, Int.reduceLT, Int.reduceLE, Int.reduceEq, Int.reduceToNat, Nat.reduceMul, eq_self, implies_true, forall_const, h2, h6, h9, h13, h14, h79, h80]
              refine ⟨hi, wI (by omega) (by omega), hP', yg, ?_, ?_⟩
              · refine hC0.keep (Nat.le_succ i) (fun o ho => hfr o ?_ ?_ ?_ ?_) (fun j hj => hfr _ (by omega) (by omega) (by omega) (by omega))
                all_goals (intro e; subst e; simp at ho)
              · rw [show i + 1 - N.first = i - N.first by omega]
                exact hY.keep (fun o ho => by
                  obtain rfl : o = 135 := by simpa using ho
                  exact hfr 135 (by decide) (by decide) (by decide) (by decide))
          · have c1' : ¬ (i : Int) < (N.first : Nat) := by omega
            cases hbi : b i with
            | false =>
              rw [hbi] at hkpi
              have e1 : cntN N b (i + 1 - N.first) = cntN N b (i - N.first) := by
                rw [show i + 1 - N.first = (i - N.first) + 1 by omega]
                simp only [cntN]
                rw [if_neg (by rw [show N.first + (i - N.first) = i by omega, hbi]; exact Bool.noConfusion)]
              simp -implicitDefEqProofs only [vqa, Nat.reduceEqDiff, Nat.reduceAdd, reduceIte, Nat.reduceLeDiff, Nat.reduceBEq, Nat.reduceLT, Nat.reduceSub, Int.reduceLT, Int.reduceLE, Int.reduceEq, Int.reduceToNat, Nat.reduceMul, eq_self, implies_true, forall_const, h2, h6, h9, h13, h14, h79, h80, hi', c1', m2, m31, m13, m14, hkpi]
              refine ⟨by omega, hi, ?_⟩
              refine eL_join (fun v mm => AccP [93, 130, 85] 3 1 (i + 1) (fun k a => a = .int .i64 (plcN N b k)) v mm ∧ ∀ o, o ≠ 84 → o ≠ 93 → o ≠ 130 → o ≠ 85 → mm o = m o) ?_ fun v mm ⟨hP', hfr⟩ => ?_
              · have hv : (.int .i64 (-1 : Int) : AV) = .int .i64 (plcN N b i) := by unfold plcN; rw [if_neg c1, if_neg (by rw [hbi]; exact Bool.noConfusion)]
                rcases hP with ⟨hz, hp⟩ | ⟨s', ver, gy, hs', hp, hxm, hxg, hxn⟩
                · rw [hp]
                  refine ⟨_, _, _, rfl, trivial, ?_, fun o q1 q2 q3 q4 => ?_⟩
                  · obtain rfl : i = 0 := hz
                    exact AccP.first (by simp) hv
                  · rw [set_ne q4, set_ne q1]
                · have hs3 : s' = 93 ∨ s' = 130 ∨ s' = 85 := by simpa using hs'
                  have h92 : s' ≠ 84 := by omega
                  rw [hp]
                  simp only [if_neg h92, hxm]
                  refine ⟨_, _, _, rfl, ⟨trivial, Nat.le_refl _, by omega, by omega⟩, ?_, fun o q1 q2 q3 q4 => ?_⟩
                  · exact AccP.push hs' hxg hv
                  · rw [set_ne (by omega), set_ne q1]
              simp -implicitDefEqProofs only [vqa, Nat.reduceEqDiff, Nat.reduceAdd, reduceIte, Nat.reduceLeDiff, Nat.reduceBEq, Nat.reduceLT, Nat.reduceSub, Int.reduceLT, Int.reduceLE, Int.reduceEq, Int.reduceToNat, Nat.reduceMul, eq_self, implies_true, forall_const, h2, h6, h9, h13, h14, h79, h80]
              refine ⟨hi, wI (by omega) (by omega), hP', yg, ?_, ?_⟩
              · refine hC0.keep (Nat.le_succ i) (fun o ho => hfr o ?_ ?_ ?_ ?_) (fun j hj => hfr _ (by omega) (by omega) (by omega) (by omega))
                all_goals (intro e; subst e; simp at ho)
              · rw [e1]
                exact hY.keep (fun o ho => by
                  obtain rfl : o = 135 := by simpa using ho
                  exact hfr 135 (by decide) (by decide) (by decide) (by decide))
            | true =>
              rw [hbi] at hkpi
              obtain ⟨j, rfl⟩ : ∃ j, i = N.first + j := ⟨i - N.first, by omega⟩
              have hj : j < N.ng := by omega
              obtain ⟨hzz, _⟩ | ⟨vg, gg, rfl, m1016, hgg⟩ := hG
              · omega
              obtain ⟨y, hy, hY1⟩ := hgg j (Nat.le_refl _) hj
              have w1 : IntKind.i64.wrap (((N.first + j : Nat) : Int) - (N.first : Nat)) = ((j : Nat) : Int) := by rw [wI (by omega) (by omega)]; omega
              have zl : ∀ o, o < 10000000 → (10000000 + j = o) = False := fun o ho => by simp; omega
              have zr : ∀ o, o < 10000000 → (o = 10000000 + j) = False := fun o ho => by simp; omega
              simp -implicitDefEqProofs only [vqa, Nat.reduceEqDiff, Nat.reduceAdd, reduceIte, Nat.reduceLeDiff, Nat.reduceBEq, Nat.reduceLT, Nat.reduceSub, Int.reduceLT, Int.reduceLE, Int.reduceEq, Int.reduceToNat, Nat.reduceMul, eq_self, implies_true, forall_const, h2, h6, h9, h13, h14, h79, h80, hi', c1', m2, m31, m13, m14, hkpi, w1, lenV, idxV, fldV, loadV, storeV, m1016, hy]
              obtain ⟨ky1, ky2, ky3⟩ : y.okv = true ∧ y.cells = [y] ∧ y.isCell = true := by
                rcases hY1 with ⟨rfl, _⟩ | ⟨_, _, rfl, _, _⟩ <;> exact ⟨rfl, rfl, rfl⟩
              refine ⟨by omega, by omega, ⟨by omega, by omega⟩, hj, ?_⟩
              generalize (m 17).ver + 1 = V17
              refine eL_join (fun _ mm => mm 17 = .var V17 [.int .i64 (N.gate j).cell, .int .u64 (N.gate j).table, y] ∧ ∀ o, o ≠ 17 → mm o = m o) ⟨_, _, _, by rw [ky3]; rfl, trivial, set_same _ _ _, fun o ho => by rw [set_ne ho, set_ne ho]⟩ fun _ mm ⟨mm17, hmm⟩ => ?_
              obtain ⟨hx1, _⟩ | ⟨s', pver, gp, hs', h15, hpm, hpg, hpn⟩ := hP
              · omega
              have hs3 : s' = 93 ∨ s' = 130 ∨ s' = 85 := by simpa using hs'
              have hs17 : s' ≠ 17 := by omega
              rw [lNil, seqN, vSeq]
              refine seq_join (fun e m' => e 2 = .ptr 2 V2 0 ∧ e 6 = .sl 31 V N.nets ∧ e 9 = .int .i64 (N.first : Nat) ∧ e 13 = .ptr 13 V13 0 ∧ e 14 = .ptr 14 V14 0 ∧ e 79 = .int .i64 (N.nets : Nat) ∧ e 80 = .int .i64 (N.first + j : Nat) ∧ AccP [93, 130, 85] 3 1 (N.first + j) (fun k a => a = .int .i64 (plcN N b k)) (e 15) m' ∧ e 17 = .ptr 17 V17 0 ∧ ∃ y2, m' 17 = .var V17 [.int .i64 (N.gate j).cell, .int .u64 (N.gate j).table, y2] ∧ (∀ o, o ≠ 17 → o ≠ 10000000 + j → m' o = m o) ∧ ((y2 = .cap0 ∧ (N.gate j).n = 0) ∨ ∃ v f, y2 = .sl (10000000 + j) v (N.gate j).n ∧ m' (10000000 + j) = .row v 3 1 (N.gate j).n f ∧ ∀ k, k < (N.gate j).n → f k = .int .i64 (plcN N b (pinN N j k)))) ?_ ?_
              · rcases hY1 with ⟨rfl, hz⟩ | ⟨v, f, rfl, mj, hfj⟩
                · simp -implicitDefEqProofs only [vqa, Nat.reduceEqDiff, Nat.reduceAdd, reduceIte, Nat.reduceLeDiff, Nat.reduceBEq, Nat.reduceLT, Nat.reduceSub, Int.reduceLT, Int.reduceLE, Int.reduceEq, Int.reduceToNat, Nat.reduceMul, eq_self, implies_true, forall_const, h2, h6, h9, h13, h14, h79, h80, mm17]
                  refine vFor 0 (fun t e m' => e 2 = .ptr 2 V2 0 ∧ e 6 = .sl 31 V N.nets ∧ e 9 = .int .i64 (N.first : Nat) ∧ e 13 = .ptr 13 V13 0 ∧ e 14 = .ptr 14 V14 0 ∧ e 79 = .int .i64 (N.nets : Nat) ∧ e 80 = .int .i64 (N.first + j : Nat) ∧ e 15 = .sl s' pver (N.first + j) ∧ e 17 = .ptr 17 V17 0 ∧ e 108 = .int .i64 0 ∧ e 109 = .int .i64 0 ∧ m' 17 = .var V17 [.int .i64 (N.gate j).cell, .int .u64 (N.gate j).table, .cap0] ∧ ∀ o, o ≠ 17 → m' o = m o) ?_ ?_ ?_
                  · simp -implicitDefEqProofs only [vqa, Nat.reduceEqDiff, Nat.reduceAdd, reduceIte, Nat.reduceLeDiff, Nat.reduceBEq, Nat.reduceLT, Nat.reduceSub, Int.reduceLT, Int.reduceLE, Int.reduceEq, Int.reduceToNat, Nat.reduceMul, eq_self, implies_true, forall_const, h2, h6, h9, h13, h14, h79, h80, mm17, h15]
                    exact hmm
                  · exact fun i e m hi => absurd hi (Nat.not_lt_zero _)
                  · rintro e m' ⟨h2, h6, h9, h13, h14, h79, h80, h15, h17, h108, h109, m17, hmm⟩
                    unfold a65_4
                    simp -implicitDefEqProofs only [vqa, Nat.reduceEqDiff, Nat.reduceAdd, reduceIte, Nat.reduceLeDiff, Nat.reduceBEq, Nat.reduceLT, Nat.reduceSub, Int.reduceLT, Int.reduceLE, Int.reduceEq, Int.reduceToNat, Nat.reduceMul, eq_self, implies_true, forall_const, h2, h6, h9, h13, h14, h79, h80, h15, h17, h108, h109]
                    exact ⟨.inr ⟨s', pver, gp, hs', rfl, (hmm s' hs17).trans hpm, hpg, hpn⟩, _, m17, fun o q1 _ => hmm o q1, .inl ⟨rfl, hz⟩⟩
                · simp -implicitDefEqProofs only [vqa, Nat.reduceEqDiff, Nat.reduceAdd, reduceIte, Nat.reduceLeDiff, Nat.reduceBEq, Nat.reduceLT, Nat.reduceSub, Int.reduceLT, Int.reduceLE, Int.reduceEq, Int.reduceToNat, Nat.reduceMul, eq_self, implies_true, forall_const, h2, h6, h9, h13, h14, h79, h80, mm17, hmm _ (show 10000000 + j ≠ 17 by omega), mj]
                  refine vFor (N.gate j).n (fun t e m' => e 2 = .ptr 2 V2 0 ∧ e 6 = .sl 31 V N.nets ∧ e 9 = .int .i64 (N.first : Nat) ∧ e 13 = .ptr 13 V13 0 ∧ e 14 = .ptr 14 V14 0 ∧ e 79 = .int .i64 (N.nets : Nat) ∧ e 80 = .int .i64 (N.first + j : Nat) ∧ e 15 = .sl s' pver (N.first + j) ∧ e 17 = .ptr 17 V17 0 ∧ e 107 = .sl (10000000 + j) v (N.gate j).n ∧ e 108 = .int .i64 (N.gate j).n ∧ e 109 = .int .i64 t ∧ m' 17 = .var V17 [.int .i64 (N.gate j).cell, .int .u64 (N.gate j).table, .sl (10000000 + j) v (N.gate j).n] ∧ (∀ o, o ≠ 17 → o ≠ 10000000 + j → m' o = m o) ∧ ∃ f, m' (10000000 + j) = .row v 3 1 (N.gate j).n f ∧ ∀ k, k < (N.gate j).n → f k = .int .i64 (if k < t then plcN N b (pinN N j k) else (N.gate j).ins k)) ?_ ?_ ?_
                  · simp -implicitDefEqProofs only [vqa, Nat.reduceEqDiff, Nat.reduceAdd, reduceIte, Nat.reduceLeDiff, Nat.reduceBEq, Nat.reduceLT, Nat.reduceSub, Int.reduceLT, Int.reduceLE, Int.reduceEq, Int.reduceToNat, Nat.reduceMul, eq_self, implies_true, forall_const, h2, h6, h9, h13, h14, h79, h80, mm17, h15]
                    exact ⟨fun o q1 _ => hmm o q1, f, (hmm _ (by omega)).trans mj, fun k hk => hfj k hk⟩
                  · rintro t e m' ht ht' ⟨h2, h6, h9, h13, h14, h79, h80, h15, h17, h107, h108, h109, m17, hmm, f, mf, hff⟩
                    have hft := hff t ht
                    rw [if_neg (Nat.lt_irrefl t)] at hft
                    have hge := ((gd.ins j hj).2.2 t ht).1
                    have hpl := pin_lt gd hj ht
                    have ep : (N.gate j).ins t = ((pinN N j t : Nat) : Int) := by unfold pinN; omega
                    rw [ep] at hft
                    have hin := (gd.ins j hj).1
                    have hgt := hpg (pinN N j t) (by omega)
                    have mps := (hmm s' hs17 (by omega)).trans hpm
                    have q1 : ∀ m, restr (threeL 17 s' (10000000 + j)) m 17 = m 17 := fun _ => restr_three1
                    have q2 : ∀ m, restr (threeL 17 s' (10000000 + j)) m s' = m s' := fun _ => restr_three2
                    have q3 : ∀ m, restr (threeL 17 s' (10000000 + j)) m (10000000 + j) = m (10000000 + j) := fun _ => restr_three3
                    unfold a65_4
                    simp -implicitDefEqProofs only [vqa, Nat.reduceEqDiff, Nat.reduceAdd, reduceIte, Nat.reduceLeDiff, Nat.reduceBEq, Nat.reduceLT, Nat.reduceSub, Int.reduceLT, Int.reduceLE, Int.reduceEq, Int.reduceToNat, Nat.reduceMul, eq_self, implies_true, forall_const, h2, h6, h9, h13, h14, h79, h80, h15, h17, h107, h108, h109, m17, mf, ht', hft]
                    refine ⟨by omega, ht, ?_⟩
                    refine vAny [0, 1, 2, 3, 4, 5, 6, 7, 8] 8 (threeL 17 s' (10000000 + j)) (by kernel_rfl) (by kernel_rfl) ?_
                    have e17 : (s' = 17) = False := eq_false hs17
                    have e18 : (s' = 10000000 + j) = False := eq_false (by omega)
                    have e19 : (10000000 + j = s') = False := eq_false (by omega)
                    simp -implicitDefEqProofs only [vqa, Nat.reduceEqDiff, Nat.reduceAdd, reduceIte, Nat.reduceLeDiff, Nat.reduceBEq, Nat.reduceLT, Nat.reduceSub, Int.reduceLT, Int.reduceLE, Int.reduceEq, Int.reduceToNat, Nat.reduceMul, eq_self, implies_true, forall_const, q1, q2, q3, agree_three, h2, h6, h9, h13, h14, h79, h80, h15, h17, h107, h108, h109, m17, mf, ht', hft, mps, hgt, zl, zr, e17, e18, e19]
                    refine ⟨⟨by omega, by omega⟩, by omega, by omega, ht, ht, wI (by omega) (by omega), fun o o1 o2 => ?_, _, rfl, fun k hk => ?_⟩
                    · rw [if_neg o2]; exact hmm o o1 o2
                    · by_cases e : k = t
                      · subst e
                        simp only [decide_true, cond_true]
                        rw [if_pos (Nat.lt_succ_self k)]
                      · simp only [e, decide_false, cond_false]
                        rw [hff k hk]
                        by_cases e2 : k < t
                        · rw [if_pos e2, if_pos (by omega)]
                        · rw [if_neg e2, if_neg (by omega)]
                  · rintro e m' ⟨h2, h6, h9, h13, h14, h79, h80, h15, h17, h107, h108, h109, m17, hmm, f, mf, hff⟩
                    unfold a65_4
                    simp -implicitDefEqProofs only [vqa, Nat.reduceEqDiff, Nat.reduceAdd, reduceIte, Nat.reduceLeDiff, Nat.reduceBEq, Nat.reduceLT, Nat.reduceSub, Int.reduceLT, Int.reduceLE, Int.reduceEq, Int.reduceToNat, Nat.reduceMul, eq_self, implies_true, forall_const, h2, h6, h9, h13, h14, h79, h80, h15, h17, h107, h108, h109]
                    exact ⟨.inr ⟨s', pver, gp, hs', rfl, (hmm s' hs17 (by omega)).trans hpm, hpg, hpn⟩, _, m17, hmm, .inr ⟨_, f, rfl, mf, fun k hk => by rw [hff k hk, if_pos hk]⟩⟩
              · rintro e m' ⟨h2, h6, h9, h13, h14, h79, h80, hP, h17, y2, m17, hmj, hY2⟩
                have efj : N.first + j - N.first = j := by omega
                have efj1 : N.first + j + 1 - N.first = j + 1 := by omega
                have hcl := cntN_le N b j
                rw [efj] at hY
                have eg : selN N b N.ng (cntN N b j) = j := selN_cnt hbi N.ng hj
                have e1 : cntN N b (j + 1) = cntN N b j + 1 := by
                  simp only [cntN]
                  rw [if_pos hbi]
                have m14' := (hmj 14 (by decide) (by omega)).trans m14
                have hnp : ¬ N.first + j < N.first := by omega
                have hw : IntKind.i64.wrap (((N.first : Nat) : Int) + (cntN N b j : Nat)) = ((N.first + cntN N b j : Nat) : Int) := by rw [wI (by omega) (by omega)]; omega
                have hv : (.int .i64 ((N.first + cntN N b j : Nat) : Int) : AV) = .int .i64 (plcN N b (N.first + j)) := by unfold plcN; rw [if_neg hnp, if_pos hbi, efj]
                have hfin : ∀ (mm mz : Mem) (yz : AV), (∀ o, o ≠ 129 → o ≠ 93 → o ≠ 130 → o ≠ 85 → mm o = m' o) → (∀ o, o ≠ 14 → o ≠ 135 → o ≠ 134 → o ≠ 10000000 + j → mz o = mm o) → mz 14 = .var V14 [.fs N.ni a0, .fs N.no a1, xf, yz, xo] → ClM N V2 V13 V14 V a0 a1 xf (.vs 1016 vg N.ng) xo g (N.first + j + 1) yz mz := fun mm mz yz hfr hz h14z => by
                  refine hC0.put (Nat.le_succ _) (fun o ho => ?_) h14z (fun q hq => ?_)
                  · have : o = 2 ∨ o = 31 ∨ o = 13 ∨ o = 1013 ∨ o = 1016 ∨ o = 1019 := by simpa using ho
                    rw [hz o (by omega) (by omega) (by omega) (by omega), hfr o (by omega) (by omega) (by omega) (by omega), hmj o (by omega) (by omega)]
                  · rw [hz _ (by omega) (by omega) (by omega) (by omega), hfr _ (by omega) (by omega) (by omega) (by omega), hmj _ (by omega) (by omega)]
                rcases hY with ⟨hz0, rfl⟩ | ⟨s5, ver5, gy5, hs5, rfl, m135, hxg5, hxn5⟩
                · have hw0 : IntKind.i64.wrap (((N.first : Nat) : Int) + 0) = ((N.first + cntN N b j : Nat) : Int) := by rw [hz0, wI (by omega) (by omega)]; omega
                  simp -implicitDefEqProofs only [vqa, Nat.reduceEqDiff, Nat.reduceAdd, reduceIte, Nat.reduceLeDiff, Nat.reduceBEq, Nat.reduceLT, Nat.reduceSub, Int.reduceLT, Int.reduceLE, Int.reduceEq, Int.reduceToNat, Nat.reduceMul, eq_self, implies_true, forall_const, h2, h6, h9, h13, h14, h79, h80, h17, m14', m17, hw0]
                  refine eL_join (fun v mm => AccP [93, 130, 85] 3 1 (N.first + j + 1) (fun k a => a = .int .i64 (plcN N b k)) v mm ∧ ∀ o, o ≠ 129 → o ≠ 93 → o ≠ 130 → o ≠ 85 → mm o = m' o) ?_ fun v mm ⟨hP', hfr⟩ => ?_
                  · rcases hP with ⟨hz, hp⟩ | ⟨s', ver, gy, hs', hp, hxm, hxg, hxn⟩
                    · omega
                    · have hs3 : s' = 93 ∨ s' = 130 ∨ s' = 85 := by simpa using hs'
                      have h92 : s' ≠ 129 := by omega
                      rw [hp]
                      simp only [if_neg h92, hxm]
                      refine ⟨_, _, _, rfl, ⟨trivial, Nat.le_refl _, by omega, by omega⟩, ?_, fun o q1 q2 q3 q4 => ?_⟩
                      · exact AccP.push hs' hxg hv
                      · rw [set_ne (by omega), set_ne q1]
                  have k14 := (hfr 14 (by decide) (by decide) (by decide) (by decide)).trans m14'
                  have k17 := (hfr 17 (by decide) (by decide) (by decide) (by decide)).trans m17
                  rcases hY2 with ⟨rfl, hn0⟩ | ⟨vy, fy, rfl, my, hfy⟩
                  · simp -implicitDefEqProofs only [vqa, Nat.reduceEqDiff, Nat.reduceAdd, reduceIte, Nat.reduceLeDiff, Nat.reduceBEq, Nat.reduceLT, Nat.reduceSub, Int.reduceLT, Int.reduceLE, Int.reduceEq, Int.reduceToNat, Nat.reduceMul, eq_self, implies_true, forall_const, h2, h6, h9, h13, h14, h79, h80, h17, k14, k17]
                    refine ⟨hi, wI (by omega) (by omega), ?_, _, hfin mm _ _ hfr (fun o o1 o2 o3 o4 => by rw [set_ne o1, set_ne o2, set_ne o3]) (set_same _ _ _), ?_⟩
                    · refine hP'.keep fun o ho => ?_
                      have : o = 93 ∨ o = 130 ∨ o = 85 := by simpa using ho
                      rw [set_ne (by omega), set_ne (by omega), set_ne (by omega)]
                    · rw [efj1, e1, hz0]
                      refine AccP.put (AccP.first (by simp) ?_) (by simp)
                      rw [← hz0]
                      exact gate_new0 eg hn0
                  · have ky := (hfr (10000000 + j) (by omega) (by omega) (by omega) (by omega)).trans my
                    simp -implicitDefEqProofs only [vqa, Nat.reduceEqDiff, Nat.reduceAdd, reduceIte, Nat.reduceLeDiff, Nat.reduceBEq, Nat.reduceLT, Nat.reduceSub, Int.reduceLT, Int.reduceLE, Int.reduceEq, Int.reduceToNat, Nat.reduceMul, eq_self, implies_true, forall_const, h2, h6, h9, h13, h14, h79, h80, h17, k14, k17, ky, zl, zr]
                    refine ⟨hi, wI (by omega) (by omega), ?_, _, hfin mm _ _ hfr (fun o o1 o2 o3 o4 => by rw [set_ne o1, set_ne o2, set_ne o3, set_ne o4]) (set_same _ _ _), ?_⟩
                    · refine hP'.keep fun o ho => ?_
                      have : o = 93 ∨ o = 130 ∨ o = 85 := by simpa using ho
                      rw [set_ne (by omega), set_ne (by omega), set_ne (by omega), set_ne (by omega)]
                    · rw [efj1, e1, hz0]
                      refine AccP.put (AccP.first (by simp) ?_) (by simp)
                      rw [← hz0]
                      exact gate_wk (gate_new eg _ hfy)
                · obtain rfl : s5 = 135 := by simpa using hs5
                  have m135' := (hmj 135 (by decide) (by omega)).trans m135
                  simp -implicitDefEqProofs only [vqa, Nat.reduceEqDiff, Nat.reduceAdd, reduceIte, Nat.reduceLeDiff, Nat.reduceBEq, Nat.reduceLT, Nat.reduceSub, Int.reduceLT, Int.reduceLE, Int.reduceEq, Int.reduceToNat, Nat.reduceMul, eq_self, implies_true, forall_const, h2, h6, h9, h13, h14, h79, h80, h17, m14', m17, m135', hw]
                  refine eL_join (fun v mm => AccP [93, 130, 85] 3 1 (N.first + j + 1) (fun k a => a = .int .i64 (plcN N b k)) v mm ∧ ∀ o, o ≠ 129 → o ≠ 93 → o ≠ 130 → o ≠ 85 → mm o = m' o) ?_ fun v mm ⟨hP', hfr⟩ => ?_
                  · rcases hP with ⟨hz, hp⟩ | ⟨s', ver, gy, hs', hp, hxm, hxg, hxn⟩
                    · omega
                    · have hs3 : s' = 93 ∨ s' = 130 ∨ s' = 85 := by simpa using hs'
                      have h92 : s' ≠ 129 := by omega
                      rw [hp]
                      simp only [if_neg h92, hxm]
                      refine ⟨_, _, _, rfl, ⟨trivial, Nat.le_refl _, by omega, by omega⟩, ?_, fun o q1 q2 q3 q4 => ?_⟩
                      · exact AccP.push hs' hxg hv
                      · rw [set_ne (by omega), set_ne q1]
                  have k14 := (hfr 14 (by decide) (by decide) (by decide) (by decide)).trans m14'
                  have k17 := (hfr 17 (by decide) (by decide) (by decide) (by decide)).trans m17
                  have k135 := (hfr 135 (by decide) (by decide) (by decide) (by decide)).trans m135'
                  rcases hY2 with ⟨rfl, hn0⟩ | ⟨vy, fy, rfl, my, hfy⟩
                  · simp -implicitDefEqProofs only [vqa, Nat.reduceEqDiff, Nat.reduceAdd, reduceIte, Nat.reduceLeDiff, Nat.reduceBEq, Nat.reduceLT, Nat.reduceSub, Int.reduceLT, Int.reduceLE, Int.reduceEq, Int.reduceToNat, Nat.reduceMul, eq_self, implies_true, forall_const, h2, h6, h9, h13, h14, h79, h80, h17, k14, k17, k135]
                    refine ⟨⟨by omega, by omega⟩, hi, wI (by omega) (by omega), ?_, _, hfin mm _ _ hfr (fun o o1 o2 o3 o4 => by rw [set_ne o1, set_ne o2, set_ne o3]) (set_same _ _ _), ?_⟩
                    · refine hP'.keep fun o ho => ?_
                      have : o = 93 ∨ o = 130 ∨ o = 85 := by simpa using ho
                      rw [set_ne (by omega), set_ne (by omega), set_ne (by omega)]
                    · rw [efj1, e1]
                      exact AccP.put (AccP.push (by simp) hxg5 (gate_new0 eg hn0)) (by simp)
                  · have ky := (hfr (10000000 + j) (by omega) (by omega) (by omega) (by omega)).trans my
                    simp -implicitDefEqProofs only [vqa, Nat.reduceEqDiff, Nat.reduceAdd, reduceIte, Nat.reduceLeDiff, Nat.reduceBEq, Nat.reduceLT, Nat.reduceSub, Int.reduceLT, Int.reduceLE, Int.reduceEq, Int.reduceToNat, Nat.reduceMul, eq_self, implies_true, forall_const, h2, h6, h9, h13, h14, h79, h80, h17, k14, k17, k135, ky, zl, zr]
                    refine ⟨⟨by omega, by omega⟩, hi, wI (by omega) (by omega), ?_, _, hfin mm _ _ hfr (fun o o1 o2 o3 o4 => by rw [set_ne o1, set_ne o2, set_ne o3, set_ne o4]) (set_same _ _ _), ?_⟩
                    · refine hP'.keep fun o ho => ?_
                      have : o = 93 ∨ o = 130 ∨ o = 85 := by simpa using ho
                      rw [set_ne (by omega), set_ne (by omega), set_ne (by omega), set_ne (by omega)]
                    · rw [efj1, e1]
                      exact AccP.put (AccP.push (by simp) hxg5 (gate_wk (gate_new eg _ hfy))) (by simp)
        · rintro e m ⟨h2, h6, h9, h13, h14, h79, h80, hP, yg, hC, hY⟩
          obtain ⟨m2, m31, m13, m14, hF, hO, _⟩ := hC
          obtain ⟨hx1, _⟩ | ⟨s', pver, gp, hs', h15, hpm, hpg, hpn⟩ := hP
          · omega
          have hs3 : s' = 93 ∨ s' = 130 ∨ s' = 85 := by simpa using hs'
          rw [show N.nets - N.first = N.ng by omega] at hY
          obtain ⟨mw, hSh, hAw, hfr⟩ := AccP.wk (q := fun j a => GateA a ((cleanN N b).gate j)) hY
          unfold a65_3
          simp -implicitDefEqProofs only [vqa, Nat.reduceEqDiff, Nat.reduceAdd, reduceIte, Nat.reduceLeDiff, Nat.reduceBEq, Nat.reduceLT, Nat.reduceSub, Int.reduceLT, Int.reduceLE, Int.reduceEq, Int.reduceToNat, Nat.reduceMul, eq_self, implies_true, forall_const, h2, h6, h9, h13, h14, h79, h80, m2, m14]
          refine vL_join (fun v => v = .int .i64 (N.nf : Nat)) ?_ fun v hv => ?_
          · rcases hF with ⟨hz, rfl⟩ | ⟨ver, gf, rfl, mF, hgF⟩
            · exact ⟨_, _, rfl, trivial, by rw [hz]; rfl⟩
            · simp only [mF]
              exact ⟨_, _, rfl, trivial, rfl⟩
          subst hv
          simp -implicitDefEqProofs only [vqa, Nat.reduceEqDiff, Nat.reduceAdd, reduceIte, Nat.reduceLeDiff, Nat.reduceBEq, Nat.reduceLT, Nat.reduceSub, Int.reduceLT, Int.reduceLE, Int.reduceEq, Int.reduceToNat, Nat.reduceMul, eq_self, implies_true, forall_const, h2, h6, h9, h13, h14, h79, h80, m2, m14]
          refine vForS N.nf (fun i e m => e 2 = .ptr 2 V2 0 ∧ m 2 = .var V2 [.cap0, .cap0, .cap0, .cap0, .cap0] ∧ e 14 = .ptr 14 V14 0 ∧ m 14 = .var V14 [.fs N.ni a0, .fs N.no a1, xf, yg, xo] ∧ e 15 = .sl s' pver N.nets ∧ m s' = .row pver 3 1 N.nets gp ∧ e 140 = .int .i64 N.nf ∧ e 141 = .int .i64 i ∧ Acc 1013 129 5 N.nf (fun k a => a = if k < i then ((cleanN N b).flop k).av else (N.flop k).av) xf m ∧ Acc 1019 3 1 N.nk (fun i a => a = .int .i64 (N.outs i)) xo m ∧ AccP [135] 127 3 (cntN N b N.ng) (fun j a => GateA a ((cleanN N b).gate j)) yg m) ?_ ?_ ?_
          · refine ⟨_, _, hSh _, ?_⟩
            have k2 := (hfr 2 (by simp)).trans m2
            have k14 := (hfr 14 (by simp)).trans m14
            have ks := (hfr s' (by simp; omega)).trans hpm
            simp -implicitDefEqProofs only [vqa, Nat.reduceEqDiff, Nat.reduceAdd, reduceIte, Nat.reduceLeDiff, Nat.reduceBEq, Nat.reduceLT, Nat.reduceSub, Int.reduceLT, Int.reduceLE, Int.reduceEq, Int.reduceToNat, Nat.reduceMul, eq_self, implies_true, forall_const, h2, h6, h9, h13, h14, h15, k2, k14, ks]
            exact ⟨hF.frame (hfr 1013 (by simp)), hO.frame (hfr 1019 (by simp)), hAw⟩
          · rintro i e m hi hi' ⟨h2, m2, h14, m14, h15, hpm, h140, h141, hF, hO, hA⟩
            obtain ⟨⟨d0, d1⟩, d2, d3⟩ := gd.flops i hi
            have htd := hpg (N.flop i).d.toNat (by omega)
            have hte := hpg (N.flop i).en.toNat (by omega)
            obtain ⟨dd, edd⟩ := Int.eq_ofNat_of_zero_le d0
            obtain ⟨de, ede⟩ := Int.eq_ofNat_of_zero_le d2
            rw [edd] at htd d1
            rw [ede] at hte d3
            rw [Int.toNat_natCast] at htd hte
            obtain ⟨hzz, _⟩ | ⟨vf, ff, rfl, mF, hff⟩ := hF
            · omega
            have hfi := hff i hi
            simp only [Nat.lt_irrefl, if_false, FlopV.av, edd, ede] at hfi
            have e13 : (s' = 1013) = False := eq_false (by omega)
            have e31 : (1013 = s') = False := eq_false (by omega)
            unfold a65_5
            simp -implicitDefEqProofs only [vqa, Nat.reduceEqDiff, Nat.reduceAdd, reduceIte, Nat.reduceLeDiff, Nat.reduceBEq, Nat.reduceLT, Nat.reduceSub, Int.reduceLT, Int.reduceLE, Int.reduceEq, Int.reduceToNat, Nat.reduceMul, eq_self, implies_true, forall_const, h2, h14, h15, h140, h141, m2, m14, hi', hpm]
            refine vAnyQ [0, 1, 2, 3, 4, 5, 6, 7, 8, 9, 10, 11, 12, 13, 14, 15, 16, 17, 18, 19, 20, 21, 22, 23, 24, 25, 26, 27, 28, 29] [3, 4, 5, 27, 28] 26 (fun m => m 1013 = .row vf 129 5 N.nf ff) (fun m => m 14 = .var V14 [.fs N.ni a0, .fs N.no a1, .sl 1013 vf N.nf, yg, xo] ∧ m s' = .row pver 3 1 N.nets gp ∧ ∃ f, m 1013 = .row vf 129 5 N.nf f) (by kernel_rfl) (by kernel_rfl) ⟨m14, hpm, _, mF⟩ mF ?_
            simp -implicitDefEqProofs only [vqa, Nat.reduceEqDiff, Nat.reduceAdd, reduceIte, Nat.reduceLeDiff, Nat.reduceBEq, Nat.reduceLT, Nat.reduceSub, Int.reduceLT, Int.reduceLE, Int.reduceEq, Int.reduceToNat, Nat.reduceMul, eq_self, implies_true, forall_const, sqNil, sqCons, sqOV, sqVS, sqOE, sqES, AOp.pureB, List.any_cons, List.any_nil, Bool.false_or, Bool.or_false, Bool.true_or, Bool.or_true, h2, h14, h15, h140, h141, m2, m14, hi', hpm, mF, hfi, htd, hte, e13, e31]
            repeat' apply And.intro
            all_goals first | omega | exact hi | exact wI (by omega) (by omega) | rfl | exact ⟨_, rfl⟩ | (rintro m ⟨q1, q2, f', q3⟩; rw [q1]; exact ⟨_, rfl, rfl⟩) | (rintro m ⟨q1, q2, f', q3⟩; rw [q3]; exact ⟨_, rfl, rfl⟩) | (rintro m ⟨q1, q2, f', q3⟩; rw [q3]; exact ⟨_, rfl, rfl, by omega⟩) | (rintro m ⟨q1, q2, f', q3⟩ q4; rw [q1]; exact ⟨_, rfl, rfl⟩) | (rintro m ⟨q1, q2, f', q3⟩ q4; rw [q4]; exact ⟨_, rfl, rfl⟩) | (rintro m ⟨q1, q2, f', q3⟩ q4; rw [q4]; exact ⟨_, rfl, rfl, by omega⟩) | (rintro m ⟨q1, q2, f', q3⟩ q4; rw [q4]; simp only [hfi, AV.cells, List.drop]; exact ⟨_, rfl, trivial, by omega⟩) | (rintro m ⟨q1, q2, f', q3⟩ q4; rw [q2]; exact ⟨_, rfl, rfl, by omega, by omega⟩) | (rintro m ⟨q1, q2, f', q3⟩ q4; rw [q2]; simp only [htd, hte, AV.cells]; exact ⟨_, rfl, trivial, by omega⟩) | skip
            refine ⟨_, _, Shift.refl _ _, ?_⟩
            simp -implicitDefEqProofs only [vqa, Nat.reduceEqDiff, Nat.reduceAdd, reduceIte, Nat.reduceLeDiff, Nat.reduceBEq, Nat.reduceLT, Nat.reduceSub, Int.reduceLT, Int.reduceLE, Int.reduceEq, Int.reduceToNat, Nat.reduceMul, eq_self, implies_true, forall_const, h2, h14, h15, h140, h141, m2, m14, hpm, e13, e31]
            refine ⟨wI (by omega) (by omega), .inr ⟨_, _, rfl, set_same _ _ _, fun k hk => ?_⟩, hO.frame (by rw [set_ne (by decide), set_ne (by decide)]), hA.keep (by intro o ho; simp at ho; subst ho; rw [set_ne (by decide), set_ne (by decide)])⟩
            by_cases e : k = i
            · subst e
              simp only [decide_true, cond_true]
              rw [if_pos (Nat.lt_succ_self k)]
              show _ = FlopV.av ⟨(N.flop k).name, (N.flop k).cell, plcN N b (N.flop k).d.toNat, plcN N b (N.flop k).en.toNat, (N.flop k).init⟩
              rw [edd, ede]; rfl
            · simp only [e, decide_false, cond_false]
              rw [hff k hk]
              by_cases e2 : k < i
              · rw [if_pos e2, if_pos (by omega)]
              · rw [if_neg e2, if_neg (by omega)]
          · rintro e m ⟨h2, m2, h14, m14, h15, hpm, h140, h141, hF, hO, hA⟩
            unfold a65_5
            simp -implicitDefEqProofs only [vqa, Nat.reduceEqDiff, Nat.reduceAdd, reduceIte, Nat.reduceLeDiff, Nat.reduceBEq, Nat.reduceLT, Nat.reduceSub, Int.reduceLT, Int.reduceLE, Int.reduceEq, Int.reduceToNat, Nat.reduceMul, eq_self, implies_true, forall_const, h2, h14, h15, h140, h141, m2, m14]
            refine vL_join (fun v => v = .int .i64 (N.nk : Nat)) ?_ fun v hv => ?_
            · rcases hO with ⟨hz, rfl⟩ | ⟨ver, gf, rfl, mO, hgO⟩
              · exact ⟨_, _, rfl, trivial, by rw [hz]; rfl⟩
              · simp only [mO]
                exact ⟨_, _, rfl, trivial, rfl⟩
            subst hv
            simp -implicitDefEqProofs only [vqa, Nat.reduceEqDiff, Nat.reduceAdd, reduceIte, Nat.reduceLeDiff, Nat.reduceBEq, Nat.reduceLT, Nat.reduceSub, Int.reduceLT, Int.reduceLE, Int.reduceEq, Int.reduceToNat, Nat.reduceMul, eq_self, implies_true, forall_const, h2, h14, h15, m2, m14]
            have hF' : Acc 1013 129 5 N.nf (fun k a => a = ((cleanN N b).flop k).av) xf m := by
              rcases hF with hF | ⟨ver, gf, q1, q2, q3⟩
              · exact .inl hF
              · exact .inr ⟨ver, gf, q1, q2, fun k hk => by rw [q3 k hk, if_pos hk]⟩
            clear hF
            refine vFor N.nk (fun i e m => e 2 = .ptr 2 V2 0 ∧ m 2 = .var V2 [.cap0, .cap0, .cap0, .cap0, .cap0] ∧ e 14 = .ptr 14 V14 0 ∧ m 14 = .var V14 [.fs N.ni a0, .fs N.no a1, xf, yg, xo] ∧ e 15 = .sl s' pver N.nets ∧ m s' = .row pver 3 1 N.nets gp ∧ e 174 = xo ∧ e 175 = .int .i64 N.nk ∧ e 176 = .int .i64 i ∧ Acc 1013 129 5 N.nf (fun k a => a = ((cleanN N b).flop k).av) xf m ∧ Acc 1019 3 1 N.nk (fun k a => a = .int .i64 (if k < i then (cleanN N b).outs k else N.outs k)) xo m ∧ AccP [135] 127 3 (cntN N b N.ng) (fun j a => GateA a ((cleanN N b).gate j)) yg m) ?_ ?_ ?_
            · simp -implicitDefEqProofs only [vqa, Nat.reduceEqDiff, Nat.reduceAdd, reduceIte, Nat.reduceLeDiff, Nat.reduceBEq, Nat.reduceLT, Nat.reduceSub, Int.reduceLT, Int.reduceLE, Int.reduceEq, Int.reduceToNat, Nat.reduceMul, eq_self, implies_true, forall_const, h2, h14, h15, m2, m14, hpm]
              exact ⟨hF', hO, hA⟩
            · rintro i e m hi hi' ⟨h2, m2, h14, m14, h15, hpm, h174, h175, h176, hF, hO, hA⟩
              obtain ⟨hzz, _⟩ | ⟨vo, fo, rfl, mO, hfo⟩ := hO
              · omega
              have hfoi := hfo i hi
              simp only [Nat.lt_irrefl, if_false] at hfoi
              obtain ⟨d0, d1⟩ := gd.outs i hi
              have htd := hpg (N.outs i).toNat (by omega)
              obtain ⟨dd, edd⟩ := Int.eq_ofNat_of_zero_le d0
              rw [edd] at htd d1 hfoi
              rw [Int.toNat_natCast] at htd
              have e13 : (s' = 1019) = False := eq_false (by omega)
              have e31 : (1019 = s') = False := eq_false (by omega)
              have e14 : (s' = 14) = False := eq_false (by omega)
              have q1 : ∀ m, restr (threeL 14 s' 1019) m 14 = m 14 := fun _ => restr_three1
              have q2 : ∀ m, restr (threeL 14 s' 1019) m s' = m s' := fun _ => restr_three2
              have q3 : ∀ m, restr (threeL 14 s' 1019) m 1019 = m 1019 := fun _ => restr_three3
              unfold a65_6
              simp -implicitDefEqProofs only [vqa, Nat.reduceEqDiff, Nat.reduceAdd, reduceIte, Nat.reduceLeDiff, Nat.reduceBEq, Nat.reduceLT, Nat.reduceSub, Int.reduceLT, Int.reduceLE, Int.reduceEq, Int.reduceToNat, Nat.reduceMul, eq_self, implies_true, forall_const, h2, h14, h15, h174, h175, h176, m2, m14, hi', hpm, mO, hfoi]
              refine ⟨by omega, hi, ?_⟩
              refine vAny [0, 1, 2, 3, 4, 5, 6, 7, 8] 8 (threeL 14 s' 1019) (by kernel_rfl) (by kernel_rfl) ?_
              simp -implicitDefEqProofs only [vqa, Nat.reduceEqDiff, Nat.reduceAdd, reduceIte, Nat.reduceLeDiff, Nat.reduceBEq, Nat.reduceLT, Nat.reduceSub, Int.reduceLT, Int.reduceLE, Int.reduceEq, Int.reduceToNat, Nat.reduceMul, eq_self, implies_true, forall_const, q1, q2, q3, agree_three, h2, h14, h15, h174, h175, h176, m2, m14, hi', hpm, mO, hfoi, htd, e13, e31, e14]
              refine ⟨⟨by omega, by omega⟩, by omega, by omega, hi, hi, wI (by omega) (by omega), hF.frame (by rw [set_ne (by decide)]), .inr ⟨_, _, rfl, set_same _ _ _, fun k hk => ?_⟩, hA.keep (by intro o ho; simp at ho; subst ho; rw [set_ne (by decide)])⟩
              by_cases e : k = i
              · subst e
                simp only [decide_true, cond_true]
                rw [if_pos (Nat.lt_succ_self k)]
                show _ = AV.int .i64 (plcN N b (N.outs k).toNat)
                rw [edd]; rfl
              · simp only [e, decide_false, cond_false]
                rw [hfo k hk]
                by_cases e2 : k < i
                · rw [if_pos e2, if_pos (by omega)]
                · rw [if_neg e2, if_neg (by omega)]
            · rintro e m ⟨h2, m2, h14, m14, h15, hpm, h174, h175, h176, hF, hO, hA⟩
              have fin : ∀ (fa fb fc : Nat → AV), (∀ i, i < N.nf → fa i = ((cleanN N b).flop i).av) → (∀ i, i < cntN N b N.ng → GateA (fb i) ((cleanN N b).gate i)) → (∀ i, i < N.nk → fc i = .int .i64 (if i < N.nk then (cleanN N b).outs i else N.outs i)) → ∃ ds n f, AV.tup [.agg [.fs N.ni a0, .fs N.no a1, .fs N.nf fa, .fs (cntN N b N.ng) fb, .fs N.nk fc], .fs N.nets gp, .int .i64 0] = .tup [.agg ds, .fs n f, .int .i64 0] ∧ ((0 : Int) ≠ 0 → n = 0 ∧ ∃ h0 h1 h2 h3 h4, ds = [.fs 0 h0, .fs 0 h1, .fs 0 h2, .fs 0 h3, .fs 0 h4]) ∧ NetC ds (cleanN N b) ∧ n = N.nets ∧ ∀ k, k < n → f k = .int .i64 (plcN N b k) := fun fa fb fc ha hb hc => ⟨_, _, _, rfl, fun e => absurd rfl e, ⟨a0, a1, fa, fb, fc, rfl, ha0, ha1, ha, hb, fun i hi => (hc i hi).trans (by rw [if_pos (show i < N.nk from hi)])⟩, rfl, hpg⟩
              have e13 : (s' = 1013) = False := eq_false (by omega)
              have e31 : (1013 = s') = False := eq_false (by omega)
              have e19 : (s' = 1019) = False := eq_false (by omega)
              have e91 : (1019 = s') = False := eq_false (by omega)
              have e35 : (s' = 135) = False := eq_false (by omega)
              have e53 : (135 = s') = False := eq_false (by omega)
              have e02 : (s' = 2) = False := eq_false (by omega)
              have e20 : (2 = s') = False := eq_false (by omega)
              unfold a65_6
              obtain ⟨a1', a2⟩ | ⟨av, ag, a2, am, ag'⟩ := hF
              all_goals obtain ⟨c1, c2⟩ | ⟨cs, cv, cg, cs', c2, cm, cg', cn⟩ := hA
              all_goals obtain ⟨d1, d2⟩ | ⟨dv, dg, d2, dm, dg'⟩ := hO
              all_goals subst a2
              all_goals subst c2
              all_goals subst d2
              · skip
                simp -implicitDefEqProofs only [vqa, Nat.reduceEqDiff, Nat.reduceAdd, reduceIte, Nat.reduceLeDiff, Nat.reduceBEq, Nat.reduceLT, Nat.reduceSub, Int.reduceLT, Int.reduceLE, Int.reduceEq, Int.reduceToNat, Nat.reduceMul, eq_self, implies_true, forall_const, h2, h14, h15, m2, m14, hpm, h174, h175, h176, e13, e31, e19, e91, e35, e53, e02, e20]
                have := fin (fun _ => .undef) (fun _ => .undef) (fun _ => .undef) (fun i hi => by omega) (fun i hi => by omega) (fun i hi => by omega)
                rw [a1'] at this
                rw [c1] at this
                rw [d1] at this
                exact this
              · skip
                simp -implicitDefEqProofs only [vqa, Nat.reduceEqDiff, Nat.reduceAdd, reduceIte, Nat.reduceLeDiff, Nat.reduceBEq, Nat.reduceLT, Nat.reduceSub, Int.reduceLT, Int.reduceLE, Int.reduceEq, Int.reduceToNat, Nat.reduceMul, eq_self, implies_true, forall_const, h2, h14, h15, m2, m14, hpm, h174, h175, h176, e13, e31, e19, e91, e35, e53, e02, e20, dm]
                have := fin (fun _ => .undef) (fun _ => .undef) dg (fun i hi => by omega) (fun i hi => by omega) dg'
                rw [a1'] at this
                rw [c1] at this
                exact this
              · skip
                obtain rfl : cs = 135 := by simpa using cs'
                simp -implicitDefEqProofs only [vqa, Nat.reduceEqDiff, Nat.reduceAdd, reduceIte, Nat.reduceLeDiff, Nat.reduceBEq, Nat.reduceLT, Nat.reduceSub, Int.reduceLT, Int.reduceLE, Int.reduceEq, Int.reduceToNat, Nat.reduceMul, eq_self, implies_true, forall_const, h2, h14, h15, m2, m14, hpm, h174, h175, h176, e13, e31, e19, e91, e35, e53, e02, e20, cm]
                have := fin (fun _ => .undef) cg (fun _ => .undef) (fun i hi => by omega) cg' (fun i hi => by omega)
                rw [a1'] at this
                rw [d1] at this
                exact this
              · skip
                obtain rfl : cs = 135 := by simpa using cs'
                simp -implicitDefEqProofs only [vqa, Nat.reduceEqDiff, Nat.reduceAdd, reduceIte, Nat.reduceLeDiff, Nat.reduceBEq, Nat.reduceLT, Nat.reduceSub, Int.reduceLT, Int.reduceLE, Int.reduceEq, Int.reduceToNat, Nat.reduceMul, eq_self, implies_true, forall_const, h2, h14, h15, m2, m14, hpm, h174, h175, h176, e13, e31, e19, e91, e35, e53, e02, e20, cm, dm]
                have := fin (fun _ => .undef) cg dg (fun i hi => by omega) cg' dg'
                rw [a1'] at this
                exact this
              · skip
                simp -implicitDefEqProofs only [vqa, Nat.reduceEqDiff, Nat.reduceAdd, reduceIte, Nat.reduceLeDiff, Nat.reduceBEq, Nat.reduceLT, Nat.reduceSub, Int.reduceLT, Int.reduceLE, Int.reduceEq, Int.reduceToNat, Nat.reduceMul, eq_self, implies_true, forall_const, h2, h14, h15, m2, m14, hpm, h174, h175, h176, e13, e31, e19, e91, e35, e53, e02, e20, am]
                have := fin ag (fun _ => .undef) (fun _ => .undef) ag' (fun i hi => by omega) (fun i hi => by omega)
                rw [c1] at this
                rw [d1] at this
                exact this
              · skip
                simp -implicitDefEqProofs only [vqa, Nat.reduceEqDiff, Nat.reduceAdd, reduceIte, Nat.reduceLeDiff, Nat.reduceBEq, Nat.reduceLT, Nat.reduceSub, Int.reduceLT, Int.reduceLE, Int.reduceEq, Int.reduceToNat, Nat.reduceMul, eq_self, implies_true, forall_const, h2, h14, h15, m2, m14, hpm, h174, h175, h176, e13, e31, e19, e91, e35, e53, e02, e20, am, dm]
                have := fin ag (fun _ => .undef) dg ag' (fun i hi => by omega) dg'
                rw [c1] at this
                exact this
              · skip
                obtain rfl : cs = 135 := by simpa using cs'
                simp -implicitDefEqProofs only [vqa, Nat.reduceEqDiff, Nat.reduceAdd, reduceIte, Nat.reduceLeDiff, Nat.reduceBEq, Nat.reduceLT, Nat.reduceSub, Int.reduceLT, Int.reduceLE, Int.reduceEq, Int.reduceToNat, Nat.reduceMul, eq_self, implies_true, forall_const, h2, h14, h15, m2, m14, hpm, h174, h175, h176, e13, e31, e19, e91, e35, e53, e02, e20, am, cm]
                have := fin ag cg (fun _ => .undef) ag' cg' (fun i hi => by omega)
                rw [d1] at this
                exact this
              · skip
                obtain rfl : cs = 135 := by simpa using cs'
                simp -implicitDefEqProofs only [vqa, Nat.reduceEqDiff, Nat.reduceAdd, reduceIte, Nat.reduceLeDiff, Nat.reduceBEq, Nat.reduceLT, Nat.reduceSub, Int.reduceLT, Int.reduceLE, Int.reduceEq, Int.reduceToNat, Nat.reduceMul, eq_self, implies_true, forall_const, h2, h14, h15, m2, m14, hpm, h174, h175, h176, e13, e31, e19, e91, e35, e53, e02, e20, am, cm, dm]
                have := fin ag cg dg ag' cg' dg'
                exact this
      | succ i =>
        have hi : i < N.ng := by omega
        have ed : N.ng - 1 - d = i := by omega
        have h10' : e 10 = .int .i64 (i : Nat) := by rw [h10]; congr 1; omega
        have hgi := hg (N.first + i) (by omega)
        have w1 : IntKind.i64.wrap (((N.first : Nat) : Int) + (i : Nat)) = ((N.first + i : Nat) : Int) := by rw [wI (by omega) (by omega)]; omega
        have cE : ∀ k, cnN N (d + 1) k = if cnN N d (N.first + i) = true then cnN N d k || pinsN N i (N.gate i).n k else cnN N d k := fun k => by simp only [cnN, ed]
        have i0 : (0 : Int) ≤ (i : Nat) := by omega
        obtain ⟨fi, ei, hfi⟩ := g3 i hi
        have hin := (gd.ins i hi).1
        unfold a65_1
        cases hb : cnN N d (N.first + i) with
        | false =>
          rw [hb] at hgi
          simp -implicitDefEqProofs only [vqa, Nat.reduceEqDiff, Nat.reduceAdd, reduceIte, Nat.reduceLeDiff, Nat.reduceBEq, Nat.reduceLT, Nat.reduceSub, Int.reduceLT, Int.reduceLE, Int.reduceEq, Int.reduceToNat, Nat.reduceMul, eq_self, implies_true, forall_const, h1, m1, h2, m2, h9, h10', h6, hm, w1, hgi, i0]
          refine ⟨by omega, by omega, i, by omega, d + 1, by omega, wI (by omega) (by omega), hD, _, rfl, fun k hk => ?_⟩
          rw [cE, hb]; exact hg k hk
        | true =>
          rw [hb] at hgi
          simp -implicitDefEqProofs only [vqa, Nat.reduceEqDiff, Nat.reduceAdd, reduceIte, Nat.reduceLeDiff, Nat.reduceBEq, Nat.reduceLT, Nat.reduceSub, Int.reduceLT, Int.reduceLE, Int.reduceEq, Int.reduceToNat, Nat.reduceMul, eq_self, implies_true, forall_const, h1, m1, h2, m2, h9, h10', h6, hm, w1, hgi, i0, ei]
          refine ⟨by omega, by omega, by omega, ?_⟩
          refine vFor (N.gate i).n (fun t e m => e 1 = .ptr 1 V1 0 ∧ m 1 = .var V1 [.fs N.ni f0, .fs N.no f1, .fs N.nf f2, .fs N.ng f3, .fs N.nk f4] ∧ e 2 = .ptr 2 V2 0 ∧ m 2 = .var V2 [.cap0, .cap0, .cap0, .cap0, .cap0] ∧ e 9 = .int .i64 (N.first : Nat) ∧ e 10 = .int .i64 (i : Nat) ∧ e 64 = .fs (N.gate i).n fi ∧ e 65 = .int .i64 (N.gate i).n ∧ e 66 = .int .i64 t ∧ (∀ j : Nat, ∃ v, m (10000000 + j) = .dead v) ∧ ∃ g, e 6 = .sl 31 V N.nets ∧ m 31 = .row V 4 1 N.nets g ∧ ∀ k, k < N.nets → g k = .bool (cnN N d k || pinsN N i t k)) ?_ ?_ ?_
          · simp -implicitDefEqProofs only [vqa, Nat.reduceEqDiff, Nat.reduceAdd, reduceIte, Nat.reduceLeDiff, Nat.reduceBEq, Nat.reduceLT, Nat.reduceSub, Int.reduceLT, Int.reduceLE, Int.reduceEq, Int.reduceToNat, Nat.reduceMul, eq_self, implies_true, forall_const, h1, m1, h2, m2, h9, h10', h6, hm]
            exact ⟨hD, _, rfl, fun k hk => by rw [hg k hk]; simp [pinsN]⟩
          · rintro t e m ht ht' ⟨h1, m1, h2, m2, h9, h10, h64, h65, h66, hD, g, h6, hm, hg⟩
            have hpin := hfi t ht
            have hge := ((gd.ins i hi).2.2 t ht).1
            have hpl := pin_lt gd hi ht
            have ep : (N.gate i).ins t = ((pinN N i t : Nat) : Int) := by unfold pinN; omega
            unfold a65_2
            simp -implicitDefEqProofs only [vqa, Nat.reduceEqDiff, Nat.reduceAdd, reduceIte, Nat.reduceLeDiff, Nat.reduceBEq, Nat.reduceLT, Nat.reduceSub, Int.reduceLT, Int.reduceLE, Int.reduceEq, Int.reduceToNat, Nat.reduceMul, eq_self, implies_true, forall_const, h1, m1, h2, m2, h9, h10, h64, h65, h66, h6, hm, ht', hpin, ep]
            refine ⟨by omega, ⟨by omega, by omega⟩, by omega, ht, wI (by omega) (by omega), fun j => ?_, _, rfl, fun k hk => ?_⟩
            · rw [if_neg (by omega)]; exact hD j
            · by_cases e : k = pinN N i t
              · simp only [e, decide_true, cond_true, pinsN, Bool.or_true]
              · simp only [e, decide_false, cond_false, pinsN, Bool.or_false]; exact hg k hk
          · rintro e m ⟨h1, m1, h2, m2, h9, h10, h64, h65, h66, hD, g, h6, hm, hg⟩
            unfold a65_2
            simp -implicitDefEqProofs only [vqa, Nat.reduceEqDiff, Nat.reduceAdd, reduceIte, Nat.reduceLeDiff, Nat.reduceBEq, Nat.reduceLT, Nat.reduceSub, Int.reduceLT, Int.reduceLE, Int.reduceEq, Int.reduceToNat, Nat.reduceMul, eq_self, implies_true, forall_const, h1, m1, h2, m2, h9, h10, h64, h65, h66, h6, hm]
            refine ⟨i, by omega, d + 1, by omega, wI (by omega) (by omega), hD, _, rfl, fun k hk => ?_⟩
            rw [cE, hb, if_pos rfl]; exact hg k hk
end Go.Ab
