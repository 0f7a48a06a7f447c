/- Walks: Values, Words, and what they are compared with. -/
import Derived.Test.YtodncnlnadgkhaaSaLevel
import Derived.Test.YtodncnlnadgkhaaSaLook
import Derived.Test.YtodncnlnadgkhaaSaConcat
set_option linter.unusedSimpArgs false
set_option linter.unusedVariables false
namespace Go.Ab
open Go
def a90_1 : AC := (.seq (.ops [⟨(some 30), none, (.v (.bin .lss (.t 29) (.t 28)))⟩]) (.seq (.cond (.t 30) .skip (.exit 2)) (.seq (.block 3 (.seq (.ops [⟨(some 31), none, (.v (.idx 1 (.t 27) (.t 29)))⟩, ⟨(some 32), none, (.v (.load 1 false (.t 31)))⟩, ⟨(some 12), none, (.v (.mv (.t 32)))⟩]) (.ops [⟨(some 33), none, (.v (.mv (.t 10)))⟩, ⟨(some 34), none, (.v (.mv (.t 7)))⟩, ⟨(some 35), none, (.v (.mv (.t 12)))⟩, ⟨(some 36), none, (.v (.idx 1 (.t 34) (.t 35)))⟩, ⟨(some 37), none, (.v (.load 1 false (.t 36)))⟩, ⟨(some 38), none, (.e (.lit 38 22 1 1 [(.int .u64 0)] [(0, (.t 37))]))⟩, ⟨(some 39), none, (.e (.app 39 22 1 8 (.t 33) (.t 38)))⟩, ⟨(some 10), none, (.v (.mv (.t 39)))⟩]))) (.ops [⟨(some 40), none, (.v (.bin .add (.t 29) (.c (.int .i64 1))))⟩, ⟨(some 29), none, (.v (.mv (.t 40)))⟩]))))
def a90_0 : AC := (.seq (.ops [⟨(some 23), none, (.v (.bin .lss (.t 22) (.t 21)))⟩]) (.seq (.cond (.t 23) .skip (.exit 0)) (.seq (.block 1 (.seq (.ops [⟨(some 24), none, (.v (.idx 3 (.t 20) (.t 22)))⟩, ⟨(some 25), none, (.v (.load 3 true (.t 24)))⟩, ⟨(some 9), none, (.e (.alloc 9 [(.int .i64 0), (.int .u64 0), .cap0]))⟩, ⟨none, none, (.e (.store 3 (.t 9) (.t 25)))⟩]) (.seq (.ops [⟨(some 10), none, (.v (.mv (.c .cap0)))⟩]) (.seq (.seq (.ops [⟨(some 26), none, (.v (.fld 2 (.t 9)))⟩, ⟨(some 27), none, (.v (.load 1 false (.t 26)))⟩, ⟨(some 28), none, (.v (.len (.t 27)))⟩, ⟨(some 29), none, (.v (.mv (.c (.int .i64 0))))⟩]) (.block 2 (.loop a90_1))) (.ops [⟨(some 41), none, (.v (.mv (.t 7)))⟩, ⟨(some 42), none, (.v (.fld 1 (.t 9)))⟩, ⟨(some 43), none, (.v (.load 1 false (.t 42)))⟩, ⟨(some 44), none, (.v (.mv (.t 10)))⟩, ⟨(some 45), none, (.call (.c (.fn 68 [])) [(.t 43), (.t 44)])⟩, ⟨(some 46), none, (.e (.lit 46 22 1 1 [(.int .u64 0)] [(0, (.t 45))]))⟩, ⟨(some 47), none, (.e (.app 47 22 1 8 (.t 41) (.t 46)))⟩, ⟨(some 7), none, (.v (.mv (.t 47)))⟩]))))) (.ops [⟨(some 48), none, (.v (.bin .add (.t 22) (.c (.int .i64 1))))⟩, ⟨(some 22), none, (.v (.mv (.t 48)))⟩]))))
def a90 : AC := (.seq (.ops [⟨(some 3), none, (.e (.box 3 0 (.t 0)))⟩, ⟨(some 6), none, (.v (.mv (.c .cap0)))⟩]) (.seq (.ops [⟨(some 13), none, (.e (.lit 13 22 1 2 [(.int .u64 0)] [(0, (.c (.int .u64 0))), (1, (.c (.int .u64 18446744073709551615)))]))⟩, ⟨(some 14), none, (.v (.mv (.t 1)))⟩, ⟨(some 15), none, (.e (.app 15 22 1 8 (.t 13) (.t 14)))⟩, ⟨(some 7), none, (.v (.mv (.t 15)))⟩]) (.seq (.ops [⟨(some 16), none, (.v (.mv (.t 7)))⟩, ⟨(some 17), none, (.v (.mv (.t 2)))⟩, ⟨(some 18), none, (.e (.app 18 22 1 8 (.t 16) (.t 17)))⟩, ⟨(some 7), none, (.v (.mv (.t 18)))⟩]) (.seq (.seq (.ops [⟨(some 19), none, (.v (.fld 3 (.t 3)))⟩, ⟨(some 20), none, (.v (.load 1 false (.t 19)))⟩, ⟨(some 21), none, (.v (.len (.t 20)))⟩, ⟨(some 22), none, (.v (.mv (.c (.int .i64 0))))⟩]) (.block 0 (.loop a90_0))) (.seq (.ops [⟨(some 49), none, (.v (.mv (.t 7)))⟩, ⟨(some 6), none, (.v (.mv (.t 49)))⟩]) .ret)))))
def r90 : List AI := [(.mv (.t 6))]
theorem f90 : Fn PP 90 3 a90 r90 := Fn.of (fn := Go.Proofs.Try.f90) (by kernel_rfl) (by kernel_rfl) (by kernel_rfl)
def a91_0 : AC := (.seq (.ops [⟨(some 15), none, (.v (.bin .lss (.t 14) (.t 13)))⟩]) (.seq (.cond (.t 15) .skip (.exit 0)) (.seq (.block 1 (.seq (.ops [⟨(some 16), none, (.v (.idx 1 (.t 12) (.t 14)))⟩, ⟨(some 17), none, (.v (.load 1 false (.t 16)))⟩, ⟨(some 7), none, (.v (.mv (.t 17)))⟩]) (.ops [⟨(some 18), none, (.v (.mv (.t 4)))⟩, ⟨(some 19), none, (.v (.mv (.t 1)))⟩, ⟨(some 20), none, (.v (.mv (.t 7)))⟩, ⟨(some 21), none, (.v (.idx 1 (.t 19) (.t 20)))⟩, ⟨(some 22), none, (.v (.load 1 false (.t 21)))⟩, ⟨(some 23), none, (.e (.lit 23 22 1 1 [(.int .u64 0)] [(0, (.t 22))]))⟩, ⟨(some 24), none, (.e (.app 24 22 1 8 (.t 18) (.t 23)))⟩, ⟨(some 4), none, (.v (.mv (.t 24)))⟩]))) (.ops [⟨(some 25), none, (.v (.bin .add (.t 14) (.c (.int .i64 1))))⟩, ⟨(some 14), none, (.v (.mv (.t 25)))⟩]))))
def a91_1 : AC := (.seq (.ops [⟨(some 30), none, (.v (.bin .lss (.t 29) (.t 28)))⟩]) (.seq (.cond (.t 30) .skip (.exit 2)) (.seq (.block 3 (.seq (.ops [⟨(some 31), none, (.v (.mv (.t 29)))⟩, ⟨(some 32), none, (.v (.idx 5 (.t 27) (.t 29)))⟩, ⟨(some 33), none, (.v (.load 5 true (.t 32)))⟩, ⟨(some 9), none, (.e (.alloc 9 [(.str ⟨#[]⟩), (.int .i64 0), (.int .i64 0), (.int .i64 0), (.bool false)]))⟩, ⟨(some 8), none, (.v (.mv (.t 31)))⟩, ⟨none, none, (.e (.store 5 (.t 9) (.t 33)))⟩]) (.seq (.ops [⟨(some 34), none, (.v (.mv (.t 1)))⟩, ⟨(some 35), none, (.v (.fld 0 (.t 2)))⟩, ⟨(some 36), none, (.v (.load 1 false (.t 35)))⟩, ⟨(some 37), none, (.v (.len (.t 36)))⟩, ⟨(some 38), none, (.v (.bin .add (.c (.int .i64 2)) (.t 37)))⟩, ⟨(some 39), none, (.v (.mv (.t 8)))⟩, ⟨(some 40), none, (.v (.bin .add (.t 38) (.t 39)))⟩, ⟨(some 41), none, (.v (.idx 1 (.t 34) (.t 40)))⟩, ⟨(some 42), none, (.v (.load 1 false (.t 41)))⟩, ⟨(some 10), none, (.v (.mv (.t 42)))⟩]) (.any [⟨(some 43), none, (.v (.mv (.t 5)))⟩, ⟨(some 44), none, (.v (.mv (.t 1)))⟩, ⟨(some 45), none, (.v (.fld 3 (.t 9)))⟩, ⟨(some 46), none, (.v (.load 1 false (.t 45)))⟩, ⟨(some 47), none, (.v (.idx 1 (.t 44) (.t 46)))⟩, ⟨(some 48), none, (.v (.load 1 false (.t 47)))⟩, ⟨(some 49), none, (.v (.mv (.t 1)))⟩, ⟨(some 50), none, (.v (.fld 2 (.t 9)))⟩, ⟨(some 51), none, (.v (.load 1 false (.t 50)))⟩, ⟨(some 52), none, (.v (.idx 1 (.t 49) (.t 51)))⟩, ⟨(some 53), none, (.v (.load 1 false (.t 52)))⟩, ⟨(some 54), none, (.v (.bin .and (.t 48) (.t 53)))⟩, ⟨(some 55), none, (.v (.mv (.t 1)))⟩, ⟨(some 56), none, (.v (.fld 3 (.t 9)))⟩, ⟨(some 57), none, (.v (.load 1 false (.t 56)))⟩, ⟨(some 58), none, (.v (.idx 1 (.t 55) (.t 57)))⟩, ⟨(some 59), none, (.v (.load 1 false (.t 58)))⟩, ⟨(some 60), none, (.v (.bnot (.t 59)))⟩, ⟨(some 61), none, (.v (.mv (.t 10)))⟩, ⟨(some 62), none, (.v (.bin .and (.t 60) (.t 61)))⟩, ⟨(some 63), none, (.v (.bin .or (.t 54) (.t 62)))⟩, ⟨(some 64), none, (.e (.lit 64 22 1 1 [(.int .u64 0)] [(0, (.t 63))]))⟩, ⟨(some 65), none, (.e (.app 65 22 1 8 (.t 43) (.t 64)))⟩, ⟨(some 5), none, (.v (.mv (.t 65)))⟩] [[], [], [], [2], [1, 3], [4], [], [], [7], [6, 8], [9], [5, 10], [], [], [13], [12, 14], [15], [16], [], [17, 18], [11, 19], [20], [0, 21], [22, 22, 0, 1, 2, 3, 4, 5, 6, 7, 8, 9, 10, 11, 12, 13, 14, 15, 16, 17, 18, 19, 20, 21, 22]])))) (.ops [⟨(some 66), none, (.v (.bin .add (.t 29) (.c (.int .i64 1))))⟩, ⟨(some 29), none, (.v (.mv (.t 66)))⟩]))))
def a91 : AC := (.seq (.ops [⟨(some 2), none, (.e (.box 2 0 (.t 0)))⟩, ⟨(some 4), none, (.v (.mv (.c .cap0)))⟩, ⟨(some 5), none, (.v (.mv (.c .cap0)))⟩]) (.seq (.seq (.ops [⟨(some 11), none, (.v (.fld 4 (.t 2)))⟩, ⟨(some 12), none, (.v (.load 1 false (.t 11)))⟩, ⟨(some 13), none, (.v (.len (.t 12)))⟩, ⟨(some 14), none, (.v (.mv (.c (.int .i64 0))))⟩]) (.block 0 (.loop a91_0))) (.seq (.seq (.ops [⟨(some 26), none, (.v (.fld 2 (.t 2)))⟩, ⟨(some 27), none, (.v (.load 1 false (.t 26)))⟩, ⟨(some 28), none, (.v (.len (.t 27)))⟩, ⟨(some 29), none, (.v (.mv (.c (.int .i64 0))))⟩]) (.block 2 (.loop a91_1))) (.seq (.ops [⟨(some 67), none, (.v (.mv (.t 4)))⟩, ⟨(some 68), none, (.v (.mv (.t 5)))⟩, ⟨(some 4), none, (.v (.mv (.t 67)))⟩, ⟨(some 5), none, (.v (.mv (.t 68)))⟩]) .ret))))
def r91 : List AI := [(.mv (.t 4)), (.mv (.t 5))]
theorem f91 : Fn PP 91 2 a91 r91 := Fn.of (fn := Go.Proofs.Try.f91) (by kernel_rfl) (by kernel_rfl) (by kernel_rfl)
def a38 : AC := (.seq (.ops [⟨(some 3), none, (.e (.box 3 0 (.t 0)))⟩, ⟨(some 6), none, (.v (.mv (.c .cap0)))⟩, ⟨(some 7), none, (.v (.mv (.c (.int .i64 0))))⟩]) (.seq (.seq (.ops [⟨(some 9), none, (.v (.load 5 true (.t 3)))⟩, ⟨(some 10), none, (.call (.c (.fn 24 [])) [(.t 9)])⟩, ⟨(some 8), none, (.v (.mv (.t 10)))⟩]) (.seq (.ops [⟨(some 11), none, (.v (.mv (.t 8)))⟩, ⟨(some 12), none, (.v (.bin .neq (.t 11) (.c (.int .i64 0))))⟩]) (.cond (.t 12) (.seq (.ops [⟨(some 13), none, (.v (.mv (.t 8)))⟩, ⟨(some 6), none, (.v (.mv (.c .cap0)))⟩, ⟨(some 7), none, (.v (.mv (.t 13)))⟩]) .ret) .skip))) (.seq (.seq (.ops [⟨(some 14), none, (.v (.mv (.t 1)))⟩, ⟨(some 15), none, (.v (.len (.t 14)))⟩, ⟨(some 16), none, (.v (.fld 0 (.t 3)))⟩, ⟨(some 17), none, (.v (.load 1 false (.t 16)))⟩, ⟨(some 18), none, (.v (.len (.t 17)))⟩, ⟨(some 19), none, (.v (.bin .neq (.t 15) (.t 18)))⟩, ⟨(some 20), none, (.v (.mv (.t 19)))⟩, ⟨(some 21), (some (20, false)), (.v (.mv (.t 2)))⟩, ⟨(some 22), (some (20, false)), (.v (.len (.t 21)))⟩, ⟨(some 23), (some (20, false)), (.v (.fld 2 (.t 3)))⟩, ⟨(some 24), (some (20, false)), (.v (.load 1 false (.t 23)))⟩, ⟨(some 25), (some (20, false)), (.v (.len (.t 24)))⟩, ⟨(some 26), (some (20, false)), (.v (.bin .neq (.t 22) (.t 25)))⟩, ⟨(some 27), none, (.v (.pick (.t 20) (.c (.bool true)) (.t 26)))⟩]) (.cond (.t 27) (.seq (.ops [⟨(some 6), none, (.v (.mv (.c .cap0)))⟩, ⟨(some 7), none, (.v (.mv (.c (.int .i64 20))))⟩]) .ret) .skip)) (.seq (.ops [⟨(some 28), none, (.v (.load 5 true (.t 3)))⟩, ⟨(some 29), none, (.v (.mv (.t 1)))⟩, ⟨(some 30), none, (.v (.mv (.t 2)))⟩, ⟨(some 31), none, (.call (.c (.fn 90 [])) [(.t 28), (.t 29), (.t 30)])⟩, ⟨(some 6), none, (.v (.mv (.t 31)))⟩, ⟨(some 7), none, (.v (.mv (.c (.int .i64 0))))⟩]) .ret))))
def r38 : List AI := [(.mv (.t 6)), (.mv (.t 7))]
theorem f38 : Fn PP 38 3 a38 r38 := Fn.of (fn := Go.Proofs.Try.f38) (by kernel_rfl) (by kernel_rfl) (by kernel_rfl)
def a39 : AC := (.seq (.ops [⟨(some 3), none, (.e (.box 3 0 (.t 0)))⟩, ⟨(some 6), none, (.v (.mv (.c .cap0)))⟩, ⟨(some 7), none, (.v (.mv (.c .cap0)))⟩, ⟨(some 8), none, (.v (.mv (.c (.int .i64 0))))⟩]) (.seq (.ops [⟨(some 11), none, (.v (.load 5 true (.t 3)))⟩, ⟨(some 12), none, (.v (.mv (.t 1)))⟩, ⟨(some 13), none, (.v (.mv (.t 2)))⟩, ⟨(some 14), none, (.call (.c (.fn 38 [])) [(.t 11), (.t 12), (.t 13)])⟩, ⟨(some 10), none, (.v (.mv (.t 14)))⟩, ⟨(some 15), none, (.v (.ext 0 (.t 10)))⟩, ⟨(some 16), none, (.v (.ext 1 (.t 10)))⟩, ⟨(some 9), none, (.v (.mv (.t 15)))⟩, ⟨(some 8), none, (.v (.mv (.t 16)))⟩]) (.seq (.seq (.ops [⟨(some 17), none, (.v (.mv (.t 8)))⟩, ⟨(some 18), none, (.v (.bin .neq (.t 17) (.c (.int .i64 0))))⟩]) (.cond (.t 18) (.seq (.ops [⟨(some 19), none, (.v (.mv (.t 8)))⟩, ⟨(some 6), none, (.v (.mv (.c .cap0)))⟩, ⟨(some 7), none, (.v (.mv (.c .cap0)))⟩, ⟨(some 8), none, (.v (.mv (.t 19)))⟩]) .ret) .skip)) (.seq (.ops [⟨(some 21), none, (.v (.load 5 true (.t 3)))⟩, ⟨(some 22), none, (.v (.mv (.t 9)))⟩, ⟨(some 23), none, (.call (.c (.fn 91 [])) [(.t 21), (.t 22)])⟩, ⟨(some 20), none, (.v (.mv (.t 23)))⟩, ⟨(some 24), none, (.v (.ext 0 (.t 20)))⟩, ⟨(some 25), none, (.v (.ext 1 (.t 20)))⟩, ⟨(some 6), none, (.v (.mv (.t 24)))⟩, ⟨(some 7), none, (.v (.mv (.t 25)))⟩]) (.seq (.ops [⟨(some 26), none, (.v (.mv (.t 6)))⟩, ⟨(some 27), none, (.v (.mv (.t 7)))⟩, ⟨(some 6), none, (.v (.mv (.t 26)))⟩, ⟨(some 7), none, (.v (.mv (.t 27)))⟩, ⟨(some 8), none, (.v (.mv (.c (.int .i64 0))))⟩]) .ret)))))
def r39 : List AI := [(.mv (.t 6)), (.mv (.t 7)), (.mv (.t 8))]
theorem f39 : Fn PP 39 3 a39 r39 := Fn.of (fn := Go.Proofs.Try.f39) (by kernel_rfl) (by kernel_rfl) (by kernel_rfl)
def a40 : AC := (.seq (.ops [⟨(some 3), none, (.e (.box 3 0 (.t 0)))⟩, ⟨(some 6), none, (.v (.mv (.c (.int .i64 0))))⟩]) (.seq (.seq (.ops [⟨(some 8), none, (.v (.load 5 true (.t 3)))⟩, ⟨(some 9), none, (.call (.c (.fn 19 [])) [(.t 8)])⟩, ⟨(some 7), none, (.v (.mv (.t 9)))⟩]) (.seq (.ops [⟨(some 10), none, (.v (.mv (.t 7)))⟩, ⟨(some 11), none, (.v (.bin .neq (.t 10) (.c (.int .i64 0))))⟩]) (.cond (.t 11) (.seq (.ops [⟨(some 12), none, (.v (.mv (.t 7)))⟩, ⟨(some 6), none, (.v (.mv (.t 12)))⟩]) .ret) .skip))) (.seq (.seq (.ops [⟨(some 13), none, (.v (.mv (.t 1)))⟩, ⟨(some 14), none, (.v (.fld 0 (.t 3)))⟩, ⟨(some 15), none, (.v (.load 1 false (.t 14)))⟩, ⟨(some 16), none, (.v (.len (.t 15)))⟩, ⟨(some 17), none, (.v (.bin .neq (.t 13) (.t 16)))⟩, ⟨(some 18), none, (.v (.mv (.t 17)))⟩, ⟨(some 19), (some (18, false)), (.v (.mv (.t 2)))⟩, ⟨(some 20), (some (18, false)), (.v (.fld 2 (.t 3)))⟩, ⟨(some 21), (some (18, false)), (.v (.load 1 false (.t 20)))⟩, ⟨(some 22), (some (18, false)), (.v (.len (.t 21)))⟩, ⟨(some 23), (some (18, false)), (.v (.bin .neq (.t 19) (.t 22)))⟩, ⟨(some 24), none, (.v (.pick (.t 18) (.c (.bool true)) (.t 23)))⟩]) (.cond (.t 24) (.seq (.ops [⟨(some 6), none, (.v (.mv (.c (.int .i64 20))))⟩]) .ret) .skip)) (.seq (.ops [⟨(some 6), none, (.v (.mv (.c (.int .i64 0))))⟩]) .ret))))
def r40 : List AI := [(.mv (.t 6))]
theorem f40 : Fn PP 40 3 a40 r40 := Fn.of (fn := Go.Proofs.Try.f40) (by kernel_rfl) (by kernel_rfl) (by kernel_rfl)
def a43_1 : AC := (.seq (.ops [⟨(some 29), none, (.v (.bin .lss (.t 28) (.t 27)))⟩]) (.seq (.cond (.t 29) .skip (.exit 2)) (.seq (.block 3 (.seq (.ops [⟨(some 30), none, (.v (.mv (.t 28)))⟩, ⟨(some 31), none, (.v (.idx 1 (.t 26) (.t 28)))⟩, ⟨(some 32), none, (.v (.load 1 false (.t 31)))⟩, ⟨(some 11), none, (.v (.mv (.t 30)))⟩, ⟨(some 12), none, (.v (.mv (.t 32)))⟩]) (.seq (.ops [⟨(some 33), none, (.v (.mv (.t 7)))⟩, ⟨(some 34), none, (.v (.mv (.t 12)))⟩, ⟨(some 35), none, (.v (.idx 1 (.t 33) (.t 34)))⟩, ⟨(some 36), none, (.v (.load 1 false (.t 35)))⟩]) (.cond (.t 36) (.ops [⟨(some 37), none, (.v (.mv (.t 10)))⟩, ⟨(some 38), none, (.v (.mv (.t 11)))⟩, ⟨(some 39), none, (.v (.bin .shl (.c (.int .i64 1)) (.t 38)))⟩, ⟨(some 40), none, (.v (.bin .or (.t 37) (.t 39)))⟩, ⟨(some 10), none, (.v (.mv (.t 40)))⟩]) .skip)))) (.ops [⟨(some 41), none, (.v (.bin .add (.t 28) (.c (.int .i64 1))))⟩, ⟨(some 28), none, (.v (.mv (.t 41)))⟩]))))
def a43_0 : AC := (.seq (.ops [⟨(some 22), none, (.v (.bin .lss (.t 21) (.t 20)))⟩]) (.seq (.cond (.t 22) .skip (.exit 0)) (.seq (.block 1 (.seq (.ops [⟨(some 23), none, (.v (.idx 3 (.t 19) (.t 21)))⟩, ⟨(some 24), none, (.v (.load 3 true (.t 23)))⟩, ⟨(some 9), none, (.e (.alloc 9 [(.int .i64 0), (.int .u64 0), .cap0]))⟩, ⟨none, none, (.e (.store 3 (.t 9) (.t 24)))⟩]) (.seq (.ops [⟨(some 10), none, (.v (.mv (.c (.int .i64 0))))⟩]) (.seq (.seq (.ops [⟨(some 25), none, (.v (.fld 2 (.t 9)))⟩, ⟨(some 26), none, (.v (.load 1 false (.t 25)))⟩, ⟨(some 27), none, (.v (.len (.t 26)))⟩, ⟨(some 28), none, (.v (.mv (.c (.int .i64 0))))⟩]) (.block 2 (.loop a43_1))) (.ops [⟨(some 42), none, (.v (.mv (.t 7)))⟩, ⟨(some 43), none, (.v (.fld 1 (.t 9)))⟩, ⟨(some 44), none, (.v (.load 1 false (.t 43)))⟩, ⟨(some 45), none, (.v (.mv (.t 10)))⟩, ⟨(some 46), none, (.v (.bin .shr (.t 44) (.t 45)))⟩, ⟨(some 47), none, (.v (.bin .and (.t 46) (.c (.int .u64 1))))⟩, ⟨(some 48), none, (.v (.bin .eql (.t 47) (.c (.int .u64 1))))⟩, ⟨(some 49), none, (.e (.lit 49 4 1 1 [(.bool false)] [(0, (.t 48))]))⟩, ⟨(some 50), none, (.e (.app 50 4 1 1 (.t 42) (.t 49)))⟩, ⟨(some 7), none, (.v (.mv (.t 50)))⟩]))))) (.ops [⟨(some 51), none, (.v (.bin .add (.t 21) (.c (.int .i64 1))))⟩, ⟨(some 21), none, (.v (.mv (.t 51)))⟩]))))
def a43 : AC := (.seq (.ops [⟨(some 3), none, (.e (.box 3 0 (.t 0)))⟩, ⟨(some 6), none, (.v (.mv (.c .cap0)))⟩]) (.seq (.ops [⟨(some 13), none, (.e (.lit 13 4 1 2 [(.bool false)] [(0, (.c (.bool false))), (1, (.c (.bool true)))]))⟩, ⟨(some 14), none, (.v (.mv (.t 1)))⟩, ⟨(some 15), none, (.v (.mv (.t 2)))⟩, ⟨(some 16), none, (.e (.lit 16 27 1 3 [.cap0] [(0, (.t 13)), (1, (.t 14)), (2, (.t 15))]))⟩, ⟨(some 17), none, (.call (.c (.fn 92 [])) [(.t 16)])⟩, ⟨(some 7), none, (.v (.mv (.t 17)))⟩]) (.seq (.seq (.ops [⟨(some 18), none, (.v (.fld 3 (.t 3)))⟩, ⟨(some 19), none, (.v (.load 1 false (.t 18)))⟩, ⟨(some 20), none, (.v (.len (.t 19)))⟩, ⟨(some 21), none, (.v (.mv (.c (.int .i64 0))))⟩]) (.block 0 (.loop a43_0))) (.seq (.ops [⟨(some 52), none, (.v (.mv (.t 7)))⟩, ⟨(some 6), none, (.v (.mv (.t 52)))⟩]) .ret))))
def r43 : List AI := [(.mv (.t 6))]
theorem f43 : Fn PP 43 3 a43 r43 := Fn.of (fn := Go.Proofs.Try.f43) (by kernel_rfl) (by kernel_rfl) (by kernel_rfl)
def a41_0 : AC := (.seq (.ops [⟨(some 22), none, (.v (.bin .lss (.t 21) (.t 20)))⟩]) (.seq (.cond (.t 22) .skip (.exit 0)) (.seq (.block 1 (.seq (.ops [⟨(some 23), none, (.v (.idx 1 (.t 19) (.t 21)))⟩, ⟨(some 24), none, (.v (.load 1 false (.t 23)))⟩, ⟨(some 10), none, (.v (.mv (.t 24)))⟩]) (.ops [⟨(some 25), none, (.v (.mv (.t 6)))⟩, ⟨(some 26), none, (.v (.mv (.t 8)))⟩, ⟨(some 27), none, (.v (.mv (.t 10)))⟩, ⟨(some 28), none, (.v (.idx 1 (.t 26) (.t 27)))⟩, ⟨(some 29), none, (.v (.load 1 false (.t 28)))⟩, ⟨(some 30), none, (.e (.lit 30 4 1 1 [(.bool false)] [(0, (.t 29))]))⟩, ⟨(some 31), none, (.e (.app 31 4 1 1 (.t 25) (.t 30)))⟩, ⟨(some 6), none, (.v (.mv (.t 31)))⟩]))) (.ops [⟨(some 32), none, (.v (.bin .add (.t 21) (.c (.int .i64 1))))⟩, ⟨(some 21), none, (.v (.mv (.t 32)))⟩]))))
def a41_1 : AC := (.seq (.ops [⟨(some 37), none, (.v (.bin .lss (.t 36) (.t 35)))⟩]) (.seq (.cond (.t 37) .skip (.exit 2)) (.seq (.block 3 (.seq (.ops [⟨(some 38), none, (.v (.mv (.t 36)))⟩, ⟨(some 39), none, (.v (.idx 5 (.t 34) (.t 36)))⟩, ⟨(some 40), none, (.v (.load 5 true (.t 39)))⟩, ⟨(some 12), none, (.e (.alloc 12 [(.str ⟨#[]⟩), (.int .i64 0), (.int .i64 0), (.int .i64 0), (.bool false)]))⟩, ⟨(some 11), none, (.v (.mv (.t 38)))⟩, ⟨none, none, (.e (.store 5 (.t 12) (.t 40)))⟩]) (.seq (.ops [⟨(some 41), none, (.v (.mv (.t 1)))⟩, ⟨(some 42), none, (.v (.len (.t 41)))⟩, ⟨(some 43), none, (.v (.bin .add (.c (.int .i64 2)) (.t 42)))⟩, ⟨(some 44), none, (.v (.mv (.t 11)))⟩, ⟨(some 45), none, (.v (.bin .add (.t 43) (.t 44)))⟩, ⟨(some 13), none, (.v (.mv (.t 45)))⟩]) (.seq (.seq (.ops [⟨(some 46), none, (.v (.mv (.t 8)))⟩, ⟨(some 47), none, (.v (.fld 3 (.t 12)))⟩, ⟨(some 48), none, (.v (.load 1 false (.t 47)))⟩, ⟨(some 49), none, (.v (.idx 1 (.t 46) (.t 48)))⟩, ⟨(some 50), none, (.v (.load 1 false (.t 49)))⟩]) (.cond (.t 50) (.ops [⟨(some 51), none, (.v (.fld 2 (.t 12)))⟩, ⟨(some 52), none, (.v (.load 1 false (.t 51)))⟩, ⟨(some 13), none, (.v (.mv (.t 52)))⟩]) .skip)) (.ops [⟨(some 53), none, (.v (.mv (.t 7)))⟩, ⟨(some 54), none, (.v (.mv (.t 8)))⟩, ⟨(some 55), none, (.v (.mv (.t 13)))⟩, ⟨(some 56), none, (.v (.idx 1 (.t 54) (.t 55)))⟩, ⟨(some 57), none, (.v (.load 1 false (.t 56)))⟩, ⟨(some 58), none, (.e (.lit 58 4 1 1 [(.bool false)] [(0, (.t 57))]))⟩, ⟨(some 59), none, (.e (.app 59 4 1 1 (.t 53) (.t 58)))⟩, ⟨(some 7), none, (.v (.mv (.t 59)))⟩]))))) (.ops [⟨(some 60), none, (.v (.bin .add (.t 36) (.c (.int .i64 1))))⟩, ⟨(some 36), none, (.v (.mv (.t 60)))⟩]))))
def a41 : AC := (.seq (.ops [⟨(some 3), none, (.e (.box 3 0 (.t 0)))⟩, ⟨(some 6), none, (.v (.mv (.c .cap0)))⟩, ⟨(some 7), none, (.v (.mv (.c .cap0)))⟩]) (.seq (.ops [⟨(some 14), none, (.v (.load 5 true (.t 3)))⟩, ⟨(some 15), none, (.v (.mv (.t 1)))⟩, ⟨(some 16), none, (.v (.mv (.t 2)))⟩, ⟨(some 17), none, (.call (.c (.fn 43 [])) [(.t 14), (.t 15), (.t 16)])⟩, ⟨(some 8), none, (.v (.mv (.t 17)))⟩]) (.seq (.seq (.ops [⟨(some 18), none, (.v (.fld 4 (.t 3)))⟩, ⟨(some 19), none, (.v (.load 1 false (.t 18)))⟩, ⟨(some 20), none, (.v (.len (.t 19)))⟩, ⟨(some 21), none, (.v (.mv (.c (.int .i64 0))))⟩]) (.block 0 (.loop a41_0))) (.seq (.seq (.ops [⟨(some 33), none, (.v (.fld 2 (.t 3)))⟩, ⟨(some 34), none, (.v (.load 1 false (.t 33)))⟩, ⟨(some 35), none, (.v (.len (.t 34)))⟩, ⟨(some 36), none, (.v (.mv (.c (.int .i64 0))))⟩]) (.block 2 (.loop a41_1))) (.seq (.ops [⟨(some 61), none, (.v (.mv (.t 6)))⟩, ⟨(some 62), none, (.v (.mv (.t 7)))⟩, ⟨(some 6), none, (.v (.mv (.t 61)))⟩, ⟨(some 7), none, (.v (.mv (.t 62)))⟩]) .ret)))))
def r41 : List AI := [(.mv (.t 6)), (.mv (.t 7))]
theorem f41 : Fn PP 41 3 a41 r41 := Fn.of (fn := Go.Proofs.Try.f41) (by kernel_rfl) (by kernel_rfl) (by kernel_rfl)

theorem p40 {N : Net} {cs : List AV} (hN : NetC cs N) (ok : N.Ok) (n1 n2 : Nat) : Pure PP 40 [.agg cs, .int .i64 n1, .int .i64 n2] fun r => r = .int .i64 (widthF N n1 n2) := by
  have hN0 := hN
  obtain ⟨f0, f1, f2, f3, f4, rfl, g0, g1, g2, g3, g4⟩ := hN
  refine Fn.pure fmix f40 ?_
  unfold a40 r40
  simp -implicitDefEqProofs only [vqa, Nat.reduceEqDiff, Nat.reduceAdd, reduceIte, Nat.reduceLeDiff, Nat.reduceBEq, Nat.reduceLT, Nat.reduceSub, Int.reduceLT, Int.reduceLE, Int.reduceEq, Int.reduceToNat, Nat.reduceMul, eq_self, implies_true, forall_const]
  refine CallW.sc (p19 hN0 ok) rfl ⟨⟨trivial, trivial, trivial, trivial, trivial, trivial⟩, trivial⟩ fun r hr => ⟨by subst hr; rfl, ?_⟩
  subst hr
  simp -implicitDefEqProofs only [vqa, Nat.reduceEqDiff, Nat.reduceAdd, reduceIte, Nat.reduceLeDiff, Nat.reduceBEq, Nat.reduceLT, Nat.reduceSub, Int.reduceLT, Int.reduceLE, Int.reduceEq, Int.reduceToNat, Nat.reduceMul, eq_self, implies_true, forall_const]
  refine ⟨fun k1 => by unfold widthF; rw [if_pos k1], fun k1 => ⟨fun k2 => ⟨fun k3 => ?_, fun k3 => ?_⟩, fun k2 => ?_⟩⟩
  · unfold widthF; rw [if_neg k1, if_pos (by omega)]
  · unfold widthF; rw [if_neg k1, if_neg (by omega)]
  · unfold widthF; rw [if_neg k1, if_pos (by omega)]

theorem p90 {N : Net} {cs : List AV} (hN : NetC cs N) (ok : N.Ok) (gd : N.Good) (x y : Nat → Int) (fx fy : Nat → AV) (hx : ∀ i, i < N.ni → fx i = .int .u64 (x i)) (hy : ∀ i, i < N.nf → fy i = .int .u64 (y i)) :
    Pure PP 90 [.agg cs, .fs N.ni fx, .fs N.nf fy] fun r => ∃ f, r = .fs N.nets f ∧ ∀ i, i < N.nets → f i = .int .u64 (wv N x y N.ng i) := by
  obtain ⟨f0, f1, f2, f3, f4, rfl, g0, g1, g2, g3, g4⟩ := hN
  have b1 := gd.ni; have b2 := gd.nf; have b3 := gd.ng
  have hfi : N.first = 2 + N.ni + N.nf := rfl
  have hnt : N.nets = N.first + N.ng := rfl
  refine Fn.pure fmix f90 ?_
  unfold a90 r90
  simp -implicitDefEqProofs only [vqa, Nat.reduceEqDiff, Nat.reduceAdd, reduceIte, Nat.reduceLeDiff, Nat.reduceBEq, Nat.reduceLT, Nat.reduceSub, Int.reduceLT, Int.reduceLE, Int.reduceEq, Int.reduceToNat, Nat.reduceMul, eq_self, implies_true, forall_const]
  refine ⟨⟨cells_of_int hx, by omega, by omega⟩, ⟨cells_of_int hy, by omega, by omega⟩, ?_⟩
  refine vFor N.ng (fun i e m => e 20 = .fs N.ng f3 ∧ e 21 = .int .i64 N.ng ∧ e 22 = .int .i64 i ∧ ∃ V g, e 7 = .sl 13 V (N.first + i) ∧ m 13 = .row V 22 1 (N.first + i) g ∧ ∀ k, k < N.first + i → g k = .int .u64 (wv N x y i k)) ?_ ?_ ?_
  · simp -implicitDefEqProofs only [vqa, Nat.reduceEqDiff, Nat.reduceAdd, reduceIte, Nat.reduceLeDiff, Nat.reduceBEq, Nat.reduceLT, Nat.reduceSub, Int.reduceLT, Int.reduceLE, Int.reduceEq, Int.reduceToNat, Nat.reduceMul, eq_self, implies_true, forall_const]
    refine ⟨_, _, rfl, rfl, fun k hk => ?_⟩
    simp only [wv, wBase]
    by_cases k0 : k = 0
    · subst k0; simp [show 0 < 2 + N.ni by omega]
    · by_cases k1 : k = 1
      · subst k1; rw [if_neg (by omega), if_pos rfl]
        simp only [show (1 : Nat) < 2 + N.ni by omega, decide_true, cond_true, show (1 : Nat) < 2 by omega]
        rfl
      · rw [if_neg k0, if_neg k1]
        by_cases k2 : k < 2 + N.ni
        · simp only [k2, decide_true, cond_true, show ¬ k < 2 by omega, decide_false, cond_false, if_true]
          exact hx _ (by omega)
        · simp only [k2, decide_false, cond_false, if_false]
          rw [hy _ (by omega), show k - (2 + N.ni) = k - 2 - N.ni by omega]
  · rintro i e m hi hi' ⟨h20, h21, h22, V, g, h7, hm, hg⟩
    obtain ⟨q, hq, hqi⟩ := g3 i hi
    obtain ⟨c1, c2, c3⟩ := gd.ins i hi
    unfold a90_0
    simp -implicitDefEqProofs only [vqa, Nat.reduceEqDiff, Nat.reduceAdd, reduceIte, Nat.reduceLeDiff, Nat.reduceBEq, Nat.reduceLT, Nat.reduceSub, Int.reduceLT, Int.reduceLE, Int.reduceEq, Int.reduceToNat, Nat.reduceMul, eq_self, implies_true, forall_const, h20, h21, h22, h7, hm, hi', hq]
    refine ⟨by omega, ?_⟩
    refine vFor (N.gate i).n (fun k e m => e 20 = .fs N.ng f3 ∧ e 21 = .int .i64 N.ng ∧ e 22 = .int .i64 i ∧ e 7 = .sl 13 V (N.first + i) ∧ m 13 = .row V 22 1 (N.first + i) g ∧ (∃ V9, e 9 = .ptr 9 V9 0 ∧ m 9 = .var V9 [.int .i64 (N.gate i).cell, .int .u64 (N.gate i).table, .fs (N.gate i).n q]) ∧ e 27 = .fs (N.gate i).n q ∧ e 28 = .int .i64 (N.gate i).n ∧ e 29 = .int .i64 k ∧ Acc 39 22 1 k (fun k a => a = .int .u64 (wv N x y i ((N.gate i).ins k).toNat)) (e 10) m) ?_ ?_ ?_
    · simp -implicitDefEqProofs only [vqa, Nat.reduceEqDiff, Nat.reduceAdd, reduceIte, Nat.reduceLeDiff, Nat.reduceBEq, Nat.reduceLT, Nat.reduceSub, Int.reduceLT, Int.reduceLE, Int.reduceEq, Int.reduceToNat, Nat.reduceMul, eq_self, implies_true, forall_const, h20, h21, h22, h7, hm]
      exact ⟨⟨_, rfl, rfl⟩, .none⟩
    · rintro k e m hk hk' ⟨h20, h21, h22, h7, hm, ⟨V9, h9, hm9⟩, h27, h28, h29, hA⟩
      obtain ⟨d1, d2⟩ := c3 k hk
      have hgk := hg ((N.gate i).ins k).toNat (by omega)
      unfold a90_1
      rcases hA with ⟨hz, h10⟩ | ⟨ver, gg, h10, hm39, hgg⟩
      · simp -implicitDefEqProofs only [vqa, Nat.reduceEqDiff, Nat.reduceAdd, reduceIte, Nat.reduceLeDiff, Nat.reduceBEq, Nat.reduceLT, Nat.reduceSub, Int.reduceLT, Int.reduceLE, Int.reduceEq, Int.reduceToNat, Nat.reduceMul, eq_self, implies_true, forall_const, h20, h21, h22, h7, hm, h9, hm9, h27, h28, h29, h10, hk', hqi k hk, hgk]
        subst hz
        exact ⟨by omega, by omega, by omega, hk, ⟨_, rfl, rfl⟩, wI (by omega) (by omega), .first rfl⟩
      · simp -implicitDefEqProofs only [vqa, Nat.reduceEqDiff, Nat.reduceAdd, reduceIte, Nat.reduceLeDiff, Nat.reduceBEq, Nat.reduceLT, Nat.reduceSub, Int.reduceLT, Int.reduceLE, Int.reduceEq, Int.reduceToNat, Nat.reduceMul, eq_self, implies_true, forall_const, h20, h21, h22, h7, hm, h9, hm9, h27, h28, h29, h10, hm39, hk', hqi k hk, hgk]
        exact ⟨by omega, by omega, by omega, ⟨by omega, by omega⟩, hk, ⟨_, rfl, rfl⟩, wI (by omega) (by omega), .push (p := fun k a => a = .int .u64 (wv N x y i ((N.gate i).ins k).toNat)) hgg rfl⟩
    · rintro e m ⟨h20, h21, h22, h7, hm, ⟨V9, h9, hm9⟩, h27, h28, h29, hA⟩
      have look : ∀ (K : AV → Mem → Prop), K (.int .u64 (lookF (N.gate i).table (N.gate i).n (fun j => wv N x y i ((N.gate i).ins j).toNat))) m → CallW PP 68 [.int .u64 (N.gate i).table, e 10] m K := fun K hK => by
        have hL : lookF (N.gate i).table (N.gate i).n (fun j => wv N x y i ((N.gate i).ins j).toNat) = accL (N.gate i).table (N.gate i).n (fun j => wv N x y i ((N.gate i).ins j).toNat) (2 ^ (N.gate i).n) := by unfold lookF; rw [if_pos c1]
        rw [hL] at hK
        rcases hA with ⟨hz, h10⟩ | ⟨ver, gg, h10, hm39, hgg⟩
        · rw [h10]
          refine CallW.sc (p68 (N.gate i).table (N.gate i).n (fun j => wv N x y i ((N.gate i).ins j).toNat) (fun _ => .undef) (fun j hj => by omega) c1) ?_ ?_ fun r hr => ⟨by subst hr; rfl, by subst hr; exact hK⟩
          · simp only [rsC, rs2, rs1, rs0, vqa, Nat.reduceEqDiff, Nat.reduceAdd, reduceIte, Nat.reduceLeDiff, Nat.reduceBEq, Nat.reduceLT, Nat.reduceSub, Int.reduceLT, Int.reduceLE, Int.reduceEq, Int.reduceToNat, Nat.reduceMul, eq_self, implies_true, forall_const, hz]
          · simp only [rsC, rs2, rs1, rs0, vqa, Nat.reduceEqDiff, Nat.reduceAdd, reduceIte, Nat.reduceLeDiff, Nat.reduceBEq, Nat.reduceLT, Nat.reduceSub, Int.reduceLT, Int.reduceLE, Int.reduceEq, Int.reduceToNat, Nat.reduceMul, eq_self, implies_true, forall_const]
        · rw [h10]
          refine CallW.sc (p68 (N.gate i).table (N.gate i).n (fun j => wv N x y i ((N.gate i).ins j).toNat) gg hgg c1) ?_ ?_ fun r hr => ⟨by subst hr; rfl, by subst hr; exact hK⟩
          · simp only [rsC, rs2, rs1, rs0, vqa, Nat.reduceEqDiff, Nat.reduceAdd, reduceIte, Nat.reduceLeDiff, Nat.reduceBEq, Nat.reduceLT, Nat.reduceSub, Int.reduceLT, Int.reduceLE, Int.reduceEq, Int.reduceToNat, Nat.reduceMul, eq_self, implies_true, forall_const, hm39]
          · simp only [rsC, rs2, rs1, rs0, vqa, Nat.reduceEqDiff, Nat.reduceAdd, reduceIte, Nat.reduceLeDiff, Nat.reduceBEq, Nat.reduceLT, Nat.reduceSub, Int.reduceLT, Int.reduceLE, Int.reduceEq, Int.reduceToNat, Nat.reduceMul, eq_self, implies_true, forall_const, hm39]
      unfold a90_1
      simp -implicitDefEqProofs only [vqa, Nat.reduceEqDiff, Nat.reduceAdd, reduceIte, Nat.reduceLeDiff, Nat.reduceBEq, Nat.reduceLT, Nat.reduceSub, Int.reduceLT, Int.reduceLE, Int.reduceEq, Int.reduceToNat, Nat.reduceMul, eq_self, implies_true, forall_const, h20, h21, h22, h7, hm, h9, hm9, h27, h28, h29]
      refine look _ ?_
      simp -implicitDefEqProofs only [vqa, Nat.reduceEqDiff, Nat.reduceAdd, reduceIte, Nat.reduceLeDiff, Nat.reduceBEq, Nat.reduceLT, Nat.reduceSub, Int.reduceLT, Int.reduceLE, Int.reduceEq, Int.reduceToNat, Nat.reduceMul, eq_self, implies_true, forall_const, h20, h21, h22, h7, hm, h9, hm9, h27, h28, h29]
      refine ⟨by omega, hi, wI (by omega) (by omega), _, _, rfl, rfl, fun k hk => ?_⟩
      by_cases h : k < N.first + i
      · simp only [h, decide_true, cond_true]
        rw [hg k h]
        simp only [wv]
        rw [if_neg (by omega)]
      · obtain rfl : k = N.first + i := by omega
        simp only [Nat.lt_irrefl, decide_false, cond_false, Nat.sub_self, List.getD_cons_zero, wv, if_true]
  · rintro e m ⟨h20, h21, h22, V, g, h7, hm, hg⟩
    unfold a90_0
    simp -implicitDefEqProofs only [vqa, Nat.reduceEqDiff, Nat.reduceAdd, reduceIte, Nat.reduceLeDiff, Nat.reduceBEq, Nat.reduceLT, Nat.reduceSub, Int.reduceLT, Int.reduceLE, Int.reduceEq, Int.reduceToNat, Nat.reduceMul, eq_self, implies_true, forall_const, h20, h21, h22, h7, hm]
    exact ⟨_, rfl, hg⟩

theorem p91 {N : Net} {cs : List AV} (hN : NetC cs N) (ok : N.Ok) (gd : N.Good) (v : Nat → Int) (fv : Nat → AV) (hv : ∀ i, i < N.nets → fv i = .int .u64 (v i)) :
    Pure PP 91 [.agg cs, .fs N.nets fv] fun r => ∃ f g, r = .tup [.fs N.nk f, .fs N.nf g] ∧ (∀ i, i < N.nk → f i = .int .u64 (v (N.outs i).toNat)) ∧ ∀ i, i < N.nf → g i = .int .u64 (nextW N v i) := by
  obtain ⟨f0, f1, f2, f3, f4, rfl, g0, g1, g2, g3, g4⟩ := hN
  have b1 := gd.ni; have b2 := gd.nf; have b3 := gd.ng; have b4 := gd.nk; have b5 := gd.no
  have hfi : N.first = 2 + N.ni + N.nf := rfl
  have hnt : N.nets = N.first + N.ng := rfl
  refine Fn.pure fmix f91 ?_
  unfold a91 r91
  simp -implicitDefEqProofs only [vqa, Nat.reduceEqDiff, Nat.reduceAdd, reduceIte, Nat.reduceLeDiff, Nat.reduceBEq, Nat.reduceLT, Nat.reduceSub, Int.reduceLT, Int.reduceLE, Int.reduceEq, Int.reduceToNat, Nat.reduceMul, eq_self, implies_true, forall_const]
  refine vFor N.nk (fun i e m => e 1 = .fs N.nets fv ∧ e 2 = .ptr 2 ((mem0 2).ver + 1) 0 ∧ m 2 = .var ((mem0 2).ver + 1) [.fs N.ni f0, .fs N.no f1, .fs N.nf f2, .fs N.ng f3, .fs N.nk f4] ∧ e 5 = .cap0 ∧ e 12 = .fs N.nk f4 ∧ e 13 = .int .i64 N.nk ∧ e 14 = .int .i64 i ∧ Acc 24 22 1 i (fun k a => a = .int .u64 (v (N.outs k).toNat)) (e 4) m) ?_ ?_ ?_
  · simp -implicitDefEqProofs only [vqa, Nat.reduceEqDiff, Nat.reduceAdd, reduceIte, Nat.reduceLeDiff, Nat.reduceBEq, Nat.reduceLT, Nat.reduceSub, Int.reduceLT, Int.reduceLE, Int.reduceEq, Int.reduceToNat, Nat.reduceMul, eq_self, implies_true, forall_const]
    exact .none
  · rintro i e m hi hi' ⟨h1, h2, hm2, h5, h12, h13, h14, hA⟩
    obtain ⟨d1, d2⟩ := gd.outs i hi
    have hvk := hv (N.outs i).toNat (by omega)
    unfold a91_0
    rcases hA with ⟨hz, h4⟩ | ⟨ver, gg, h4, hm4, hgg⟩
    · simp -implicitDefEqProofs only [vqa, Nat.reduceEqDiff, Nat.reduceAdd, reduceIte, Nat.reduceLeDiff, Nat.reduceBEq, Nat.reduceLT, Nat.reduceSub, Int.reduceLT, Int.reduceLE, Int.reduceEq, Int.reduceToNat, Nat.reduceMul, eq_self, implies_true, forall_const, h1, h2, hm2, h5, h12, h13, h14, h4, hi', g4 i hi, hvk]
      subst hz
      exact ⟨by omega, by omega, hi, wI (by omega) (by omega), .first rfl⟩
    · simp -implicitDefEqProofs only [vqa, Nat.reduceEqDiff, Nat.reduceAdd, reduceIte, Nat.reduceLeDiff, Nat.reduceBEq, Nat.reduceLT, Nat.reduceSub, Int.reduceLT, Int.reduceLE, Int.reduceEq, Int.reduceToNat, Nat.reduceMul, eq_self, implies_true, forall_const, h1, h2, hm2, h5, h12, h13, h14, h4, hm4, hi', g4 i hi, hvk]
      exact ⟨by omega, by omega, ⟨by omega, by omega⟩, hi, wI (by omega) (by omega), .push (p := fun k a => a = .int .u64 (v (N.outs k).toNat)) hgg rfl⟩
  · rintro e m ⟨h1, h2, hm2, h5, h12, h13, h14, hA⟩
    unfold a91_0
    simp -implicitDefEqProofs only [vqa, Nat.reduceEqDiff, Nat.reduceAdd, reduceIte, Nat.reduceLeDiff, Nat.reduceBEq, Nat.reduceLT, Nat.reduceSub, Int.reduceLT, Int.reduceLE, Int.reduceEq, Int.reduceToNat, Nat.reduceMul, eq_self, implies_true, forall_const, h1, h2, hm2, h5, h12, h13, h14]
    refine vFor N.nf (fun i e m => e 1 = .fs N.nets fv ∧ e 2 = .ptr 2 ((mem0 2).ver + 1) 0 ∧ m 2 = .var ((mem0 2).ver + 1) [.fs N.ni f0, .fs N.no f1, .fs N.nf f2, .fs N.ng f3, .fs N.nk f4] ∧ e 27 = .fs N.nf f2 ∧ e 28 = .int .i64 N.nf ∧ e 29 = .int .i64 i ∧ Acc 24 22 1 N.nk (fun k a => a = .int .u64 (v (N.outs k).toNat)) (e 4) m ∧ Acc 65 22 1 i (fun k a => a = .int .u64 (nextW N v k)) (e 5) m) ?_ ?_ ?_
    · simp -implicitDefEqProofs only [vqa, Nat.reduceEqDiff, Nat.reduceAdd, reduceIte, Nat.reduceLeDiff, Nat.reduceBEq, Nat.reduceLT, Nat.reduceSub, Int.reduceLT, Int.reduceLE, Int.reduceEq, Int.reduceToNat, Nat.reduceMul, eq_self, implies_true, forall_const, h1, h2, hm2, h5]
      exact ⟨hA, .none⟩
    · rintro i e m hi hi' ⟨h1, h2, hm2, h27, h28, h29, hA, hB⟩
      obtain ⟨⟨d1, d2⟩, d3, d4⟩ := gd.flops i hi
      have hvd := hv (N.flop i).d.toNat (by omega)
      have hve := hv (N.flop i).en.toNat (by omega)
      have hvo := hv (2 + N.ni + i) (by omega)
      unfold a91_1
      simp -implicitDefEqProofs only [vqa, Nat.reduceEqDiff, Nat.reduceAdd, reduceIte, Nat.reduceLeDiff, Nat.reduceBEq, Nat.reduceLT, Nat.reduceSub, Int.reduceLT, Int.reduceLE, Int.reduceEq, Int.reduceToNat, Nat.reduceMul, eq_self, implies_true, forall_const, h1, h2, hm2, h27, h28, h29, hi', g2 i hi, FlopV.av]
      rw [wI (n := 2 + (N.ni : Int)) (by omega) (by omega), wI (n := 2 + (N.ni : Int) + (i : Int)) (by omega) (by omega), show 2 + (N.ni : Int) + (i : Int) = ((2 + N.ni + i : Nat) : Int) by omega]
      simp -implicitDefEqProofs only [vqa, Nat.reduceEqDiff, Nat.reduceAdd, reduceIte, Nat.reduceLeDiff, Nat.reduceBEq, Nat.reduceLT, Nat.reduceSub, Int.reduceLT, Int.reduceLE, Int.reduceEq, Int.reduceToNat, Nat.reduceMul, eq_self, implies_true, forall_const, hvo]
      refine ⟨by omega, by omega, ?_⟩
      have hnx : bitop .or .u64 (bitop .and .u64 (v (N.flop i).en.toNat) (v (N.flop i).d.toNat)) (bitop .and .u64 (bitop .xor .u64 18446744073709551615 (v (N.flop i).en.toNat)) (v (2 + N.ni + i))) = nextW N v i := rfl
      refine vAny [0, 1, 2, 3, 4, 5, 6, 7, 8, 9, 10, 11, 12, 13, 14, 15, 16, 17, 18, 19, 20, 21, 22, 23] 24 (oneL 9) rfl rfl ?_
      rcases hB with ⟨hz, h5⟩ | ⟨ver, gg, h5, hm5, hgg⟩
      · simp -implicitDefEqProofs only [vqa, Nat.reduceEqDiff, Nat.reduceAdd, reduceIte, Nat.reduceLeDiff, Nat.reduceBEq, Nat.reduceLT, Nat.reduceSub, Int.reduceLT, Int.reduceLE, Int.reduceEq, Int.reduceToNat, Nat.reduceMul, eq_self, implies_true, forall_const, h1, h2, hm2, h5, h27, h28, h29, hvd, hve, hvo]
        subst hz
        exact ⟨by omega, by omega, by omega, hi, wI (by omega) (by omega), (((hA.setNe (by decide)).setNe (by decide)).setNe (by decide)).setNe (by decide), .first rfl⟩
      · simp -implicitDefEqProofs only [vqa, Nat.reduceEqDiff, Nat.reduceAdd, reduceIte, Nat.reduceLeDiff, Nat.reduceBEq, Nat.reduceLT, Nat.reduceSub, Int.reduceLT, Int.reduceLE, Int.reduceEq, Int.reduceToNat, Nat.reduceMul, eq_self, implies_true, forall_const, h1, h2, hm2, h5, hm5, h27, h28, h29, hvd, hve, hvo]
        exact ⟨by omega, by omega, by omega, ⟨by omega, by omega⟩, hi, wI (by omega) (by omega), (((hA.setNe (by decide)).setNe (by decide)).setNe (by decide)).setNe (by decide), .push (p := fun k a => a = .int .u64 (nextW N v k)) hgg rfl⟩
    · rintro e m ⟨h1, h2, hm2, h27, h28, h29, hA, hB⟩
      unfold a91_1
      rcases hA with ⟨hz, h4⟩ | ⟨ver, gg, h4, hm4, hgg⟩ <;> rcases hB with ⟨hz2, h5⟩ | ⟨ver2, gg2, h5, hm5, hgg2⟩
      · simp -implicitDefEqProofs only [vqa, Nat.reduceEqDiff, Nat.reduceAdd, reduceIte, Nat.reduceLeDiff, Nat.reduceBEq, Nat.reduceLT, Nat.reduceSub, Int.reduceLT, Int.reduceLE, Int.reduceEq, Int.reduceToNat, Nat.reduceMul, eq_self, implies_true, forall_const, h1, h2, hm2, h27, h28, h29, h4, h5]
        exact ⟨_, _, by rw [hz, hz2], fun i hi => absurd hi (by omega), fun i hi => absurd hi (by omega)⟩
      · simp -implicitDefEqProofs only [vqa, Nat.reduceEqDiff, Nat.reduceAdd, reduceIte, Nat.reduceLeDiff, Nat.reduceBEq, Nat.reduceLT, Nat.reduceSub, Int.reduceLT, Int.reduceLE, Int.reduceEq, Int.reduceToNat, Nat.reduceMul, eq_self, implies_true, forall_const, h1, h2, hm2, h27, h28, h29, h4, h5, hm5]
        exact ⟨_, _, by rw [hz], fun i hi => absurd hi (by omega), hgg2⟩
      · simp -implicitDefEqProofs only [vqa, Nat.reduceEqDiff, Nat.reduceAdd, reduceIte, Nat.reduceLeDiff, Nat.reduceBEq, Nat.reduceLT, Nat.reduceSub, Int.reduceLT, Int.reduceLE, Int.reduceEq, Int.reduceToNat, Nat.reduceMul, eq_self, implies_true, forall_const, h1, h2, hm2, h27, h28, h29, h4, hm4, h5]
        exact ⟨_, _, by rw [hz2], hgg, fun i hi => absurd hi (by omega)⟩
      · simp -implicitDefEqProofs only [vqa, Nat.reduceEqDiff, Nat.reduceAdd, reduceIte, Nat.reduceLeDiff, Nat.reduceBEq, Nat.reduceLT, Nat.reduceSub, Int.reduceLT, Int.reduceLE, Int.reduceEq, Int.reduceToNat, Nat.reduceMul, eq_self, implies_true, forall_const, h1, h2, hm2, h27, h28, h29, h4, hm4, h5, hm5]
        exact ⟨_, _, rfl, hgg, hgg2⟩

theorem widthF_zero {N : Net} {n1 n2 : Nat} (h : widthF N n1 n2 = 0) : N.Good ∧ n1 = N.ni ∧ n2 = N.nf := by
  unfold widthF at h
  split at h
  · rename_i h1; exact absurd h h1
  · rename_i h1
    split at h
    · cases h
    · exact ⟨Net.good (Classical.not_not.1 h1), by omega, by omega⟩

theorem p38 {N : Net} {cs : List AV} (hN : NetC cs N) (ok : N.Ok) (n1 n2 : Nat) (x y : Nat → Int) (fx fy : Nat → AV) (hx : ∀ i, i < n1 → fx i = .int .u64 (x i)) (hy : ∀ i, i < n2 → fy i = .int .u64 (y i)) :
    Pure PP 38 [.agg cs, .fs n1 fx, .fs n2 fy] fun r => ∃ n f, r = .tup [.fs n f, .int .i64 (widthF N n1 n2)] ∧ (widthF N n1 n2 ≠ 0 → n = 0) ∧ (widthF N n1 n2 = 0 → n = N.nets ∧ ∀ i, i < N.nets → f i = .int .u64 (wv N x y N.ng i)) := by
  have hN0 := hN
  obtain ⟨f0, f1, f2, f3, f4, rfl, g0, g1, g2, g3, g4⟩ := hN
  refine Fn.pure fmix f38 ?_
  unfold a38 r38
  simp -implicitDefEqProofs only [vqa, Nat.reduceEqDiff, Nat.reduceAdd, reduceIte, Nat.reduceLeDiff, Nat.reduceBEq, Nat.reduceLT, Nat.reduceSub, Int.reduceLT, Int.reduceLE, Int.reduceEq, Int.reduceToNat, Nat.reduceMul, eq_self, implies_true, forall_const]
  refine CallW.sc (p24 hN0 ok) rfl ⟨⟨trivial, trivial, trivial, trivial, trivial, trivial⟩, trivial⟩ fun r hr => ⟨by subst hr; rfl, ?_⟩
  subst hr
  simp -implicitDefEqProofs only [vqa, Nat.reduceEqDiff, Nat.reduceAdd, reduceIte, Nat.reduceLeDiff, Nat.reduceBEq, Nat.reduceLT, Nat.reduceSub, Int.reduceLT, Int.reduceLE, Int.reduceEq, Int.reduceToNat, Nat.reduceMul, eq_self, implies_true, forall_const]
  refine ⟨fun k1 => ?_, fun k1 => ⟨fun k2 => ⟨fun k3 => ?_, fun k3 => ?_⟩, fun k2 => ?_⟩⟩
  · have : widthF N n1 n2 = formF N := by unfold widthF; rw [if_pos k1]
    rw [this]
    exact ⟨_, _, rfl, fun _ => rfl, fun h => absurd h k1⟩
  · have : widthF N n1 n2 = 20 := by unfold widthF; rw [if_neg k1, if_pos (by omega)]
    rw [this]
    exact ⟨_, _, rfl, fun _ => rfl, fun h => absurd h (by decide)⟩
  · obtain rfl : n1 = N.ni := by omega
    obtain rfl : n2 = N.nf := by omega
    have hw : widthF N N.ni N.nf = 0 := by unfold widthF; rw [if_neg k1, if_neg (by simp)]
    rw [hw]
    refine CallW.fz (p90 hN0 ok (Net.good (Classical.not_not.1 k1)) x y fx fy hx hy) rfl rfl fun r ⟨f, hr, hf⟩ => ⟨by subst hr; rfl, ?_⟩
    subst hr
    simp -implicitDefEqProofs only [vqa, Nat.reduceEqDiff, Nat.reduceAdd, reduceIte, Nat.reduceLeDiff, Nat.reduceBEq, Nat.reduceLT, Nat.reduceSub, Int.reduceLT, Int.reduceLE, Int.reduceEq, Int.reduceToNat, Nat.reduceMul, eq_self, implies_true, forall_const]
    exact ⟨_, _, rfl, fun h => absurd rfl h, rfl, hf⟩
  · have : widthF N n1 n2 = 20 := by unfold widthF; rw [if_neg k1, if_pos (by omega)]
    rw [this]
    exact ⟨_, _, rfl, fun _ => rfl, fun h => absurd h (by decide)⟩

theorem p39 {N : Net} {cs : List AV} (hN : NetC cs N) (ok : N.Ok) (n1 n2 : Nat) (x y : Nat → Int) (fx fy : Nat → AV) (hx : ∀ i, i < n1 → fx i = .int .u64 (x i)) (hy : ∀ i, i < n2 → fy i = .int .u64 (y i)) :
    Pure PP 39 [.agg cs, .fs n1 fx, .fs n2 fy] fun r => ∃ n f n' f', r = .tup [.fs n f, .fs n' f', .int .i64 (widthF N n1 n2)] ∧ (widthF N n1 n2 ≠ 0 → n = 0 ∧ n' = 0) ∧ (widthF N n1 n2 = 0 → n = N.nk ∧ n' = N.nf ∧ (∀ i, i < N.nk → f i = .int .u64 (wv N x y N.ng (N.outs i).toNat)) ∧ ∀ i, i < N.nf → f' i = .int .u64 (nextW N (wv N x y N.ng) i)) := by
  have hN0 := hN
  obtain ⟨f0, f1, f2, f3, f4, rfl, g0, g1, g2, g3, g4⟩ := hN
  refine Fn.pure fmix f39 ?_
  unfold a39 r39
  simp -implicitDefEqProofs only [vqa, Nat.reduceEqDiff, Nat.reduceAdd, reduceIte, Nat.reduceLeDiff, Nat.reduceBEq, Nat.reduceLT, Nat.reduceSub, Int.reduceLT, Int.reduceLE, Int.reduceEq, Int.reduceToNat, Nat.reduceMul, eq_self, implies_true, forall_const]
  refine CallW.fz (p38 hN0 ok n1 n2 x y fx fy hx hy) rfl rfl fun r ⟨n, f, hr, hr1, hr2⟩ => ⟨by subst hr; rfl, ?_⟩
  subst hr
  simp -implicitDefEqProofs only [vqa, Nat.reduceEqDiff, Nat.reduceAdd, reduceIte, Nat.reduceLeDiff, Nat.reduceBEq, Nat.reduceLT, Nat.reduceSub, Int.reduceLT, Int.reduceLE, Int.reduceEq, Int.reduceToNat, Nat.reduceMul, eq_self, implies_true, forall_const]
  refine ⟨fun k1 => ?_, fun k1 => ?_⟩
  · exact ⟨_, _, _, _, rfl, fun _ => ⟨rfl, rfl⟩, fun h => absurd h k1⟩
  · have hw := Classical.not_not.1 k1
    obtain ⟨rfl, hf⟩ := hr2 hw
    obtain ⟨gd, _, _⟩ := widthF_zero hw
    rw [hw]
    refine CallW.fz (p91 hN0 ok gd (wv N x y N.ng) f hf) rfl rfl fun r ⟨a, b, hr, ha, hb⟩ => ⟨by subst hr; rfl, ?_⟩
    subst hr
    simp -implicitDefEqProofs only [vqa, Nat.reduceEqDiff, Nat.reduceAdd, reduceIte, Nat.reduceLeDiff, Nat.reduceBEq, Nat.reduceLT, Nat.reduceSub, Int.reduceLT, Int.reduceLE, Int.reduceEq, Int.reduceToNat, Nat.reduceMul, eq_self, implies_true, forall_const]
    exact ⟨_, _, _, _, rfl, fun h => absurd rfl h, rfl, rfl, ha, hb⟩

theorem p43 {N : Net} {cs : List AV} (hN : NetC cs N) (ok : N.Ok) (gd : N.Good) (x y : Nat → Bool) (fx fy : Nat → AV) (hx : ∀ i, i < N.ni → fx i = .bool (x i)) (hy : ∀ i, i < N.nf → fy i = .bool (y i)) :
    Pure PP 43 [.agg cs, .fs N.ni fx, .fs N.nf fy] fun r => ∃ f, r = .fs N.nets f ∧ ∀ i, i < N.nets → f i = .bool (bv N x y N.ng i) := by
  obtain ⟨f0, f1, f2, f3, f4, rfl, g0, g1, g2, g3, g4⟩ := hN
  have b1 := gd.ni; have b2 := gd.nf; have b3 := gd.ng
  have hfi : N.first = 2 + N.ni + N.nf := rfl
  have hnt : N.nets = N.first + N.ng := rfl
  refine Fn.pure fmix f43 ?_
  unfold a43 r43
  simp -implicitDefEqProofs only [vqa, Nat.reduceEqDiff, Nat.reduceAdd, reduceIte, Nat.reduceLeDiff, Nat.reduceBEq, Nat.reduceLT, Nat.reduceSub, Int.reduceLT, Int.reduceLE, Int.reduceEq, Int.reduceToNat, Nat.reduceMul, eq_self, implies_true, forall_const]
  have hc2 : ∀ j, j < 2 → (([AV.bool false, AV.bool true].getD j .undef).cells.length = 1 ∧ ([AV.bool false, AV.bool true].getD j .undef).cells.all AV.isCell = true) := fun j hj => by
    have : j = 0 ∨ j = 1 := by omega
    rcases this with h | h <;> subst h <;> exact ⟨rfl, rfl⟩
  refine CallW.frz (c := _) (args' := _) (mem' := _) rfl ⟨rfl, trivial⟩ ?_
  refine (CallW.own0 (K := fun v m => (∃ V g, v = .sl 50 V N.first ∧ m 50 = .row V 4 1 N.first g ∧ ∀ k, k < N.first → g k = .bool (bv N x y 0 k)) ∧ m 3 = .var ((mem0 3).ver + 1) [.fs N.ni f0, .fs N.no f1, .fs N.nf f2, .fs N.ng f3, .fs N.nk f4]) 50 (p92 3 (fun i => [2, N.ni, N.nf].getD i 0) (fun i => [fun i => [AV.bool false, AV.bool true].getD i .undef, fx, fy].getD i (fun _ => .undef)) (fun i => [AV.fs 2 fun i => [AV.bool false, AV.bool true].getD i .undef, .fs N.ni fx, .fs N.nf fy].getD i .undef) ?_ ?_ ?_ (by decide)) rfl rfl (fun h => ?_) (fun e sz n g ⟨h1, h2, h3, h5⟩ => ?_)).mono fun v m ⟨⟨V, g, hv, hm, hg⟩, hm3⟩ => ?_
  · intro i hi
    have : i = 0 ∨ i = 1 ∨ i = 2 := by omega
    rcases this with h | h | h <;> subst h <;> rfl
  · intro i hi
    have : i = 0 ∨ i = 1 ∨ i = 2 := by omega
    rcases this with h | h | h <;> subst h
    · exact hc2
    · exact cells_of_bool hx
    · exact cells_of_bool hy
  · show 0 + 2 + N.ni + N.nf ≤ 4194304
    omega
  · have : 0 + 2 + N.ni + N.nf = 0 := h
    omega
  · have hp : pre (fun i => [2, N.ni, N.nf].getD i 0) 3 = N.first := by show 0 + 2 + N.ni + N.nf = N.first; omega
    rw [hp] at h1 h5
    subst h1; subst h2; subst h3
    refine ⟨⟨_, g, rfl, set_same _ _ _, fun k hk => ?_⟩, rfl⟩
    rw [h5 k hk]
    show (if k < 0 + 2 + N.ni then (if k < 0 + 2 then (if k < 0 then AV.undef else [AV.bool false, AV.bool true].getD (k - 0) .undef) else fx (k - (0 + 2))) else fy (k - (0 + 2 + N.ni))) = _
    simp only [bv, bBase]
    by_cases k0 : k = 0
    · subst k0; rw [if_pos (by omega), if_pos (by omega), if_neg (by omega), if_pos rfl]; rfl
    · by_cases k1 : k = 1
      · subst k1; rw [if_pos (by omega), if_pos (by omega), if_neg (by omega), if_neg (by omega), if_pos rfl]; rfl
      · rw [if_neg k0, if_neg k1]
        by_cases k2 : k < 2 + N.ni
        · rw [if_pos (by omega), if_neg (by omega), if_pos k2, hx _ (by omega), show k - (0 + 2) = k - 2 by omega]
        · rw [if_neg (by omega), if_neg k2, hy _ (by omega), show k - (0 + 2 + N.ni) = k - 2 - N.ni by omega]
  subst hv
  simp -implicitDefEqProofs only [vqa, Nat.reduceEqDiff, Nat.reduceAdd, reduceIte, Nat.reduceLeDiff, Nat.reduceBEq, Nat.reduceLT, Nat.reduceSub, Int.reduceLT, Int.reduceLE, Int.reduceEq, Int.reduceToNat, Nat.reduceMul, eq_self, implies_true, forall_const, hm3]
  refine vFor N.ng (fun i e m => e 19 = .fs N.ng f3 ∧ e 20 = .int .i64 N.ng ∧ e 21 = .int .i64 i ∧ ∃ V g, e 7 = .sl 50 V (N.first + i) ∧ m 50 = .row V 4 1 (N.first + i) g ∧ ∀ k, k < N.first + i → g k = .bool (bv N x y i k)) ?_ ?_ ?_
  · simp -implicitDefEqProofs only [vqa, Nat.reduceEqDiff, Nat.reduceAdd, reduceIte, Nat.reduceLeDiff, Nat.reduceBEq, Nat.reduceLT, Nat.reduceSub, Int.reduceLT, Int.reduceLE, Int.reduceEq, Int.reduceToNat, Nat.reduceMul, eq_self, implies_true, forall_const]
    exact ⟨_, _, rfl, hm, hg⟩
  · rintro i e m hi hi' ⟨h19, h20, h21, V, g, h7, hm, hg⟩
    obtain ⟨q, hq, hqi⟩ := g3 i hi
    obtain ⟨c1, c2, c3⟩ := gd.ins i hi
    unfold a43_0
    simp -implicitDefEqProofs only [vqa, Nat.reduceEqDiff, Nat.reduceAdd, reduceIte, Nat.reduceLeDiff, Nat.reduceBEq, Nat.reduceLT, Nat.reduceSub, Int.reduceLT, Int.reduceLE, Int.reduceEq, Int.reduceToNat, Nat.reduceMul, eq_self, implies_true, forall_const, h19, h20, h21, h7, hm, hi', hq]
    refine ⟨by omega, ?_⟩
    refine vFor (N.gate i).n (fun k e m => e 19 = .fs N.ng f3 ∧ e 20 = .int .i64 N.ng ∧ e 21 = .int .i64 i ∧ e 7 = .sl 50 V (N.first + i) ∧ m 50 = .row V 4 1 (N.first + i) g ∧ (∃ V9, e 9 = .ptr 9 V9 0 ∧ m 9 = .var V9 [.int .i64 (N.gate i).cell, .int .u64 (N.gate i).table, .fs (N.gate i).n q]) ∧ e 26 = .fs (N.gate i).n q ∧ e 27 = .int .i64 (N.gate i).n ∧ e 28 = .int .i64 k ∧ e 10 = .int .i64 (rowB (fun j => bv N x y i ((N.gate i).ins j).toNat) k : Nat)) ?_ ?_ ?_
    · simp -implicitDefEqProofs only [vqa, Nat.reduceEqDiff, Nat.reduceAdd, reduceIte, Nat.reduceLeDiff, Nat.reduceBEq, Nat.reduceLT, Nat.reduceSub, Int.reduceLT, Int.reduceLE, Int.reduceEq, Int.reduceToNat, Nat.reduceMul, eq_self, implies_true, forall_const, h19, h20, h21, h7, hm]
      exact ⟨⟨_, rfl, rfl⟩, rfl⟩
    · rintro k e m hk hk' ⟨h19, h20, h21, h7, hm, ⟨V9, h9, hm9⟩, h26, h27, h28, h10⟩
      obtain ⟨d1, d2⟩ := c3 k hk
      have hgk := hg ((N.gate i).ins k).toNat (by omega)
      have hlt := rowB_lt (fun j => bv N x y i ((N.gate i).ins j).toNat) k
      unfold a43_1
      cases hb : bv N x y i ((N.gate i).ins k).toNat with
      | true =>
        simp -implicitDefEqProofs only [vqa, Nat.reduceEqDiff, Nat.reduceAdd, reduceIte, Nat.reduceLeDiff, Nat.reduceBEq, Nat.reduceLT, Nat.reduceSub, Int.reduceLT, Int.reduceLE, Int.reduceEq, Int.reduceToNat, Nat.reduceMul, eq_self, implies_true, forall_const, h19, h20, h21, h7, hm, h9, hm9, h26, h27, h28, h10, hk', hqi k hk, hgk, hb]
        refine ⟨by omega, by omega, by omega, by omega, hk, ⟨_, rfl, rfl⟩, wI (by omega) (by omega), ?_⟩
        rw [or_step (by omega) hlt]
        simp only [rowB, hb, if_true]
      | false =>
        simp -implicitDefEqProofs only [vqa, Nat.reduceEqDiff, Nat.reduceAdd, reduceIte, Nat.reduceLeDiff, Nat.reduceBEq, Nat.reduceLT, Nat.reduceSub, Int.reduceLT, Int.reduceLE, Int.reduceEq, Int.reduceToNat, Nat.reduceMul, eq_self, implies_true, forall_const, h19, h20, h21, h7, hm, h9, hm9, h26, h27, h28, h10, hk', hqi k hk, hgk, hb]
        refine ⟨by omega, by omega, by omega, hk, ⟨_, rfl, rfl⟩, wI (by omega) (by omega), ?_⟩
        simp only [rowB, hb, Bool.false_eq_true, if_false, Nat.add_zero]
    · rintro e m ⟨h19, h20, h21, h7, hm, ⟨V9, h9, hm9⟩, h26, h27, h28, h10⟩
      unfold a43_1
      simp -implicitDefEqProofs only [vqa, Nat.reduceEqDiff, Nat.reduceAdd, reduceIte, Nat.reduceLeDiff, Nat.reduceBEq, Nat.reduceLT, Nat.reduceSub, Int.reduceLT, Int.reduceLE, Int.reduceEq, Int.reduceToNat, Nat.reduceMul, eq_self, implies_true, forall_const, h19, h20, h21, h7, hm, h9, hm9, h26, h27, h28, h10]
      refine ⟨by omega, by omega, hi, wI (by omega) (by omega), _, _, rfl, rfl, fun k hk => ?_⟩
      by_cases h : k < N.first + i
      · simp only [h, decide_true, cond_true]
        rw [hg k h]
        simp only [bv]
        rw [if_neg (by omega)]
      · obtain rfl : k = N.first + i := by omega
        simp only [Nat.lt_irrefl, decide_false, cond_false, Nat.sub_self, List.getD_cons_zero, bv, if_true]
        rfl
  · rintro e m ⟨h19, h20, h21, V, g, h7, hm, hg⟩
    unfold a43_0
    simp -implicitDefEqProofs only [vqa, Nat.reduceEqDiff, Nat.reduceAdd, reduceIte, Nat.reduceLeDiff, Nat.reduceBEq, Nat.reduceLT, Nat.reduceSub, Int.reduceLT, Int.reduceLE, Int.reduceEq, Int.reduceToNat, Nat.reduceMul, eq_self, implies_true, forall_const, h19, h20, h21, h7, hm]
    exact ⟨_, rfl, hg⟩

theorem p41 {N : Net} {cs : List AV} (hN : NetC cs N) (ok : N.Ok) (gd : N.Good) (x y : Nat → Bool) (fx fy : Nat → AV) (hx : ∀ i, i < N.ni → fx i = .bool (x i)) (hy : ∀ i, i < N.nf → fy i = .bool (y i)) :
    Pure PP 41 [.agg cs, .fs N.ni fx, .fs N.nf fy] fun r => ∃ f g, r = .tup [.fs N.nk f, .fs N.nf g] ∧ (∀ i, i < N.nk → f i = .bool (bv N x y N.ng (N.outs i).toNat)) ∧ ∀ i, i < N.nf → g i = .bool (nextB N (bv N x y N.ng) i) := by
  have hN0 := hN
  obtain ⟨f0, f1, f2, f3, f4, rfl, g0, g1, g2, g3, g4⟩ := hN
  have b1 := gd.ni; have b2 := gd.nf; have b3 := gd.ng; have b4 := gd.nk; have b5 := gd.no
  have hfi : N.first = 2 + N.ni + N.nf := rfl
  have hnt : N.nets = N.first + N.ng := rfl
  refine Fn.pure fmix f41 ?_
  unfold a41 r41
  simp -implicitDefEqProofs only [vqa, Nat.reduceEqDiff, Nat.reduceAdd, reduceIte, Nat.reduceLeDiff, Nat.reduceBEq, Nat.reduceLT, Nat.reduceSub, Int.reduceLT, Int.reduceLE, Int.reduceEq, Int.reduceToNat, Nat.reduceMul, eq_self, implies_true, forall_const]
  refine CallW.fz (p43 hN0 ok gd x y fx fy hx hy) rfl rfl fun r ⟨fv, hr, hv⟩ => ⟨by subst hr; rfl, ?_⟩
  subst hr
  simp -implicitDefEqProofs only [vqa, Nat.reduceEqDiff, Nat.reduceAdd, reduceIte, Nat.reduceLeDiff, Nat.reduceBEq, Nat.reduceLT, Nat.reduceSub, Int.reduceLT, Int.reduceLE, Int.reduceEq, Int.reduceToNat, Nat.reduceMul, eq_self, implies_true, forall_const]
  refine vFor N.nk (fun i e m => e 1 = .fs N.ni fx ∧ e 8 = .fs N.nets fv ∧ e 3 = .ptr 3 ((mem0 3).ver + 1) 0 ∧ m 3 = .var ((mem0 3).ver + 1) [.fs N.ni f0, .fs N.no f1, .fs N.nf f2, .fs N.ng f3, .fs N.nk f4] ∧ e 7 = .cap0 ∧ e 19 = .fs N.nk f4 ∧ e 20 = .int .i64 N.nk ∧ e 21 = .int .i64 i ∧ Acc 31 4 1 i (fun k a => a = .bool (bv N x y N.ng (N.outs k).toNat)) (e 6) m) ?_ ?_ ?_
  · simp -implicitDefEqProofs only [vqa, Nat.reduceEqDiff, Nat.reduceAdd, reduceIte, Nat.reduceLeDiff, Nat.reduceBEq, Nat.reduceLT, Nat.reduceSub, Int.reduceLT, Int.reduceLE, Int.reduceEq, Int.reduceToNat, Nat.reduceMul, eq_self, implies_true, forall_const]
    exact .none
  · rintro i e m hi hi' ⟨h1, h8, h3, hm3, h7, h19, h20, h21, hA⟩
    obtain ⟨d1, d2⟩ := gd.outs i hi
    have hvk := hv (N.outs i).toNat (by omega)
    unfold a41_0
    rcases hA with ⟨hz, h6⟩ | ⟨ver, gg, h6, hm6, hgg⟩
    · simp -implicitDefEqProofs only [vqa, Nat.reduceEqDiff, Nat.reduceAdd, reduceIte, Nat.reduceLeDiff, Nat.reduceBEq, Nat.reduceLT, Nat.reduceSub, Int.reduceLT, Int.reduceLE, Int.reduceEq, Int.reduceToNat, Nat.reduceMul, eq_self, implies_true, forall_const, h1, h8, h3, hm3, h7, h19, h20, h21, h6, hi', g4 i hi, hvk]
      subst hz
      exact ⟨by omega, by omega, hi, wI (by omega) (by omega), .first rfl⟩
    · simp -implicitDefEqProofs only [vqa, Nat.reduceEqDiff, Nat.reduceAdd, reduceIte, Nat.reduceLeDiff, Nat.reduceBEq, Nat.reduceLT, Nat.reduceSub, Int.reduceLT, Int.reduceLE, Int.reduceEq, Int.reduceToNat, Nat.reduceMul, eq_self, implies_true, forall_const, h1, h8, h3, hm3, h7, h19, h20, h21, h6, hm6, hi', g4 i hi, hvk]
      exact ⟨by omega, by omega, ⟨by omega, by omega⟩, hi, wI (by omega) (by omega), .push (p := fun k a => a = .bool (bv N x y N.ng (N.outs k).toNat)) hgg rfl⟩
  · rintro e m ⟨h1, h8, h3, hm3, h7, h19, h20, h21, hA⟩
    unfold a41_0
    simp -implicitDefEqProofs only [vqa, Nat.reduceEqDiff, Nat.reduceAdd, reduceIte, Nat.reduceLeDiff, Nat.reduceBEq, Nat.reduceLT, Nat.reduceSub, Int.reduceLT, Int.reduceLE, Int.reduceEq, Int.reduceToNat, Nat.reduceMul, eq_self, implies_true, forall_const, h1, h8, h3, hm3, h7, h19, h20, h21]
    refine vFor N.nf (fun i e m => e 1 = .fs N.ni fx ∧ e 8 = .fs N.nets fv ∧ e 34 = .fs N.nf f2 ∧ e 35 = .int .i64 N.nf ∧ e 36 = .int .i64 i ∧ Acc 31 4 1 N.nk (fun k a => a = .bool (bv N x y N.ng (N.outs k).toNat)) (e 6) m ∧ Acc 59 4 1 i (fun k a => a = .bool (nextB N (bv N x y N.ng) k)) (e 7) m) ?_ ?_ ?_
    · simp -implicitDefEqProofs only [vqa, Nat.reduceEqDiff, Nat.reduceAdd, reduceIte, Nat.reduceLeDiff, Nat.reduceBEq, Nat.reduceLT, Nat.reduceSub, Int.reduceLT, Int.reduceLE, Int.reduceEq, Int.reduceToNat, Nat.reduceMul, eq_self, implies_true, forall_const, h1, h8, h7]
      exact ⟨hA, .none⟩
    · rintro i e m hi hi' ⟨h1, h8, h34, h35, h36, hA, hB⟩
      obtain ⟨⟨d1, d2⟩, d3, d4⟩ := gd.flops i hi
      have hvd := hv (N.flop i).d.toNat (by omega)
      have hve := hv (N.flop i).en.toNat (by omega)
      have hvo := hv (2 + N.ni + i) (by omega)
      have w1 : IntKind.i64.wrap (2 + (N.ni : Int)) = 2 + (N.ni : Int) := wI (by omega) (by omega)
      have w2 : IntKind.i64.wrap (2 + (N.ni : Int) + (i : Int)) = ((2 + N.ni + i : Nat) : Int) := by rw [wI (by omega) (by omega)]; omega
      unfold a41_1
      cases he : bv N x y N.ng (N.flop i).en.toNat with
      | true =>
        have hn : nextB N (bv N x y N.ng) i = bv N x y N.ng (N.flop i).d.toNat := by unfold nextB; rw [if_pos he]
        rcases hB with ⟨hz, h7⟩ | ⟨ver, gg, h7, hm7, hgg⟩
        · simp -implicitDefEqProofs only [vqa, Nat.reduceEqDiff, Nat.reduceAdd, reduceIte, Nat.reduceLeDiff, Nat.reduceBEq, Nat.reduceLT, Nat.reduceSub, Int.reduceLT, Int.reduceLE, Int.reduceEq, Int.reduceToNat, Nat.reduceMul, eq_self, implies_true, forall_const, h1, h8, h34, h35, h36, h7, hi', g2 i hi, FlopV.av, w1, w2, hvd, hve, he]
          subst hz
          exact ⟨by omega, by omega, by omega, hi, wI (by omega) (by omega), (((hA.setNe (by decide)).setNe (by decide)).setNe (by decide)).setNe (by decide), .first (congrArg _ hn.symm)⟩
        · simp -implicitDefEqProofs only [vqa, Nat.reduceEqDiff, Nat.reduceAdd, reduceIte, Nat.reduceLeDiff, Nat.reduceBEq, Nat.reduceLT, Nat.reduceSub, Int.reduceLT, Int.reduceLE, Int.reduceEq, Int.reduceToNat, Nat.reduceMul, eq_self, implies_true, forall_const, h1, h8, h34, h35, h36, h7, hm7, hi', g2 i hi, FlopV.av, w1, w2, hvd, hve, he]
          exact ⟨by omega, by omega, by omega, ⟨by omega, by omega⟩, hi, wI (by omega) (by omega), (((hA.setNe (by decide)).setNe (by decide)).setNe (by decide)).setNe (by decide), .push (p := fun k a => a = .bool (nextB N (bv N x y N.ng) k)) hgg (congrArg _ hn.symm)⟩
      | false =>
        have hn : nextB N (bv N x y N.ng) i = bv N x y N.ng (2 + N.ni + i) := by unfold nextB; rw [if_neg (by simp [he])]
        rcases hB with ⟨hz, h7⟩ | ⟨ver, gg, h7, hm7, hgg⟩
        · simp -implicitDefEqProofs only [vqa, Nat.reduceEqDiff, Nat.reduceAdd, reduceIte, Nat.reduceLeDiff, Nat.reduceBEq, Nat.reduceLT, Nat.reduceSub, Int.reduceLT, Int.reduceLE, Int.reduceEq, Int.reduceToNat, Nat.reduceMul, eq_self, implies_true, forall_const, h1, h8, h34, h35, h36, h7, hi', g2 i hi, FlopV.av, w1, w2, hvo, hve, he]
          subst hz
          exact ⟨by omega, by omega, by omega, hi, wI (by omega) (by omega), (((hA.setNe (by decide)).setNe (by decide)).setNe (by decide)).setNe (by decide), .first (congrArg _ hn.symm)⟩
        · simp -implicitDefEqProofs only [vqa, Nat.reduceEqDiff, Nat.reduceAdd, reduceIte, Nat.reduceLeDiff, Nat.reduceBEq, Nat.reduceLT, Nat.reduceSub, Int.reduceLT, Int.reduceLE, Int.reduceEq, Int.reduceToNat, Nat.reduceMul, eq_self, implies_true, forall_const, h1, h8, h34, h35, h36, h7, hm7, hi', g2 i hi, FlopV.av, w1, w2, hvo, hve, he]
          exact ⟨by omega, by omega, by omega, ⟨by omega, by omega⟩, hi, wI (by omega) (by omega), (((hA.setNe (by decide)).setNe (by decide)).setNe (by decide)).setNe (by decide), .push (p := fun k a => a = .bool (nextB N (bv N x y N.ng) k)) hgg (congrArg _ hn.symm)⟩
    · rintro e m ⟨h1, h8, h34, h35, h36, hA, hB⟩
      unfold a41_1
      rcases hA with ⟨hz, h4⟩ | ⟨ver, gg, h4, hm4, hgg⟩ <;> rcases hB with ⟨hz2, h5⟩ | ⟨ver2, gg2, h5, hm5, hgg2⟩
      · simp -implicitDefEqProofs only [vqa, Nat.reduceEqDiff, Nat.reduceAdd, reduceIte, Nat.reduceLeDiff, Nat.reduceBEq, Nat.reduceLT, Nat.reduceSub, Int.reduceLT, Int.reduceLE, Int.reduceEq, Int.reduceToNat, Nat.reduceMul, eq_self, implies_true, forall_const, h1, h8, h34, h35, h36, h4, h5]
        exact ⟨_, _, by rw [hz, hz2], fun i hi => absurd hi (by omega), fun i hi => absurd hi (by omega)⟩
      · simp -implicitDefEqProofs only [vqa, Nat.reduceEqDiff, Nat.reduceAdd, reduceIte, Nat.reduceLeDiff, Nat.reduceBEq, Nat.reduceLT, Nat.reduceSub, Int.reduceLT, Int.reduceLE, Int.reduceEq, Int.reduceToNat, Nat.reduceMul, eq_self, implies_true, forall_const, h1, h8, h34, h35, h36, h4, h5, hm5]
        exact ⟨_, _, by rw [hz], fun i hi => absurd hi (by omega), hgg2⟩
      · simp -implicitDefEqProofs only [vqa, Nat.reduceEqDiff, Nat.reduceAdd, reduceIte, Nat.reduceLeDiff, Nat.reduceBEq, Nat.reduceLT, Nat.reduceSub, Int.reduceLT, Int.reduceLE, Int.reduceEq, Int.reduceToNat, Nat.reduceMul, eq_self, implies_true, forall_const, h1, h8, h34, h35, h36, h4, hm4, h5]
        exact ⟨_, _, by rw [hz2], hgg, fun i hi => absurd hi (by omega)⟩
      · simp -implicitDefEqProofs only [vqa, Nat.reduceEqDiff, Nat.reduceAdd, reduceIte, Nat.reduceLeDiff, Nat.reduceBEq, Nat.reduceLT, Nat.reduceSub, Int.reduceLT, Int.reduceLE, Int.reduceEq, Int.reduceToNat, Nat.reduceMul, eq_self, implies_true, forall_const, h1, h8, h34, h35, h36, h4, hm4, h5, hm5]
        exact ⟨_, _, rfl, hgg, hgg2⟩
end Go.Ab
