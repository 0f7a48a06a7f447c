/- Walks: gating.Enables. -/
import Derived.Test.YtodncnlnadgkhacSaGFau0
import Derived.Test.YtodncnlnadgkhacLwGate
import Derived.Test.YtodncnlnadgkhacSaMak0
import Derived.Test.YtodncnlnadgkhacFwT
set_option linter.unusedSimpArgs false
set_option linter.unusedVariables false
namespace Go.Ab
open Go
def a100 : AC := (.seq (.ops [⟨(some 2), none, (.e (.box 2 0 (.t 0)))⟩, ⟨(some 4), none, (.e (.alloc 4 [(.int .i64 0), (.int .i64 0)]))⟩, ⟨(some 5), none, (.v (.mv (.c (.bool false))))⟩]) (.seq (.seq (.ops [⟨(some 7), none, (.v (.mv (.t 1)))⟩, ⟨(some 8), none, (.v (.bin .quo (.t 7) (.c (.int .i64 2))))⟩, ⟨(some 9), none, (.v (.load 5 true (.t 2)))⟩, ⟨(some 10), none, (.call (.c (.fn 80 [])) [(.t 9)])⟩, ⟨(some 11), none, (.v (.bin .sub (.t 8) (.t 10)))⟩, ⟨(some 6), none, (.v (.mv (.t 11)))⟩]) (.seq (.ops [⟨(some 12), none, (.v (.mv (.t 6)))⟩, ⟨(some 13), none, (.v (.bin .geq (.t 12) (.c (.int .i64 0))))⟩, ⟨(some 14), none, (.v (.mv (.t 13)))⟩, ⟨(some 15), (some (14, true)), (.v (.mv (.t 1)))⟩, ⟨(some 16), (some (14, true)), (.v (.bin .rem (.t 15) (.c (.int .i64 2))))⟩, ⟨(some 17), (some (14, true)), (.v (.bin .eql (.t 16) (.c (.int .i64 0))))⟩, ⟨(some 18), none, (.v (.pick (.t 14) (.t 17) (.c (.bool false))))⟩]) (.cond (.t 18) (.seq (.ops [⟨(some 19), none, (.v (.fld 3 (.t 2)))⟩, ⟨(some 20), none, (.v (.load 1 false (.t 19)))⟩, ⟨(some 21), none, (.v (.mv (.t 6)))⟩, ⟨(some 22), none, (.v (.idx 2 (.t 20) (.t 21)))⟩, ⟨(some 23), none, (.v (.load 2 true (.t 22)))⟩, ⟨none, none, (.e (.store 2 (.t 4) (.t 23)))⟩, ⟨(some 5), none, (.v (.mv (.c (.bool true))))⟩]) .ret) .skip))) (.seq (.ops [⟨(some 24), none, (.v (.build [(.int .i64 0), (.int .i64 0)] []))⟩, ⟨none, none, (.e (.store 2 (.t 4) (.t 24)))⟩, ⟨(some 5), none, (.v (.mv (.c (.bool false))))⟩]) .ret)))
def r100 : List AI := [(.load 2 true (.t 4)), (.mv (.t 5))]
theorem f100 : Fn PP 100 2 a100 r100 := Fn.of (fn := Go.Proofs.Try.f100) (by kernel_rfl) (by kernel_rfl) (by kernel_rfl)
def a99_1 : AC := (.seq (.ops [⟨(some 79), none, (.v (.bin .lss (.t 78) (.t 77)))⟩]) (.seq (.cond (.t 79) .skip (.exit 2)) (.seq (.block 3 (.seq (.ops [⟨(some 80), none, (.v (.idx 2 (.t 76) (.t 78)))⟩, ⟨(some 81), none, (.v (.load 2 true (.t 80)))⟩, ⟨(some 16), none, (.e (.alloc 16 [(.int .i64 0), (.int .i64 0)]))⟩, ⟨none, none, (.e (.store 2 (.t 16) (.t 81)))⟩]) (.seq (.ops [⟨(some 82), none, (.v (.aidx 2 2 (.t 14) (.c (.int .i64 1))))⟩, ⟨(some 83), none, (.v (.load 2 true (.t 82)))⟩, ⟨(some 84), none, (.v (.fld 0 (.t 16)))⟩, ⟨(some 85), none, (.v (.load 1 false (.t 84)))⟩, ⟨(some 86), none, (.v (.bin .xor (.t 85) (.c (.int .i64 1))))⟩, ⟨(some 87), none, (.v (.mv (.t 2)))⟩, ⟨(some 88), none, (.v (.build [(.int .i64 0), (.int .i64 0)] [(0, (1, (.t 86))), (1, (1, (.t 87)))]))⟩, ⟨(some 89), none, (.v (.aeq [.int, .int] false (.t 83) (.t 88)))⟩, ⟨(some 90), none, (.v (.mv (.t 89)))⟩, ⟨(some 91), (some (90, false)), (.v (.aidx 2 2 (.t 14) (.c (.int .i64 1))))⟩, ⟨(some 92), (some (90, false)), (.v (.load 2 true (.t 91)))⟩, ⟨(some 93), (some (90, false)), (.v (.mv (.t 2)))⟩, ⟨(some 94), (some (90, false)), (.v (.fld 0 (.t 16)))⟩, ⟨(some 95), (some (90, false)), (.v (.load 1 false (.t 94)))⟩, ⟨(some 96), (some (90, false)), (.v (.bin .xor (.t 95) (.c (.int .i64 1))))⟩, ⟨(some 97), (some (90, false)), (.v (.build [(.int .i64 0), (.int .i64 0)] [(0, (1, (.t 93))), (1, (1, (.t 96)))]))⟩, ⟨(some 98), (some (90, false)), (.v (.aeq [.int, .int] false (.t 92) (.t 97)))⟩, ⟨(some 99), none, (.v (.pick (.t 90) (.c (.bool true)) (.t 98)))⟩]) (.cond (.t 99) (.seq (.ops [⟨(some 100), none, (.v (.load 2 true (.t 16)))⟩, ⟨none, none, (.e (.store 2 (.t 6) (.t 100)))⟩, ⟨(some 7), none, (.v (.mv (.c (.bool true))))⟩]) .ret) .skip)))) (.ops [⟨(some 101), none, (.v (.bin .add (.t 78) (.c (.int .i64 1))))⟩, ⟨(some 78), none, (.v (.mv (.t 101)))⟩]))))
def a99_0 : AC := (.seq (.ops [⟨(some 59), none, (.v (.bin .lss (.t 58) (.t 57)))⟩]) (.seq (.cond (.t 59) .skip (.exit 0)) (.seq (.block 1 (.seq (.ops [⟨(some 60), none, (.v (.idx 4 (.t 56) (.t 58)))⟩, ⟨(some 61), none, (.v (.load 4 true (.t 60)))⟩, ⟨(some 14), none, (.e (.alloc 14 [(.int .i64 0), (.int .i64 0), (.int .i64 0), (.int .i64 0)]))⟩, ⟨none, none, (.e (.store 4 (.t 14) (.t 61)))⟩]) (.seq (.ops [⟨(some 62), none, (.v (.aidx 2 2 (.t 14) (.c (.int .i64 0))))⟩, ⟨(some 63), none, (.v (.fld 0 (.t 62)))⟩, ⟨(some 64), none, (.v (.load 1 false (.t 63)))⟩, ⟨(some 65), none, (.v (.aidx 2 2 (.t 14) (.c (.int .i64 0))))⟩, ⟨(some 66), none, (.v (.fld 1 (.t 65)))⟩, ⟨(some 67), none, (.v (.load 1 false (.t 66)))⟩, ⟨(some 68), none, (.v (.build [(.int .i64 0), (.int .i64 0)] [(0, (1, (.t 64))), (1, (1, (.t 67)))]))⟩, ⟨(some 69), none, (.v (.aidx 2 2 (.t 14) (.c (.int .i64 0))))⟩, ⟨(some 70), none, (.v (.fld 1 (.t 69)))⟩, ⟨(some 71), none, (.v (.load 1 false (.t 70)))⟩, ⟨(some 72), none, (.v (.aidx 2 2 (.t 14) (.c (.int .i64 0))))⟩, ⟨(some 73), none, (.v (.fld 0 (.t 72)))⟩, ⟨(some 74), none, (.v (.load 1 false (.t 73)))⟩, ⟨(some 75), none, (.v (.build [(.int .i64 0), (.int .i64 0)] [(0, (1, (.t 71))), (1, (1, (.t 74)))]))⟩, ⟨(some 76), none, (.e (.lit 76 81 2 2 [(.int .i64 0), (.int .i64 0)] [(0, (.t 68)), (1, (.t 75))]))⟩, ⟨(some 77), none, (.v (.len (.t 76)))⟩, ⟨(some 78), none, (.v (.mv (.c (.int .i64 0))))⟩]) (.block 2 (.loop a99_1))))) (.ops [⟨(some 102), none, (.v (.bin .add (.t 58) (.c (.int .i64 1))))⟩, ⟨(some 58), none, (.v (.mv (.t 102)))⟩]))))
def a99 : AC := (.seq (.ops [⟨(some 3), none, (.e (.box 3 0 (.t 0)))⟩, ⟨(some 6), none, (.e (.alloc 6 [(.int .i64 0), (.int .i64 0)]))⟩, ⟨(some 7), none, (.v (.mv (.c (.bool false))))⟩]) (.seq (.ops [⟨(some 18), none, (.v (.load 5 true (.t 3)))⟩, ⟨(some 19), none, (.v (.mv (.t 1)))⟩, ⟨(some 20), none, (.v (.bin .xor (.t 19) (.c (.int .i64 1))))⟩, ⟨(some 21), none, (.call (.c (.fn 100 [])) [(.t 18), (.t 20)])⟩, ⟨(some 17), none, (.v (.mv (.t 21)))⟩, ⟨(some 22), none, (.v (.ext 0 (.t 17)))⟩, ⟨(some 23), none, (.v (.ext 1 (.t 17)))⟩, ⟨(some 8), none, (.e (.alloc 8 [(.int .i64 0), (.int .i64 0)]))⟩, ⟨none, none, (.e (.store 2 (.t 8) (.t 22)))⟩, ⟨(some 9), none, (.v (.mv (.t 23)))⟩]) (.seq (.seq (.ops [⟨(some 24), none, (.v (.mv (.t 9)))⟩, ⟨(some 25), none, (.v (.not (.t 24)))⟩]) (.cond (.t 25) (.seq (.ops [⟨(some 26), none, (.v (.build [(.int .i64 0), (.int .i64 0)] []))⟩, ⟨none, none, (.e (.store 2 (.t 6) (.t 26)))⟩, ⟨(some 7), none, (.v (.mv (.c (.bool false))))⟩]) .ret) .skip)) (.seq (.ops [⟨(some 28), none, (.v (.load 5 true (.t 3)))⟩, ⟨(some 29), none, (.v (.fld 0 (.t 8)))⟩, ⟨(some 30), none, (.v (.load 1 false (.t 29)))⟩, ⟨(some 31), none, (.v (.bin .xor (.t 30) (.c (.int .i64 1))))⟩, ⟨(some 32), none, (.call (.c (.fn 100 [])) [(.t 28), (.t 31)])⟩, ⟨(some 27), none, (.v (.mv (.t 32)))⟩, ⟨(some 33), none, (.v (.ext 0 (.t 27)))⟩, ⟨(some 34), none, (.v (.ext 1 (.t 27)))⟩, ⟨(some 10), none, (.e (.alloc 10 [(.int .i64 0), (.int .i64 0)]))⟩, ⟨none, none, (.e (.store 2 (.t 10) (.t 33)))⟩, ⟨(some 11), none, (.v (.mv (.t 34)))⟩]) (.seq (.ops [⟨(some 36), none, (.v (.load 5 true (.t 3)))⟩, ⟨(some 37), none, (.v (.fld 1 (.t 8)))⟩, ⟨(some 38), none, (.v (.load 1 false (.t 37)))⟩, ⟨(some 39), none, (.v (.bin .xor (.t 38) (.c (.int .i64 1))))⟩, ⟨(some 40), none, (.call (.c (.fn 100 [])) [(.t 36), (.t 39)])⟩, ⟨(some 35), none, (.v (.mv (.t 40)))⟩, ⟨(some 41), none, (.v (.ext 0 (.t 35)))⟩, ⟨(some 42), none, (.v (.ext 1 (.t 35)))⟩, ⟨(some 12), none, (.e (.alloc 12 [(.int .i64 0), (.int .i64 0)]))⟩, ⟨none, none, (.e (.store 2 (.t 12) (.t 41)))⟩, ⟨(some 9), none, (.v (.mv (.t 42)))⟩]) (.seq (.seq (.ops [⟨(some 43), none, (.v (.mv (.t 11)))⟩, ⟨(some 44), none, (.v (.not (.t 43)))⟩, ⟨(some 45), none, (.v (.mv (.t 44)))⟩, ⟨(some 46), (some (45, false)), (.v (.mv (.t 9)))⟩, ⟨(some 47), (some (45, false)), (.v (.not (.t 46)))⟩, ⟨(some 48), none, (.v (.pick (.t 45) (.c (.bool true)) (.t 47)))⟩]) (.cond (.t 48) (.seq (.ops [⟨(some 49), none, (.v (.build [(.int .i64 0), (.int .i64 0)] []))⟩, ⟨none, none, (.e (.store 2 (.t 6) (.t 49)))⟩, ⟨(some 7), none, (.v (.mv (.c (.bool false))))⟩]) .ret) .skip)) (.seq (.seq (.ops [⟨(some 50), none, (.v (.load 2 true (.t 10)))⟩, ⟨(some 51), none, (.v (.load 2 true (.t 12)))⟩, ⟨(some 52), none, (.v (.build [(.int .i64 0), (.int .i64 0), (.int .i64 0), (.int .i64 0)] [(0, (2, (.t 50))), (2, (2, (.t 51)))]))⟩, ⟨(some 53), none, (.v (.load 2 true (.t 12)))⟩, ⟨(some 54), none, (.v (.load 2 true (.t 10)))⟩, ⟨(some 55), none, (.v (.build [(.int .i64 0), (.int .i64 0), (.int .i64 0), (.int .i64 0)] [(0, (2, (.t 53))), (2, (2, (.t 54)))]))⟩, ⟨(some 56), none, (.e (.lit 56 165 4 2 [(.int .i64 0), (.int .i64 0), (.int .i64 0), (.int .i64 0)] [(0, (.t 52)), (1, (.t 55))]))⟩, ⟨(some 57), none, (.v (.len (.t 56)))⟩, ⟨(some 58), none, (.v (.mv (.c (.int .i64 0))))⟩]) (.block 0 (.loop a99_0))) (.seq (.ops [⟨(some 103), none, (.v (.build [(.int .i64 0), (.int .i64 0)] []))⟩, ⟨none, none, (.e (.store 2 (.t 6) (.t 103)))⟩, ⟨(some 7), none, (.v (.mv (.c (.bool false))))⟩]) .ret))))))))
def r99 : List AI := [(.load 2 true (.t 6)), (.mv (.t 7))]
theorem f99 : Fn PP 99 3 a99 r99 := Fn.of (fn := Go.Proofs.Try.f99) (by kernel_rfl) (by kernel_rfl) (by kernel_rfl)
def a85_0 : AC := (.seq (.ops [⟨(some 46), none, (.v (.bin .lss (.t 45) (.t 44)))⟩]) (.seq (.cond (.t 46) .skip (.exit 0)) (.seq (.block 1 (.seq (.ops [⟨(some 47), none, (.v (.idx 2 (.t 43) (.t 45)))⟩, ⟨(some 48), none, (.v (.load 2 true (.t 47)))⟩, ⟨(some 12), none, (.e (.alloc 12 [(.int .i64 0), (.int .i64 0)]))⟩, ⟨none, none, (.e (.store 2 (.t 12) (.t 48)))⟩]) (.seq (.ops [⟨(some 49), none, (.v (.fld 0 (.t 12)))⟩, ⟨(some 50), none, (.v (.load 1 false (.t 49)))⟩, ⟨(some 51), none, (.v (.mv (.t 2)))⟩, ⟨(some 52), none, (.v (.bin .eql (.t 50) (.t 51)))⟩]) (.cond (.t 52) (.seq (.ops [⟨(some 53), none, (.v (.fld 1 (.t 12)))⟩, ⟨(some 54), none, (.v (.load 1 false (.t 53)))⟩, ⟨(some 55), none, (.v (.bin .xor (.t 54) (.c (.int .i64 1))))⟩, ⟨(some 56), none, (.v (.build [(.int .i64 0), (.int .i64 0)] [(0, (1, (.t 55))), (1, (1, (.c (.int .i64 0))))]))⟩, ⟨none, none, (.e (.store 2 (.t 6) (.t 56)))⟩]) .ret) .skip)))) (.ops [⟨(some 57), none, (.v (.bin .add (.t 45) (.c (.int .i64 1))))⟩, ⟨(some 45), none, (.v (.mv (.t 57)))⟩]))))
def a85_1 : AC := (.seq (.ops [⟨(some 75), none, (.v (.bin .lss (.t 74) (.t 73)))⟩]) (.seq (.cond (.t 75) .skip (.exit 2)) (.seq (.block 3 (.seq (.ops [⟨(some 76), none, (.v (.idx 2 (.t 72) (.t 74)))⟩, ⟨(some 77), none, (.v (.load 2 true (.t 76)))⟩, ⟨(some 16), none, (.e (.alloc 16 [(.int .i64 0), (.int .i64 0)]))⟩, ⟨none, none, (.e (.store 2 (.t 16) (.t 77)))⟩]) (.seq (.ops [⟨(some 78), none, (.v (.fld 0 (.t 16)))⟩, ⟨(some 79), none, (.v (.load 1 false (.t 78)))⟩, ⟨(some 80), none, (.v (.mv (.t 2)))⟩, ⟨(some 81), none, (.v (.bin .xor (.t 80) (.c (.int .i64 1))))⟩, ⟨(some 82), none, (.v (.bin .eql (.t 79) (.t 81)))⟩]) (.cond (.t 82) (.seq (.ops [⟨(some 83), none, (.v (.fld 1 (.t 16)))⟩, ⟨(some 84), none, (.v (.load 1 false (.t 83)))⟩, ⟨(some 85), none, (.v (.bin .xor (.t 84) (.c (.int .i64 1))))⟩, ⟨(some 86), none, (.v (.build [(.int .i64 0), (.int .i64 0)] [(0, (1, (.t 85))), (1, (1, (.c (.int .i64 1))))]))⟩, ⟨none, none, (.e (.store 2 (.t 6) (.t 86)))⟩]) .ret) .skip)))) (.ops [⟨(some 87), none, (.v (.bin .add (.t 74) (.c (.int .i64 1))))⟩, ⟨(some 74), none, (.v (.mv (.t 87)))⟩]))))
def a85 : AC := (.seq (.ops [⟨(some 3), none, (.e (.box 3 0 (.t 0)))⟩, ⟨(some 6), none, (.e (.alloc 6 [(.int .i64 0), (.int .i64 0)]))⟩]) (.seq (.seq (.ops [⟨(some 17), none, (.v (.mv (.t 1)))⟩, ⟨(some 18), none, (.v (.mv (.t 2)))⟩, ⟨(some 19), none, (.v (.bin .eql (.t 17) (.t 18)))⟩]) (.cond (.t 19) (.seq (.ops [⟨(some 20), none, (.v (.build [(.int .i64 0), (.int .i64 0)] [(0, (1, (.c (.int .i64 0)))), (1, (1, (.c (.int .i64 0))))]))⟩, ⟨none, none, (.e (.store 2 (.t 6) (.t 20)))⟩]) .ret) .skip)) (.seq (.seq (.ops [⟨(some 22), none, (.v (.load 5 true (.t 3)))⟩, ⟨(some 23), none, (.v (.mv (.t 1)))⟩, ⟨(some 24), none, (.v (.mv (.t 2)))⟩, ⟨(some 25), none, (.call (.c (.fn 99 [])) [(.t 22), (.t 23), (.t 24)])⟩, ⟨(some 21), none, (.v (.mv (.t 25)))⟩, ⟨(some 26), none, (.v (.ext 0 (.t 21)))⟩, ⟨(some 27), none, (.v (.ext 1 (.t 21)))⟩, ⟨(some 7), none, (.e (.alloc 7 [(.int .i64 0), (.int .i64 0)]))⟩, ⟨none, none, (.e (.store 2 (.t 7) (.t 26)))⟩, ⟨(some 8), none, (.v (.mv (.t 27)))⟩]) (.seq (.ops [⟨(some 28), none, (.v (.mv (.t 8)))⟩]) (.cond (.t 28) (.seq (.ops [⟨(some 29), none, (.v (.load 2 true (.t 7)))⟩, ⟨none, none, (.e (.store 2 (.t 6) (.t 29)))⟩]) .ret) .skip))) (.seq (.seq (.ops [⟨(some 31), none, (.v (.load 5 true (.t 3)))⟩, ⟨(some 32), none, (.v (.mv (.t 1)))⟩, ⟨(some 33), none, (.call (.c (.fn 100 [])) [(.t 31), (.t 32)])⟩, ⟨(some 30), none, (.v (.mv (.t 33)))⟩, ⟨(some 34), none, (.v (.ext 0 (.t 30)))⟩, ⟨(some 35), none, (.v (.ext 1 (.t 30)))⟩, ⟨(some 9), none, (.e (.alloc 9 [(.int .i64 0), (.int .i64 0)]))⟩, ⟨none, none, (.e (.store 2 (.t 9) (.t 34)))⟩, ⟨(some 10), none, (.v (.mv (.t 35)))⟩]) (.seq (.ops [⟨(some 36), none, (.v (.mv (.t 10)))⟩]) (.cond (.t 36) (.seq (.ops [⟨(some 37), none, (.v (.load 2 true (.t 9)))⟩, ⟨(some 38), none, (.v (.fld 1 (.t 9)))⟩, ⟨(some 39), none, (.v (.load 1 false (.t 38)))⟩, ⟨(some 40), none, (.v (.fld 0 (.t 9)))⟩, ⟨(some 41), none, (.v (.load 1 false (.t 40)))⟩, ⟨(some 42), none, (.v (.build [(.int .i64 0), (.int .i64 0)] [(0, (1, (.t 39))), (1, (1, (.t 41)))]))⟩, ⟨(some 43), none, (.e (.lit 43 103 2 2 [(.int .i64 0), (.int .i64 0)] [(0, (.t 37)), (1, (.t 42))]))⟩, ⟨(some 44), none, (.v (.len (.t 43)))⟩, ⟨(some 45), none, (.v (.mv (.c (.int .i64 0))))⟩]) (.block 0 (.loop a85_0))) .skip))) (.seq (.seq (.ops [⟨(some 59), none, (.v (.load 5 true (.t 3)))⟩, ⟨(some 60), none, (.v (.mv (.t 1)))⟩, ⟨(some 61), none, (.v (.bin .xor (.t 60) (.c (.int .i64 1))))⟩, ⟨(some 62), none, (.call (.c (.fn 100 [])) [(.t 59), (.t 61)])⟩, ⟨(some 58), none, (.v (.mv (.t 62)))⟩, ⟨(some 63), none, (.v (.ext 0 (.t 58)))⟩, ⟨(some 64), none, (.v (.ext 1 (.t 58)))⟩, ⟨(some 13), none, (.e (.alloc 13 [(.int .i64 0), (.int .i64 0)]))⟩, ⟨none, none, (.e (.store 2 (.t 13) (.t 63)))⟩, ⟨(some 14), none, (.v (.mv (.t 64)))⟩]) (.seq (.ops [⟨(some 65), none, (.v (.mv (.t 14)))⟩]) (.cond (.t 65) (.seq (.ops [⟨(some 66), none, (.v (.load 2 true (.t 13)))⟩, ⟨(some 67), none, (.v (.fld 1 (.t 13)))⟩, ⟨(some 68), none, (.v (.load 1 false (.t 67)))⟩, ⟨(some 69), none, (.v (.fld 0 (.t 13)))⟩, ⟨(some 70), none, (.v (.load 1 false (.t 69)))⟩, ⟨(some 71), none, (.v (.build [(.int .i64 0), (.int .i64 0)] [(0, (1, (.t 68))), (1, (1, (.t 70)))]))⟩, ⟨(some 72), none, (.e (.lit 72 103 2 2 [(.int .i64 0), (.int .i64 0)] [(0, (.t 66)), (1, (.t 71))]))⟩, ⟨(some 73), none, (.v (.len (.t 72)))⟩, ⟨(some 74), none, (.v (.mv (.c (.int .i64 0))))⟩]) (.block 2 (.loop a85_1))) .skip))) (.seq (.ops [⟨(some 88), none, (.v (.mv (.t 1)))⟩, ⟨(some 89), none, (.v (.build [(.int .i64 0), (.int .i64 0)] [(0, (1, (.c (.int .i64 1)))), (1, (1, (.t 88)))]))⟩, ⟨none, none, (.e (.store 2 (.t 6) (.t 89)))⟩]) .ret))))))
def r85 : List AI := [(.load 2 true (.t 6))]
theorem f85 : Fn PP 85 3 a85 r85 := Fn.of (fn := Go.Proofs.Try.f85) (by kernel_rfl) (by kernel_rfl) (by kernel_rfl)
theorem p100 {G : Gra} {cs : List AV} (hG : GraC cs G) (ok : G.Ok) (gd : G.Good) (l : Int) (hl : litOk G.nodes l) : Pure PP 100 [.agg cs, .int .i64 l] fun r => r = .tup [.agg [.int .i64 (sA G l), .int .i64 (sB G l)], .bool (isAnd G l)] := by
  have pF := p80 hG ok
  obtain ⟨f0, f1, f2, f3, f4, rfl, g0, g1, g2, g3, g4⟩ := hG
  have hn := gd.nodes_le
  have hl1 := hl.1; have hl2 := hl.2
  have hb : G.base ≤ G.nodes := by unfold Gra.nodes; omega
  have wq : IntKind.i64.wrap (IntKind.i64.wrap (l.tdiv 2) - (G.base : Int)) = l / 2 - G.base := by
    rw [tdiv_two hl1, wI (n := l / 2) (by omega) (by omega), wI (by omega) (by omega)]
  have wr : l.tmod 2 = l % 2 := tmod_two hl1
  have wx : (l / 2 - (G.base : Int)).toNat = sIx G l := by unfold sIx; omega
  refine Fn.pure fmix f100 ?_
  unfold a100 r100
  simp -implicitDefEqProofs only [vqa, Nat.reduceEqDiff, Nat.reduceAdd, reduceIte, Nat.reduceLeDiff, Nat.reduceBEq, Nat.reduceLT, Nat.reduceSub, Int.reduceLT, Int.reduceLE, Int.reduceEq, Int.reduceToNat, Nat.reduceMul, eq_self, implies_true, forall_const]
  refine ⟨by decide, ?_⟩
  refine CallW.sc pF rfl ⟨⟨trivial, trivial, trivial, trivial, trivial, trivial⟩, trivial⟩ fun r hr => ⟨by subst hr; rfl, ?_⟩
  subst hr
  simp -implicitDefEqProofs only [vqa, Nat.reduceEqDiff, Nat.reduceAdd, reduceIte, Nat.reduceLeDiff, Nat.reduceBEq, Nat.reduceLT, Nat.reduceSub, Int.reduceLT, Int.reduceLE, Int.reduceEq, Int.reduceToNat, Nat.reduceMul, eq_self, implies_true, forall_const, wq, wr]
  refine ⟨fun h1 => ⟨by decide, fun h2 => ?_, fun h2 => ?_⟩, fun h1 => ?_⟩
  · have hA : isAnd G l = true := isAnd_iff.2 ⟨by omega, h2⟩
    have hi := sIx_lt hl hA
    simp -implicitDefEqProofs only [vqa, Nat.reduceEqDiff, Nat.reduceAdd, reduceIte, Nat.reduceLeDiff, Nat.reduceBEq, Nat.reduceLT, Nat.reduceSub, Int.reduceLT, Int.reduceLE, Int.reduceEq, Int.reduceToNat, Nat.reduceMul, eq_self, implies_true, forall_const, wx, g3 _ hi]
    unfold sA sB
    rw [hA]
    exact ⟨⟨h1, by omega⟩, rfl⟩
  · have hA : isAnd G l = false := by
      cases h : isAnd G l with
      | false => rfl
      | true => exact absurd (isAnd_iff.1 h).2 h2
    unfold sA sB
    rw [hA]
    rfl
  · have hA : isAnd G l = false := by
      cases h : isAnd G l with
      | false => rfl
      | true => exact absurd (isAnd_iff.1 h).1 (by omega)
    unfold sA sB
    rw [hA]
    rfl

/-- What mux answers. -/
def muxV (o : Option (Int × Int)) : AV := match o with
  | some s => .tup [.agg [.int .i64 s.1, .int .i64 s.2], .bool true]
  | none => .tup [.agg [.int .i64 0, .int .i64 0], .bool false]

theorem p99 {G : Gra} {cs : List AV} (hG : GraC cs G) (ok : G.Ok) (gd : G.Good) (n q : Int) (hn : litOk G.nodes n) : Pure PP 99 [.agg cs, .int .i64 n, .int .i64 q] fun r => r = muxV (muxG G n q) := by
  have k1 := x1_ok gd hn
  have pA := p100 hG ok gd (x1 n) k1
  have k2 := x1_ok gd (sA_ok gd k1)
  have k3 := x1_ok gd (sB_ok gd k1)
  have pB := p100 hG ok gd _ k2
  have pC := p100 hG ok gd _ k3
  obtain ⟨f0, f1, f2, f3, f4, rfl, g0, g1, g2, g3, g4⟩ := hG
  unfold muxG
  generalize sA G (x1 n) = a at *
  generalize sB G (x1 n) = b at *
  generalize isAnd G (x1 n) = t1 at *
  generalize sA G (x1 a) = a1 at *
  generalize sB G (x1 a) = a2 at *
  generalize sA G (x1 b) = b1 at *
  generalize sB G (x1 b) = b2 at *
  generalize isAnd G (x1 a) = t2 at *
  generalize isAnd G (x1 b) = t3 at *
  have x1r : ∀ x, bitop .xor .i64 x 1 = x1 x := fun _ => rfl
  refine Fn.pure fmix f99 ?_
  unfold a99 r99
  simp -implicitDefEqProofs only [vqa, Nat.reduceEqDiff, Nat.reduceAdd, reduceIte, Nat.reduceLeDiff, Nat.reduceBEq, Nat.reduceLT, Nat.reduceSub, Int.reduceLT, Int.reduceLE, Int.reduceEq, Int.reduceToNat, Nat.reduceMul, eq_self, implies_true, forall_const, x1r]
  refine CallW.sc pA rfl ⟨⟨trivial, trivial, trivial, trivial, trivial, trivial⟩, trivial, trivial⟩ fun r hr => ⟨by subst hr; rfl, ?_⟩
  subst hr
  cases t1 with
  | false => simp -implicitDefEqProofs only [vqa, Nat.reduceEqDiff, Nat.reduceAdd, reduceIte, Nat.reduceLeDiff, Nat.reduceBEq, Nat.reduceLT, Nat.reduceSub, Int.reduceLT, Int.reduceLE, Int.reduceEq, Int.reduceToNat, Nat.reduceMul, eq_self, implies_true, forall_const]; rfl
  | true =>
    simp -implicitDefEqProofs only [vqa, Nat.reduceEqDiff, Nat.reduceAdd, reduceIte, Nat.reduceLeDiff, Nat.reduceBEq, Nat.reduceLT, Nat.reduceSub, Int.reduceLT, Int.reduceLE, Int.reduceEq, Int.reduceToNat, Nat.reduceMul, eq_self, implies_true, forall_const, x1r]
    refine CallW.sc pB rfl ⟨⟨trivial, trivial, trivial, trivial, trivial, trivial⟩, trivial, trivial⟩ fun r hr => ⟨by subst hr; rfl, ?_⟩
    subst hr
    simp -implicitDefEqProofs only [vqa, Nat.reduceEqDiff, Nat.reduceAdd, reduceIte, Nat.reduceLeDiff, Nat.reduceBEq, Nat.reduceLT, Nat.reduceSub, Int.reduceLT, Int.reduceLE, Int.reduceEq, Int.reduceToNat, Nat.reduceMul, eq_self, implies_true, forall_const, x1r]
    refine CallW.sc pC rfl ⟨⟨trivial, trivial, trivial, trivial, trivial, trivial⟩, trivial, trivial⟩ fun r hr => ⟨by subst hr; rfl, ?_⟩
    subst hr
    cases t2 with
    | false => simp -implicitDefEqProofs only [vqa, Nat.reduceEqDiff, Nat.reduceAdd, reduceIte, Nat.reduceLeDiff, Nat.reduceBEq, Nat.reduceLT, Nat.reduceSub, Int.reduceLT, Int.reduceLE, Int.reduceEq, Int.reduceToNat, Nat.reduceMul, eq_self, implies_true, forall_const]; rfl
    | true =>
      cases t3 with
      | false => simp -implicitDefEqProofs only [vqa, Nat.reduceEqDiff, Nat.reduceAdd, reduceIte, Nat.reduceLeDiff, Nat.reduceBEq, Nat.reduceLT, Nat.reduceSub, Int.reduceLT, Int.reduceLE, Int.reduceEq, Int.reduceToNat, Nat.reduceMul, eq_self, implies_true, forall_const]; rfl
      | true =>
        simp -implicitDefEqProofs only [vqa, Nat.reduceEqDiff, Nat.reduceAdd, reduceIte, Nat.reduceLeDiff, Nat.reduceBEq, Nat.reduceLT, Nat.reduceSub, Int.reduceLT, Int.reduceLE, Int.reduceEq, Int.reduceToNat, Nat.reduceMul, eq_self, implies_true, forall_const]
        generalize (mem0 6).ver + 1 = V6
        generalize (mem0 56).ver + 1 = V56
        refine vFor 2 (fun i e m => e 2 = .int .i64 q ∧ e 6 = .ptr 6 V6 0 ∧ m 6 = .var V6 [.int .i64 0, .int .i64 0] ∧ e 56 = .sl 56 V56 2 ∧ e 57 = .int .i64 2 ∧ e 58 = .int .i64 i ∧ (∃ g, m 56 = .row V56 165 4 2 g ∧ g 0 = .agg [.int .i64 a1, .int .i64 a2, .int .i64 b1, .int .i64 b2] ∧ g 1 = .agg [.int .i64 b1, .int .i64 b2, .int .i64 a1, .int .i64 a2]) ∧ (1 ≤ i → hitG b1 b2 a1 q = false ∧ hitG b1 b2 a2 q = false) ∧ (2 ≤ i → hitG a1 a2 b1 q = false ∧ hitG a1 a2 b2 q = false)) ?_ ?_ ?_
        · simp -implicitDefEqProofs only [vqa, Nat.reduceEqDiff, Nat.reduceAdd, reduceIte, Nat.reduceLeDiff, Nat.reduceBEq, Nat.reduceLT, Nat.reduceSub, Int.reduceLT, Int.reduceLE, Int.reduceEq, Int.reduceToNat, Nat.reduceMul, eq_self, implies_true, forall_const]
          exact ⟨_, rfl, rfl, rfl⟩
        · rintro i e m hi hi' ⟨h2, h6, m6, h56, h57, h58, ⟨g, m56, ga, gb⟩, p1, p2⟩
          obtain ⟨c1, c2, d1, d2, hgi, r1, r2, r3⟩ : ∃ c1 c2 d1 d2, g i = .agg [.int .i64 c1, .int .i64 c2, .int .i64 d1, .int .i64 d2] ∧ (hitG d1 d2 c1 q = true → mux4 a1 a2 b1 b2 q = some (c1, c2)) ∧ (hitG d1 d2 c1 q = false → hitG d1 d2 c2 q = true → mux4 a1 a2 b1 b2 q = some (c2, c1)) ∧ (hitG d1 d2 c1 q = false → hitG d1 d2 c2 q = false → (1 ≤ i + 1 → hitG b1 b2 a1 q = false ∧ hitG b1 b2 a2 q = false) ∧ (2 ≤ i + 1 → hitG a1 a2 b1 q = false ∧ hitG a1 a2 b2 q = false)) := by
            obtain rfl | rfl : i = 0 ∨ i = 1 := by omega
            · refine ⟨a1, a2, b1, b2, ga, fun h => ?_, fun h h' => ?_, fun h h' => ⟨fun _ => ⟨h, h'⟩, fun k => absurd k (by decide)⟩⟩
              · unfold mux4; rw [h]; rfl
              · unfold mux4; rw [h, h']; rfl
            · obtain ⟨q1, q2⟩ := p1 (Nat.le_refl _)
              refine ⟨b1, b2, a1, a2, gb, fun h => ?_, fun h h' => ?_, fun h h' => ⟨fun _ => ⟨q1, q2⟩, fun k => ⟨h, h'⟩⟩⟩
              · unfold mux4; rw [q1, q2, h]; rfl
              · unfold mux4; rw [q1, q2, h, h']; rfl
          clear p1 p2
          have hi2 : (i : Int) < 2 := by omega
          unfold a99_0
          simp -implicitDefEqProofs only [vqa, Nat.reduceEqDiff, Nat.reduceAdd, reduceIte, Nat.reduceLeDiff, Nat.reduceBEq, Nat.reduceLT, Nat.reduceSub, Int.reduceLT, Int.reduceLE, Int.reduceEq, Int.reduceToNat, Nat.reduceMul, eq_self, implies_true, forall_const, h2, h6, m6, h56, h57, h58, m56, hi2, hgi]
          refine ⟨by omega, hi, ?_⟩
          generalize (m 14).ver + 1 = V14
          generalize (m 76).ver + 1 = V76
          refine vFor 2 (fun j e m => e 2 = .int .i64 q ∧ e 6 = .ptr 6 V6 0 ∧ m 6 = .var V6 [.int .i64 0, .int .i64 0] ∧ e 56 = .sl 56 V56 2 ∧ e 57 = .int .i64 2 ∧ e 58 = .int .i64 i ∧ m 56 = .row V56 165 4 2 g ∧ e 14 = .ptr 14 V14 0 ∧ m 14 = .var V14 [.int .i64 c1, .int .i64 c2, .int .i64 d1, .int .i64 d2] ∧ e 76 = .sl 76 V76 2 ∧ e 77 = .int .i64 2 ∧ e 78 = .int .i64 j ∧ (∃ g, m 76 = .row V76 81 2 2 g ∧ g 0 = .agg [.int .i64 c1, .int .i64 c2] ∧ g 1 = .agg [.int .i64 c2, .int .i64 c1]) ∧ (1 ≤ j → hitG d1 d2 c1 q = false) ∧ (2 ≤ j → hitG d1 d2 c2 q = false)) ?_ ?_ ?_
          · simp -implicitDefEqProofs only [vqa, Nat.reduceEqDiff, Nat.reduceAdd, reduceIte, Nat.reduceLeDiff, Nat.reduceBEq, Nat.reduceLT, Nat.reduceSub, Int.reduceLT, Int.reduceLE, Int.reduceEq, Int.reduceToNat, Nat.reduceMul, eq_self, implies_true, forall_const, h2, h6, m6, h56, h57, h58, m56]
            exact ⟨_, rfl, rfl, rfl⟩
          · rintro j e m hj hj' ⟨h2, h6, m6, h56, h57, h58, m56, h14, m14, h76, h77, h78, ⟨g', m76, gc, gd⟩, p1, p2⟩
            obtain ⟨u, v, hgj, s1, s2⟩ : ∃ u v, g' j = .agg [.int .i64 u, .int .i64 v] ∧ (hitG d1 d2 u q = true → mux4 a1 a2 b1 b2 q = some (u, v)) ∧ (hitG d1 d2 u q = false → (1 ≤ j + 1 → hitG d1 d2 c1 q = false) ∧ (2 ≤ j + 1 → hitG d1 d2 c2 q = false)) := by
              obtain rfl | rfl : j = 0 ∨ j = 1 := by omega
              · exact ⟨c1, c2, gc, r1, fun h => ⟨fun _ => h, fun k => absurd k (by decide)⟩⟩
              · exact ⟨c2, c1, gd, r2 (p1 (Nat.le_refl _)), fun h => ⟨fun _ => p1 (Nat.le_refl _), fun k => h⟩⟩
            have hj2 : (j : Int) < 2 := by omega
            unfold a99_1
            simp -implicitDefEqProofs only [vqa, Nat.reduceEqDiff, Nat.reduceAdd, reduceIte, Nat.reduceLeDiff, Nat.reduceBEq, Nat.reduceLT, Nat.reduceSub, Int.reduceLT, Int.reduceLE, Int.reduceEq, Int.reduceToNat, Nat.reduceMul, eq_self, implies_true, forall_const, h2, h6, m6, h56, h57, h58, m56, h14, m14, h76, h77, h78, m76, hj2, hgj, x1r]
            refine ⟨by omega, hj, ?_⟩
            cases hB : (decide (d1 = x1 u) && decide (d2 = q)) with
            | true =>
              have hh : hitG d1 d2 u q = true := by unfold hitG; rw [hB]; rfl
              rw [s1 hh]
              simp -implicitDefEqProofs only [vqa, Nat.reduceEqDiff, Nat.reduceAdd, reduceIte, Nat.reduceLeDiff, Nat.reduceBEq, Nat.reduceLT, Nat.reduceSub, Int.reduceLT, Int.reduceLE, Int.reduceEq, Int.reduceToNat, Nat.reduceMul, eq_self, implies_true, forall_const, h2, h6, m6, h56, h57, h58, m56, h14, m14, h76, h77, h78, m76, hj2, hgj, x1r]
              rfl
            | false =>
              simp -implicitDefEqProofs only [vqa, Nat.reduceEqDiff, Nat.reduceAdd, reduceIte, Nat.reduceLeDiff, Nat.reduceBEq, Nat.reduceLT, Nat.reduceSub, Int.reduceLT, Int.reduceLE, Int.reduceEq, Int.reduceToNat, Nat.reduceMul, eq_self, implies_true, forall_const, h2, h6, m6, h56, h57, h58, m56, h14, m14, h76, h77, h78, m76, hj2, hgj, x1r]
              cases hC : (decide (d1 = q) && decide (d2 = x1 u)) with
              | true =>
                have hh : hitG d1 d2 u q = true := by unfold hitG; rw [hB, hC]; rfl
                rw [s1 hh]
                simp -implicitDefEqProofs only [vqa, Nat.reduceEqDiff, Nat.reduceAdd, reduceIte, Nat.reduceLeDiff, Nat.reduceBEq, Nat.reduceLT, Nat.reduceSub, Int.reduceLT, Int.reduceLE, Int.reduceEq, Int.reduceToNat, Nat.reduceMul, eq_self, implies_true, forall_const, h2, h6, m6, h56, h57, h58, m56, h14, m14, h76, h77, h78, m76, hj2, hgj, x1r]
                rfl
              | false =>
                obtain ⟨z1, z2⟩ := s2 (by unfold hitG; rw [hB, hC]; rfl)
                simp -implicitDefEqProofs only [vqa, Nat.reduceEqDiff, Nat.reduceAdd, reduceIte, Nat.reduceLeDiff, Nat.reduceBEq, Nat.reduceLT, Nat.reduceSub, Int.reduceLT, Int.reduceLE, Int.reduceEq, Int.reduceToNat, Nat.reduceMul, eq_self, implies_true, forall_const, h2, h6, m6, h56, h57, h58, m56, h14, m14, h76, h77, h78, m76, hj2, hgj, x1r]
                exact ⟨hj, wI (by omega) (by omega), ⟨_, rfl, gc, gd⟩, z1 (by omega), fun k => z2 (by omega)⟩
          · rintro e m ⟨h2, h6, m6, h56, h57, h58, m56, h14, m14, h76, h77, h78, ⟨g', m76, gc, gd⟩, p1, p2⟩
            obtain ⟨t1, t2⟩ := r3 (p1 (by decide)) (p2 (by decide))
            unfold a99_1
            simp -implicitDefEqProofs only [vqa, Nat.reduceEqDiff, Nat.reduceAdd, reduceIte, Nat.reduceLeDiff, Nat.reduceBEq, Nat.reduceLT, Nat.reduceSub, Int.reduceLT, Int.reduceLE, Int.reduceEq, Int.reduceToNat, Nat.reduceMul, eq_self, implies_true, forall_const, h2, h6, m6, h56, h57, h58, m56, h14, m14, h76, h77, h78, m76]
            exact ⟨hi, wI (by omega) (by omega), ⟨_, rfl, ga, gb⟩, t1 (by omega), fun k => t2 (by omega)⟩
        · rintro e m ⟨h2, h6, m6, h56, h57, h58, ⟨g, m56, ga, gb⟩, p1, p2⟩
          obtain ⟨q1, q2⟩ := p1 (by decide)
          obtain ⟨q3, q4⟩ := p2 (by decide)
          unfold a99_0
          simp -implicitDefEqProofs only [vqa, Nat.reduceEqDiff, Nat.reduceAdd, reduceIte, Nat.reduceLeDiff, Nat.reduceBEq, Nat.reduceLT, Nat.reduceSub, Int.reduceLT, Int.reduceLE, Int.reduceEq, Int.reduceToNat, Nat.reduceMul, eq_self, implies_true, forall_const, h2, h6, m6, h56, h57, h58, m56]
          unfold mux4; rw [q1, q2, q3, q4]; rfl
theorem keptG_q {G : Gra} {n q : Int} (h : n = q) : keptG G n q = (0, 0) := by unfold keptG; rw [if_pos h]
theorem keptG_m {G : Gra} {n q : Int} {s : Int × Int} (h : n ≠ q) (hm : muxG G n q = some s) : keptG G n q = s := by unfold keptG; rw [if_neg h, hm]
theorem keptG_s {G : Gra} {n q v : Int} (h : n ≠ q) (hm : muxG G n q = none) (hs : sideG G n q = some v) : keptG G n q = (x1 v, 0) := by unfold keptG; rw [if_neg h, hm, hs]
theorem keptG_t {G : Gra} {n q v : Int} (h : n ≠ q) (hm : muxG G n q = none) (hs : sideG G n q = none) (ht : sideG G (x1 n) (x1 q) = some v) : keptG G n q = (x1 v, 1) := by unfold keptG; rw [if_neg h, hm, hs, ht]
theorem keptG_n {G : Gra} {n q : Int} (h : n ≠ q) (hm : muxG G n q = none) (hs : sideG G n q = none) (ht : sideG G (x1 n) (x1 q) = none) : keptG G n q = (1, n) := by unfold keptG; rw [if_neg h, hm, hs, ht]

theorem p85 {G : Gra} {cs : List AV} (hG : GraC cs G) (ok : G.Ok) (gd : G.Good) (n q : Int) (hn : litOk G.nodes n) : Pure PP 85 [.agg cs, .int .i64 n, .int .i64 q] fun r => r = .agg [.int .i64 (keptG G n q).1, .int .i64 (keptG G n q).2] := by
  have k1 := x1_ok gd hn
  have pM := p99 hG ok gd n q hn
  have pC := p100 hG ok gd _ hn
  have pD := p100 hG ok gd _ k1
  obtain ⟨f0, f1, f2, f3, f4, rfl, g0, g1, g2, g3, g4⟩ := hG
  have kq := @keptG_q G n q
  have km := @keptG_m G n q
  have ks := @keptG_s G n q
  have kt := @keptG_t G n q
  have kn := @keptG_n G n q
  unfold sideG at ks kt kn
  generalize keptG G n q = R at *
  generalize muxG G n q = M at *
  generalize sA G n = a1 at *
  generalize sB G n = a2 at *
  generalize isAnd G n = t1 at *
  generalize sA G (x1 n) = b1 at *
  generalize sB G (x1 n) = b2 at *
  generalize isAnd G (x1 n) = t2 at *
  have x1r : ∀ x, bitop .xor .i64 x 1 = x1 x := fun _ => rfl
  refine Fn.pure fmix f85 ?_
  unfold a85 r85
  simp -implicitDefEqProofs only [vqa, Nat.reduceEqDiff, Nat.reduceAdd, reduceIte, Nat.reduceLeDiff, Nat.reduceBEq, Nat.reduceLT, Nat.reduceSub, Int.reduceLT, Int.reduceLE, Int.reduceEq, Int.reduceToNat, Nat.reduceMul, eq_self, implies_true, forall_const, x1r]
  refine ⟨fun h => by rw [kq h], fun hnq => ?_⟩
  refine CallW.sc pM rfl ⟨⟨trivial, trivial, trivial, trivial, trivial, trivial⟩, trivial, trivial, trivial⟩ fun r hr => ⟨by subst hr; unfold muxV; cases M <;> rfl, ?_⟩
  subst hr
  cases M with
  | some s => simp only [muxV, vqa, Nat.reduceEqDiff, Nat.reduceAdd, reduceIte, Nat.reduceLeDiff, Nat.reduceBEq, Nat.reduceLT, Nat.reduceSub, Int.reduceLT, Int.reduceLE, Int.reduceEq, Int.reduceToNat, Nat.reduceMul, eq_self, implies_true, forall_const]; rw [km hnq rfl]
  | none =>
    simp only [muxV, vqa, Nat.reduceEqDiff, Nat.reduceAdd, reduceIte, Nat.reduceLeDiff, Nat.reduceBEq, Nat.reduceLT, Nat.reduceSub, Int.reduceLT, Int.reduceLE, Int.reduceEq, Int.reduceToNat, Nat.reduceMul, eq_self, implies_true, forall_const, x1r]
    refine CallW.sc pC rfl ⟨⟨trivial, trivial, trivial, trivial, trivial, trivial⟩, trivial, trivial⟩ fun r hr => ⟨by subst hr; rfl, ?_⟩
    subst hr
    generalize (mem0 3).ver + 1 = V3
    generalize (mem0 6).ver + 1 = V6
    cases t1 with
    | false =>
      have ks0 : (bif false then (if a1 = q then some a2 else if a2 = q then some a1 else none) else none) = (none : Option Int) := rfl
      simp -implicitDefEqProofs only [vqa, Nat.reduceEqDiff, Nat.reduceAdd, reduceIte, Nat.reduceLeDiff, Nat.reduceBEq, Nat.reduceLT, Nat.reduceSub, Int.reduceLT, Int.reduceLE, Int.reduceEq, Int.reduceToNat, Nat.reduceMul, eq_self, implies_true, forall_const, x1r]
      refine CallW.sc pD rfl ⟨⟨trivial, trivial, trivial, trivial, trivial, trivial⟩, trivial, trivial⟩ fun r hr => ⟨by subst hr; rfl, ?_⟩
      subst hr
      cases t2 with
      | false =>
        simp -implicitDefEqProofs only [vqa, Nat.reduceEqDiff, Nat.reduceAdd, reduceIte, Nat.reduceLeDiff, Nat.reduceBEq, Nat.reduceLT, Nat.reduceSub, Int.reduceLT, Int.reduceLE, Int.reduceEq, Int.reduceToNat, Nat.reduceMul, eq_self, implies_true, forall_const, x1r]
        rw [kn hnq rfl ks0 rfl]
      | true =>
        simp -implicitDefEqProofs only [vqa, Nat.reduceEqDiff, Nat.reduceAdd, reduceIte, Nat.reduceLeDiff, Nat.reduceBEq, Nat.reduceLT, Nat.reduceSub, Int.reduceLT, Int.reduceLE, Int.reduceEq, Int.reduceToNat, Nat.reduceMul, eq_self, implies_true, forall_const, x1r]
        clear ks
        refine vFor 2 (fun i e m => e 1 = .int .i64 n ∧ e 2 = .int .i64 q ∧ e 6 = .ptr 6 V6 0 ∧ m 6 = .var V6 [.int .i64 0, .int .i64 0] ∧ (∃ V, e 72 = .sl 72 V 2 ∧ ∃ g, m 72 = .row V 103 2 2 g ∧ g 0 = .agg [.int .i64 b1, .int .i64 b2] ∧ g 1 = .agg [.int .i64 b2, .int .i64 b1]) ∧ e 73 = .int .i64 2 ∧ e 74 = .int .i64 i ∧ (1 ≤ i → b1 ≠ x1 q) ∧ (2 ≤ i → b2 ≠ x1 q)) ?_ ?_ ?_
        · simp -implicitDefEqProofs only [vqa, Nat.reduceEqDiff, Nat.reduceAdd, reduceIte, Nat.reduceLeDiff, Nat.reduceBEq, Nat.reduceLT, Nat.reduceSub, Int.reduceLT, Int.reduceLE, Int.reduceEq, Int.reduceToNat, Nat.reduceMul, eq_self, implies_true, forall_const]
          exact ⟨_, rfl, _, rfl, rfl, rfl⟩
        · rintro i e m hi hi' ⟨h1, h2, h6, m6, ⟨V, h43, g, m43, ga, gb⟩, h44, h45, p1, p2⟩
          obtain ⟨u, v, hgi, s1, s2⟩ : ∃ u v, g i = .agg [.int .i64 u, .int .i64 v] ∧ (u = x1 q → R = (x1 v, 1)) ∧ (u ≠ x1 q → (1 ≤ i + 1 → b1 ≠ x1 q) ∧ (2 ≤ i + 1 → b2 ≠ x1 q)) := by
            obtain rfl | rfl : i = 0 ∨ i = 1 := by omega
            · exact ⟨b1, b2, ga, fun h => kt hnq rfl ks0 (if_pos h), fun h => ⟨fun _ => h, fun k => absurd k (by decide)⟩⟩
            · exact ⟨b2, b1, gb, fun h => kt hnq rfl ks0 ((if_neg (p1 (Nat.le_refl _))).trans (if_pos h)), fun h => ⟨fun _ => p1 (Nat.le_refl _), fun k => h⟩⟩
          have hi2 : (i : Int) < 2 := by omega
          unfold a85_1
          simp -implicitDefEqProofs only [vqa, Nat.reduceEqDiff, Nat.reduceAdd, reduceIte, Nat.reduceLeDiff, Nat.reduceBEq, Nat.reduceLT, Nat.reduceSub, Int.reduceLT, Int.reduceLE, Int.reduceEq, Int.reduceToNat, Nat.reduceMul, eq_self, implies_true, forall_const, h1, h2, h6, m6, h43, m43, h44, h45, hi2, hgi, x1r]
          refine ⟨by omega, hi, fun h => by rw [s1 h], fun h => ?_⟩
          obtain ⟨z1, z2⟩ := s2 h
          exact ⟨hi, ⟨_, rfl, _, rfl, ga, gb⟩, wI (by omega) (by omega), z1 (by omega), fun k => z2 (by omega)⟩
        · rintro e m ⟨h1, h2, h6, m6, ⟨V, h43, g, m43, ga, gb⟩, h44, h45, p1, p2⟩
          unfold a85_1
          simp -implicitDefEqProofs only [vqa, Nat.reduceEqDiff, Nat.reduceAdd, reduceIte, Nat.reduceLeDiff, Nat.reduceBEq, Nat.reduceLT, Nat.reduceSub, Int.reduceLT, Int.reduceLE, Int.reduceEq, Int.reduceToNat, Nat.reduceMul, eq_self, implies_true, forall_const, h1, h2, h6, m6, h43, m43, h44, h45, x1r]
          rw [kn hnq rfl ks0 ((if_neg (p1 (by decide))).trans (if_neg (p2 (by decide))))]
    | true =>
      simp -implicitDefEqProofs only [vqa, Nat.reduceEqDiff, Nat.reduceAdd, reduceIte, Nat.reduceLeDiff, Nat.reduceBEq, Nat.reduceLT, Nat.reduceSub, Int.reduceLT, Int.reduceLE, Int.reduceEq, Int.reduceToNat, Nat.reduceMul, eq_self, implies_true, forall_const, x1r]
      refine vFor 2 (fun i e m => e 1 = .int .i64 n ∧ e 2 = .int .i64 q ∧ e 3 = .ptr 3 V3 0 ∧ m 3 = .var V3 [.fs G.ni f0, .fs G.no f1, .fs G.nr f2, .fs G.na f3, .fs G.nk f4] ∧ e 6 = .ptr 6 V6 0 ∧ m 6 = .var V6 [.int .i64 0, .int .i64 0] ∧ (∃ V, e 43 = .sl 43 V 2 ∧ ∃ g, m 43 = .row V 103 2 2 g ∧ g 0 = .agg [.int .i64 a1, .int .i64 a2] ∧ g 1 = .agg [.int .i64 a2, .int .i64 a1]) ∧ e 44 = .int .i64 2 ∧ e 45 = .int .i64 i ∧ (1 ≤ i → a1 ≠ q) ∧ (2 ≤ i → a2 ≠ q)) ?_ ?_ ?_
      · simp -implicitDefEqProofs only [vqa, Nat.reduceEqDiff, Nat.reduceAdd, reduceIte, Nat.reduceLeDiff, Nat.reduceBEq, Nat.reduceLT, Nat.reduceSub, Int.reduceLT, Int.reduceLE, Int.reduceEq, Int.reduceToNat, Nat.reduceMul, eq_self, implies_true, forall_const]
        exact ⟨_, rfl, _, rfl, rfl, rfl⟩
      · rintro i e m hi hi' ⟨h1, h2, h3, m3, h6, m6, ⟨V, h43, g, m43, ga, gb⟩, h44, h45, p1, p2⟩
        obtain ⟨u, v, hgi, s1, s2⟩ : ∃ u v, g i = .agg [.int .i64 u, .int .i64 v] ∧ (u = q → R = (x1 v, 0)) ∧ (u ≠ q → (1 ≤ i + 1 → a1 ≠ q) ∧ (2 ≤ i + 1 → a2 ≠ q)) := by
          obtain rfl | rfl : i = 0 ∨ i = 1 := by omega
          · exact ⟨a1, a2, ga, fun h => ks hnq rfl (if_pos h), fun h => ⟨fun _ => h, fun k => absurd k (by decide)⟩⟩
          · exact ⟨a2, a1, gb, fun h => ks hnq rfl ((if_neg (p1 (Nat.le_refl _))).trans (if_pos h)), fun h => ⟨fun _ => p1 (Nat.le_refl _), fun k => h⟩⟩
        have hi2 : (i : Int) < 2 := by omega
        unfold a85_0
        simp -implicitDefEqProofs only [vqa, Nat.reduceEqDiff, Nat.reduceAdd, reduceIte, Nat.reduceLeDiff, Nat.reduceBEq, Nat.reduceLT, Nat.reduceSub, Int.reduceLT, Int.reduceLE, Int.reduceEq, Int.reduceToNat, Nat.reduceMul, eq_self, implies_true, forall_const, h1, h2, h3, m3, h6, m6, h43, m43, h44, h45, hi2, hgi, x1r]
        refine ⟨by omega, hi, fun h => by rw [s1 h], fun h => ?_⟩
        obtain ⟨z1, z2⟩ := s2 h
        exact ⟨hi, ⟨_, rfl, _, rfl, ga, gb⟩, wI (by omega) (by omega), z1 (by omega), fun k => z2 (by omega)⟩
      · rintro e m ⟨h1, h2, h3, m3, h6, m6, ⟨V, h43, g, m43, ga, gb⟩, h44, h45, p1, p2⟩
        have ks0 : (bif true then (if a1 = q then some a2 else if a2 = q then some a1 else none) else none) = (none : Option Int) := (if_neg (p1 (by decide))).trans (if_neg (p2 (by decide)))
        unfold a85_0
        simp -implicitDefEqProofs only [vqa, Nat.reduceEqDiff, Nat.reduceAdd, reduceIte, Nat.reduceLeDiff, Nat.reduceBEq, Nat.reduceLT, Nat.reduceSub, Int.reduceLT, Int.reduceLE, Int.reduceEq, Int.reduceToNat, Nat.reduceMul, eq_self, implies_true, forall_const, h1, h2, h3, m3, h6, m6, h43, m43, h44, h45, x1r]
        refine CallW.sc pD rfl ⟨⟨trivial, trivial, trivial, trivial, trivial, trivial⟩, trivial, trivial⟩ fun r hr => ⟨by subst hr; rfl, ?_⟩
        subst hr
        cases t2 with
        | false =>
          simp -implicitDefEqProofs only [vqa, Nat.reduceEqDiff, Nat.reduceAdd, reduceIte, Nat.reduceLeDiff, Nat.reduceBEq, Nat.reduceLT, Nat.reduceSub, Int.reduceLT, Int.reduceLE, Int.reduceEq, Int.reduceToNat, Nat.reduceMul, eq_self, implies_true, forall_const, h1, h2, h6, m6, x1r]
          rw [kn hnq rfl ks0 rfl]
        | true =>
          simp -implicitDefEqProofs only [vqa, Nat.reduceEqDiff, Nat.reduceAdd, reduceIte, Nat.reduceLeDiff, Nat.reduceBEq, Nat.reduceLT, Nat.reduceSub, Int.reduceLT, Int.reduceLE, Int.reduceEq, Int.reduceToNat, Nat.reduceMul, eq_self, implies_true, forall_const, h1, h2, h6, m6, x1r]
          clear ks
          refine vFor 2 (fun i e m => e 1 = .int .i64 n ∧ e 2 = .int .i64 q ∧ e 6 = .ptr 6 V6 0 ∧ m 6 = .var V6 [.int .i64 0, .int .i64 0] ∧ (∃ V, e 72 = .sl 72 V 2 ∧ ∃ g, m 72 = .row V 103 2 2 g ∧ g 0 = .agg [.int .i64 b1, .int .i64 b2] ∧ g 1 = .agg [.int .i64 b2, .int .i64 b1]) ∧ e 73 = .int .i64 2 ∧ e 74 = .int .i64 i ∧ (1 ≤ i → b1 ≠ x1 q) ∧ (2 ≤ i → b2 ≠ x1 q)) ?_ ?_ ?_
          · simp -implicitDefEqProofs only [vqa, Nat.reduceEqDiff, Nat.reduceAdd, reduceIte, Nat.reduceLeDiff, Nat.reduceBEq, Nat.reduceLT, Nat.reduceSub, Int.reduceLT, Int.reduceLE, Int.reduceEq, Int.reduceToNat, Nat.reduceMul, eq_self, implies_true, forall_const, h1, h2, h6, m6]
            exact ⟨_, rfl, _, rfl, rfl, rfl⟩
          · rintro i e m hi hi' ⟨h1, h2, h6, m6, ⟨V, h43, g, m43, ga, gb⟩, h44, h45, p1, p2⟩
            obtain ⟨u, v, hgi, s1, s2⟩ : ∃ u v, g i = .agg [.int .i64 u, .int .i64 v] ∧ (u = x1 q → R = (x1 v, 1)) ∧ (u ≠ x1 q → (1 ≤ i + 1 → b1 ≠ x1 q) ∧ (2 ≤ i + 1 → b2 ≠ x1 q)) := by
              obtain rfl | rfl : i = 0 ∨ i = 1 := by omega
              · exact ⟨b1, b2, ga, fun h => kt hnq rfl ks0 (if_pos h), fun h => ⟨fun _ => h, fun k => absurd k (by decide)⟩⟩
              · exact ⟨b2, b1, gb, fun h => kt hnq rfl ks0 ((if_neg (p1 (Nat.le_refl _))).trans (if_pos h)), fun h => ⟨fun _ => p1 (Nat.le_refl _), fun k => h⟩⟩
            have hi2 : (i : Int) < 2 := by omega
            unfold a85_1
            simp -implicitDefEqProofs only [vqa, Nat.reduceEqDiff, Nat.reduceAdd, reduceIte, Nat.reduceLeDiff, Nat.reduceBEq, Nat.reduceLT, Nat.reduceSub, Int.reduceLT, Int.reduceLE, Int.reduceEq, Int.reduceToNat, Nat.reduceMul, eq_self, implies_true, forall_const, h1, h2, h6, m6, h43, m43, h44, h45, hi2, hgi, x1r]
            refine ⟨by omega, hi, fun h => by rw [s1 h], fun h => ?_⟩
            obtain ⟨z1, z2⟩ := s2 h
            exact ⟨hi, ⟨_, rfl, _, rfl, ga, gb⟩, wI (by omega) (by omega), z1 (by omega), fun k => z2 (by omega)⟩
          · rintro e m ⟨h1, h2, h6, m6, ⟨V, h43, g, m43, ga, gb⟩, h44, h45, p1, p2⟩
            unfold a85_1
            simp -implicitDefEqProofs only [vqa, Nat.reduceEqDiff, Nat.reduceAdd, reduceIte, Nat.reduceLeDiff, Nat.reduceBEq, Nat.reduceLT, Nat.reduceSub, Int.reduceLT, Int.reduceLE, Int.reduceEq, Int.reduceToNat, Nat.reduceMul, eq_self, implies_true, forall_const, h1, h2, h6, m6, h43, m43, h44, h45, x1r]
            rw [kn hnq rfl ks0 ((if_neg (p1 (by decide))).trans (if_neg (p2 (by decide))))]
end Go.Ab
namespace Go.Ab
open Go
def a63_0 : AC := (.seq (.ops [⟨(some 17), none, (.v (.bin .lss (.t 16) (.t 15)))⟩]) (.seq (.cond (.t 17) .skip (.exit 0)) (.seq (.block 1 (.seq (.ops [⟨(some 18), none, (.v (.mv (.t 16)))⟩, ⟨(some 19), none, (.v (.idx 3 (.t 14) (.t 16)))⟩, ⟨(some 20), none, (.v (.load 3 true (.t 19)))⟩, ⟨(some 7), none, (.e (.alloc 7 [(.str ⟨#[]⟩), (.int .i64 0), (.bool false)]))⟩, ⟨(some 6), none, (.v (.mv (.t 18)))⟩, ⟨none, none, (.e (.store 3 (.t 7) (.t 20)))⟩]) (.any [⟨(some 21), none, (.v (.mv (.t 5)))⟩, ⟨(some 22), none, (.v (.load 5 true (.t 1)))⟩, ⟨(some 23), none, (.v (.fld 1 (.t 7)))⟩, ⟨(some 24), none, (.v (.load 1 false (.t 23)))⟩, ⟨(some 25), none, (.v (.fld 0 (.t 1)))⟩, ⟨(some 26), none, (.v (.load 1 false (.t 25)))⟩, ⟨(some 27), none, (.v (.len (.t 26)))⟩, ⟨(some 28), none, (.v (.bin .add (.c (.int .i64 1)) (.t 27)))⟩, ⟨(some 29), none, (.v (.mv (.t 6)))⟩, ⟨(some 30), none, (.v (.bin .add (.t 28) (.t 29)))⟩, ⟨(some 31), none, (.call (.c (.fn 86 [])) [(.t 30), (.c (.bool false))])⟩, ⟨(some 32), none, (.call (.c (.fn 85 [])) [(.t 22), (.t 24), (.t 31)])⟩, ⟨(some 33), none, (.e (.lit 33 81 2 1 [(.int .i64 0), (.int .i64 0)] [(0, (.t 32))]))⟩, ⟨(some 34), none, (.e (.app 34 81 2 16 (.t 21) (.t 33)))⟩, ⟨(some 5), none, (.v (.mv (.t 34)))⟩] [[], [], [], [2], [], [4], [5], [6], [], [7, 8], [9], [1, 3, 10, 10], [11], [0, 12, 11], [13, 13, 0, 1, 2, 3, 4, 5, 6, 7, 8, 9, 10, 11, 12, 13]]))) (.ops [⟨(some 35), none, (.v (.bin .add (.t 16) (.c (.int .i64 1))))⟩, ⟨(some 16), none, (.v (.mv (.t 35)))⟩]))))
def a63 : AC := (.seq (.ops [⟨(some 1), none, (.e (.box 1 0 (.t 0)))⟩, ⟨(some 2), none, (.v (.mv (.c .cap0)))⟩, ⟨(some 3), none, (.v (.mv (.c (.int .i64 0))))⟩]) (.seq (.seq (.ops [⟨(some 8), none, (.v (.load 5 true (.t 1)))⟩, ⟨(some 9), none, (.call (.c (.fn 42 [])) [(.t 8)])⟩, ⟨(some 4), none, (.v (.mv (.t 9)))⟩]) (.seq (.ops [⟨(some 10), none, (.v (.mv (.t 4)))⟩, ⟨(some 11), none, (.v (.bin .neq (.t 10) (.c (.int .i64 0))))⟩]) (.cond (.t 11) (.seq (.ops [⟨(some 12), none, (.v (.mv (.t 4)))⟩, ⟨(some 2), none, (.v (.mv (.c .cap0)))⟩, ⟨(some 3), none, (.v (.mv (.t 12)))⟩]) .ret) .skip))) (.seq (.ops [⟨(some 5), none, (.v (.mv (.c .cap0)))⟩]) (.seq (.seq (.ops [⟨(some 13), none, (.v (.fld 2 (.t 1)))⟩, ⟨(some 14), none, (.v (.load 1 false (.t 13)))⟩, ⟨(some 15), none, (.v (.len (.t 14)))⟩, ⟨(some 16), none, (.v (.mv (.c (.int .i64 0))))⟩]) (.block 0 (.loop a63_0))) (.seq (.ops [⟨(some 36), none, (.v (.mv (.t 5)))⟩, ⟨(some 2), none, (.v (.mv (.t 36)))⟩, ⟨(some 3), none, (.v (.mv (.c (.int .i64 0))))⟩]) .ret)))))
def r63 : List AI := [(.mv (.t 2)), (.mv (.t 3))]
theorem f63 : Fn PP 63 1 a63 r63 := Fn.of (fn := Go.Proofs.Try.f63) (by kernel_rfl) (by kernel_rfl) (by kernel_rfl)
/-- The enable and the literal of a register, as a value. -/
def gatP (G : Gra) (i : Nat) : Int × Int := keptG G (G.reg i).next (2 * (1 + G.ni + i : Nat) : Int)
def gatV (G : Gra) (i : Nat) : AV := .agg [.int .i64 (gatP G i).1, .int .i64 (gatP G i).2]

theorem p63 {G : Gra} {cs : List AV} (hG : GraC cs G) (ok : G.Ok) : Pure PP 63 [.agg cs] fun r => ∃ k f, r = .tup [.fs k f, .int .i64 (graphF G)] ∧ (graphF G ≠ 0 → k = 0) ∧ (graphF G = 0 → k = G.nr ∧ ∀ i, i < G.nr → f i = gatV G i) := by
  have hG0 := hG
  have pC := p42 hG ok
  obtain ⟨f0, f1, f2, f3, f4, rfl, g0, g1, g2, g3, g4⟩ := hG
  refine Fn.pure fmix f63 ?_
  unfold a63 r63
  simp -implicitDefEqProofs only [vqa, Nat.reduceEqDiff, Nat.reduceAdd, reduceIte, Nat.reduceLeDiff, Nat.reduceBEq, Nat.reduceLT, Nat.reduceSub, Int.reduceLT, Int.reduceLE, Int.reduceEq, Int.reduceToNat, Nat.reduceMul, eq_self, implies_true, forall_const]
  refine CallW.sc pC rfl ⟨⟨trivial, trivial, trivial, trivial, trivial, trivial⟩, trivial⟩ fun r hr => ⟨by subst hr; rfl, ?_⟩
  subst hr
  simp -implicitDefEqProofs only [vqa, Nat.reduceEqDiff, Nat.reduceAdd, reduceIte, Nat.reduceLeDiff, Nat.reduceBEq, Nat.reduceLT, Nat.reduceSub, Int.reduceLT, Int.reduceLE, Int.reduceEq, Int.reduceToNat, Nat.reduceMul, eq_self, implies_true, forall_const]
  refine ⟨fun h => ⟨_, _, rfl, fun _ => rfl, fun e => absurd e (by simpa using h)⟩, fun h => ?_⟩
  have h0 : graphF G = 0 := by simpa using h
  have gd := good_of h0
  have hni := gd.ni; have hnr := gd.nr
  rw [h0]
  have fin : ∀ (k : Nat) (f : Nat → AV), (k = G.nr ∧ ∀ i, i < G.nr → f i = gatV G i) → ∃ k' f', AV.tup [.fs k f, .int .i64 0] = .tup [.fs k' f', .int .i64 0] ∧ ((0 : Int) ≠ 0 → k' = 0) ∧ k' = G.nr ∧ ∀ i, i < G.nr → f' i = gatV G i := fun k f h => ⟨k, f, rfl, fun e => absurd rfl e, h⟩
  generalize (mem0 1).ver + 1 = V1
  refine vFor G.nr (fun i e m => e 1 = .ptr 1 V1 0 ∧ m 1 = .var V1 [.fs G.ni f0, .fs G.no f1, .fs G.nr f2, .fs G.na f3, .fs G.nk f4] ∧ e 14 = .fs G.nr f2 ∧ e 15 = .int .i64 G.nr ∧ e 16 = .int .i64 i ∧ Acc 34 81 2 i (fun k a => a = gatV G k) (e 5) m) ?_ ?_ ?_
  · simp -implicitDefEqProofs only [vqa, Nat.reduceEqDiff, Nat.reduceAdd, reduceIte, Nat.reduceLeDiff, Nat.reduceBEq, Nat.reduceLT, Nat.reduceSub, Int.reduceLT, Int.reduceLE, Int.reduceEq, Int.reduceToNat, Nat.reduceMul, eq_self, implies_true, forall_const]
    exact .none
  · rintro i e m hi hi' ⟨h1, m1, h14, h15, h16, hA⟩
    have pM := p86 ((1 + G.ni + i : Nat) : Int) false
    have em : makeF ((1 + G.ni + i : Nat) : Int) false = (2 * (1 + G.ni + i : Nat) : Int) := by unfold makeF; rw [if_neg (by omega)]
    rw [em] at pM
    have pF := p85 hG0 ok gd (G.reg i).next (2 * (1 + G.ni + i : Nat) : Int) (gd.next i hi)
    have q1 : ∀ (m : Mem), restr (twoL 1 7) m 1 = m 1 := fun _ => restr_two1
    have q2 : ∀ (m : Mem), restr (twoL 1 7) m 7 = m 7 := fun _ => restr_two2
    have w1 : IntKind.i64.wrap (IntKind.i64.wrap (1 + (G.ni : Int)) + (i : Int)) = ((1 + G.ni + i : Nat) : Int) := by
      rw [wI (n := 1 + (G.ni : Int)) (by omega) (by omega), wI (by omega) (by omega)]; omega
    unfold a63_0
    simp -implicitDefEqProofs only [vqa, Nat.reduceEqDiff, Nat.reduceAdd, reduceIte, Nat.reduceLeDiff, Nat.reduceBEq, Nat.reduceLT, Nat.reduceSub, Int.reduceLT, Int.reduceLE, Int.reduceEq, Int.reduceToNat, Nat.reduceMul, eq_self, implies_true, forall_const, h1, m1, h14, h15, h16, hi', g2 i hi, RegV.av]
    refine ⟨by omega, ?_⟩
    refine vAnyS [0, 1, 2, 3, 4, 5, 6, 7, 8, 9, 10, 11] [12, 13, 14] 12 (twoL 1 7) (by kernel_rfl) (by kernel_rfl) ?_
    simp -implicitDefEqProofs only [vqa, Nat.reduceEqDiff, Nat.reduceAdd, reduceIte, Nat.reduceLeDiff, Nat.reduceBEq, Nat.reduceLT, Nat.reduceSub, Int.reduceLT, Int.reduceLE, Int.reduceEq, Int.reduceToNat, Nat.reduceMul, eq_self, implies_true, forall_const, opsC, opsN, q1, q2, agree_two, h1, m1, h14, h15, h16, hi', g2 i hi, RegV.av, w1]
    refine CallW.sc pM rfl ⟨trivial, trivial, trivial⟩ fun r hr => ⟨by subst hr; rfl, ?_⟩
    subst hr
    simp -implicitDefEqProofs only [vqa, Nat.reduceEqDiff, Nat.reduceAdd, reduceIte, Nat.reduceLeDiff, Nat.reduceBEq, Nat.reduceLT, Nat.reduceSub, Int.reduceLT, Int.reduceLE, Int.reduceEq, Int.reduceToNat, Nat.reduceMul, eq_self, implies_true, forall_const, opsC, opsN, q1, q2, agree_two, h1, m1, h14, h15, h16, g2 i hi, RegV.av]
    refine CallW.sc pF rfl ⟨⟨trivial, trivial, trivial, trivial, trivial, trivial⟩, trivial, trivial, trivial⟩ fun r hr => ⟨by subst hr; rfl, ?_⟩
    subst hr
    rcases hA with ⟨hz, h5⟩ | ⟨ver, g, h5, m34, hg⟩
    · simp -implicitDefEqProofs only [vqa, Nat.reduceEqDiff, Nat.reduceAdd, reduceIte, Nat.reduceLeDiff, Nat.reduceBEq, Nat.reduceLT, Nat.reduceSub, Int.reduceLT, Int.reduceLE, Int.reduceEq, Int.reduceToNat, Nat.reduceMul, eq_self, implies_true, forall_const, opsC, opsN, q1, q2, agree_two, h1, m1, h14, h15, h16, h5]
      obtain rfl : i = 0 := hz
      exact ⟨hi, wI (by omega) (by omega), Acc.first rfl⟩
    · simp -implicitDefEqProofs only [vqa, Nat.reduceEqDiff, Nat.reduceAdd, reduceIte, Nat.reduceLeDiff, Nat.reduceBEq, Nat.reduceLT, Nat.reduceSub, Int.reduceLT, Int.reduceLE, Int.reduceEq, Int.reduceToNat, Nat.reduceMul, eq_self, implies_true, forall_const, opsC, opsN, q1, q2, agree_two, h1, m1, h14, h15, h16, h5, m34]
      exact ⟨⟨by omega, by omega⟩, hi, wI (by omega) (by omega), Acc.push hg rfl⟩
  · rintro e m ⟨h1, m1, h14, h15, h16, hA⟩
    unfold a63_0
    rcases hA with ⟨hz, h5⟩ | ⟨ver, g, h5, m34, hg⟩
    · simp -implicitDefEqProofs only [vqa, Nat.reduceEqDiff, Nat.reduceAdd, reduceIte, Nat.reduceLeDiff, Nat.reduceBEq, Nat.reduceLT, Nat.reduceSub, Int.reduceLT, Int.reduceLE, Int.reduceEq, Int.reduceToNat, Nat.reduceMul, eq_self, implies_true, forall_const, h1, m1, h14, h15, h16, h5]
      exact fin _ _ ⟨hz.symm, fun j hj => absurd hj (by omega)⟩
    · simp -implicitDefEqProofs only [vqa, Nat.reduceEqDiff, Nat.reduceAdd, reduceIte, Nat.reduceLeDiff, Nat.reduceBEq, Nat.reduceLT, Nat.reduceSub, Int.reduceLT, Int.reduceLE, Int.reduceEq, Int.reduceToNat, Nat.reduceMul, eq_self, implies_true, forall_const, h1, m1, h14, h15, h16, h5, m34]
      exact fin _ _ ⟨rfl, hg⟩
end Go.Ab
