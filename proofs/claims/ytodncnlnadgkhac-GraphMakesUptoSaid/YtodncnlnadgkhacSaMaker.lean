/- Walks: the maker of graphs. -/
import Derived.Test.YtodncnlnadgkhacSaMak0
import Derived.Test.YtodncnlnadgkhacFwT
import Derived.Test.YtodncnlnadgkhacLwBit
set_option linter.unusedSimpArgs false
set_option linter.unusedVariables false
namespace Go.Ab
open Go
def a8 : AC := (.seq (.ops [⟨(some 4), none, (.v (.mv (.c .nilp)))⟩]) (.seq (.ops [⟨(some 5), none, (.v (.mv (.t 0)))⟩, ⟨(some 6), none, (.call (.c (.fn 40 [])) [(.t 5)])⟩, ⟨(some 7), none, (.v (.mv (.t 1)))⟩, ⟨(some 8), none, (.call (.c (.fn 41 [])) [(.t 7)])⟩, ⟨(some 9), none, (.e (.mkmap 9 (.ints [.i64, .i64]) (some .i64)))⟩, ⟨(some 10), none, (.v (.build [.cap0, .cap0, .cap0, .undef, (.int .i64 0)] [(0, (1, (.t 6))), (1, (1, (.t 8))), (3, (1, (.t 9)))]))⟩, ⟨(some 11), none, (.e (.box 11 0 (.t 10)))⟩, ⟨(some 4), none, (.v (.mv (.t 11)))⟩]) .ret))
def r8 : List AI := [(.mv (.t 4))]
theorem f8 : Fn PP 8 2 a8 r8 := Fn.of (fn := Go.Proofs.Try.f8) (by kernel_rfl) (by kernel_rfl) (by kernel_rfl)
def b8 (b : Nat) : AC := (.seq (.ops [⟨(some 4), none, (.v (.mv (.c .nilp)))⟩]) (.seq (.ops [⟨(some 5), none, (.v (.mv (.t 0)))⟩, ⟨(some 6), none, (.call (.c (.fn 40 [])) [(.t 5)])⟩, ⟨(some 7), none, (.v (.mv (.t 1)))⟩, ⟨(some 8), none, (.call (.c (.fn 41 [])) [(.t 7)])⟩, ⟨(some 9), none, (.e (.mkmap (b + 9) (.ints [.i64, .i64]) (some .i64)))⟩, ⟨(some 10), none, (.v (.build [.cap0, .cap0, .cap0, .undef, (.int .i64 0)] [(0, (1, (.t 6))), (1, (1, (.t 8))), (3, (1, (.t 9)))]))⟩, ⟨(some 11), none, (.e (.box (b + 11) 0 (.t 10)))⟩, ⟨(some 4), none, (.v (.mv (.t 11)))⟩]) .ret))
def q8 : List AI := [(.mv (.t 4))]
theorem g8 (b : Nat) : Fn PP 8 2 (b8 b) q8 := Fn.ofB b (fn := Go.Proofs.Try.f8) (by kernel_rfl) (by kernel_rfl) (by kernel_rfl)
def a44 : AC := (.seq (.ops [⟨(some 2), none, (.v (.mv (.c (.int .i64 0))))⟩]) (.seq (.seq (.ops [⟨(some 3), none, (.v (.mv (.t 0)))⟩, ⟨(some 4), none, (.v (.bin .lss (.t 3) (.c (.int .i64 0))))⟩]) (.cond (.t 4) (.seq (.ops [⟨(some 5), none, (.v (.mv (.t 0)))⟩, ⟨(some 2), none, (.v (.mv (.t 5)))⟩]) .ret) .skip)) (.seq (.ops [⟨(some 6), none, (.v (.mv (.t 0)))⟩, ⟨(some 7), none, (.v (.bin .xor (.t 6) (.c (.int .i64 1))))⟩, ⟨(some 2), none, (.v (.mv (.t 7)))⟩]) .ret)))
def r44 : List AI := [(.mv (.t 2))]
theorem f44 : Fn PP 44 1 a44 r44 := Fn.of (fn := Go.Proofs.Try.f44) (by kernel_rfl) (by kernel_rfl) (by kernel_rfl)
def a41 : AC := (.seq (.ops [⟨(some 2), none, (.v (.mv (.c .cap0)))⟩]) (.seq (.seq (.ops [⟨(some 3), none, (.v (.mv (.t 0)))⟩, ⟨(some 4), none, (.isnil false (.t 3))⟩]) (.cond (.t 4) (.seq (.ops [⟨(some 2), none, (.v (.mv (.c .cap0)))⟩]) .ret) .skip)) (.seq (.ops [⟨(some 5), none, (.e (.lit 5 37 3 0 [(.str ⟨#[]⟩), (.int .i64 0), (.bool false)] []))⟩, ⟨(some 6), none, (.v (.mv (.t 0)))⟩, ⟨(some 7), none, (.e (.app 7 37 3 32 (.t 5) (.t 6)))⟩, ⟨(some 2), none, (.v (.mv (.t 7)))⟩]) .ret)))
def r41 : List AI := [(.mv (.t 2))]
theorem f41 : Fn PP 41 1 a41 r41 := Fn.of (fn := Go.Proofs.Try.f41) (by kernel_rfl) (by kernel_rfl) (by kernel_rfl)
def a54_0 : AC := (.seq (.ops [⟨(some 10), none, (.v (.bin .lss (.t 9) (.t 8)))⟩]) (.seq (.cond (.t 10) .skip (.exit 0)) (.seq (.block 1 (.seq (.ops [⟨(some 11), none, (.v (.idx 1 (.t 7) (.t 9)))⟩, ⟨(some 12), none, (.v (.load 1 false (.t 11)))⟩, ⟨(some 6), none, (.v (.mv (.t 12)))⟩]) (.seq (.ops [⟨(some 13), none, (.v (.mv (.t 6)))⟩, ⟨(some 14), none, (.v (.mv (.t 0)))⟩, ⟨(some 15), none, (.call (.c (.fn 13 [])) [(.t 14)])⟩, ⟨(some 16), none, (.call (.c (.fn 81 [])) [(.t 13), (.t 15)])⟩, ⟨(some 17), none, (.v (.not (.t 16)))⟩]) (.cond (.t 17) (.seq (.ops [⟨(some 18), none, (.v (.mv (.t 0)))⟩, ⟨(some 19), none, (.call (.c (.fn 43 [])) [(.t 18), (.c (.int .i64 2))])⟩]) (.seq (.ops [⟨(some 4), none, (.v (.mv (.c (.bool false))))⟩]) .ret)) .skip)))) (.ops [⟨(some 20), none, (.v (.bin .add (.t 9) (.c (.int .i64 1))))⟩, ⟨(some 9), none, (.v (.mv (.t 20)))⟩]))))
def a54 : AC := (.seq (.ops [⟨(some 4), none, (.v (.mv (.c (.bool false))))⟩]) (.seq (.seq (.ops [⟨(some 7), none, (.v (.mv (.t 1)))⟩, ⟨(some 8), none, (.v (.len (.t 7)))⟩, ⟨(some 9), none, (.v (.mv (.c (.int .i64 0))))⟩]) (.block 0 (.loop a54_0))) (.seq (.ops [⟨(some 4), none, (.v (.mv (.c (.bool true))))⟩]) .ret)))
def r54 : List AI := [(.mv (.t 4))]
theorem f54 : Fn PP 54 2 a54 r54 := Fn.of (fn := Go.Proofs.Try.f54) (by kernel_rfl) (by kernel_rfl) (by kernel_rfl)
def a56 : AC := (.seq (.ops [⟨(some 10), none, (.v (.mv (.c (.int .i64 0))))⟩, ⟨(some 11), none, (.v (.mv (.c (.bool false))))⟩]) (.seq (.ops [⟨(some 18), none, (.v (.mv (.t 0)))⟩, ⟨(some 19), none, (.v (.mv (.t 1)))⟩, ⟨(some 20), none, (.v (.mv (.t 2)))⟩, ⟨(some 21), none, (.call (.c (.fn 55 [])) [(.t 18), (.t 19), (.t 20)])⟩, ⟨(some 17), none, (.v (.mv (.t 21)))⟩, ⟨(some 22), none, (.v (.ext 0 (.t 17)))⟩, ⟨(some 23), none, (.v (.ext 1 (.t 17)))⟩, ⟨(some 12), none, (.v (.mv (.t 22)))⟩, ⟨(some 13), none, (.v (.mv (.t 23)))⟩]) (.seq (.ops [⟨(some 25), none, (.v (.mv (.t 0)))⟩, ⟨(some 26), none, (.v (.mv (.t 3)))⟩, ⟨(some 27), none, (.v (.mv (.t 4)))⟩, ⟨(some 28), none, (.call (.c (.fn 55 [])) [(.t 25), (.t 26), (.t 27)])⟩, ⟨(some 24), none, (.v (.mv (.t 28)))⟩, ⟨(some 29), none, (.v (.ext 0 (.t 24)))⟩, ⟨(some 30), none, (.v (.ext 1 (.t 24)))⟩, ⟨(some 14), none, (.v (.mv (.t 29)))⟩, ⟨(some 15), none, (.v (.mv (.t 30)))⟩]) (.seq (.seq (.ops [⟨(some 31), none, (.v (.mv (.t 13)))⟩, ⟨(some 32), none, (.v (.not (.t 31)))⟩, ⟨(some 33), none, (.v (.mv (.t 32)))⟩, ⟨(some 34), (some (33, false)), (.v (.mv (.t 15)))⟩, ⟨(some 35), (some (33, false)), (.v (.not (.t 34)))⟩, ⟨(some 36), none, (.v (.pick (.t 33) (.c (.bool true)) (.t 35)))⟩]) (.cond (.t 36) (.seq (.ops [⟨(some 10), none, (.v (.mv (.c (.int .i64 0))))⟩, ⟨(some 11), none, (.v (.mv (.c (.bool false))))⟩]) .ret) .skip)) (.seq (.ops [⟨(some 38), none, (.v (.mv (.t 0)))⟩, ⟨(some 39), none, (.v (.mv (.t 12)))⟩, ⟨(some 40), none, (.call (.c (.fn 44 [])) [(.t 39)])⟩, ⟨(some 41), none, (.v (.mv (.t 14)))⟩, ⟨(some 42), none, (.call (.c (.fn 44 [])) [(.t 41)])⟩, ⟨(some 43), none, (.call (.c (.fn 55 [])) [(.t 38), (.t 40), (.t 42)])⟩, ⟨(some 37), none, (.v (.mv (.t 43)))⟩, ⟨(some 44), none, (.v (.ext 0 (.t 37)))⟩, ⟨(some 45), none, (.v (.ext 1 (.t 37)))⟩, ⟨(some 16), none, (.v (.mv (.t 44)))⟩, ⟨(some 13), none, (.v (.mv (.t 45)))⟩]) (.seq (.seq (.ops [⟨(some 46), none, (.v (.mv (.t 13)))⟩, ⟨(some 47), none, (.v (.not (.t 46)))⟩]) (.cond (.t 47) (.seq (.ops [⟨(some 10), none, (.v (.mv (.c (.int .i64 0))))⟩, ⟨(some 11), none, (.v (.mv (.c (.bool false))))⟩]) .ret) .skip)) (.seq (.ops [⟨(some 48), none, (.v (.mv (.t 16)))⟩, ⟨(some 49), none, (.call (.c (.fn 44 [])) [(.t 48)])⟩, ⟨(some 10), none, (.v (.mv (.t 49)))⟩, ⟨(some 11), none, (.v (.mv (.c (.bool true))))⟩]) .ret)))))))
def r56 : List AI := [(.mv (.t 10)), (.mv (.t 11))]
theorem f56 : Fn PP 56 5 a56 r56 := Fn.of (fn := Go.Proofs.Try.f56) (by kernel_rfl) (by kernel_rfl) (by kernel_rfl)
def a43 : AC := (.seq (.ops [⟨(some 4), none, (.v (.mv (.c (.int .i64 0))))⟩]) (.seq (.seq (.ops [⟨(some 5), none, (.v (.mv (.t 0)))⟩, ⟨(some 6), none, (.v (.nilck (.t 5)))⟩, ⟨(some 7), none, (.v (.fld 4 (.t 6)))⟩, ⟨(some 8), none, (.v (.load 1 false (.t 7)))⟩, ⟨(some 9), none, (.v (.bin .eql (.t 8) (.c (.int .i64 0))))⟩]) (.cond (.t 9) (.ops [⟨(some 10), none, (.v (.mv (.t 0)))⟩, ⟨(some 11), none, (.v (.mv (.t 1)))⟩, ⟨(some 12), none, (.v (.nilck (.t 10)))⟩, ⟨(some 13), none, (.v (.fld 4 (.t 12)))⟩, ⟨none, none, (.e (.store 1 (.t 13) (.t 11)))⟩]) .skip)) (.seq (.ops [⟨(some 4), none, (.v (.mv (.c (.int .i64 0))))⟩]) .ret)))
def r43 : List AI := [(.mv (.t 4))]
theorem f43 : Fn PP 43 2 a43 r43 := Fn.of (fn := Go.Proofs.Try.f43) (by kernel_rfl) (by kernel_rfl) (by kernel_rfl)
def b55 (b : Nat) : AC := (.seq (.ops [⟨(some 6), none, (.v (.mv (.c (.int .i64 0))))⟩, ⟨(some 7), none, (.v (.mv (.c (.bool false))))⟩]) (.seq (.ops [⟨(some 12), none, (.v (.mv (.t 1)))⟩, ⟨(some 13), none, (.v (.mv (.t 2)))⟩, ⟨(some 14), none, (.v (.mn (.t 12) (.t 13)))⟩, ⟨(some 15), none, (.v (.mv (.t 1)))⟩, ⟨(some 16), none, (.v (.mv (.t 2)))⟩, ⟨(some 17), none, (.v (.mx (.t 15) (.t 16)))⟩, ⟨(some 1), none, (.v (.mv (.t 14)))⟩, ⟨(some 2), none, (.v (.mv (.t 17)))⟩]) (.seq (.block 0 (.seq (.ops [⟨(some 19), none, (.v (.mv (.t 1)))⟩, ⟨(some 20), none, (.v (.bin .eql (.t 19) (.c (.int .i64 0))))⟩, ⟨(some 21), none, (.v (.mv (.t 20)))⟩, ⟨(some 22), (some (21, false)), (.v (.mv (.t 1)))⟩, ⟨(some 23), (some (21, false)), (.v (.mv (.t 2)))⟩, ⟨(some 24), (some (21, false)), (.v (.bin .xor (.t 23) (.c (.int .i64 1))))⟩, ⟨(some 25), (some (21, false)), (.v (.bin .eql (.t 22) (.t 24)))⟩, ⟨(some 26), none, (.v (.pick (.t 21) (.c (.bool true)) (.t 25)))⟩, ⟨(some 18), none, (.v (.mv (.t 26)))⟩]) (.cond (.t 18) (.seq (.ops [⟨(some 6), none, (.v (.mv (.c (.int .i64 0))))⟩, ⟨(some 7), none, (.v (.mv (.c (.bool true))))⟩]) .ret) (.seq (.ops [⟨(some 28), none, (.v (.mv (.t 1)))⟩, ⟨(some 29), none, (.v (.bin .eql (.t 28) (.c (.int .i64 1))))⟩, ⟨(some 30), none, (.v (.mv (.t 29)))⟩, ⟨(some 31), (some (30, false)), (.v (.mv (.t 1)))⟩, ⟨(some 32), (some (30, false)), (.v (.mv (.t 2)))⟩, ⟨(some 33), (some (30, false)), (.v (.bin .eql (.t 31) (.t 32)))⟩, ⟨(some 34), none, (.v (.pick (.t 30) (.c (.bool true)) (.t 33)))⟩, ⟨(some 27), none, (.v (.mv (.t 34)))⟩]) (.cond (.t 27) (.seq (.ops [⟨(some 35), none, (.v (.mv (.t 2)))⟩, ⟨(some 6), none, (.v (.mv (.t 35)))⟩, ⟨(some 7), none, (.v (.mv (.c (.bool true))))⟩]) .ret) .skip))))) (.seq (.ops [⟨(some 36), none, (.v (.mv (.t 1)))⟩, ⟨(some 37), none, (.v (.mv (.t 2)))⟩, ⟨(some 38), none, (.v (.build [(.int .i64 0), (.int .i64 0)] [(0, (1, (.t 36))), (1, (1, (.t 37)))]))⟩, ⟨(some 8), none, (.e (.alloc (b + 8) [(.int .i64 0), (.int .i64 0)]))⟩, ⟨none, none, (.e (.store 2 (.t 8) (.t 38)))⟩]) (.seq (.seq (.any [⟨(some 40), none, (.v (.mv (.t 0)))⟩, ⟨(some 41), none, (.v (.nilck (.t 40)))⟩, ⟨(some 42), none, (.v (.fld 3 (.t 41)))⟩, ⟨(some 43), none, (.v (.load 1 false (.t 42)))⟩, ⟨(some 44), none, (.v (.load 2 true (.t 8)))⟩, ⟨(some 45), none, (.v (.lku true (.ints [.i64, .i64]) (some .i64) (.t 43) (.t 44)))⟩, ⟨(some 39), none, (.v (.mv (.t 45)))⟩, ⟨(some 46), none, (.v (.ext 0 (.t 39)))⟩, ⟨(some 47), none, (.v (.ext 1 (.t 39)))⟩, ⟨(some 9), none, (.v (.mv (.t 46)))⟩, ⟨(some 10), none, (.v (.mv (.t 47)))⟩] [[], [0], [1], [2], [], [3, 4], [5], [6], [6], [7, 0, 1, 2, 3, 4, 5, 6, 7], [8, 9, 0, 1, 2, 3, 4, 5, 6, 7, 8, 9]]) (.seq (.ops [⟨(some 48), none, (.v (.mv (.t 10)))⟩]) (.cond (.t 48) (.seq (.ops [⟨(some 49), none, (.v (.mv (.t 9)))⟩, ⟨(some 6), none, (.v (.mv (.t 49)))⟩, ⟨(some 7), none, (.v (.mv (.c (.bool true))))⟩]) .ret) .skip))) (.seq (.seq (.ops [⟨(some 50), none, (.v (.mv (.t 0)))⟩, ⟨(some 51), none, (.v (.nilck (.t 50)))⟩, ⟨(some 52), none, (.v (.fld 2 (.t 51)))⟩, ⟨(some 53), none, (.v (.load 1 false (.t 52)))⟩, ⟨(some 54), none, (.v (.len (.t 53)))⟩, ⟨(some 55), none, (.v (.bin .eql (.t 54) (.c (.int .i64 4000))))⟩]) (.cond (.t 55) (.seq (.ops [⟨(some 56), none, (.v (.mv (.t 0)))⟩, ⟨(some 57), none, (.call (.c (.fn 43 [])) [(.t 56), (.c (.int .i64 3))])⟩]) (.seq (.ops [⟨(some 6), none, (.v (.mv (.c (.int .i64 0))))⟩, ⟨(some 7), none, (.v (.mv (.c (.bool false))))⟩]) .ret)) .skip)) (.seq (.ops [⟨(some 58), none, (.v (.mv (.t 0)))⟩, ⟨(some 59), none, (.call (.c (.fn 13 [])) [(.t 58)])⟩, ⟨(some 60), none, (.v (.bin .mul (.c (.int .i64 2)) (.t 59)))⟩, ⟨(some 11), none, (.v (.mv (.t 60)))⟩]) (.seq (.any [⟨(some 61), none, (.v (.mv (.t 0)))⟩, ⟨(some 62), none, (.v (.mv (.t 0)))⟩, ⟨(some 63), none, (.v (.nilck (.t 62)))⟩, ⟨(some 64), none, (.v (.fld 2 (.t 63)))⟩, ⟨(some 65), none, (.v (.load 1 false (.t 64)))⟩, ⟨(some 66), none, (.v (.load 2 true (.t 8)))⟩, ⟨(some 67), none, (.e (.lit (b + 67) 103 2 1 [(.int .i64 0), (.int .i64 0)] [(0, (.t 66))]))⟩, ⟨(some 68), none, (.e (.app (b + 68) 103 2 16 (.t 65) (.t 67)))⟩, ⟨(some 69), none, (.v (.nilck (.t 61)))⟩, ⟨(some 70), none, (.v (.fld 2 (.t 69)))⟩, ⟨none, none, (.e (.store 1 (.t 70) (.t 68)))⟩] [[], [], [1], [2], [3], [], [5], [4, 6], [0, 0, 1, 2, 3, 4, 5, 6, 7], [8, 0, 1, 2, 3, 4, 5, 6, 7], [9, 7, 7, 0, 1, 2, 3, 4, 5, 6, 7]]) (.seq (.any [⟨(some 71), none, (.v (.mv (.t 0)))⟩, ⟨(some 72), none, (.v (.nilck (.t 71)))⟩, ⟨(some 73), none, (.v (.fld 3 (.t 72)))⟩, ⟨(some 74), none, (.v (.load 1 false (.t 73)))⟩, ⟨(some 75), none, (.v (.load 2 true (.t 8)))⟩, ⟨(some 76), none, (.v (.mv (.t 11)))⟩, ⟨none, none, (.e (.mapup (.ints [.i64, .i64]) (some .i64) (.t 74) (.t 75) (.t 76)))⟩] [[], [0], [1], [2], [], [], [3, 4, 5, 0, 1, 2, 3, 4, 5]]) (.seq (.ops [⟨(some 77), none, (.v (.mv (.t 11)))⟩, ⟨(some 6), none, (.v (.mv (.t 77)))⟩, ⟨(some 7), none, (.v (.mv (.c (.bool true))))⟩]) .ret))))))))))
def q55 : List AI := [(.mv (.t 6)), (.mv (.t 7))]
theorem g55 (b : Nat) : Fn PP 55 3 (b55 b) q55 := Fn.ofB b (fn := Go.Proofs.Try.f55) (by kernel_rfl) (by kernel_rfl) (by kernel_rfl)
def a13 : AC := (.seq (.ops [⟨(some 2), none, (.v (.mv (.c (.int .i64 0))))⟩]) (.seq (.any [⟨(some 3), none, (.v (.mv (.t 0)))⟩, ⟨(some 4), none, (.v (.nilck (.t 3)))⟩, ⟨(some 5), none, (.v (.fld 0 (.t 4)))⟩, ⟨(some 6), none, (.v (.load 1 false (.t 5)))⟩, ⟨(some 7), none, (.v (.len (.t 6)))⟩, ⟨(some 8), none, (.v (.bin .add (.c (.int .i64 1)) (.t 7)))⟩, ⟨(some 9), none, (.v (.mv (.t 0)))⟩, ⟨(some 10), none, (.v (.nilck (.t 9)))⟩, ⟨(some 11), none, (.v (.fld 1 (.t 10)))⟩, ⟨(some 12), none, (.v (.load 1 false (.t 11)))⟩, ⟨(some 13), none, (.v (.len (.t 12)))⟩, ⟨(some 14), none, (.v (.bin .add (.t 8) (.t 13)))⟩, ⟨(some 15), none, (.v (.mv (.t 0)))⟩, ⟨(some 16), none, (.v (.nilck (.t 15)))⟩, ⟨(some 17), none, (.v (.fld 2 (.t 16)))⟩, ⟨(some 18), none, (.v (.load 1 false (.t 17)))⟩, ⟨(some 19), none, (.v (.len (.t 18)))⟩, ⟨(some 20), none, (.v (.bin .add (.t 14) (.t 19)))⟩, ⟨(some 2), none, (.v (.mv (.t 20)))⟩] [[], [0], [1], [2], [3], [4], [], [6], [7], [8], [9], [5, 10], [], [12], [13], [14], [15], [11, 16], [17, 0, 1, 2, 3, 4, 5, 6, 7, 8, 9, 10, 11, 12, 13, 14, 15, 16, 17]]) .ret))
def r13 : List AI := [(.mv (.t 2))]
theorem f13 : Fn PP 13 1 a13 r13 := Fn.of (fn := Go.Proofs.Try.f13) (by kernel_rfl) (by kernel_rfl) (by kernel_rfl)

/-! ### plain: what a maker is -/
/-- The first k < n with the operands x, y; n if there is none. -/
def find2 (A B : Nat → Int) (x y : Int) : Nat → Nat
  | 0 => 0
  | n + 1 => if find2 A B x y n < n then find2 A B x y n else if A n = x ∧ B n = y then n else n + 1
theorem find2_le (A B : Nat → Int) (x y : Int) : ∀ n, find2 A B x y n ≤ n
  | 0 => Nat.le_refl _
  | n + 1 => by
    unfold find2
    have := find2_le A B x y n
    split
    · omega
    · split <;> omega
theorem find2_congr {A B A' B' : Nat → Int} (x y : Int) : ∀ n, (∀ k, k < n → A k = A' k ∧ B k = B' k) → find2 A B x y n = find2 A' B' x y n
  | 0, _ => rfl
  | n + 1, h => by
    unfold find2
    rw [find2_congr x y n (fun k hk => h k (by omega)), (h n (by omega)).1, (h n (by omega)).2]
theorem find2_lt {A B : Nat → Int} {x y : Int} : ∀ {n}, find2 A B x y n < n → A (find2 A B x y n) = x ∧ B (find2 A B x y n) = y
  | 0, h => absurd h (Nat.not_lt_zero _)
  | n + 1, h => by
    unfold find2 at h ⊢
    by_cases h1 : find2 A B x y n < n
    · rw [if_pos h1]; exact find2_lt h1
    · rw [if_neg h1] at h ⊢
      by_cases h2 : A n = x ∧ B n = y
      · rw [if_pos h2]; exact h2
      · rw [if_neg h2] at h; omega
theorem find2_of {A B : Nat → Int} {x y : Int} : ∀ {n k}, k < n → A k = x → B k = y → find2 A B x y n ≤ k
  | n + 1, k, hk, h1, h2 => by
    unfold find2
    by_cases h : find2 A B x y n < n
    · rw [if_pos h]
      by_cases e : k < n
      · exact find2_of e h1 h2
      · have := find2_le A B x y n; omega
    · rw [if_neg h]
      by_cases e : k < n
      · have := find2_of e h1 h2; omega
      · obtain rfl : k = n := by omega
        rw [if_pos ⟨h1, h2⟩]; omega

/-- What a maker has come to: ni inputs, nr registers, n ands of the operands A, B, the first error. -/
structure Mak where
  ni : Nat
  nr : Nat
  n : Nat
  A : Nat → Int
  B : Nat → Int
  bad : Int
def Mak.base (M : Mak) : Nat := 1 + M.ni + M.nr
def Mak.nodes (M : Mak) : Nat := M.base + M.n
structure Mak.Ok (M : Mak) : Prop where
  ni : M.ni ≤ 1048576
  nr : M.nr ≤ 1048576
  n : M.n ≤ 4000
def Mak.idx (M : Mak) (x y : Int) : Nat := find2 M.A M.B x y M.n
def Mak.fail (M : Mak) (e : Int) : Mak := { M with bad := if M.bad = 0 then e else M.bad }
def Mak.push (M : Mak) (x y : Int) : Mak := { M with n := M.n + 1, A := fun k => if k = M.n then x else M.A k, B := fun k => if k = M.n then y else M.B k }
/-- 'and', of the smaller and the greater literal. -/
def Mak.andS (M : Mak) (a b : Int) : Int × Bool × Mak :=
  if a = 0 ∨ a = x1 b then (0, true, M)
  else if a = 1 ∨ a = b then (b, true, M)
  else if M.idx a b < M.n then (2 * (M.base + M.idx a b : Nat), true, M)
  else if M.n = 4000 then (0, false, M.fail 3)
  else (2 * (M.nodes : Nat), true, M.push a b)
def Mak.and (M : Mak) (a b : Int) : Int × Bool × Mak := M.andS (if b < a then b else a) (if b > a then b else a)
theorem andS_ok {M : Mak} (ok : M.Ok) (a b : Int) : (M.andS a b).2.2.Ok := by
  unfold Mak.andS
  have := ok.n
  split
  · exact ok
  · split
    · exact ok
    · split
      · exact ok
      · split
        · exact ⟨ok.ni, ok.nr, ok.n⟩
        · exact ⟨ok.ni, ok.nr, show M.n + 1 ≤ 4000 by omega⟩
theorem and_ok {M : Mak} (ok : M.Ok) (a b : Int) : (M.and a b).2.2.Ok := andS_ok ok _ _
def Mak.bef (M : Mak) (l : Int) : Prop := 0 ≤ l ∧ l < 2 * (M.nodes : Nat)
instance (M : Mak) (l : Int) : Decidable (M.bef l) := by unfold Mak.bef; exact inferInstance
def Mak.pair (M : Mak) (a b c d : Int) : Int × Bool × Mak :=
  let r := M.and a b
  let s := r.2.2.and c d
  if r.2.1 = false ∨ s.2.1 = false then (0, false, s.2.2)
  else
    let t := s.2.2.and (notL r.1) (notL s.1)
    if t.2.1 = false then (0, false, t.2.2) else (notL t.1, true, t.2.2)

def key2 (x y : Int) : Value := .agg #[.int .i64 x, .int .i64 y]
theorem key2_eq {x y a b : Int} : keyEq (key2 x y) (key2 a b) = decide (x = a ∧ y = b) := by
  simp [keyEq, key2, keyEqL]

/-- The row of the ands. -/
def AndsA (mem : Mem) (av : AV) (M : Mak) (S : Nat → Prop) (o sid : Nat) : Prop :=
  (M.n = 0 ∧ av = .cap0) ∨ ∃ aid V f, av = .sl aid V M.n ∧ mem aid = .row V 103 2 M.n f ∧ S aid ∧ aid ≠ o ∧ aid ≠ sid ∧ ∀ k, k < M.n → f k = .agg [.int .i64 (M.A k), .int .i64 (M.B k)]
/-- The maker at object o; all of its objects are in S. -/
def MkA (mem : Mem) (o v : Nat) (fi fr : Nat → AV) (M : Mak) (S : Nat → Prop) : Prop :=
  ∃ av sid sv p g, mem o = .var v [.fs M.ni fi, .fs M.nr fr, av, .mp sid sv, .int .i64 M.bad] ∧ mem sid = .map sv (.ints [.i64, .i64]) (some .i64) p g ∧
    S o ∧ S sid ∧ o ≠ sid ∧ AndsA mem av M S o sid ∧
    (∀ x y, p (key2 x y) = decide (M.idx x y < M.n)) ∧ ∀ x y, M.idx x y < M.n → g (key2 x y) = 2 * (M.base + M.idx x y : Nat)
theorem MkA.congr {mem mem' : Mem} {o v : Nat} {fi fr : Nat → AV} {M : Mak} {S S' : Nat → Prop} (h : MkA mem o v fi fr M S) (hm : ∀ i, S i → mem' i = mem i) (hh : ∀ i, S i → S' i) : MkA mem' o v fi fr M S' := by
  obtain ⟨av, sid, sv, p, g, h1, h2, l1, l3, l5, hA, hp, hg⟩ := h
  refine ⟨av, sid, sv, p, g, by rw [hm o l1]; exact h1, by rw [hm sid l3]; exact h2, hh _ l1, hh _ l3, l5, ?_, hp, hg⟩
  rcases hA with h | ⟨aid, V, f, e1, e2, e3, e5, e6, e7⟩
  · exact .inl h
  · exact .inr ⟨aid, V, f, e1, by rw [hm aid e3]; exact e2, hh _ e3, e5, e6, e7⟩
/-- S, and what a call over b may make. -/
def Ext (S : Nat → Prop) (b c : Nat) : Nat → Prop := fun i => S i ∨ (b ≤ i ∧ i < c)
theorem Ext.lt {S : Nat → Prop} {b c : Nat} (hb : ∀ i, S i → i < b) (hc : b ≤ c) : ∀ i, Ext S b c i → i < c := fun i h => by
  rcases h with h | h
  · have := hb i h; omega
  · exact h.2

theorem p13 {mem : Mem} {o v : Nat} {fi fr : Nat → AV} {M : Mak} {S : Nat → Prop} (h : MkA mem o v fi fr M S) (ok : M.Ok) : CallW PP 13 [.ptr o v 0] mem fun r m => r = .int .i64 (M.nodes : Nat) ∧ m = mem := by
  obtain ⟨av, sid, sv, p, g, h1, h2, l1, l3, l5, hA, hp, hg⟩ := h
  have hni := ok.ni; have hnr := ok.nr; have hn := ok.n
  refine Fn.call fmix f13 ?_
  unfold a13 r13
  have fin : IntKind.i64.wrap (IntKind.i64.wrap (IntKind.i64.wrap (1 + (M.ni : Int)) + (M.nr : Int)) + (M.n : Int)) = (M.nodes : Nat) := by
    rw [wI (n := 1 + (M.ni : Int)) (by omega) (by omega), wI (n := 1 + (M.ni : Int) + (M.nr : Int)) (by omega) (by omega), wI (by omega) (by omega)]
    unfold Mak.nodes Mak.base; omega
  rcases hA with ⟨hz, rfl⟩ | ⟨aid, V, f, rfl, e2, e3, e5, e6, e7⟩
  · simp -implicitDefEqProofs only [vqa, Nat.reduceEqDiff, Nat.reduceAdd, reduceIte, Nat.reduceLeDiff, Nat.reduceBEq, Nat.reduceLT, Nat.reduceSub, Int.reduceLT, Int.reduceLE, Int.reduceEq, Int.reduceToNat, Nat.reduceMul, eq_self, implies_true, forall_const]
    refine vAny [0, 1, 2, 3, 4, 5, 6, 7, 8, 9, 10, 11, 12, 13, 14, 15, 16, 17, 18] 19 allL rfl rfl ?_
    simp -implicitDefEqProofs only [vqa, Nat.reduceEqDiff, Nat.reduceAdd, reduceIte, Nat.reduceLeDiff, Nat.reduceBEq, Nat.reduceLT, Nat.reduceSub, Int.reduceLT, Int.reduceLE, Int.reduceEq, Int.reduceToNat, Nat.reduceMul, eq_self, implies_true, forall_const, h1]
    rw [hz] at fin
    exact fin
  · simp -implicitDefEqProofs only [vqa, Nat.reduceEqDiff, Nat.reduceAdd, reduceIte, Nat.reduceLeDiff, Nat.reduceBEq, Nat.reduceLT, Nat.reduceSub, Int.reduceLT, Int.reduceLE, Int.reduceEq, Int.reduceToNat, Nat.reduceMul, eq_self, implies_true, forall_const]
    refine vAny [0, 1, 2, 3, 4, 5, 6, 7, 8, 9, 10, 11, 12, 13, 14, 15, 16, 17, 18] 19 allL rfl rfl ?_
    simp -implicitDefEqProofs only [vqa, Nat.reduceEqDiff, Nat.reduceAdd, reduceIte, Nat.reduceLeDiff, Nat.reduceBEq, Nat.reduceLT, Nat.reduceSub, Int.reduceLT, Int.reduceLE, Int.reduceEq, Int.reduceToNat, Nat.reduceMul, eq_self, implies_true, forall_const, h1, e2]
    exact fin

theorem p44 (l : Int) : Pure PP 44 [.int .i64 l] fun r => r = .int .i64 (notL l) := by
  refine Fn.pure fmix f44 ?_
  unfold a44 r44
  simp -implicitDefEqProofs only [vqa, Nat.reduceEqDiff, Nat.reduceAdd, reduceIte, Nat.reduceLeDiff, Nat.reduceBEq, Nat.reduceLT, Nat.reduceSub, Int.reduceLT, Int.reduceLE, Int.reduceEq, Int.reduceToNat, Nat.reduceMul, eq_self, implies_true, forall_const]
  unfold notL
  refine ⟨fun k => by rw [if_pos k], fun k => by rw [if_neg k]; rfl⟩

theorem p43 {mem : Mem} {o v : Nat} {fi fr : Nat → AV} {M : Mak} {S : Nat → Prop} (h : MkA mem o v fi fr M S) (c : Int) : CallW PP 43 [.ptr o v 0, .int .i64 c] mem fun r m => r = .int .i64 0 ∧ MkA m o v fi fr (M.fail c) S ∧ ∀ i, i ≠ o → m i = mem i := by
  have h0 := h
  obtain ⟨av, sid, sv, p, g, h1, h2, l1, l3, l5, hA, hp, hg⟩ := h
  refine Fn.call fmix f43 ?_
  unfold a43 r43
  simp -implicitDefEqProofs only [vqa, Nat.reduceEqDiff, Nat.reduceAdd, reduceIte, Nat.reduceLeDiff, Nat.reduceBEq, Nat.reduceLT, Nat.reduceSub, Int.reduceLT, Int.reduceLE, Int.reduceEq, Int.reduceToNat, Nat.reduceMul, eq_self, implies_true, forall_const, h1]
  refine ⟨fun k => ⟨⟨av, sid, sv, p, g, ?_, ?_, l1, l3, l5, ?_, hp, hg⟩, fun i hi => ?_⟩, fun k => ?_⟩
  · rw [set_same]; simp only [Mak.fail, if_pos k]
  · rw [set_ne (Ne.symm l5)]; exact h2
  · rcases hA with h | ⟨aid, V, f, e1, e2, e3, e5, e6, e7⟩
    · exact .inl h
    · exact .inr ⟨aid, V, f, e1, by rw [set_ne e5]; exact e2, e3, e5, e6, e7⟩
  · exact if_neg hi
  · have : M.fail c = M := by unfold Mak.fail; rw [if_neg k]
    rw [this]; exact h0

theorem p54 {mem : Mem} {o v : Nat} {fi fr : Nat → AV} {M : Mak} {S : Nat → Prop} (h : MkA mem o v fi fr M S) (ok : M.Ok) {lid lv n : Nat} {f : Nat → AV} {x : Nat → Int} (hl : mem lid = .row lv 35 1 n f) (hn : n ≤ 1048576) (hx : ∀ i, i < n → f i = .int .i64 (x i)) :
    CallW PP 54 [.ptr o v 0, .sl lid lv n] mem fun r m => r = .bool (decide (∀ i, i < n → M.bef (x i))) ∧ MkA m o v fi fr (if ∀ i, i < n → M.bef (x i) then M else M.fail 2) S ∧ ∀ i, i ≠ o → m i = mem i := by
  have h1 := ok.ni; have h2 := ok.nr; have h3 := ok.n
  refine Fn.call fmix f54 ?_
  unfold a54 r54
  simp -implicitDefEqProofs only [vqa, Nat.reduceEqDiff, Nat.reduceAdd, reduceIte, Nat.reduceLeDiff, Nat.reduceBEq, Nat.reduceLT, Nat.reduceSub, Int.reduceLT, Int.reduceLE, Int.reduceEq, Int.reduceToNat, Nat.reduceMul, eq_self, implies_true, forall_const, hl]
  refine vFor n (fun i e m => m = mem ∧ e 0 = .ptr o v 0 ∧ e 7 = .sl lid lv n ∧ e 8 = .int .i64 n ∧ e 9 = .int .i64 i ∧ ∀ k, k < i → M.bef (x k)) ?_ ?_ ?_
  · simp -implicitDefEqProofs only [vqa, Nat.reduceEqDiff, Nat.reduceAdd, reduceIte, Nat.reduceLeDiff, Nat.reduceBEq, Nat.reduceLT, Nat.reduceSub, Int.reduceLT, Int.reduceLE, Int.reduceEq, Int.reduceToNat, Nat.reduceMul, eq_self, implies_true, forall_const]
  · rintro i e m hi hi' ⟨rfl, h0, h7, h8, h9, hb⟩
    unfold a54_0
    simp -implicitDefEqProofs only [vqa, Nat.reduceEqDiff, Nat.reduceAdd, reduceIte, Nat.reduceLeDiff, Nat.reduceBEq, Nat.reduceLT, Nat.reduceSub, Int.reduceLT, Int.reduceLE, Int.reduceEq, Int.reduceToNat, Nat.reduceMul, eq_self, implies_true, forall_const, h0, h7, h8, h9, hi', hl, hx i hi]
    refine ⟨by omega, hi, (p13 h ok).mono fun r m' ⟨hr, hm⟩ => ?_⟩
    subst hr; subst hm
    simp -implicitDefEqProofs only [vqa, Nat.reduceEqDiff, Nat.reduceAdd, reduceIte, Nat.reduceLeDiff, Nat.reduceBEq, Nat.reduceLT, Nat.reduceSub, Int.reduceLT, Int.reduceLE, Int.reduceEq, Int.reduceToNat, Nat.reduceMul, eq_self, implies_true, forall_const, h0, h7, h8, h9]
    refine CallW.sc (p81 (x i) (M.nodes : Nat) (by omega) (by unfold Mak.nodes Mak.base; omega)) rfl ?_ fun r hr => ⟨by subst hr; rfl, ?_⟩
    · simp only [rsC, rs2, rs1, rs0, vqa, Nat.reduceEqDiff, Nat.reduceAdd, reduceIte, Nat.reduceLeDiff, Nat.reduceBEq, Nat.reduceLT, Nat.reduceSub, Int.reduceLT, Int.reduceLE, Int.reduceEq, Int.reduceToNat, Nat.reduceMul, eq_self, implies_true, forall_const]
    subst hr
    simp -implicitDefEqProofs only [vqa, Nat.reduceEqDiff, Nat.reduceAdd, reduceIte, Nat.reduceLeDiff, Nat.reduceBEq, Nat.reduceLT, Nat.reduceSub, Int.reduceLT, Int.reduceLE, Int.reduceEq, Int.reduceToNat, Nat.reduceMul, eq_self, implies_true, forall_const, h0, h7, h8, h9]
    refine ⟨fun k => ?_, fun k => ⟨hi, wI (by omega) (by omega), fun j hj => ?_⟩⟩
    · refine (p43 h 2).mono fun r m' ⟨hr, hM, hk⟩ => ?_
      subst hr
      have hnot : ¬ ∀ i, i < n → M.bef (x i) := fun hh => k (hh i hi)
      simp -implicitDefEqProofs only [vqa, Nat.reduceEqDiff, Nat.reduceAdd, reduceIte, Nat.reduceLeDiff, Nat.reduceBEq, Nat.reduceLT, Nat.reduceSub, Int.reduceLT, Int.reduceLE, Int.reduceEq, Int.reduceToNat, Nat.reduceMul, eq_self, implies_true, forall_const]
      refine ⟨by rw [decide_eq_false hnot], by rw [if_neg hnot]; exact hM, hk⟩
    · by_cases e : j < i
      · exact hb j e
      · obtain rfl : j = i := by omega
        exact Classical.not_not.1 k
  · rintro e m ⟨rfl, h0, h7, h8, h9, hb⟩
    unfold a54_0
    simp -implicitDefEqProofs only [vqa, Nat.reduceEqDiff, Nat.reduceAdd, reduceIte, Nat.reduceLeDiff, Nat.reduceBEq, Nat.reduceLT, Nat.reduceSub, Int.reduceLT, Int.reduceLE, Int.reduceEq, Int.reduceToNat, Nat.reduceMul, eq_self, implies_true, forall_const, h0, h7, h8, h9]
    refine ⟨by rw [decide_eq_true hb], by rw [if_pos hb]; exact h⟩

theorem key2_def (x y : Int) : Value.agg [Value.int .i64 x, Value.int .i64 y].toArray = key2 x y := rfl

/-- What lies before b, and not in S, has not turned. -/
def Frame (S : Nat → Prop) (b : Nat) (mem m : Mem) : Prop := ∀ i, i < b → ¬ S i → m i = mem i
theorem Frame.refl {S : Nat → Prop} {b : Nat} {m : Mem} : Frame S b m m := fun _ _ _ => rfl
theorem Frame.set {S : Nat → Prop} {b k : Nat} {o : AO} {mem m : Mem} (h : Frame S b mem m) (hk : b ≤ k ∨ S k) : Frame S b mem (Mem.set k o m) := fun i hi hh => by
  rw [set_ne (fun e => by subst e; exact hk.elim (fun h => by omega) hh)]; exact h i hi hh
theorem Frame.trans {S : Nat → Prop} {b c d : Nat} {m m' m'' : Mem} (h : Frame S b m m') (k : Frame (Ext S b c) d m' m'') (hd : b ≤ d) : Frame S b m m'' := fun i hi hs => by
  rw [k i (by omega) (fun e => e.elim hs (fun q => by omega)), h i hi hs]
theorem MkA.setOut {mem : Mem} {o v : Nat} {fi fr : Nat → AV} {M : Mak} {S : Nat → Prop} {k : Nat} {q : AO} (h : MkA mem o v fi fr M S) (hk : ¬ S k) : MkA (Mem.set k q mem) o v fi fr M S :=
  h.congr (fun i h2 => set_ne (fun e => by subst e; exact hk h2) _ _) (fun _ h => h)
theorem MkA.wide {mem : Mem} {o v : Nat} {fi fr : Nat → AV} {M : Mak} {S S' : Nat → Prop} (h : MkA mem o v fi fr M S) (hh : ∀ i, S i → S' i) : MkA mem o v fi fr M S' := h.congr (fun _ _ => rfl) hh
theorem idx_push {M : Mak} (x y a b : Int) (h : ¬ M.idx a b < M.n) : (M.push a b).idx x y = if M.idx x y < M.n then M.idx x y else if x = a ∧ y = b then M.n else M.n + 1 := by
  have e : find2 (M.push a b).A (M.push a b).B x y M.n = find2 M.A M.B x y M.n := find2_congr x y M.n fun k hk => by
    simp only [Mak.push]; rw [if_neg (by omega), if_neg (by omega)]; exact ⟨rfl, rfl⟩
  show find2 (M.push a b).A (M.push a b).B x y (M.n + 1) = _
  unfold find2
  rw [e]
  unfold Mak.idx
  split
  · rfl
  · simp only [Mak.push, if_true]
    by_cases q : x = a ∧ y = b
    · rw [if_pos q, if_pos ⟨q.1.symm, q.2.symm⟩]
    · rw [if_neg q, if_neg (fun r => q ⟨r.1.symm, r.2.symm⟩)]
/-- After the and is put in: the row, the map. -/
theorem MkA.push {m : Mem} {o v : Nat} {fi fr : Nat → AV} {M : Mak} {S : Nat → Prop} {sid sv aid V : Nat} {p : Value → Bool} {g : Value → Int} {f : Nat → AV} {a b : Int} (ha : ¬ M.idx a b < M.n)
    (h1 : m o = .var v [.fs M.ni fi, .fs M.nr fr, .sl aid V (M.n + 1), .mp sid sv, .int .i64 M.bad])
    (h2 : m sid = .map sv (.ints [.i64, .i64]) (some .i64) (fun q => bif keyEq q (key2 a b) then true else p q) (fun q => bif keyEq q (key2 a b) then 2 * ((M.nodes : Nat) : Int) else g q))
    (h3 : m aid = .row V 103 2 (M.n + 1) f) (l1 : S o) (l3 : S sid) (l5 : o ≠ sid) (l6 : S aid) (l8 : aid ≠ o) (l9 : aid ≠ sid)
    (hf : ∀ k, k < M.n → f k = .agg [.int .i64 (M.A k), .int .i64 (M.B k)]) (hf' : f M.n = .agg [.int .i64 a, .int .i64 b])
    (hp : ∀ x y, p (key2 x y) = decide (M.idx x y < M.n)) (hg : ∀ x y, M.idx x y < M.n → g (key2 x y) = 2 * (M.base + M.idx x y : Nat)) : MkA m o v fi fr (M.push a b) S := by
  refine ⟨_, sid, sv, _, _, h1, h2, l1, l3, l5, .inr ⟨aid, V, f, rfl, h3, l6, l8, l9, fun k hk => ?_⟩, fun x y => ?_, fun x y hxy => ?_⟩
  · simp only [Mak.push] at hk ⊢
    by_cases e : k = M.n
    · subst e; rw [if_pos rfl, if_pos rfl]; exact hf'
    · rw [if_neg e, if_neg e]; exact hf k (by omega)
  · rw [idx_push x y a b ha, key2_eq]
    by_cases q : x = a ∧ y = b
    · obtain ⟨rfl, rfl⟩ := q
      simp [ha, Mak.push]
    · simp only [q, decide_false, cond_false, hp, if_false]
      have hle := find2_le M.A M.B x y M.n
      by_cases r : M.idx x y < M.n
      · simp [r, Mak.push]; unfold Mak.idx; omega
      · simp [r, Mak.push]
  · rw [idx_push x y a b ha] at hxy ⊢
    rw [key2_eq]
    by_cases q : x = a ∧ y = b
    · obtain ⟨rfl, rfl⟩ := q
      simp only [ha, if_false, and_self, if_true, decide_true, cond_true]
      rfl
    · simp only [q, decide_false, cond_false, if_false] at hxy ⊢
      by_cases r : M.idx x y < M.n
      · rw [if_pos r, hg x y r]; rfl
      · rw [if_neg r] at hxy
        exact absurd hxy (by simp [Mak.push])

set_option maxHeartbeats 400000 in
theorem p55 (b : Nat) {mem : Mem} {o v : Nat} {fi fr : Nat → AV} {M : Mak} {S : Nat → Prop} (h : MkA mem o v fi fr M S) (ok : M.Ok) (hb : ∀ i, S i → i < b) (x y : Int) :
    CallW PP 55 [.ptr o v 0, .int .i64 x, .int .i64 y] mem fun r m => r = .tup [.int .i64 (M.and x y).1, .bool (M.and x y).2.1] ∧ MkA m o v fi fr (M.and x y).2.2 (Ext S b (b + 100)) ∧ Frame S b mem m := by
  have h0 := h
  obtain ⟨av, sid, sv, p, g, h1, h2, l1, l3, l5, hA, hp, hg⟩ := h
  have n1 := ok.ni; have n2 := ok.nr; have n3 := ok.n
  have ho : o < b := hb _ l1
  have hs : sid < b := hb _ l3
  have hout : ¬ S (b + 8) := fun h => by have := hb _ h; omega
  have hin : ∀ i, S i → Ext S b (b + 100) i := fun _ => .inl
  refine Fn.call fmix (g55 b) ?_
  unfold b55 q55 Mak.and
  simp -implicitDefEqProofs only [vqa, Nat.reduceEqDiff, Nat.reduceAdd, reduceIte, Nat.reduceLeDiff, Nat.reduceBEq, Nat.reduceLT, Nat.reduceSub, Int.reduceLT, Int.reduceLE, Int.reduceEq, Int.reduceToNat, Nat.reduceMul, eq_self, implies_true, forall_const, h1, bNe ho, bNe' ho]
  generalize (if y < x then y else x) = s
  generalize (if x < y then y else x) = t
  have hAnd : M.andS s t = if s = 0 ∨ s = x1 t then (0, true, M) else if s = 1 ∨ s = t then (t, true, M) else if M.idx s t < M.n then (2 * (M.base + M.idx s t : Nat), true, M) else if M.n = 4000 then (0, false, M.fail 3) else (2 * (M.nodes : Nat), true, M.push s t) := rfl
  have keepR : ∀ {m : Mem} {c : Int} {d : Bool}, MkA m o v fi fr M S → Frame S b mem m → M.andS s t = (c, d, M) → (AV.tup [.int .i64 c, .bool d] = .tup [.int .i64 (M.andS s t).1, .bool (M.andS s t).2.1] ∧ MkA m o v fi fr (M.andS s t).2.2 (Ext S b (b + 100)) ∧ Frame S b mem m) := fun hM hF e => by
    rw [e]
    exact ⟨rfl, hM.wide hin, hF⟩
  refine ⟨fun c1 => ⟨fun c2 => keepR h0 .refl (by rw [hAnd, if_pos (.inr c2)]), fun c2 => ⟨fun c3 => ⟨fun c4 => keepR h0 .refl (by rw [hAnd, if_neg (fun q => q.elim c1 c2), if_pos (.inr c4)]), fun c4 => ?_⟩, fun c3 => keepR h0 .refl (by rw [hAnd, if_neg (fun q => q.elim c1 c2), if_pos (.inl c3)])⟩⟩, fun c1 => keepR h0 .refl (by rw [hAnd, if_pos (.inl c1)])⟩
  rw [if_neg (fun q => q.elim c1 c2), if_neg (fun q => q.elim c3 c4)] at hAnd
  refine vAny [0, 1, 2, 3, 4, 5, 6, 7, 8, 9, 10] 11 allL rfl rfl ?_
  by_cases c5 : M.idx s t < M.n
  · rw [if_pos c5] at hAnd
    simp -implicitDefEqProofs only [vqa, Nat.reduceEqDiff, Nat.reduceAdd, reduceIte, Nat.reduceLeDiff, Nat.reduceBEq, Nat.reduceLT, Nat.reduceSub, Int.reduceLT, Int.reduceLE, Int.reduceEq, Int.reduceToNat, Nat.reduceMul, eq_self, implies_true, forall_const, h1, h2, bNe ho, bNe' ho, bNe hs, bNe' hs, key2_def, hp, c5, hg s t c5, intsV]
    exact keepR ((h0.setOut hout).setOut hout) ((Frame.refl.set (.inl (by omega))).set (.inl (by omega))) hAnd
  rw [if_neg c5] at hAnd
  have ne1 : (o = sid) = False := eq_false l5
  have ne2 : (sid = o) = False := eq_false (Ne.symm l5)
  rcases hA with ⟨hz, rfl⟩ | ⟨aid, V, f, rfl, e2, e3, e5, e6, e7⟩
  · rw [if_neg (by omega)] at hAnd
    simp -implicitDefEqProofs only [vqa, Nat.reduceEqDiff, Nat.reduceAdd, reduceIte, Nat.reduceLeDiff, Nat.reduceBEq, Nat.reduceLT, Nat.reduceSub, Int.reduceLT, Int.reduceLE, Int.reduceEq, Int.reduceToNat, Nat.reduceMul, eq_self, implies_true, forall_const, h1, h2, bNe ho, bNe' ho, bNe hs, bNe' hs, key2_def, hp, c5, intsV]
    refine (p13 ((h0.setOut hout).setOut hout) ok).mono fun r m ⟨hr, hm⟩ => ?_
    subst hr; subst hm
    simp -implicitDefEqProofs only [vqa, Nat.reduceEqDiff, Nat.reduceAdd, reduceIte, Nat.reduceLeDiff, Nat.reduceBEq, Nat.reduceLT, Nat.reduceSub, Int.reduceLT, Int.reduceLE, Int.reduceEq, Int.reduceToNat, Nat.reduceMul, eq_self, implies_true, forall_const, h1, h2, bNe ho, bNe' ho, bNe hs, bNe' hs, key2_def, hp, c5, intsV]
    rw [wI (n := 2 * ((M.nodes : Nat) : Int)) (by omega) (by unfold Mak.nodes Mak.base; omega)]
    refine vAny [0, 1, 2, 3, 4, 5, 6, 7, 8, 9, 10] 10 (twoL o (b + 8)) (by kernel_rfl) (by kernel_rfl) ?_
    have q1 : ∀ (m : Mem), restr (twoL o (b + 8)) m o = m o := fun _ => restr_two1
    have q2 : ∀ (m : Mem), restr (twoL o (b + 8)) m (b + 8) = m (b + 8) := fun _ => restr_two2
    simp -implicitDefEqProofs only [vqa, Nat.reduceEqDiff, Nat.reduceAdd, reduceIte, Nat.reduceLeDiff, Nat.reduceBEq, Nat.reduceLT, Nat.reduceSub, Int.reduceLT, Int.reduceLE, Int.reduceEq, Int.reduceToNat, Nat.reduceMul, eq_self, implies_true, forall_const, h1, h2, bNe ho, bNe' ho, bNe hs, bNe' hs, key2_def, hp, c5, intsV, q1, q2, agree_two, ne1, ne2]
    refine vAny [0, 1, 2, 3, 4, 5, 6] 6 allL (by kernel_rfl) (by kernel_rfl) ?_
    simp -implicitDefEqProofs only [vqa, Nat.reduceEqDiff, Nat.reduceAdd, reduceIte, Nat.reduceLeDiff, Nat.reduceBEq, Nat.reduceLT, Nat.reduceSub, Int.reduceLT, Int.reduceLE, Int.reduceEq, Int.reduceToNat, Nat.reduceMul, eq_self, implies_true, forall_const, h1, h2, bNe ho, bNe' ho, bNe hs, bNe' hs, key2_def, hp, c5, intsV, ne1, ne2]
    rw [hAnd]
    refine ⟨rfl, MkA.push c5 (V := (mem (b + 68)).ver + 1) (aid := b + 68) (sid := sid) (sv := sv) (p := p) (g := g) (f := fun i => [AV.agg [.int .i64 s, .int .i64 t]].getD i .undef) ?_ ?_ ?_ (hin _ l1) (hin _ l3) l5 (.inr ⟨by omega, by omega⟩) (by omega) (by omega) ?_ ?_ hp hg, ?_⟩
    · simp only [set_at, ne1, if_false, if_true, hz]
    · rw [set_same]
    · simp only [set_at, ne1, bNe' ho, bNe' hs, if_false, if_true, hz]
    · exact fun k hk => absurd hk (by omega)
    · rw [hz]; rfl
    · exact Frame.set (Frame.set (Frame.set (Frame.set (Frame.set (Frame.set .refl (.inl (by omega))) (.inl (by omega))) (.inl (by omega))) (.inl (by omega))) (.inr l1)) (.inr l3)
  · have ha : aid < b := hb _ e3
    have ne3 : (aid = o) = False := eq_false e5
    have ne4 : (o = aid) = False := eq_false (Ne.symm e5)
    have ne5 : (aid = sid) = False := eq_false e6
    have ne6 : (sid = aid) = False := eq_false (Ne.symm e6)
    simp -implicitDefEqProofs only [vqa, Nat.reduceEqDiff, Nat.reduceAdd, reduceIte, Nat.reduceLeDiff, Nat.reduceBEq, Nat.reduceLT, Nat.reduceSub, Int.reduceLT, Int.reduceLE, Int.reduceEq, Int.reduceToNat, Nat.reduceMul, eq_self, implies_true, forall_const, h1, h2, e2, bNe ho, bNe' ho, bNe hs, bNe' hs, bNe ha, bNe' ha, key2_def, hp, c5, intsV]
    refine ⟨fun c6 => ?_, fun c6 => ?_⟩
    · rw [if_pos (by omega)] at hAnd
      refine (p43 ((h0.setOut hout).setOut hout) 3).mono fun r m ⟨hr, hM, hF⟩ => ?_
      subst hr
      simp -implicitDefEqProofs only [vqa, Nat.reduceEqDiff, Nat.reduceAdd, reduceIte, Nat.reduceLeDiff, Nat.reduceBEq, Nat.reduceLT, Nat.reduceSub, Int.reduceLT, Int.reduceLE, Int.reduceEq, Int.reduceToNat, Nat.reduceMul, eq_self, implies_true, forall_const]
      rw [hAnd]
      refine ⟨rfl, hM.wide hin, fun i hi hh => ?_⟩
      rw [hF i (fun e => hh (e ▸ l1)), set_ne (by omega), set_ne (by omega)]
    rw [if_neg (by omega)] at hAnd
    refine (p13 ((h0.setOut hout).setOut hout) ok).mono fun r m ⟨hr, hm⟩ => ?_
    subst hr; subst hm
    simp -implicitDefEqProofs only [vqa, Nat.reduceEqDiff, Nat.reduceAdd, reduceIte, Nat.reduceLeDiff, Nat.reduceBEq, Nat.reduceLT, Nat.reduceSub, Int.reduceLT, Int.reduceLE, Int.reduceEq, Int.reduceToNat, Nat.reduceMul, eq_self, implies_true, forall_const, h1, h2, e2, bNe ho, bNe' ho, bNe hs, bNe' hs, bNe ha, bNe' ha, key2_def, hp, c5, intsV]
    rw [wI (n := 2 * ((M.nodes : Nat) : Int)) (by omega) (by unfold Mak.nodes Mak.base; omega)]
    refine vAny [0, 1, 2, 3, 4, 5, 6, 7, 8, 9, 10] 10 (twoL o (b + 8)) (by kernel_rfl) (by kernel_rfl) ?_
    have q1 : ∀ (m : Mem), restr (twoL o (b + 8)) m o = m o := fun _ => restr_two1
    have q2 : ∀ (m : Mem), restr (twoL o (b + 8)) m (b + 8) = m (b + 8) := fun _ => restr_two2
    simp -implicitDefEqProofs only [vqa, Nat.reduceEqDiff, Nat.reduceAdd, reduceIte, Nat.reduceLeDiff, Nat.reduceBEq, Nat.reduceLT, Nat.reduceSub, Int.reduceLT, Int.reduceLE, Int.reduceEq, Int.reduceToNat, Nat.reduceMul, eq_self, implies_true, forall_const, h1, h2, e2, bNe ho, bNe' ho, bNe hs, bNe' hs, bNe ha, bNe' ha, key2_def, hp, c5, intsV, q1, q2, agree_two, ne1, ne2, ne3, ne4, ne5, ne6]
    refine ⟨by omega, ?_⟩
    refine vAny [0, 1, 2, 3, 4, 5, 6] 6 allL (by kernel_rfl) (by kernel_rfl) ?_
    simp -implicitDefEqProofs only [vqa, Nat.reduceEqDiff, Nat.reduceAdd, reduceIte, Nat.reduceLeDiff, Nat.reduceBEq, Nat.reduceLT, Nat.reduceSub, Int.reduceLT, Int.reduceLE, Int.reduceEq, Int.reduceToNat, Nat.reduceMul, eq_self, implies_true, forall_const, h1, h2, bNe ho, bNe' ho, bNe hs, bNe' hs, bNe ha, bNe' ha, key2_def, hp, c5, intsV, ne1, ne2, ne3, ne4, ne5, ne6]
    rw [hAnd]
    refine ⟨rfl, MkA.push c5 (V := V + 1) (aid := aid) (sid := sid) (sv := sv) (p := p) (g := g) (f := fun i => bif decide (i < M.n) then f i else [AV.agg [.int .i64 s, .int .i64 t]].getD (i - M.n) .undef) ?_ ?_ ?_ (hin _ l1) (hin _ l3) l5 (hin _ e3) (by omega) (by omega) ?_ ?_ hp hg, ?_⟩
    · simp only [set_at, ne1, if_false, if_true]
    · rw [set_same]
    · simp only [set_at, ne3, ne5, if_false, if_true]
    · exact fun k hk => by simp only [hk, decide_true, cond_true]; exact e7 k hk
    · simp only [Nat.lt_irrefl, decide_false, cond_false, Nat.sub_self, List.getD_cons_zero]
    · exact Frame.set (Frame.set (Frame.set (Frame.set (Frame.set (Frame.set .refl (.inl (by omega))) (.inl (by omega))) (.inl (by omega))) (.inr e3)) (.inr l1)) (.inr l3)

theorem pair_ok {M : Mak} (ok : M.Ok) (a b c d : Int) : (M.pair a b c d).2.2.Ok := by
  have k2 := and_ok (and_ok ok a b) c d
  simp only [Mak.pair]
  split
  · exact k2
  · have k3 := and_ok k2 (notL (M.and a b).1) (notL ((M.and a b).2.2.and c d).1)
    split <;> exact k3

theorem p56 (b : Nat) {mem : Mem} {o v : Nat} {fi fr : Nat → AV} {M : Mak} {S : Nat → Prop} (h : MkA mem o v fi fr M S) (ok : M.Ok) (hb : ∀ i, S i → i < b) (a c d k : Int) :
    CallW PP 56 [.ptr o v 0, .int .i64 a, .int .i64 c, .int .i64 d, .int .i64 k] mem fun r m => r = .tup [.int .i64 (M.pair a c d k).1, .bool (M.pair a c d k).2.1] ∧ MkA m o v fi fr (M.pair a c d k).2.2 (Ext S b (b + 300)) ∧ Frame S b mem m := by
  have hw : ∀ j, j ≤ b + 300 → ∀ i, Ext S b j i → Ext S b (b + 300) i := fun j hj i hh => hh.elim .inl (fun q => .inr ⟨q.1, by omega⟩)
  have e1 : Ext (Ext S b (b + 100)) (b + 100) (b + 100 + 100) = Ext S b (b + 200) := by
    funext i; apply propext; unfold Ext
    constructor
    · rintro ((h | h) | h)
      · exact .inl h
      · exact .inr ⟨h.1, by omega⟩
      · exact .inr ⟨by omega, by omega⟩
    · rintro (h | h)
      · exact .inl (.inl h)
      · by_cases q : i < b + 100
        · exact .inl (.inr ⟨h.1, q⟩)
        · exact .inr ⟨by omega, by omega⟩
  have e2 : Ext (Ext S b (b + 200)) (b + 200) (b + 200 + 100) = Ext S b (b + 300) := by
    funext i; apply propext; unfold Ext
    constructor
    · rintro ((h | h) | h)
      · exact .inl h
      · exact .inr ⟨h.1, by omega⟩
      · exact .inr ⟨by omega, by omega⟩
    · rintro (h | h)
      · exact .inl (.inl h)
      · by_cases q : i < b + 200
        · exact .inl (.inr ⟨h.1, q⟩)
        · exact .inr ⟨by omega, by omega⟩
  refine Fn.call fmix f56 ?_
  unfold a56 r56
  simp -implicitDefEqProofs only [vqa, Nat.reduceEqDiff, Nat.reduceAdd, reduceIte, Nat.reduceLeDiff, Nat.reduceBEq, Nat.reduceLT, Nat.reduceSub, Int.reduceLT, Int.reduceLE, Int.reduceEq, Int.reduceToNat, Nat.reduceMul, eq_self, implies_true, forall_const]
  refine (p55 b h ok hb a c).mono fun r m1 ⟨hr, hM1, hF1⟩ => ?_
  have ok1 := and_ok ok a c
  subst hr
  simp -implicitDefEqProofs only [vqa, Nat.reduceEqDiff, Nat.reduceAdd, reduceIte, Nat.reduceLeDiff, Nat.reduceBEq, Nat.reduceLT, Nat.reduceSub, Int.reduceLT, Int.reduceLE, Int.reduceEq, Int.reduceToNat, Nat.reduceMul, eq_self, implies_true, forall_const]
  refine (p55 (b + 100) hM1 ok1 (Ext.lt hb (by omega)) d k).mono fun r m2 ⟨hr, hM2, hF2⟩ => ?_
  rw [e1] at hM2
  have ok2 := and_ok ok1 d k
  have hF2' := hF1.trans hF2 (by omega)
  subst hr
  simp -implicitDefEqProofs only [vqa, Nat.reduceEqDiff, Nat.reduceAdd, reduceIte, Nat.reduceLeDiff, Nat.reduceBEq, Nat.reduceLT, Nat.reduceSub, Int.reduceLT, Int.reduceLE, Int.reduceEq, Int.reduceToNat, Nat.reduceMul, eq_self, implies_true, forall_const, Mak.pair]
  cases hr1 : (M.and a c).2.1 with
  | false =>
    simp -implicitDefEqProofs only [vqa, Nat.reduceEqDiff, Nat.reduceAdd, reduceIte, Nat.reduceLeDiff, Nat.reduceBEq, Nat.reduceLT, Nat.reduceSub, Int.reduceLT, Int.reduceLE, Int.reduceEq, Int.reduceToNat, Nat.reduceMul, eq_self, implies_true, forall_const]
    refine ⟨rfl, hM2.wide (hw _ (by omega)), hF2'⟩
  | true =>
    cases hr2 : ((M.and a c).2.2.and d k).2.1 with
    | false =>
      simp -implicitDefEqProofs only [vqa, Nat.reduceEqDiff, Nat.reduceAdd, reduceIte, Nat.reduceLeDiff, Nat.reduceBEq, Nat.reduceLT, Nat.reduceSub, Int.reduceLT, Int.reduceLE, Int.reduceEq, Int.reduceToNat, Nat.reduceMul, eq_self, implies_true, forall_const]
      refine ⟨rfl, hM2.wide (hw _ (by omega)), hF2'⟩
    | true =>
      simp -implicitDefEqProofs only [vqa, Nat.reduceEqDiff, Nat.reduceAdd, reduceIte, Nat.reduceLeDiff, Nat.reduceBEq, Nat.reduceLT, Nat.reduceSub, Int.reduceLT, Int.reduceLE, Int.reduceEq, Int.reduceToNat, Nat.reduceMul, eq_self, implies_true, forall_const]
      refine CallW.sc (p44 _) rfl ⟨trivial, trivial⟩ fun r hr => ⟨by subst hr; rfl, ?_⟩
      subst hr
      simp -implicitDefEqProofs only [vqa, Nat.reduceEqDiff, Nat.reduceAdd, reduceIte, Nat.reduceLeDiff, Nat.reduceBEq, Nat.reduceLT, Nat.reduceSub, Int.reduceLT, Int.reduceLE, Int.reduceEq, Int.reduceToNat, Nat.reduceMul, eq_self, implies_true, forall_const]
      refine CallW.sc (p44 _) rfl ⟨trivial, trivial⟩ fun r hr => ⟨by subst hr; rfl, ?_⟩
      subst hr
      simp -implicitDefEqProofs only [vqa, Nat.reduceEqDiff, Nat.reduceAdd, reduceIte, Nat.reduceLeDiff, Nat.reduceBEq, Nat.reduceLT, Nat.reduceSub, Int.reduceLT, Int.reduceLE, Int.reduceEq, Int.reduceToNat, Nat.reduceMul, eq_self, implies_true, forall_const]
      refine (p55 (b + 200) hM2 ok2 (Ext.lt hb (by omega)) _ _).mono fun r m3 ⟨hr, hM3, hF3⟩ => ?_
      rw [e2] at hM3
      have hF3' := hF2'.trans (c := b + 200) hF3 (by omega)
      subst hr
      simp -implicitDefEqProofs only [vqa, Nat.reduceEqDiff, Nat.reduceAdd, reduceIte, Nat.reduceLeDiff, Nat.reduceBEq, Nat.reduceLT, Nat.reduceSub, Int.reduceLT, Int.reduceLE, Int.reduceEq, Int.reduceToNat, Nat.reduceMul, eq_self, implies_true, forall_const]
      cases hr3 : (((M.and a c).2.2.and d k).2.2.and (notL (M.and a c).1) (notL ((M.and a c).2.2.and d k).1)).2.1 with
      | false =>
        simp -implicitDefEqProofs only [vqa, Nat.reduceEqDiff, Nat.reduceAdd, reduceIte, Nat.reduceLeDiff, Nat.reduceBEq, Nat.reduceLT, Nat.reduceSub, Int.reduceLT, Int.reduceLE, Int.reduceEq, Int.reduceToNat, Nat.reduceMul, eq_self, implies_true, forall_const]
        exact ⟨rfl, hM3, hF3'⟩
      | true =>
        simp -implicitDefEqProofs only [vqa, Nat.reduceEqDiff, Nat.reduceAdd, reduceIte, Nat.reduceLeDiff, Nat.reduceBEq, Nat.reduceLT, Nat.reduceSub, Int.reduceLT, Int.reduceLE, Int.reduceEq, Int.reduceToNat, Nat.reduceMul, eq_self, implies_true, forall_const]
        refine CallW.sc (p44 _) rfl ⟨trivial, trivial⟩ fun r hr => ⟨by subst hr; rfl, ?_⟩
        subst hr
        simp -implicitDefEqProofs only [vqa, Nat.reduceEqDiff, Nat.reduceAdd, reduceIte, Nat.reduceLeDiff, Nat.reduceBEq, Nat.reduceLT, Nat.reduceSub, Int.reduceLT, Int.reduceLE, Int.reduceEq, Int.reduceToNat, Nat.reduceMul, eq_self, implies_true, forall_const]
        exact ⟨rfl, hM3, hF3'⟩


/-- Both literals are of nodes that exist. -/
def Mak.two (M : Mak) (a b : Int) : Prop := M.bef a ∧ M.bef b
instance (M : Mak) (a b : Int) : Decidable (M.two a b) := by unfold Mak.two; exact inferInstance
theorem two_iff (M : Mak) (a b : Int) : (∀ i, i < 2 → M.bef ([a, b].getD i 0)) ↔ M.two a b := by
  constructor
  · exact fun h => ⟨h 0 (by omega), h 1 (by omega)⟩
  · rintro h i hi
    have : i = 0 ∨ i = 1 := by omega
    rcases this with rfl | rfl
    · exact h.1
    · exact h.2
/-- known, of two. -/
theorem p54t {mem : Mem} {o v : Nat} {fi fr : Nat → AV} {M : Mak} {S : Nat → Prop} (h : MkA mem o v fi fr M S) (ok : M.Ok) {lid lv : Nat} {f : Nat → AV} {a b : Int} (hl : mem lid = .row lv 35 1 2 f) (ha : f 0 = .int .i64 a) (hb : f 1 = .int .i64 b) :
    CallW PP 54 [.ptr o v 0, .sl lid lv 2] mem fun r m => r = .bool (decide (M.two a b)) ∧ MkA m o v fi fr (if M.two a b then M else M.fail 2) S ∧ ∀ i, i ≠ o → m i = mem i := by
  refine (p54 h ok hl (x := fun i => [a, b].getD i 0) (by omega) fun i hi => ?_).mono fun r m ⟨h1, h2, h3⟩ => ⟨?_, ?_, h3⟩
  · have : i = 0 ∨ i = 1 := by omega
    rcases this with rfl | rfl
    · exact ha
    · exact hb
  · rw [h1]; congr 1; exact decide_eq_decide.2 (two_iff M a b)
  · by_cases q : M.two a b
    · rw [if_pos ((two_iff M a b).2 q)] at h2; rw [if_pos q]; exact h2
    · rw [if_neg (fun z => q ((two_iff M a b).1 z))] at h2; rw [if_neg q]; exact h2
def Mak.xorF (M : Mak) (a b : Int) : Int × Mak := if M.two a b then ((M.pair a (notL b) (notL a) b).1, (M.pair a (notL b) (notL a) b).2.2) else (0, M.fail 2)
def Mak.andF (M : Mak) (a b : Int) : Int × Mak := if M.two a b then ((M.and a b).1, (M.and a b).2.2) else (0, M.fail 2)
theorem fail_ok {M : Mak} (ok : M.Ok) (c : Int) : (M.fail c).Ok := ⟨ok.ni, ok.nr, ok.n⟩
theorem xorF_ok {M : Mak} (ok : M.Ok) (a b : Int) : (M.xorF a b).2.Ok := by
  unfold Mak.xorF
  split
  · exact pair_ok ok _ _ _ _
  · exact fail_ok ok _
theorem andF_ok {M : Mak} (ok : M.Ok) (a b : Int) : (M.andF a b).2.Ok := by
  unfold Mak.andF
  split
  · exact and_ok ok _ _
  · exact fail_ok ok _

theorem ext_out {S : Nat → Prop} {b : Nat} (hb : ∀ i, S i → i < b) (c : Nat) : (∀ i, Ext S (b + 100) (b + 100 + c) i → Ext S b (b + 100 + c) i) ∧ (∀ i, S i → i < b + 100) :=
  ⟨fun i h => h.elim .inl fun q => .inr ⟨by omega, q.2⟩, fun i h => by have := hb i h; omega⟩
theorem p40z (n : Nat) (f : Nat → AV) (hf : ∀ i, i < n → (f i).cells.length = 1 ∧ (f i).cells.all AV.isCell = true) (hn : n ≤ 1048576) : Pure PP 40 [.fs n f] fun r => ∃ g, r = .fs n g ∧ ∀ i, i < n → g i = f i := by
  refine Fn.pure fmix f40 ?_
  unfold a40 r40
  simp -implicitDefEqProofs only [vqa, Nat.reduceEqDiff, Nat.reduceAdd, reduceIte, Nat.reduceLeDiff, Nat.reduceBEq, Nat.reduceLT, Nat.reduceSub, Int.reduceLT, Int.reduceLE, Int.reduceEq, Int.reduceToNat, Nat.reduceMul, eq_self, implies_true, forall_const]
  refine ⟨?_, fun h => ⟨_, by rw [h], fun i hi => absurd hi (by omega)⟩⟩
  cases n with
  | zero => simp -implicitDefEqProofs only [vqa, Nat.reduceEqDiff, Nat.reduceAdd, reduceIte, Nat.reduceLeDiff, Nat.reduceBEq, Nat.reduceLT, Nat.reduceSub, Int.reduceLT, Int.reduceLE, Int.reduceEq, Int.reduceToNat, Nat.reduceMul, eq_self, implies_true, forall_const]; exact ⟨_, rfl⟩
  | succ n =>
    simp -implicitDefEqProofs only [vqa, Nat.reduceEqDiff, Nat.reduceAdd, reduceIte, Nat.reduceLeDiff, Nat.reduceBEq, Nat.reduceLT, Nat.reduceSub, Int.reduceLT, Int.reduceLE, Int.reduceEq, Int.reduceToNat, Nat.reduceMul, eq_self, implies_true, forall_const]
    exact ⟨⟨hf, by omega, by omega⟩, _, rfl, fun i hi => rfl⟩
theorem p41z (n : Nat) (f : Nat → AV) (hf : ∀ i, i < n → (f i).cells.length = 3 ∧ (f i).cells.all AV.isCell = true) (hn : n ≤ 1048576) : Pure PP 41 [.fs n f] fun r => ∃ g, r = .fs n g ∧ ∀ i, i < n → g i = f i := by
  refine Fn.pure fmix f41 ?_
  unfold a41 r41
  simp -implicitDefEqProofs only [vqa, Nat.reduceEqDiff, Nat.reduceAdd, reduceIte, Nat.reduceLeDiff, Nat.reduceBEq, Nat.reduceLT, Nat.reduceSub, Int.reduceLT, Int.reduceLE, Int.reduceEq, Int.reduceToNat, Nat.reduceMul, eq_self, implies_true, forall_const]
  refine ⟨?_, fun h => ⟨_, by rw [h], fun i hi => absurd hi (by omega)⟩⟩
  cases n with
  | zero => simp -implicitDefEqProofs only [vqa, Nat.reduceEqDiff, Nat.reduceAdd, reduceIte, Nat.reduceLeDiff, Nat.reduceBEq, Nat.reduceLT, Nat.reduceSub, Int.reduceLT, Int.reduceLE, Int.reduceEq, Int.reduceToNat, Nat.reduceMul, eq_self, implies_true, forall_const]; exact ⟨_, rfl⟩
  | succ n =>
    simp -implicitDefEqProofs only [vqa, Nat.reduceEqDiff, Nat.reduceAdd, reduceIte, Nat.reduceLeDiff, Nat.reduceBEq, Nat.reduceLT, Nat.reduceSub, Int.reduceLT, Int.reduceLE, Int.reduceEq, Int.reduceToNat, Nat.reduceMul, eq_self, implies_true, forall_const]
    exact ⟨⟨hf, by omega, by omega⟩, _, rfl, fun i hi => rfl⟩

def newM (ni nr : Nat) : Mak := ⟨ni, nr, 0, fun _ => 0, fun _ => 0, 0⟩
theorem p8 (b : Nat) {mem : Mem} {ni nr : Nat} {fi fr : Nat → AV} (ci : ∀ i, i < ni → (fi i).cells.length = 1 ∧ (fi i).cells.all AV.isCell = true) (cr : ∀ i, i < nr → (fr i).cells.length = 3 ∧ (fr i).cells.all AV.isCell = true) (hi : ni ≤ 1048576) (hr : nr ≤ 1048576) :
    CallW PP 8 [.fs ni fi, .fs nr fr] mem fun r m => ∃ v gi gr, r = .ptr (b + 11) v 0 ∧ MkA m (b + 11) v gi gr (newM ni nr) (Ext (fun _ => False) b (b + 100)) ∧ Keeps b mem m ∧ (∀ i, i < ni → gi i = fi i) ∧ ∀ i, i < nr → gr i = fr i := by
  refine Fn.call fmix (g8 b) ?_
  unfold b8 q8
  simp -implicitDefEqProofs only [vqa, Nat.reduceEqDiff, Nat.reduceAdd, reduceIte, Nat.reduceLeDiff, Nat.reduceBEq, Nat.reduceLT, Nat.reduceSub, Int.reduceLT, Int.reduceLE, Int.reduceEq, Int.reduceToNat, Nat.reduceMul, eq_self, implies_true, forall_const]
  refine CallW.fz (p40z ni fi ci hi) rfl rfl fun r ⟨gi, h1, h2⟩ => ⟨by subst h1; rfl, ?_⟩
  subst h1
  simp -implicitDefEqProofs only [vqa, Nat.reduceEqDiff, Nat.reduceAdd, reduceIte, Nat.reduceLeDiff, Nat.reduceBEq, Nat.reduceLT, Nat.reduceSub, Int.reduceLT, Int.reduceLE, Int.reduceEq, Int.reduceToNat, Nat.reduceMul, eq_self, implies_true, forall_const]
  refine CallW.fz (p41z nr fr cr hr) rfl rfl fun r ⟨gr, h3, h4⟩ => ⟨by subst h3; rfl, ?_⟩
  subst h3
  simp -implicitDefEqProofs only [vqa, Nat.reduceEqDiff, Nat.reduceAdd, reduceIte, Nat.reduceLeDiff, Nat.reduceBEq, Nat.reduceLT, Nat.reduceSub, Int.reduceLT, Int.reduceLE, Int.reduceEq, Int.reduceToNat, Nat.reduceMul, eq_self, implies_true, forall_const]
  refine ⟨_, gi, gr, rfl, ⟨.cap0, b + 9, (mem (b + 9)).ver + 1, fun _ => false, fun _ => 0, set_same _ _ _, ?_, .inr ⟨by omega, by omega⟩, .inr ⟨by omega, by omega⟩, by omega, .inl ⟨rfl, rfl⟩, fun x y => ?_, fun x y hx => ?_⟩, h2, h4⟩
  · rw [set_ne (by omega), set_same]
  · rfl
  · exact absurd hx (Nat.not_lt_zero _)
end Go.Ab
