/- The code of slices.Index over literals. -/
import Derived.Test.YtodncnlnadgkhacSaBase
set_option linter.unusedSimpArgs false
set_option linter.unusedVariables false
namespace Go.Ab
open Go
def a67_0 : AC := (.seq (.ops [⟨(some 9), none, (.v (.bin .lss (.t 8) (.t 7)))⟩]) (.seq (.cond (.t 9) .skip (.exit 0)) (.seq (.block 1 (.seq (.ops [⟨(some 10), none, (.v (.mv (.t 8)))⟩, ⟨(some 5), none, (.v (.mv (.t 10)))⟩]) (.seq (.ops [⟨(some 11), none, (.v (.mv (.t 1)))⟩, ⟨(some 12), none, (.v (.mv (.t 0)))⟩, ⟨(some 13), none, (.v (.mv (.t 5)))⟩, ⟨(some 14), none, (.v (.idx 1 (.t 12) (.t 13)))⟩, ⟨(some 15), none, (.v (.load 1 false (.t 14)))⟩, ⟨(some 16), none, (.v (.bin .eql (.t 11) (.t 15)))⟩]) (.cond (.t 16) (.seq (.ops [⟨(some 17), none, (.v (.mv (.t 5)))⟩, ⟨(some 4), none, (.v (.mv (.t 17)))⟩]) .ret) .skip)))) (.ops [⟨(some 18), none, (.v (.bin .add (.t 8) (.c (.int .i64 1))))⟩, ⟨(some 8), none, (.v (.mv (.t 18)))⟩]))))
def a67 : AC := (.seq (.ops [⟨(some 4), none, (.v (.mv (.c (.int .i64 0))))⟩]) (.seq (.seq (.ops [⟨(some 6), none, (.v (.mv (.t 0)))⟩, ⟨(some 7), none, (.v (.len (.t 6)))⟩, ⟨(some 8), none, (.v (.mv (.c (.int .i64 0))))⟩]) (.block 0 (.loop a67_0))) (.seq (.ops [⟨(some 4), none, (.v (.mv (.c (.int .i64 (-1)))))⟩]) .ret)))
def r67 : List AI := [(.mv (.t 4))]
theorem f67 : Fn PP 67 2 a67 r67 := Fn.of (fn := Go.Proofs.Try.f67) (by kernel_rfl) (by kernel_rfl) (by kernel_rfl)
end Go.Ab
