/- The program, for the walks. -/
import Derived.Test.YtodncnlnadgkhabProg
import Derived.Test.YtodncnlnadgkhabFwS
namespace Go.Ab
open Go
noncomputable abbrev PP : Program := Go.Proofs.Try.prog
theorem fmix : PP.follows .mixedOrders = true := by kernel_rfl
end Go.Ab
