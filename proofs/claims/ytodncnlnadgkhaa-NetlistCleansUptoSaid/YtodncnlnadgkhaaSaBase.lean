/- The program, for the walks. -/
import Derived.Test.YtodncnlnadgkhaaProg
import Derived.Test.YtodncnlnadgkhaaFwS
namespace Go.Ab
open Go
noncomputable abbrev PP : Program := Go.Proofs.Try.prog
theorem fmix : PP.follows .mixedOrders = true := by kernel_rfl
end Go.Ab
