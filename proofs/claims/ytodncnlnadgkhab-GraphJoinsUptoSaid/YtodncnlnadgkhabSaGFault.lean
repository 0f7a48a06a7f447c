/- Walk: GraphFault. -/
import Derived.Test.YtodncnlnadgkhabSaGSame
import Derived.Test.YtodncnlnadgkhabSaGFau0
set_option linter.unusedSimpArgs false
set_option linter.unusedVariables false
namespace Go.Ab
open Go
end Go.Ab
