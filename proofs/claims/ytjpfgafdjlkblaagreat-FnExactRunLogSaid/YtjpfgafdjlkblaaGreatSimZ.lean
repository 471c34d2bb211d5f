/- The calculus: room for a slice, out of the library's contract. No condition. -/
import Derived.Test.YtjpfgafdjlkblaaGreatSimY
set_option linter.unusedVariables false
set_option linter.unusedSimpArgs false
namespace Go.Sim
open Go
end Go.Sim
