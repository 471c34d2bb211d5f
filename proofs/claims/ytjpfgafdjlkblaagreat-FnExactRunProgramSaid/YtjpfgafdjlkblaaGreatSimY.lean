/- The calculus: what is written no more behind a piece of code. No condition. -/
import Derived.Test.YtjpfgafdjlkblaaGreatSimX
set_option linter.unusedVariables false
set_option linter.unusedSimpArgs false
namespace Go.Sim
open Go

end Go.Sim
