/- The calculus: what is written no more behind a piece of code. No condition. -/
import Derived.Test.YtjpfgafdjlkblaaGreatSimX
namespace Go.Sim
open Go

end Go.Sim
