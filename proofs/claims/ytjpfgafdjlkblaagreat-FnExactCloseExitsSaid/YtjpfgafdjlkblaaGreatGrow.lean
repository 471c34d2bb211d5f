/- The library contract of slices.Grow at this program. No condition. -/
import Derived.Shelf.Spec.SlicesGrow
import Derived.Test.YtjpfgafdjlkblaaGreatProg
set_option linter.unusedVariables false
set_option linter.unusedSimpArgs false
namespace Go.Proofs
open Go.Shelf
end Go.Proofs
