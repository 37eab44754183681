/- The parts of any text, the value of any text. -/
import Derived.Test.YtgmgnijklampiaaDoorP56
set_option linter.unusedVariables false
set_option linter.unusedSimpArgs false
namespace Go.Proofs.YtgmgnijklampiaaDoor
open Go Go.Proofs.YtgmgnijklampiaaDoor.Am
section
variable (φ : Rec) (ac : Pts) (s : List UInt8)
end
end Go.Proofs.YtgmgnijklampiaaDoor
