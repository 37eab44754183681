/- The parts of any text, the value of any text. -/
import Derived.Test.YtfdhmmnffahhgaaGreatP56
set_option linter.unusedVariables false
set_option linter.unusedSimpArgs false
namespace Go.Proofs.YtfdhmmnffahhgaaGreat
open Go Go.Proofs.YtfdhmmnffahhgaaGreat.Am
section
variable (φ : Rec) (ac : Pts) (s : List UInt8)
end
end Go.Proofs.YtfdhmmnffahhgaaGreat
