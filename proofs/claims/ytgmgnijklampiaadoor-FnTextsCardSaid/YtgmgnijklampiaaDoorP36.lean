/- Bounded costs and elements that grow between two states: both sides tell the same; the laws. -/
import Derived.Test.YtgmgnijklampiaaDoorP35
set_option linter.unusedVariables false
set_option linter.unusedSimpArgs false
namespace Go.Proofs.YtgmgnijklampiaaDoor
open Go Go.Proofs.YtgmgnijklampiaaDoor.Am
end Go.Proofs.YtgmgnijklampiaaDoor
