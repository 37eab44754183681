/- Draws of automata with few states; the law of what grows between states. -/
import Derived.Test.YtgmgnijklampiaaDoorP40
import Derived.Test.YtgmgnijklampiaaDoorP53
set_option linter.unusedVariables false
set_option linter.unusedSimpArgs false
namespace Go.Proofs.YtgmgnijklampiaaDoor
open Go Go.Proofs.YtgmgnijklampiaaDoor.Am
end Go.Proofs.YtgmgnijklampiaaDoor
