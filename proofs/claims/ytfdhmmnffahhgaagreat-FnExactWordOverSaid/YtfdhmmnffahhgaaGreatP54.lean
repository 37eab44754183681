/- Draws of automata with few states; the law of what grows between states. -/
import Derived.Test.YtfdhmmnffahhgaaGreatP42
import Derived.Test.YtfdhmmnffahhgaaGreatP50
set_option linter.unusedVariables false
set_option linter.unusedSimpArgs false
namespace Go.Proofs.YtfdhmmnffahhgaaGreat
open Go Go.Proofs.YtfdhmmnffahhgaaGreat.Am
end Go.Proofs.YtfdhmmnffahhgaaGreat
