/- The law of an element's expression. -/
import Derived.Test.YtfdhmmnffahhgaaGreatP59
set_option linter.unusedVariables false
set_option linter.unusedSimpArgs false
namespace Go.Proofs.YtfdhmmnffahhgaaGreat
open Go Go.Proofs.YtfdhmmnffahhgaaGreat.Am
end Go.Proofs.YtfdhmmnffahhgaaGreat
