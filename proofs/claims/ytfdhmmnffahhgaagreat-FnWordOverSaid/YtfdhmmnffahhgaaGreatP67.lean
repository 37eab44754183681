/- Grades of all elements: both sides tell the same list. -/
import Derived.Test.YtfdhmmnffahhgaaGreatP36
import Derived.Test.YtfdhmmnffahhgaaGreatP63
set_option linter.unusedVariables false
set_option linter.unusedSimpArgs false
namespace Go.Proofs.YtfdhmmnffahhgaaGreat
open Go Go.Proofs.YtfdhmmnffahhgaaGreat.Am
end Go.Proofs.YtfdhmmnffahhgaaGreat
