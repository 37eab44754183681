/- Grades of all elements: both sides tell the same list. -/
import Derived.Test.YtfdhmmnffahhgaaP36
import Derived.Test.YtfdhmmnffahhgaaP63
set_option linter.unusedVariables false
set_option linter.unusedSimpArgs false
namespace Go.Proofs.Ytfdhmmnffahhgaa
open Go Go.Proofs.Ytfdhmmnffahhgaa.Am
end Go.Proofs.Ytfdhmmnffahhgaa
