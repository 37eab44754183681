/- Bounded costs and elements that grow between two states: both sides tell the same; the laws. -/
import Derived.Test.YtfdhmmnffahhgaaP35
set_option linter.unusedVariables false
set_option linter.unusedSimpArgs false
namespace Go.Proofs.Ytfdhmmnffahhgaa
open Go Go.Proofs.Ytfdhmmnffahhgaa.Am
end Go.Proofs.Ytfdhmmnffahhgaa
