/- The law of tables. -/
import Derived.Test.YtfdhmmnffahhgaaP42
import Derived.Test.YtfdhmmnffahhgaaP20
set_option linter.unusedVariables false
set_option linter.unusedSimpArgs false
namespace Go.Proofs.Ytfdhmmnffahhgaa
open Go Go.Proofs.Ytfdhmmnffahhgaa.Am
end Go.Proofs.Ytfdhmmnffahhgaa
