/- Steps in order: what is put among them; the sort of steps. -/
import Derived.Test.YtfdhmmnffahhgaaP61
set_option linter.unusedVariables false
set_option linter.unusedSimpArgs false
namespace Go.Proofs.Ytfdhmmnffahhgaa
open Go Go.Proofs.Ytfdhmmnffahhgaa.Am
end Go.Proofs.Ytfdhmmnffahhgaa
