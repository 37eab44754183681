/- Steps in order: what is put among them; the sort of steps. -/
import Derived.Test.YtfdhmmnffahhgaaGreatP61
set_option linter.unusedVariables false
set_option linter.unusedSimpArgs false
namespace Go.Proofs.YtfdhmmnffahhgaaGreat
open Go Go.Proofs.YtfdhmmnffahhgaaGreat.Am
end Go.Proofs.YtfdhmmnffahhgaaGreat
