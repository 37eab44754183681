/- Marks of automata that are handed back. -/
import Derived.Test.YtfdhmmnffahhgaaGreatP11
set_option linter.unusedVariables false
set_option linter.unusedSimpArgs false
namespace Go.Proofs.YtfdhmmnffahhgaaGreat
open Go Go.Proofs.YtfdhmmnffahhgaaGreat.Am
end Go.Proofs.YtfdhmmnffahhgaaGreat
