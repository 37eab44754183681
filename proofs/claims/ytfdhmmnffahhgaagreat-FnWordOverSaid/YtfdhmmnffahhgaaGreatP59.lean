/- Draws of texts that are mostly expressions; draws of matrices of grades. -/
import Derived.Test.YtfdhmmnffahhgaaGreatP54
import Derived.Test.YtfdhmmnffahhgaaGreatP58
set_option linter.unusedVariables false
set_option linter.unusedSimpArgs false
namespace Go.Proofs.YtfdhmmnffahhgaaGreat
open Go Go.Proofs.YtfdhmmnffahhgaaGreat.Am
end Go.Proofs.YtfdhmmnffahhgaaGreat
