/- A repeated number; words. -/
import Derived.Test.YtbmlleocidldpaaGreatP3
set_option linter.unusedVariables false
set_option linter.unusedSimpArgs false
namespace Go.Proofs.YtbmlleocidldpaaGreat
open Go Go.Proofs.YtbmlleocidldpaaGreat.Am
end Go.Proofs.YtbmlleocidldpaaGreat
