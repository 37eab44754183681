/- Marks of automata that are handed back. -/
import Derived.Test.YtbmlleocidldpaaGreatP11
set_option linter.unusedVariables false
set_option linter.unusedSimpArgs false
namespace Go.Proofs.YtbmlleocidldpaaGreat
open Go Go.Proofs.YtbmlleocidldpaaGreat.Am
end Go.Proofs.YtbmlleocidldpaaGreat
