/- Bounded costs and elements that grow between two states: both sides tell the same; the laws. -/
import Derived.Test.YtbmlleocidldpaaP35
set_option linter.unusedVariables false
set_option linter.unusedSimpArgs false
namespace Go.Proofs.Ytbmlleocidldpaa
open Go Go.Proofs.Ytbmlleocidldpaa.Am
def growP (n : Nat) (S F : List Int) (e : Elt) : Bool := btw n e.1.2 S F == 2
end Go.Proofs.Ytbmlleocidldpaa
