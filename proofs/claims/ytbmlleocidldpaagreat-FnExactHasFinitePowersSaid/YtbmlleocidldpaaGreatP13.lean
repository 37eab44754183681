/- The number of factors: both sides tell the same; the hardest word. -/
import Derived.Test.YtbmlleocidldpaaGreatP12
set_option linter.unusedVariables false
set_option linter.unusedSimpArgs false
namespace Go.Proofs.YtbmlleocidldpaaGreat
open Go Go.Proofs.YtbmlleocidldpaaGreat.Am
section valid
variable {a : Aut} (sa : Small a) (ha : autOk a = true)
include sa ha
end valid
def askedN (a : Aut) (w : ByteArray) : Bool := autOk a && (wordOk w && decide (w.size ≤ 40))
end Go.Proofs.YtbmlleocidldpaaGreat
