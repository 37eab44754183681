/- The number of factors: both sides tell the same; the hardest word. -/
import Derived.Test.YtooigaliccnldaaP12
set_option linter.unusedVariables false
set_option linter.unusedSimpArgs false
namespace Go.Proofs.Ytooigaliccnldaa
open Go Go.Proofs.Ytooigaliccnldaa.Am
section valid
variable {a : Aut} (sa : Small a) (ha : autOk a = true)
include sa ha
end valid
def askedN (a : Aut) (w : ByteArray) : Bool := autOk a && (wordOk w && decide (w.size ≤ 40))
end Go.Proofs.Ytooigaliccnldaa
