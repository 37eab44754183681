/- Splits by the program; the laws of free words, greatest costs and splits. -/
import Derived.Test.YtooigaliccnldaaP19
set_option linter.unusedVariables false
set_option linter.unusedSimpArgs false
namespace Go.Proofs.Ytooigaliccnldaa
open Go Go.Proofs.Ytooigaliccnldaa.Am
theorem bytes_eq {u w : ByteArray} (h : bytes u = bytes w) : u = w := by
  rw [← bytes_inj (w := u), ← bytes_inj (w := w), h]
section valid
variable {a : Aut} (sa : Small a) (ha : autOk a = true)
include sa ha
end valid
end Go.Proofs.Ytooigaliccnldaa
