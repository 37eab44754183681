/- The law of hardest words. -/
import Derived.Test.YtooigaliccnldaaP44
set_option linter.unusedVariables false
set_option linter.unusedSimpArgs false
namespace Go.Proofs.Ytooigaliccnldaa
open Go Go.Proofs.Ytooigaliccnldaa.Am
theorem words_head {n : Int} (hn : shortN n = true) : ∃ W, words n = emp :: W := by
  unfold words
  rw [if_pos hn]
  exact gen_head _
theorem toList_neq {u w : ByteArray} (h : u ≠ w) : (ByteArray.toList u == ByteArray.toList w) = false := by
  rw [toList_bytes, toList_bytes, beq_eq_false_iff_ne]
  exact fun e => h (bytes_eq e)
section
variable {a : Aut} (sa : Small a) (ha : autOk a = true) {n : Int} (hn : shortN n = true)
include sa ha hn
end
end Go.Proofs.Ytooigaliccnldaa
