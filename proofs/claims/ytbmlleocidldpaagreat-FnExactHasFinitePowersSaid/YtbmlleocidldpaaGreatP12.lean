/- Factors of words: how many a word is made of. -/
import Derived.Test.YtbmlleocidldpaaGreatP11
set_option linter.unusedVariables false
set_option linter.unusedSimpArgs false
namespace Go.Proofs.YtbmlleocidldpaaGreat
open Go Go.Proofs.YtbmlleocidldpaaGreat.Am
theorem bytes_extract (w : ByteArray) (i j : Nat) : bytes (w.extract i j) = ((bytes w).drop i).take (j - i) := by
  show (w.extract i j).data.toList = _
  rw [ByteArray.data_extract, Array.toList_extract, List.extract_eq_take_drop]
theorem bytes_inj {w : ByteArray} : (⟨(bytes w).toArray⟩ : ByteArray) = w := by
  cases w; simp
theorem wordOk_AB {w : ByteArray} (h : wordOk w = true) : AB w := by
  intro b hb
  obtain ⟨i, hi, rfl⟩ := List.getElem_of_mem hb
  have hi' : i < w.size := by rw [← bytes_len]; exact hi
  have := letter_is h hi'
  rw [Array.getD_eq_getD_getElem?, Array.getElem?_eq_getElem (by exact hi')] at this
  exact this
theorem wordOk_extract {w : ByteArray} (h : wordOk w = true) (i j : Nat) : wordOk (w.extract i j) = true := by
  refine AB.ok (fun b hb => wordOk_AB h b ?_) ?_
  · have e : (w.extract i j).data.toList = ((bytes w).drop i).take (j - i) := bytes_extract w i j
    rw [e] at hb
    exact List.mem_of_mem_drop (List.mem_of_mem_take hb)
  · have := wordOk_size h
    rw [← bytes_len, bytes_extract, List.length_take, List.length_drop, bytes_len]
    omega
section valid
variable {a : Aut} (sa : Small a) (ha : autOk a = true)
include sa ha
end valid
end Go.Proofs.YtbmlleocidldpaaGreat
