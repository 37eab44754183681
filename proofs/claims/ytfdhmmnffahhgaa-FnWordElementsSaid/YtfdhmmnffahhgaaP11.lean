import Derived.Test.YtfdhmmnffahhgaaP7
set_option linter.unusedVariables false
set_option linter.unusedSimpArgs false
/- The first word that costs more, and the same costs. -/
namespace Go.Proofs.Ytfdhmmnffahhgaa
open Go Go.Proofs.Ytfdhmmnffahhgaa.Am
end Go.Proofs.Ytfdhmmnffahhgaa

/- Factors of words: how many a word is made of. -/
namespace Go.Proofs.Ytfdhmmnffahhgaa
open Go Go.Proofs.Ytfdhmmnffahhgaa.Am
theorem wordOk_AB {w : ByteArray} (h : wordOk w = true) : AB w := by
 intro b hb
 obtain ⟨i, hi, rfl⟩ := List.getElem_of_mem hb
 have hi' : i < w.size := by rw [← bytes_len]; exact hi
 have := letter_is h hi'
 rw [Array.getD_eq_getD_getElem?, Array.getElem?_eq_getElem (by exact hi')] at this
 exact this
end Go.Proofs.Ytfdhmmnffahhgaa

/- The number of factors: both sides tell the same; the hardest word. -/
namespace Go.Proofs.Ytfdhmmnffahhgaa
open Go Go.Proofs.Ytfdhmmnffahhgaa.Am
end Go.Proofs.Ytfdhmmnffahhgaa

/- Splits of words, the spec's way; the number of factors and the hardest word: both sides tell the same. -/
namespace Go.Proofs.Ytfdhmmnffahhgaa
open Go Go.Proofs.Ytfdhmmnffahhgaa.Am
end Go.Proofs.Ytfdhmmnffahhgaa

/- The hardest word and the most factors; the laws' frames. -/
namespace Go.Proofs.Ytfdhmmnffahhgaa
open Go Go.Proofs.Ytfdhmmnffahhgaa.Am
end Go.Proofs.Ytfdhmmnffahhgaa

/- Marks: what is written into lists and read back. -/
namespace Go.Proofs.Ytfdhmmnffahhgaa
open Go Go.Proofs.Ytfdhmmnffahhgaa.Am
end Go.Proofs.Ytfdhmmnffahhgaa
