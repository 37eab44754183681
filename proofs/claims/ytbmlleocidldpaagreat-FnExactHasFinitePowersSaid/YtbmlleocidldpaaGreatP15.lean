/- The hardest word and the most factors; the laws' frames. -/
import Derived.Test.YtbmlleocidldpaaGreatP14
set_option linter.unusedVariables false
set_option linter.unusedSimpArgs false
namespace Go.Proofs.YtbmlleocidldpaaGreat
open Go Go.Proofs.YtbmlleocidldpaaGreat.Am
theorem words_size {n : Int} : ∀ w ∈ words n, w.size ≤ 7 := by
  intro w hw
  unfold words at hw
  split at hw
  · rename_i h
    unfold shortN at h
    rw [decide_eq_true_eq] at h
    have := ((gen_facts n.toNat).2.2.2 w hw).2
    omega
  · cases hw
theorem gen_head : ∀ j, ∃ W, (gen j).1 = emp :: W
  | 0 => ⟨[], rfl⟩
  | j + 1 => by
    obtain ⟨W, h⟩ := gen_head j
    exact ⟨_, by simp only [gen, h]; rfl⟩
theorem asked_word {a : Aut} (n : Int) (ha : autOk a = true) {w : ByteArray} (hw : w ∈ words n) : askedN a w = true := by
  unfold askedN
  have := words_size w hw
  rw [ha, words_ok w hw, decide_eq_true (by omega)]
  rfl
section one
variable {a : Aut} (sa : Small a) (n : Int)
include sa
end one
end Go.Proofs.YtbmlleocidldpaaGreat
