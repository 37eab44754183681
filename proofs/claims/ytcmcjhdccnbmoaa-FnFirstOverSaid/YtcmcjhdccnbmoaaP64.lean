/- The automaton of factors, on: both sides make the same; its law. -/
import Derived.Test.YtcmcjhdccnbmoaaP63
set_option linter.unusedVariables false
set_option linter.unusedSimpArgs false
namespace Go.Proofs.Ytcmcjhdccnbmoaa
open Go Go.Proofs.Ytcmcjhdccnbmoaa.Am
/-! ### costs put to nothing -/
theorem ownAut_is {a : Aut} (h : Small a) : spec_l13OwnAutomaton a = some a := by
 obtain ⟨x, S, F, l⟩ := a
 obtain ⟨h1, h2, h3⟩ := h
 simp only at h1 h2 h3
 unfold spec_l13OwnAutomaton
 dsimp only
 rw [if_pos ⟨rfl, by omega⟩, if_pos ⟨rfl, by omega⟩, if_pos ⟨rfl, by omega⟩]
 simp
theorem scale_no {a : Aut} (hs : Small a) (hv : autOk a = false) (n : Int) : spec_ScaleAutomaton a n = some (((0 : Int), [], [], []), false) := by
 have hown := ownAut_is hs
 have hV := spec_AutomatonValid_is a (small_len hs).1 (small_len hs).2
 obtain ⟨x, S, F, l⟩ := a
 unfold spec_ScaleAutomaton
 dsimp only
 rw [hown]
 simp only [Option.bind_some, List.drop_zero, List.take_length, hV, hv, Bool.not_false, cond_true]
end Go.Proofs.Ytcmcjhdccnbmoaa
