/- The automaton of factors, on: both sides make the same; its law. -/
import Derived.Test.YtogigagfgkfkhaaP63
set_option linter.unusedVariables false
set_option linter.unusedSimpArgs false
namespace Go.Proofs.Ytogigagfgkfkhaa
open Go Go.Proofs.Ytogigagfgkfkhaa.Am
/-! ### costs put to nothing -/
theorem stepOk_zs {n : Int} {s : Stp} (h : stepOk n s = true) : stepOk n (zs s) = true := by
 unfold stepOk at h ⊢
 simp only [Bool.and_eq_true] at h ⊢
 exact ⟨h.1, h.2.1, rfl, h.2.2.2⟩
theorem getD_map0 {l : List Stp} {i : Nat} (hi : i < l.length) : (l.map zs).getD i stp0 = zs (l.getD i stp0) := by
 rw [getD_g stp0 (show i < (l.map zs).length by simpa using hi), getD_g stp0 hi]
 simp
theorem stepsOk_zs {n : Int} {l : List Stp} (h : stepsOk n l = true) : stepsOk n (l.map zs) = true := by
 unfold stepsOk at h ⊢
 rw [List.all_eq_true] at h ⊢
 intro i hi
 rw [List.length_map] at hi
 have hi' := List.mem_range.1 hi
 have h1 := h i hi
 unfold stepsP at h1 ⊢
 rw [Bool.and_eq_true] at h1 ⊢
 rw [getD_map0 hi', getD_map0 (show i - 1 < l.length by omega)]
 refine ⟨stepOk_zs h1.1, ?_⟩
 have h2 := h1.2
 rw [befB_lt] at h2 ⊢
 exact h2
theorem autOk_parts {x : Int} {S F : List Int} {l : List Stp} (h : autOk (x, S, F, l) = true) : marksOk x S = true ∧ marksOk x F = true ∧ l.length ≤ 24 ∧ stepsOk x l = true ∧ autOk (x, S, F, l.map zs) = true := by
 unfold autOk at h ⊢
 simp only [Bool.and_eq_true, decide_eq_true_eq] at h ⊢
 obtain ⟨h1, h2, h3, h4, h5⟩ := h
 exact ⟨h2, h3, h4, h5, h1, h2, h3, by simpa using h4, stepsOk_zs h5⟩
theorem ownAut_is {a : Aut} (h : Small a) : spec_l13OwnAutomaton a = some a := by
 obtain ⟨x, S, F, l⟩ := a
 obtain ⟨h1, h2, h3⟩ := h
 simp only at h1 h2 h3
 unfold spec_l13OwnAutomaton
 dsimp only
 rw [if_pos ⟨rfl, by omega⟩, if_pos ⟨rfl, by omega⟩, if_pos ⟨rfl, by omega⟩]
 simp
theorem scale_no {a : Aut} (hs : Small a) (hv : autOk a = false) (n : Int) : spec_ScaleAutomaton a n = some (((0 : Int), [], [], []), false) := by
 have hown := ownAut_is hs
 have hV := spec_AutomatonValid_is a (small_len hs).1 (small_len hs).2
 obtain ⟨x, S, F, l⟩ := a
 unfold spec_ScaleAutomaton
 dsimp only
 rw [hown]
 simp only [Option.bind_some, List.drop_zero, List.take_length, hV, hv, Bool.not_false, cond_true]
end Go.Proofs.Ytogigagfgkfkhaa
