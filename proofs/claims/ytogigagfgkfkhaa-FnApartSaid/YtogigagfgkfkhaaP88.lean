/- The law of the automaton of factors. -/
import Derived.Test.YtogigagfgkfkhaaP87
import Derived.Test.YtogigagfgkfkhaaP42
import Derived.Test.YtogigagfgkfkhaaP43
set_option linter.unusedVariables false
set_option linter.unusedSimpArgs false
namespace Go.Proofs.Ytogigagfgkfkhaa
open Go Go.Proofs.Ytogigagfgkfkhaa.Am
/-! ### the turned automaton -/
theorem sorted_of : ∀ {L : List Stp}, L.Pairwise (fun s t => stepC t s ≠ 0) → ∃ m, Srt m ∧ L.Perm m
 | [], _ => ⟨[], List.Pairwise.nil, List.Perm.refl _⟩
 | x :: L, h => by
  obtain ⟨h1, h2⟩ := List.pairwise_cons.1 h
  obtain ⟨m, hm, hp⟩ := sorted_of h2
  exact ⟨ins x m, ins_srt hm, (hp.cons x).trans (ins_new fun s hs => h1 s (hp.mem_iff.2 hs)).symm⟩
theorem zero_same {s t : Stp} (h1 : s.1 = t.1) (h2 : s.2.2.1 = t.2.2.1) (h3 : s.2.1.toList = t.2.1.toList) : ltS s t = false := by
 rw [← befB_lt]
 unfold befB
 have e1 : (s.1 != t.1) = false := bne_eq_false_iff_eq.2 h1
 have e2 : (s.2.1.toList == t.2.1.toList) = true := by rw [h3]; simp
 rw [e1, cond_false, e2, Bool.not_true, cond_false]
 exact decide_eq_false (by omega)
/-! ### useful states -/
/-! ### two automata that are the same -/
end Go.Proofs.Ytogigagfgkfkhaa
