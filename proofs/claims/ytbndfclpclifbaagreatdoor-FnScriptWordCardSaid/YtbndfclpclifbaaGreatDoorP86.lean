/- The automaton of factors: its runs are factors. -/
import Derived.Test.YtbndfclpclifbaaGreatDoorP61
import Derived.Test.YtbndfclpclifbaaGreatDoorP10
set_option linter.unusedVariables false
set_option linter.unusedSimpArgs false
namespace Go.Proofs.YtbndfclpclifbaaGreatDoor
open Go Go.Proofs.YtbndfclpclifbaaGreatDoor.Am
/-! ### steps with the same places and letter -/
theorem less_ab : Op.bytesLess la.toList lb.toList = true := by decide +kernel
theorem stepC_zero {s t : Stp} (ls : s.2.1.toList = la.toList ∨ s.2.1.toList = lb.toList) (lt : t.2.1.toList = la.toList ∨ t.2.1.toList = lb.toList) (h : stepC s t = 0) : s.1 = t.1 ∧ s.2.2.1 = t.2.2.1 ∧ s.2.1.toList = t.2.1.toList := by
 have g := good_step.anti s t
 have h1 : ltS s t = false := decide_eq_false (by omega)
 have h2 : ltS t s = false := decide_eq_false (by omega)
 rw [← befB_lt] at h1 h2
 unfold befB at h1 h2
 by_cases e : s.1 = t.1
 ·have e1 : (s.1 != t.1) = false := bne_eq_false_iff_eq.2 e
  have e2 : (t.1 != s.1) = false := bne_eq_false_iff_eq.2 e.symm
  rw [e1, cond_false] at h1
  rw [e2, cond_false] at h2
  by_cases f : s.2.1.toList = t.2.1.toList
  ·have f1 : (s.2.1.toList == t.2.1.toList) = true := by rw [f]; simp
   have f2 : (t.2.1.toList == s.2.1.toList) = true := by rw [f]; simp
   rw [f1, Bool.not_true, cond_false] at h1
   rw [f2, Bool.not_true, cond_false] at h2
   have h1 := of_decide_eq_false h1
   have h2 := of_decide_eq_false h2
   exact ⟨e, by omega, f⟩
  ·have f1 : (s.2.1.toList == t.2.1.toList) = false := by simpa using f
   have f2 : (t.2.1.toList == s.2.1.toList) = false := by simpa using fun h => f h.symm
   rw [f1, Bool.not_false, cond_true] at h1
   rw [f2, Bool.not_false, cond_true] at h2
   rcases ls with ls | ls <;> rcases lt with lt | lt <;> rw [ls, lt] at f h1 h2
   ·exact absurd rfl f
   ·rw [less_ab] at h1; cases h1
   ·rw [less_ab] at h2; cases h2
   ·exact absurd rfl f
 ·have e1 : (s.1 != t.1) = true := bne_iff_ne.2 e
  have e2 : (t.1 != s.1) = true := bne_iff_ne.2 fun h => e h.symm
  rw [e1, cond_true] at h1
  rw [e2, cond_true] at h2
  have h1 := of_decide_eq_false h1
  have h2 := of_decide_eq_false h2
  exact absurd (by omega) e
/-! ### which steps the automaton of factors has -/
/-- what the steps of the automaton of factors are -/
structure Pow (S F : List Int) (l P : List Stp) : Prop where
 mem : ∀ y ∈ P, (∃ s ∈ l, y = zs s) ∨ ∃ s ∈ l, ∃ f ∈ F, s.1 ∈ S ∧ y = cand s f
 old : ∀ s ∈ l, zs s ∈ P
 new : ∀ s ∈ l, s.1 ∈ S → ∀ f ∈ F, ∃ y ∈ P, y.1 = f ∧ y.2.1.toList = s.2.1.toList ∧ y.2.2.1 = s.2.2.1
/-! ### runs and factors -/
section
variable {S F : List Int} {l P : List Stp} {n : Int} (hl : ∀ s ∈ l, StepIs n s) (hP : Pow S F l P)
end
end Go.Proofs.YtbndfclpclifbaaGreatDoor
