/- The elements of any automaton, and what is asked of them: both sides tell the same. -/
import Derived.Test.YtgmgnijklampiaaDoorP34
set_option linter.unusedVariables false
set_option linter.unusedSimpArgs false
namespace Go.Proofs.YtgmgnijklampiaaDoor
open Go Go.Proofs.YtgmgnijklampiaaDoor.Am
def lett (c : ByteArray) (n : Nat) (l : List Stp) : List Int := (putSteps c n l l.length).map gr
theorem LOk.nil (n : Nat) : LOk n [] := ⟨fun e he => (by cases he), (by simp)⟩
/-! ### the grade from a start to a final -/
section
variable {n : Nat} (h1 : 1 ≤ n) (h4 : n ≤ 4) {S F : List Int} (l : List Stp) (hS : ∀ q ∈ S, 0 ≤ q ∧ q ≤ (n : Int) - 1) (hF : ∀ q ∈ F, 0 ≤ q ∧ q ≤ (n : Int) - 1) (lS : S.length ≤ 1048576) (lF : F.length ≤ 1048576) {A : List Int} (hA : GOk n A)
include h4 hF lF hA
end
/-! ### the first element for which something holds -/
end Go.Proofs.YtgmgnijklampiaaDoor
