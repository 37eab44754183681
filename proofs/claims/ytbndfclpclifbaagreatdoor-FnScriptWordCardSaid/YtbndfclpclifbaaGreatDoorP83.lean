/- The elements of words: the reference and the program find the same; what is told of them. -/
import Derived.Test.YtbndfclpclifbaaGreatDoorP56
import Derived.Test.YtbndfclpclifbaaGreatDoorP71
set_option linter.unusedVariables false
set_option linter.unusedSimpArgs false
namespace Go.Proofs.YtbndfclpclifbaaGreatDoor
open Go Go.Proofs.YtbndfclpclifbaaGreatDoor.Am
/-- all that holds of letters and goes on with a letter -/
structure WClo (n : Nat) (st : List Stp) (X : List Int → ByteArray → Prop) : Prop where
 a : ∀ A s, X A s → X (gmul n A (lett la n st)) (s ++ la)
 b : ∀ A s, X A s → X (gmul n A (lett lb n st)) (s ++ lb)
def WCl (n : Nat) (st : List Stp) (M : List Elt) (k : Nat) : Prop := has M (gmul n (M.getD k el0).1.2 (lett la n st)) = true ∧ has M (gmul n (M.getD k el0).1.2 (lett lb n st)) = true
theorem WCl.pre {n k : Nat} {st : List Stp} {M K : List Elt} (h : WCl n st M k) (hk : k < M.length) (hp : Pre M K) : WCl n st K k := by
 unfold WCl
 rw [hp.get hk]
 exact ⟨hp.has h.1, hp.has h.2⟩
end Go.Proofs.YtbndfclpclifbaaGreatDoor
