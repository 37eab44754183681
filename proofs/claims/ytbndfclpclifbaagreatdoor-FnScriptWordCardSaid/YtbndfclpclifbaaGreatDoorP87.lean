/- States that are reached, by the program; the turned automaton; useful states. -/
import Derived.Test.YtbndfclpclifbaaGreatDoorP86
set_option linter.unusedVariables false
set_option linter.unusedSimpArgs false
namespace Go.Proofs.YtbndfclpclifbaaGreatDoor
open Go Go.Proofs.YtbndfclpclifbaaGreatDoor.Am
section
variable {n : Nat} {S F : List Int} {l : List Stp} (h1 : 1 ≤ n) (h4 : n ≤ 4) (hl : ∀ s ∈ l, StepIs (n : Int) s) (ll : l.length ≤ 1048576)
end
/-! ### what that tells -/
inductive Rch (l : List Stp) (fr : List Int) : Int → Prop
 | base (q : Int) : q ∈ fr → Rch l fr q
 | step (s : Stp) : s ∈ l → Rch l fr s.1 → Rch l fr s.2.2.1
end Go.Proofs.YtbndfclpclifbaaGreatDoor
