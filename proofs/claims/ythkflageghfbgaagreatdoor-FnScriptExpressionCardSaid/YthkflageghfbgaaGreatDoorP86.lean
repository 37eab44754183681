import Derived.Test.YthkflageghfbgaaGreatDoorP61
import Derived.Test.YthkflageghfbgaaGreatDoorP10
import Derived.Test.YthkflageghfbgaaGreatDoorP40
import Derived.Test.YthkflageghfbgaaGreatDoorP43
set_option linter.unusedVariables false
set_option linter.unusedSimpArgs false
/- The automaton of factors: its runs are factors. -/
namespace Go.Proofs.YthkflageghfbgaaGreatDoor
open Go Go.Proofs.YthkflageghfbgaaGreatDoor.Am
/-! ### steps with the same places and letter -/
/-! ### which steps the automaton of factors has -/
/-- what the steps of the automaton of factors are -/
structure Pow (S F:List Int) (l P:List Stp):Prop where
 mem:∀y∈P,(∃s∈l,y=zs s)∨∃s∈l,∃f∈F,s.1∈S∧y=cand s f
 old:∀s∈l,zs s∈P
 new:∀s∈l,s.1∈S→∀f∈F,∃y∈P,y.1=f∧y.2.1.toList=s.2.1.toList∧y.2.2.1=s.2.2.1
/-! ### runs and factors -/
section
variable {S F : List Int} {l P : List Stp} {n : Int} (hl : ∀ s ∈ l, StepIs n s) (hP : Pow S F l P)
end
end Go.Proofs.YthkflageghfbgaaGreatDoor

/- States that are reached, by the program; the turned automaton; useful states. -/
namespace Go.Proofs.YthkflageghfbgaaGreatDoor
open Go Go.Proofs.YthkflageghfbgaaGreatDoor.Am
section
variable {n : Nat} {S F : List Int} {l : List Stp} (h1 : 1 ≤ n) (h4 : n ≤ 4) (hl : ∀ s ∈ l, StepIs (n : Int) s) (ll : l.length ≤ 1048576)
end
/-! ### what that tells -/
inductive Rch (l:List Stp) (fr:List Int):Int→Prop
 |base (q:Int):q∈fr→Rch l fr q
 |step (s:Stp):s∈l→Rch l fr s.1→Rch l fr s.2.2.1
end Go.Proofs.YthkflageghfbgaaGreatDoor

/- The law of the automaton of factors. -/
namespace Go.Proofs.YthkflageghfbgaaGreatDoor
open Go Go.Proofs.YthkflageghfbgaaGreatDoor.Am
/-! ### the turned automaton -/
/-! ### useful states -/
/-! ### two automata that are the same -/
end Go.Proofs.YthkflageghfbgaaGreatDoor
