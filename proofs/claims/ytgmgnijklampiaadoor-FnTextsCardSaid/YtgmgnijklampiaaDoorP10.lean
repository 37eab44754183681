/- Comparisons of two automata over the short words: both sides tell the same. -/
import Derived.Test.YtgmgnijklampiaaDoorP7
set_option linter.unusedVariables false
set_option linter.unusedSimpArgs false
namespace Go.Proofs.YtgmgnijklampiaaDoor
open Go Go.Proofs.YtgmgnijklampiaaDoor.Am
/-- a loop that looks for an index -/
theorem loop_find {σ ρ : Type} {f : σ → Option (σ ⊕ ρ)} (st : Nat → σ) (n : Nat) (p : Nat → Bool) (out : Nat → ρ) (last : ρ) (hs : ∀ i, i < n → f (st i) = some (if p i = true then .inr (out i) else .inl (st (i + 1)))) (he : f (st n) = some (.inr last)) :
  loopF f (st 0) = some (match (List.range n).find? p with | some i => out i | none => last) := by
 have key : ∀ k i, i + k = n → loopF f (st i) = some (match (List.range' i k).find? p with | some i => out i | none => last) := by
  intro k
  induction k with
  | zero =>
   intro i hi
   rw [loopF_eq]
   obtain rfl : i = n := by omega
   rw [he]
   rfl
  | succ k ih =>
   intro i hi
   rw [loopF_eq, hs i (by omega)]
   rw [List.range'_succ, List.find?_cons]
   cases hp : p i with
   | true => simp
   | false =>
    simp only [Bool.false_eq_true, if_false, Option.bind_some]
    exact ih (i + 1) (by omega)
 rw [List.range_eq_range']
 exact key n 0 (by omega)
end Go.Proofs.YtgmgnijklampiaaDoor
