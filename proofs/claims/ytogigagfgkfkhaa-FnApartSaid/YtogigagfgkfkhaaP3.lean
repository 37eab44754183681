/- The laws' own helpers: sizes, copies, comparisons. -/
import Derived.Test.YtogigagfgkfkhaaP2
set_option linter.unusedVariables false
set_option linter.unusedSimpArgs false
namespace Go.Proofs.Ytogigagfgkfkhaa
open Go Go.Proofs.Ytogigagfgkfkhaa.Am
theorem loop_tot {σ ρ α : Type} {f : σ → Option (σ ⊕ ρ)} (n : Nat) (st : Nat → α → σ) (I : Nat → α → Prop) (R : ρ → Prop)
  (hs : ∀ i a, i < n → I i a → (∃ a', f (st i a) = some (.inl (st (i + 1) a')) ∧ I (i + 1) a') ∨ ∃ r, f (st i a) = some (.inr r) ∧ R r) (he : ∀ a, I n a → ∃ r, f (st n a) = some (.inr r) ∧ R r) :
  ∀ a, I 0 a → ∃ r, loopF f (st 0 a) = some r ∧ R r := by
 have key : ∀ k i a, i + k = n → I i a → ∃ r, loopF f (st i a) = some r ∧ R r := by
  intro k
  induction k with
  | zero =>
   intro i a hi ha
   obtain rfl : i = n := by omega
   obtain ⟨r, h1, h2⟩ := he a ha
   exact ⟨r, by rw [loopF_eq, h1]; rfl, h2⟩
  | succ k ih =>
   intro i a hi ha
   rcases hs i a (by omega) ha with ⟨a', h1, h2⟩ | ⟨r, h1, h2⟩
   ·rw [loopF_eq, h1]
    exact ih (i + 1) _ (by omega) h2
   ·exact ⟨r, by rw [loopF_eq, h1]; rfl, h2⟩
 intro a ha
 exact key n 0 a (by omega) ha
/-- what the bound tells -/
def Small (a : Aut) : Prop := a.2.1.length ≤ 1048576 ∧ a.2.2.1.length ≤ 1048576 ∧ a.2.2.2.length ≤ 1048576
end Go.Proofs.Ytogigagfgkfkhaa
