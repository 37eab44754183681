/- The laws' own helpers: sizes, copies, comparisons. -/
import Derived.Test.YtbmlleocidldpaaP2
set_option linter.unusedVariables false
set_option linter.unusedSimpArgs false
namespace Go.Proofs.Ytbmlleocidldpaa
open Go Go.Proofs.Ytbmlleocidldpaa.Am
theorem loop_tot {σ ρ α : Type} {f : σ → Option (σ ⊕ ρ)} (n : Nat) (st : Nat → α → σ) (I : Nat → α → Prop) (R : ρ → Prop)
    (hs : ∀ i a, i < n → I i a → (∃ a', f (st i a) = some (.inl (st (i + 1) a')) ∧ I (i + 1) a') ∨ ∃ r, f (st i a) = some (.inr r) ∧ R r) (he : ∀ a, I n a → ∃ r, f (st n a) = some (.inr r) ∧ R r) :
    ∀ a, I 0 a → ∃ r, loopF f (st 0 a) = some r ∧ R r := by
  have key : ∀ k i a, i + k = n → I i a → ∃ r, loopF f (st i a) = some r ∧ R r := by
    intro k
    induction k with
    | zero =>
      intro i a hi ha
      obtain rfl : i = n := by omega
      obtain ⟨r, h1, h2⟩ := he a ha
      exact ⟨r, by rw [loopF_eq, h1]; rfl, h2⟩
    | succ k ih =>
      intro i a hi ha
      rcases hs i a (by omega) ha with ⟨a', h1, h2⟩ | ⟨r, h1, h2⟩
      · rw [loopF_eq, h1]
        exact ih (i + 1) _ (by omega) h2
      · exact ⟨r, by rw [loopF_eq, h1]; rfl, h2⟩
  intro a ha
  exact key n 0 a (by omega) ha
abbrev kStp : Kd := .pair (.int .i64) (.pair .str (.pair (.int .i64) (.int .i64)))
abbrev kAut : Kd := .pair (.int .i64) (.pair (.sl (.int .i64)) (.pair (.sl (.int .i64)) (.sl kStp)))
theorem maxLen_is : maxLen = 9223372036854775807 := rfl
theorem fits_aut {a : Aut} (h : Fits kAut a) : a.2.1.length ≤ maxLen ∧ a.2.2.1.length ≤ maxLen ∧ a.2.2.2.length ≤ maxLen ∧ ∀ s ∈ a.2.2.2, s.2.1.size ≤ maxLen := by
  obtain ⟨h1, h2, h3, h4⟩ := h
  exact ⟨h2.1, h3.1, h4.1, fun s hs => (h4.2 s hs).2.1⟩
/-- what the bound tells -/
def Small (a : Aut) : Prop := a.2.1.length ≤ 1048576 ∧ a.2.2.1.length ≤ 1048576 ∧ a.2.2.2.length ≤ 1048576
theorem copy_list {α : Type} (z : α) : ∀ (xs : List α) (i : Nat), i < xs.length → (xs.take i ++ List.replicate (xs.length - i) z).set i (xs.getD i z) = xs.take (i + 1) ++ List.replicate (xs.length - (i + 1)) z := by
  intro xs i hi
  apply List.ext_getElem
  · simp; omega
  · intro j h1 h2
    rw [List.getElem_set]
    by_cases h : i = j
    · subst h
      rw [if_pos rfl, List.getElem_append_left (by simp; omega), List.getElem_take, List.getD_eq_getElem?_getD, List.getElem?_eq_getElem hi]
      rfl
    · rw [if_neg h]
      by_cases hj : j < i
      · rw [List.getElem_append_left (by simp; omega), List.getElem_append_left (by simp; omega), List.getElem_take, List.getElem_take]
      · rw [List.getElem_append_right (by simp; omega), List.getElem_append_right (by simp; omega), List.getElem_replicate, List.getElem_replicate]
end Go.Proofs.Ytbmlleocidldpaa
