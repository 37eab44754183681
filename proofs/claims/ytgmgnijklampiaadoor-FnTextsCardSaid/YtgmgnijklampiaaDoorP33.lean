/- Elements that are put behind the others, by the reference and by the program: at each place the same. -/
import Derived.Test.YtgmgnijklampiaaDoorP32
set_option linter.unusedVariables false
set_option linter.unusedSimpArgs false
namespace Go.Proofs.YtgmgnijklampiaaDoor
open Go Go.Proofs.YtgmgnijklampiaaDoor.Am
abbrev Elt := (Int × List Int) × ByteArray
abbrev el0 : Elt := (((0 : Int), []), (⟨Array.empty⟩ : ByteArray))
structure LOk (n : Nat) (L : List Elt) : Prop where
 el : ∀ e ∈ L, e.1.1 = (n : Int) ∧ GOk n e.1.2 ∧ e.2.size ≤ 120
 len : L.length ≤ 120
theorem LOk.at {n i : Nat} {L : List Elt} (h : LOk n L) (hi : i < L.length) : (L.getD i el0).1.1 = (n : Int) ∧ GOk n (L.getD i el0).1.2 ∧ (L.getD i el0).2.size ≤ 120 := by
 rw [getD_get el0 hi]
 exact h.el _ (List.getElem_mem hi)
def has (L : List Elt) (A : List Int) : Bool := L.any fun e => decide (e.1.2 = A)
def sput (n : Nat) (A : List Int) (t : ByteArray) (p : List Elt × Bool) : List Elt × Bool :=
 bif has p.1 A then p else bif p.2 then (p.1, true) else bif decide ((p.1.length : Int) ≥ 120) then (p.1, true) else bif (!decide ((t.size : Int) > 120)) then (p.1 ++ [(((n : Int), A), t)], false) else (p.1, true)
def iput (n : Nat) (A : List Int) (t : ByteArray) (p : List Elt × Bool) : List Elt × Bool :=
 bif has p.1 A then p else bif decide ((p.1.length : Int) ≥ 120) then (p.1, false) else bif decide ((t.size : Int) > 120) then (p.1, false) else (p.1 ++ [(((n : Int), A), t)], p.2)
theorem LOk.snoc {n : Nat} {L : List Elt} (h : LOk n L) {A : List Int} (hA : GOk n A) {t : ByteArray} (ht : t.size ≤ 120) (hl : L.length < 120) : LOk n (L ++ [(((n : Int), A), t)]) := by
 refine ⟨fun e he => ?_, by rw [List.length_append]; simp; omega⟩
 rcases List.mem_append.1 he with he | he
 ·exact h.el e he
 ·rw [List.mem_singleton] at he
  subst he
  exact ⟨rfl, hA, ht⟩
/-- both have the same, or both have failed -/
def Same (p q : List Elt × Bool) : Prop := (p.2 = false ∧ q.2 = true ∧ q.1 = p.1) ∨ (p.2 = true ∧ q.2 = false)
theorem Same.put {n : Nat} {A : List Int} {t : ByteArray} {p q : List Elt × Bool} (h : Same p q) : Same (sput n A t p) (iput n A t q) := by
 obtain ⟨L, F⟩ := p
 obtain ⟨L', f⟩ := q
 rcases h with ⟨h1, h2, h3⟩ | ⟨h1, h2⟩
 ·have h1 : F = false := h1
  have h2 : f = true := h2
  have h3 : L' = L := h3
  subst h1 h2 h3
  unfold sput iput
  cases has L' A
  ·by_cases h1 : (L'.length : Int) ≥ 120
   ·rw [decide_eq_true h1]; exact .inr ⟨rfl, rfl⟩
   ·rw [decide_eq_false h1]
    by_cases h2 : (t.size : Int) > 120
    ·rw [decide_eq_true h2]; exact .inr ⟨rfl, rfl⟩
    ·rw [decide_eq_false h2]; exact .inl ⟨rfl, rfl, rfl⟩
  ·exact .inl ⟨rfl, rfl, rfl⟩
 ·have h1 : F = true := h1
  have h2 : f = false := h2
  subst h1 h2
  refine .inr ⟨?_, ?_⟩
  ·unfold sput
   cases has L A <;> rfl
  ·unfold iput
   cases has L' A
   ·cases decide ((L'.length : Int) ≥ 120)
    ·cases decide ((t.size : Int) > 120) <;> rfl
    ·rfl
   ·rfl
end Go.Proofs.YtgmgnijklampiaaDoor
