/- Comparisons of two automata over the short words: both sides tell the same. -/
import Derived.Test.YtbmlleocidldpaaGreatP9
set_option linter.unusedVariables false
set_option linter.unusedSimpArgs false
namespace Go.Proofs.YtbmlleocidldpaaGreat
open Go Go.Proofs.YtbmlleocidldpaaGreat.Am
theorem small_len {a : Aut} (hs : Small a) : a.2.1.length ≤ 9223372036854775807 ∧ a.2.2.1.length ≤ 9223372036854775807 := ⟨by have := hs.1; omega, by have := hs.2.1; omega⟩
def shortN (n : Int) : Bool := decide (0 ≤ n ∧ n ≤ 7)
/-- the words and whether they are asked rightly -/
noncomputable def words (n : Int) : List ByteArray := if shortN n = true then (gen n.toNat).1 else []
theorem words_ok {n : Int} : ∀ w ∈ words n, wordOk w = true := by
  intro w hw
  unfold words at hw
  split at hw
  · rename_i h
    unfold shortN at h
    rw [decide_eq_true_eq] at h
    obtain ⟨h1, h2⟩ := (gen_facts n.toNat).2.2.2 w hw
    exact AB.ok h1 (by omega)
  · cases hw
theorem words_len (n : Int) : (words n).length ≤ 255 := by
  unfold words
  split
  · rename_i h
    unfold shortN at h
    rw [decide_eq_true_eq] at h
    exact gen_small (by omega)
  · exact Nat.zero_le _
theorem word_mem {W : List ByteArray} {i : Nat} (hi : i < W.length) : W.getD i be0 ∈ W := by
  rw [List.getD_eq_getElem?_getD, List.getElem?_eq_getElem hi]; exact List.getElem_mem hi
/-- a loop that looks for an index -/
theorem loop_find {σ ρ : Type} {f : σ → Option (σ ⊕ ρ)} (st : Nat → σ) (n : Nat) (p : Nat → Bool) (out : Nat → ρ) (last : ρ) (hs : ∀ i, i < n → f (st i) = some (if p i = true then .inr (out i) else .inl (st (i + 1)))) (he : f (st n) = some (.inr last)) :
    loopF f (st 0) = some (match (List.range n).find? p with | some i => out i | none => last) := by
  have key : ∀ k i, i + k = n → loopF f (st i) = some (match (List.range' i k).find? p with | some i => out i | none => last) := by
    intro k
    induction k with
    | zero =>
      intro i hi
      rw [loopF_eq]
      obtain rfl : i = n := by omega
      rw [he]
      rfl
    | succ k ih =>
      intro i hi
      rw [loopF_eq, hs i (by omega)]
      rw [List.range'_succ, List.find?_cons]
      cases hp : p i with
      | true => simp
      | false =>
        simp only [Bool.false_eq_true, if_false, Option.bind_some]
        exact ih (i + 1) (by omega)
  rw [List.range_eq_range']
  exact key n 0 (by omega)
theorem find_same {n : Nat} {p q : Nat → Bool} (h : ∀ i, i < n → p i = q i) : (List.range n).find? p = (List.range n).find? q := by
  have : ∀ l : List Nat, (∀ i ∈ l, p i = q i) → l.find? p = l.find? q := by
    intro l
    induction l with
    | nil => intro _; rfl
    | cons x l ih =>
      intro h
      rw [List.find?_cons, List.find?_cons, h x List.mem_cons_self, ih (fun i hi => h i (List.mem_cons_of_mem _ hi))]
  exact this _ fun i hi => h i (List.mem_range.1 hi)
theorem find_no (n : Nat) : (List.range n).find? (fun _ => false) = none := by
  rw [List.find?_eq_none]; intro x _ h; cases h
section two
variable {a b : Aut} (sa : Small a) (sb : Small b) (n : Int)
noncomputable abbrev wd (n : Int) (i : Nat) : ByteArray := (words n).getD i be0
include sa sb
theorem two_small : ∀ x ∈ [a, b], Small x := by
  intro x hx
  simp only [List.mem_cons, List.not_mem_nil, or_false] at hx
  rcases hx with rfl | rfl
  · exact sa
  · exact sb
end two
end Go.Proofs.YtbmlleocidldpaaGreat
