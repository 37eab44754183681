/- Lists that are searched and compared; matrices of grades, the program's way. -/
import Derived.Test.YtgmgnijklampiaaDoorP30
set_option linter.unusedVariables false
set_option linter.unusedSimpArgs false
namespace Go.Proofs.YtgmgnijklampiaaDoor
open Go Go.Proofs.YtgmgnijklampiaaDoor.Am
theorem getD_get {α : Type} {l : List α} {i : Nat} (d : α) (hi : i < l.length) : l.getD i d = l[i] := by
 rw [List.getD_eq_getElem?_getD, List.getElem?_eq_getElem hi]; rfl
theorem any_idx {α : Type} (xs : List α) (d : α) (p : α → Bool) : ((List.range xs.length).find? fun i => p (xs.getD i d)).isSome = xs.any p := by
 rw [Bool.eq_iff_iff, List.find?_isSome, List.any_eq_true]
 constructor
 ·rintro ⟨i, hi, hp⟩
  have hi := List.mem_range.1 hi
  exact ⟨xs[i], List.getElem_mem hi, by rw [← getD_get d hi]; exact hp⟩
 ·rintro ⟨x, hx, hp⟩
  obtain ⟨i, hi, rfl⟩ := List.getElem_of_mem hx
  exact ⟨i, List.mem_range.2 hi, by rw [getD_get d hi]; exact hp⟩
theorem contains_is {xs : List Int} (hl : xs.length ≤ 1000000) {φ : (Int × Unit) → Option Bool} {p : Int → Bool} (hφ : ∀ x ∈ xs, φ (x, ()) = some (p x)) : slices_ContainsFunc xs φ = some (xs.any p) := by
 have g := loop_find (f := slices_IndexFunc_l2) (fun i => (xs, φ, (xs.length : Int), (i : Int), ())) xs.length (fun i => p (xs.getD i 0)) (fun i => Sum.inl ((i : Int), ())) (Sum.inr ())
  (fun i hi => by
   have hm : xs.getD i 0 ∈ xs := by rw [getD_get 0 hi]; exact List.getElem_mem hi
   simp only [slices_IndexFunc_l2, lt_t hi, cond_true, Int.toNat_natCast]
   rw [if_pos (in_t hi), hφ _ hm]
   simp only [Option.bind_some, w64_succ hi (show xs.length ≤ 9223372036854775807 by omega)]
   cases p (xs.getD i 0) <;> rfl)
  (by simp only [slices_IndexFunc_l2, lt_f, cond_false])
 have g : loopF slices_IndexFunc_l2 (xs, φ, (xs.length : Int), (0 : Int), ()) = _ := g
 simp only [slices_ContainsFunc, slices_IndexFunc]
 rw [g, ← any_idx xs 0 p]
 cases (List.range xs.length).find? fun i => p (xs.getD i 0) with
 | none => rfl
 | some i => simp only [Option.bind_some, Option.isSome_some]; rw [decide_eq_true (by omega)]
end Go.Proofs.YtgmgnijklampiaaDoor
