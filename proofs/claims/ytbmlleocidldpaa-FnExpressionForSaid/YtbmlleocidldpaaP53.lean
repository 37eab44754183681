/- What grows between two states grows there. -/
import Derived.Test.YtbmlleocidldpaaP36
import Derived.Test.YtbmlleocidldpaaP52
set_option linter.unusedVariables false
set_option linter.unusedSimpArgs false
namespace Go.Proofs.Ytbmlleocidldpaa
open Go Go.Proofs.Ytbmlleocidldpaa.Am
theorem firstOf_some {L : List Elt} {p : Elt → Bool} {e : ByteArray} (h : firstOf L p = (e, true)) : ∃ x ∈ L, p x = true ∧ x.2 = e := by
  unfold firstOf at h
  cases hf : (List.range L.length).find? fun i => p (L.getD i el0) with
  | none => rw [hf] at h; cases h
  | some i =>
    rw [hf] at h
    have hi := List.mem_range.1 (List.mem_of_find?_eq_some hf)
    exact ⟨L.getD i el0, by rw [getD_get el0 hi]; exact List.getElem_mem hi, (List.find?_some (p := fun i => p (L.getD i el0)) hf : p (L.getD i el0) = true), (Prod.mk.inj h).1⟩
theorem firstOf_has {L : List Elt} {p : Elt → Bool} {x : Elt} (hx : x ∈ L) (hp : p x = true) : (firstOf L p).2 = true := by
  unfold firstOf
  cases hf : (List.range L.length).find? fun i => p (L.getD i el0) with
  | some i => rfl
  | none =>
    exfalso
    obtain ⟨i, hi, rfl⟩ := List.getElem_of_mem hx
    have := List.find?_eq_none.1 hf i (List.mem_range.2 hi)
    rw [getD_get el0 hi] at this
    exact this hp
theorem btw_one {n : Nat} {A : List Int} {u v : Int} (hA : 0 ≤ A.getD (u.toNat * n + v.toNat) 0 ∧ A.getD (u.toNat * n + v.toNat) 0 ≤ 3) : btw n A [u] [v] = A.getD (u.toNat * n + v.toNat) 0 := by
  show mn 3 (A.getD (u.toNat * n + v.toNat) 0) = _
  unfold mn
  split <;> omega
theorem one_ok {n u : Int} (h : 0 ≤ u ∧ u ≤ n - 1) : marksOk n [u] = true := by
  unfold marksOk
  show (marksP n [u] 0 && true) = true
  rw [Bool.and_true]
  unfold marksP
  simp [h]
/-- the same steps with one start and one final -/
theorem at_ok {n : Nat} {S F : List Int} {l : List Stp} (hv : autOk ((n : Int), S, F, l) = true) {u v : Int} (hu : 0 ≤ u ∧ u ≤ (n : Int) - 1) (hw : 0 ≤ v ∧ v ≤ (n : Int) - 1) : autOk ((n : Int), [u], [v], l) = true := by
  unfold autOk at hv ⊢
  rw [Bool.and_eq_true, Bool.and_eq_true, Bool.and_eq_true] at hv ⊢
  exact ⟨hv.1, one_ok hu, one_ok hw, hv.2.2.2⟩
end Go.Proofs.Ytbmlleocidldpaa
