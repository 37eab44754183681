/- Marks: what is written into lists and read back. -/
import Derived.Test.YtbmlleocidldpaaGreatP15
set_option linter.unusedVariables false
set_option linter.unusedSimpArgs false
namespace Go.Proofs.YtbmlleocidldpaaGreat
open Go Go.Proofs.YtbmlleocidldpaaGreat.Am
/-- marks from a number on -/
def mks (k : Int) : Nat → List Int
  | 0 => []
  | n + 1 => k :: mks (k + 1) n
theorem mks_len (k : Int) : ∀ n, (mks k n).length = n := by
  intro n
  induction n generalizing k with
  | zero => rfl
  | succ n ih => simp [mks, ih]
theorem mks_snoc (k : Int) : ∀ n, mks k (n + 1) = mks k n ++ [k + n] := by
  intro n
  induction n generalizing k with
  | zero => simp [mks]
  | succ n ih =>
    rw [mks, ih (k + 1), mks]
    simp only [List.cons_append]
    congr 3
    omega
theorem mks_get (k : Int) : ∀ n i, i < n → (mks k n).getD i 0 = k + i := by
  intro n
  induction n generalizing k with
  | zero => intro i h; omega
  | succ n ih =>
    intro i h
    cases i with
    | zero => simp [mks]
    | succ i =>
      simp only [mks, List.getD_cons_succ]
      rw [ih (k + 1) i (by omega)]
      omega
theorem set_mid {α : Type} (l m : List α) (x y : α) : (l ++ x :: m).set l.length y = l ++ y :: m := by
  induction l with
  | nil => rfl
  | cons z l ih => simp [ih]
theorem mark_step (k : Int) (xs : List Int) {i : Nat} (hi : i < xs.length) : (mks k i ++ xs.drop i).set i (k + i) = mks k (i + 1) ++ xs.drop (i + 1) := by
  rw [List.drop_eq_getElem_cons hi]
  have h := set_mid (mks k i) (xs.drop (i + 1)) xs[i] (k + i)
  rw [mks_len] at h
  rw [h, mks_snoc]
  simp
theorem some_bind_ex {α β : Type} {Q : β → Prop} (x : α) (F : α → Option β) (J : α → Prop) (hx : J x) (h : ∀ y, J y → ∃ b, F y = some b ∧ Q b) : ∃ b, Option.bind (some x) F = some b ∧ Q b := h x hx
end Go.Proofs.YtbmlleocidldpaaGreat
