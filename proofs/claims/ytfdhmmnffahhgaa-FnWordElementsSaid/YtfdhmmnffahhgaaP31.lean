/- Lists that are searched and compared; matrices of grades, the program's way. -/
import Derived.Test.YtfdhmmnffahhgaaP30
set_option linter.unusedVariables false
set_option linter.unusedSimpArgs false
namespace Go.Proofs.Ytfdhmmnffahhgaa
open Go Go.Proofs.Ytfdhmmnffahhgaa.Am
theorem getD_get {α : Type} {l : List α} {i : Nat} (d : α) (hi : i < l.length) : l.getD i d = l[i] := by
 rw [List.getD_eq_getElem?_getD, List.getElem?_eq_getElem hi]; rfl
theorem any_idx {α : Type} (xs : List α) (d : α) (p : α → Bool) : ((List.range xs.length).find? fun i => p (xs.getD i d)).isSome = xs.any p := by
 rw [Bool.eq_iff_iff, List.find?_isSome, List.any_eq_true]
 constructor
 ·rintro ⟨i, hi, hp⟩
  have hi := List.mem_range.1 hi
  exact ⟨xs[i], List.getElem_mem hi, by rw [← getD_get d hi]; exact hp⟩
 ·rintro ⟨x, hx, hp⟩
  obtain ⟨i, hi, rfl⟩ := List.getElem_of_mem hx
  exact ⟨i, List.mem_range.2 hi, by rw [getD_get d hi]; exact hp⟩
theorem eq_idx {a b : List Int} (h : a.length = b.length) : ((List.range a.length).find? fun i => a.getD i 0 != b.getD i 0).isSome = !decide (a = b) := by
 rw [Bool.eq_iff_iff, List.find?_isSome]
 simp only [Bool.not_eq_true', decide_eq_false_iff_not]
 constructor
 ·rintro ⟨i, hi, hp⟩ e
  subst e
  simp at hp
 ·intro hne
  apply Classical.byContradiction
  intro hn
  apply hne
  apply List.ext_getElem h
  intro i h1 h2
  apply Classical.byContradiction
  intro hh
  refine hn ⟨i, List.mem_range.2 h1, ?_⟩
  rw [getD_get 0 h1, getD_get 0 h2]
  simpa using hh
theorem contains_is {xs : List Int} (hl : xs.length ≤ 1000000) {φ : (Int × Unit) → Option Bool} {p : Int → Bool} (hφ : ∀ x ∈ xs, φ (x, ()) = some (p x)) : slices_ContainsFunc xs φ = some (xs.any p) := by
 have g := loop_find (f := slices_IndexFunc_l2) (fun i => (xs, φ, (xs.length : Int), (i : Int), ())) xs.length (fun i => p (xs.getD i 0)) (fun i => Sum.inl ((i : Int), ())) (Sum.inr ())
  (fun i hi => by
   have hm : xs.getD i 0 ∈ xs := by rw [getD_get 0 hi]; exact List.getElem_mem hi
   simp only [slices_IndexFunc_l2, lt_t hi, cond_true, Int.toNat_natCast]
   rw [if_pos (in_t hi), hφ _ hm]
   simp only [Option.bind_some, w64_succ hi (show xs.length ≤ 9223372036854775807 by omega)]
   cases p (xs.getD i 0) <;> rfl)
  (by simp only [slices_IndexFunc_l2, lt_f, cond_false])
 have g : loopF slices_IndexFunc_l2 (xs, φ, (xs.length : Int), (0 : Int), ()) = _ := g
 simp only [slices_ContainsFunc, slices_IndexFunc]
 rw [g, ← any_idx xs 0 p]
 cases (List.range xs.length).find? fun i => p (xs.getD i 0) with
 | none => rfl
 | some i => simp only [Option.bind_some, Option.isSome_some]; rw [decide_eq_true (by omega)]
theorem same_is {a b : List Int} (h : a.length = b.length) (hl : a.length ≤ 1000000) : spec_l2Same a b = some (decide (a = b)) := by
 have g := loop_find (f := spec_l2Same_l2) (fun i => (a, b, (a.length : Int), (i : Int), ())) a.length (fun i => a.getD i 0 != b.getD i 0) (fun i => Sum.inl (false, ())) (Sum.inr (a, b, ()))
  (fun i hi => by
   simp only [spec_l2Same_l2, lt_t hi, cond_true, Int.toNat_natCast]
   rw [if_pos (in_t hi), if_pos (in_t (show i < b.length by omega))]
   simp only [w64_succ hi (show a.length ≤ 9223372036854775807 by omega)]
   cases a.getD i 0 != b.getD i 0 <;> rfl)
  (by simp only [spec_l2Same_l2, lt_f, cond_false])
 have g : loopF spec_l2Same_l2 (a, b, (a.length : Int), (0 : Int), ()) = _ := g
 have e := eq_idx h
 simp only [spec_l2Same, ← h]
 rw [if_neg (by omega), g]
 cases hf : (List.range a.length).find? fun i => a.getD i 0 != b.getD i 0 with
 | none =>
  rw [hf] at e
  simp only [Option.bind_some, ← h, BEq.rfl]
  rw [show decide (a = b) = true by simpa using e.symm]
 | some i =>
  rw [hf] at e
  simp only [Option.bind_some]
  rw [show decide (a = b) = false by simpa using e.symm]
theorem equal_is {a b : List Int} (h : a.length = b.length) (hl : a.length ≤ 1000000) : slices_Equal a b = some (decide (a = b)) := by
 have g := loop_find (f := slices_Equal_l4) (fun i => (a, b, (a.length : Int), (i : Int), ())) a.length (fun i => a.getD i 0 != b.getD i 0) (fun i => Sum.inl (false, ())) (Sum.inr ())
  (fun i hi => by
   simp only [slices_Equal_l4, lt_t hi, cond_true, Int.toNat_natCast]
   rw [if_pos (in_t hi), if_pos (in_t (show i < b.length by omega))]
   simp only [w64_succ hi (show a.length ≤ 9223372036854775807 by omega)]
   cases a.getD i 0 != b.getD i 0 <;> rfl)
  (by simp only [slices_Equal_l4, lt_f, cond_false])
 have g : loopF slices_Equal_l4 (a, b, (a.length : Int), (0 : Int), ()) = _ := g
 have e := eq_idx h
 simp only [slices_Equal, ← h, bne_self_eq_false, cond_false]
 rw [g]
 cases hf : (List.range a.length).find? fun i => a.getD i 0 != b.getD i 0 with
 | none =>
  rw [hf] at e
  simp only [Option.bind_some]
  rw [show decide (a = b) = true by simpa using e.symm]
 | some i =>
  rw [hf] at e
  simp only [Option.bind_some]
  rw [show decide (a = b) = false by simpa using e.symm]
theorem sameMatrix_is {n : Nat} (h4 : n ≤ 4) {A B : List Int} (hA : A.length = n * n) (hB : B.length = n * n) : impl_SameMatrix ((n : Int), A) ((n : Int), B) = some (decide (A = B)) := by
 have hsq := sq_le h4
 simp only [impl_SameMatrix, BEq.rfl, cond_true]
 rw [equal_is (by rw [hA, hB]) (by omega)]
 rfl
theorem matrixValid_is {n : Nat} (h1 : 1 ≤ n) (h4 : n ≤ 4) {A : List Int} (hA : A.length = n * n) (hx : ∀ x ∈ A, 0 ≤ x ∧ x ≤ 1000000) : impl_MatrixValid ((n : Int), A) = some true := by
 have hsq := sq_le h4
 simp only [impl_MatrixValid, decide_eq_false (show ¬ (n : Int) < 1 by omega), decide_eq_false (show ¬ (n : Int) > 4 by omega), cond_false, hA, sqw h4, bne_self_eq_false]
 rw [contains_is (p := fun _ => false) (by omega) (fun x h => by
  have := hx x h
  simp only [impl_MatrixValid_1, impl_CostValid]
  rw [decide_eq_true (show x ≥ 0 by omega), decide_eq_true (show x ≤ 1000000 by omega)]
  rfl)]
 simp
theorem gradesValid_is {n : Nat} (h1 : 1 ≤ n) (h4 : n ≤ 4) {A : List Int} (hA : GOk n A) : impl_GradesValid ((n : Int), A) = some true := by
 have hsq := sq_le h4
 simp only [impl_GradesValid]
 rw [matrixValid_is h1 h4 hA.1 (fun x hx => by have := hA.2 x hx; omega)]
 simp only [Option.bind_some, cond_true]
 rw [contains_is (p := fun _ => false) (by rw [hA.1]; omega) (fun x h => by
  have := hA.2 x h
  simp only [impl_GradesValid_1]
  rw [decide_eq_false (show ¬ x > 3 by omega)])]
 simp
theorem mulGrades_is {n : Nat} (h1 : 1 ≤ n) (h4 : n ≤ 4) {A B : List Int} (hA : GOk n A) (hB : GOk n B) : impl_MulGrades ((n : Int), A) ((n : Int), B) = some (((n : Int), gmul n A B), true) := by
 simp only [impl_MulGrades, gradesValid_is h1 h4 hA, gradesValid_is h1 h4 hB, Option.bind_some, Bool.not_true, cond_false, bne_self_eq_false]
 rw [filled_is h4 (c := fun i k => gcN n A B i k n) (fun i k hi hk => by
  simp only [impl_MulGrades_1]
  obtain ⟨r, g1, g2⟩ := loop_inv (f := impl_MulGrades_1_l3) n (fun l (c : Int) => ((i : Int), (k : Int), ((n : Int), A), ((n : Int), B), c, (n : Int), (l : Int), ()))
   (fun l c => mn c (mx (A.getD (i * n + l) 0) (B.getD (l * n + k) 0))) (fun c => (c, ())) (fun l c => c = gcN n A B i k l)
   (fun l c hl hc => by subst hc; rfl)
   (fun l c hl hc => by
    simp only [impl_MulGrades_1_l3, lt_t hl, cond_true, at_is h4 hA.1 hi hl, at_is h4 hB.1 hl hk, Option.bind_some, w64_succ hl (show n ≤ 9223372036854775807 by omega)]
    rfl)
   (fun c hc => by simp only [impl_MulGrades_1_l3, lt_f, cond_false])
   3 rfl
  have g1 : loopF impl_MulGrades_1_l3 ((i : Int), (k : Int), ((n : Int), A), ((n : Int), B), (3 : Int), (n : Int), (0 : Int), ()) = _ := g1
  rw [g1, g2]
  rfl)]
 simp only [Option.bind_some, List.drop_zero, List.take_length]
 rfl
theorem isIdempotent_is {n : Nat} (h1 : 1 ≤ n) (h4 : n ≤ 4) {A : List Int} (hA : GOk n A) : impl_IsIdempotent ((n : Int), A) = some (decide (gmul n A A = A)) := by
 simp only [impl_IsIdempotent, mulGrades_is h1 h4 hA hA, Option.bind_some, cond_true, List.drop_zero, List.take_length]
 rw [sameMatrix_is h4 (gmul_ok hA hA).1 hA.1]
 rfl
theorem l6Idempotent_is {n : Nat} (h4 : n ≤ 4) {A : List Int} (hA : GOk n A) : spec_l6Idempotent ((n : Int), A) = some (decide (gmul n A A = A)) := by
 have hsq := sq_le h4
 simp only [spec_l6Idempotent, l6Mul_is h4 hA hA, Option.bind_some, List.drop_zero, List.take_length]
 rw [same_is (by rw [(gmul_ok hA hA).1, hA.1]) (by rw [(gmul_ok hA hA).1]; omega)]
 rfl
theorem stabilise_is {n : Nat} (h1 : 1 ≤ n) (h4 : n ≤ 4) {A : List Int} (hA : GOk n A) : impl_Stabilise ((n : Int), A) = some (if gmul n A A = A then (((n : Int), gstab n A), true) else (((0 : Int), []), false)) := by
 simp only [impl_Stabilise, isIdempotent_is h1 h4 hA, Option.bind_some]
 by_cases h : gmul n A A = A
 ·rw [decide_eq_true h, if_pos h]
  simp only [Bool.not_true, cond_false]
  rw [filled_is h4 (c := fun i k => gsN n A i k n) (fun i k hi hk => by
   simp only [impl_Stabilise_1]
   obtain ⟨r, g1, g2⟩ := loop_inv (f := impl_Stabilise_1_l3) n (fun l (c : Int) => ((i : Int), (k : Int), ((n : Int), A), c, (n : Int), (l : Int), ()))
    (fun l c => mn c (mx (mx (A.getD (i * n + l) 0) (ag (A.getD (l * n + l) 0))) (A.getD (l * n + k) 0))) (fun c => (c, ())) (fun l c => c = gsN n A i k l)
    (fun l c hl hc => by subst hc; rfl)
    (fun l c hl hc => by
     simp only [impl_Stabilise_1_l3, lt_t hl, cond_true, at_is h4 hA.1 hi hl, at_is h4 hA.1 hl hl, at_is h4 hA.1 hl hk, Option.bind_some, w64_succ hl (show n ≤ 9223372036854775807 by omega)]
     by_cases e : A.getD (l * n + l) 0 = 1
     ·rw [e]
      rfl
     ·have e2 : (A.getD (l * n + l) 0 == 1) = false := by simpa using e
      rw [e2, show ag (A.getD (l * n + l) 0) = A.getD (l * n + l) 0 from if_neg e]
      rfl)
    (fun c hc => by simp only [impl_Stabilise_1_l3, lt_f, cond_false])
    3 rfl
   have g1 : loopF impl_Stabilise_1_l3 ((i : Int), (k : Int), ((n : Int), A), (3 : Int), (n : Int), (0 : Int), ()) = _ := g1
   rw [g1, g2]
   rfl)]
  simp only [Option.bind_some, List.drop_zero, List.take_length]
  rfl
 ·rw [decide_eq_false h, if_neg h]
  rfl
end Go.Proofs.Ytfdhmmnffahhgaa
