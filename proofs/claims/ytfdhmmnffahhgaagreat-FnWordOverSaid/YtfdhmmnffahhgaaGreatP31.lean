/- Lists that are searched and compared; matrices of grades, the program's way. -/
import Derived.Test.YtfdhmmnffahhgaaGreatP30
set_option linter.unusedVariables false
set_option linter.unusedSimpArgs false
namespace Go.Proofs.YtfdhmmnffahhgaaGreat
open Go Go.Proofs.YtfdhmmnffahhgaaGreat.Am
theorem yd8 {α : Type} {l : List α} {i : Nat} (d : α) (hi : i < l.length) : l.getD i d = l[i] := by
 rw [List.getD_eq_getElem?_getD, List.getElem?_eq_getElem hi]; rfl
theorem zg2 {α : Type} (xs : List α) (d : α) (p : α → Bool) : ((List.range xs.length).find? fun i => p (xs.getD i d)).isSome = xs.any p := by
 rw [Bool.eq_iff_iff, List.find?_isSome, List.any_eq_true]
 constructor
 ·rintro ⟨i, hi, hp⟩
  have hi := List.mem_range.1 hi
  exact ⟨xs[i], List.getElem_mem hi, by rw [← yd8 d hi]; exact hp⟩
 ·rintro ⟨x, hx, hp⟩
  obtain ⟨i, hi, rfl⟩ := List.getElem_of_mem hx
  exact ⟨i, List.mem_range.2 hi, by rw [yd8 d hi]; exact hp⟩
theorem eq_idx {a b : List Int} (h : a.length = b.length) : ((List.range a.length).find? fun i => a.getD i 0 != b.getD i 0).isSome = !decide (a = b) := by
 rw [Bool.eq_iff_iff, List.find?_isSome]
 simp only [Bool.not_eq_true', decide_eq_false_iff_not]
 constructor
 ·rintro ⟨i, hi, hp⟩ e
  subst e
  simp at hp
 ·intro hne
  apply Classical.byContradiction
  intro hn
  apply hne
  apply List.ext_getElem h
  intro i h1 h2
  apply Classical.byContradiction
  intro hh
  refine hn ⟨i, List.mem_range.2 h1, ?_⟩
  rw [yd8 0 h1, yd8 0 h2]
  simpa using hh
theorem zu8 {xs : List Int} (hl : xs.length ≤ 1000000) {φ : (Int × Unit) → Option Bool} {p : Int → Bool} (hφ : ∀ x ∈ xs, φ (x, ()) = some (p x)) : yj6 xs φ = some (xs.any p) := by
 have g := yr4 (f := yf5) (fun i => (xs, φ, (xs.length : Int), (i : Int), ())) xs.length (fun i => p (xs.getD i 0)) (fun i => Sum.inl ((i : Int), ())) (Sum.inr ())
  (fun i hi => by
   have hm : xs.getD i 0 ∈ xs := by rw [yd8 0 hi]; exact List.getElem_mem hi
   simp only [yf5, lt_t hi, cond_true, Int.toNat_natCast]
   rw [if_pos (in_t hi), hφ _ hm]
   simp only [Option.bind_some, ya7 hi (show xs.length ≤ 9223372036854775807 by omega)]
   cases p (xs.getD i 0) <;> rfl)
  (by simp only [yf5, lt_f, cond_false])
 have g : ya4 yf5 (xs, φ, (xs.length : Int), (0 : Int), ()) = _ := g
 simp only [yj6, yv4]
 rw [g, ← zg2 xs 0 p]
 cases (List.range xs.length).find? fun i => p (xs.getD i 0) with
 | none => rfl
 | some i => simp only [Option.bind_some, Option.isSome_some]; rw [decide_eq_true (by omega)]
theorem zu9 {a b : List Int} (h : a.length = b.length) (hl : a.length ≤ 1000000) : yq9 a b = some (decide (a = b)) := by
 have g := yr4 (f := ym7) (fun i => (a, b, (a.length : Int), (i : Int), ())) a.length (fun i => a.getD i 0 != b.getD i 0) (fun i => Sum.inl (false, ())) (Sum.inr (a, b, ()))
  (fun i hi => by
   simp only [ym7, lt_t hi, cond_true, Int.toNat_natCast]
   rw [if_pos (in_t hi), if_pos (in_t (show i < b.length by omega))]
   simp only [ya7 hi (show a.length ≤ 9223372036854775807 by omega)]
   cases a.getD i 0 != b.getD i 0 <;> rfl)
  (by simp only [ym7, lt_f, cond_false])
 have g : ya4 ym7 (a, b, (a.length : Int), (0 : Int), ()) = _ := g
 have e := eq_idx h
 simp only [yq9, ← h]
 rw [if_neg (by omega), g]
 cases hf : (List.range a.length).find? fun i => a.getD i 0 != b.getD i 0 with
 | none =>
  rw [hf] at e
  simp only [Option.bind_some, ← h, BEq.rfl]
  rw [show decide (a = b) = true by simpa using e.symm]
 | some i =>
  rw [hf] at e
  simp only [Option.bind_some]
  rw [show decide (a = b) = false by simpa using e.symm]
theorem k0m {a b : List Int} (h : a.length = b.length) (hl : a.length ≤ 1000000) : y0q a b = some (decide (a = b)) := by
 have g := yr4 (f := yk6) (fun i => (a, b, (a.length : Int), (i : Int), ())) a.length (fun i => a.getD i 0 != b.getD i 0) (fun i => Sum.inl (false, ())) (Sum.inr ())
  (fun i hi => by
   simp only [yk6, lt_t hi, cond_true, Int.toNat_natCast]
   rw [if_pos (in_t hi), if_pos (in_t (show i < b.length by omega))]
   simp only [ya7 hi (show a.length ≤ 9223372036854775807 by omega)]
   cases a.getD i 0 != b.getD i 0 <;> rfl)
  (by simp only [yk6, lt_f, cond_false])
 have g : ya4 yk6 (a, b, (a.length : Int), (0 : Int), ()) = _ := g
 have e := eq_idx h
 simp only [y0q, ← h, bne_self_eq_false, cond_false]
 rw [g]
 cases hf : (List.range a.length).find? fun i => a.getD i 0 != b.getD i 0 with
 | none =>
  rw [hf] at e
  simp only [Option.bind_some]
  rw [show decide (a = b) = true by simpa using e.symm]
 | some i =>
  rw [hf] at e
  simp only [Option.bind_some]
  rw [show decide (a = b) = false by simpa using e.symm]
theorem y92 {n : Nat} (h4 : n ≤ 4) {A B : List Int} (hA : A.length = n * n) (hB : B.length = n * n) : yp8 ((n : Int), A) ((n : Int), B) = some (decide (A = B)) := by
 have hsq := y0w h4
 simp only [yp8, BEq.rfl, cond_true]
 rw [k0m (by rw [hA, hB]) (by omega)]
 rfl
theorem y7d {n : Nat} (h1 : 1 ≤ n) (h4 : n ≤ 4) {A : List Int} (hA : A.length = n * n) (hx : ∀ x ∈ A, 0 ≤ x ∧ x ≤ 1000000) : yn9 ((n : Int), A) = some true := by
 have hsq := y0w h4
 simp only [yn9, decide_eq_false (show ¬ (n : Int) < 1 by omega), decide_eq_false (show ¬ (n : Int) > 4 by omega), cond_false, hA, sqw h4, bne_self_eq_false]
 rw [zu8 (p := fun _ => false) (by omega) (fun x h => by
  have := hx x h
  simp only [ys3, y0l]
  rw [decide_eq_true (show x ≥ 0 by omega), decide_eq_true (show x ≤ 1000000 by omega)]
  rfl)]
 simp
theorem y28 {n : Nat} (h1 : 1 ≤ n) (h4 : n ≤ 4) {A : List Int} (hA : GOk n A) : yl7 ((n : Int), A) = some true := by
 have hsq := y0w h4
 simp only [yl7]
 rw [y7d h1 h4 hA.1 (fun x hx => by have := hA.2 x hx; omega)]
 simp only [Option.bind_some, cond_true]
 rw [zu8 (p := fun _ => false) (by rw [hA.1]; omega) (fun x h => by
  have := hA.2 x h
  simp only [ys4]
  rw [decide_eq_false (show ¬ x > 3 by omega)])]
 simp
theorem y51 {n : Nat} (h1 : 1 ≤ n) (h4 : n ≤ 4) {A B : List Int} (hA : GOk n A) (hB : GOk n B) : yi0 ((n : Int), A) ((n : Int), B) = some (((n : Int), gmul n A B), true) := by
 simp only [yi0, y28 h1 h4 hA, y28 h1 h4 hB, Option.bind_some, Bool.not_true, cond_false, bne_self_eq_false]
 rw [y91 h4 (c := fun i k => gcN n A B i k n) (fun i k hi hk => by
  simp only [yv5]
  obtain ⟨r, g1, g2⟩ := yl3 (f := yf6) n (fun l (c : Int) => ((i : Int), (k : Int), ((n : Int), A), ((n : Int), B), c, (n : Int), (l : Int), ()))
   (fun l c => mn c (mx (A.getD (i * n + l) 0) (B.getD (l * n + k) 0))) (fun c => (c, ())) (fun l c => c = gcN n A B i k l)
   (fun l c hl hc => by subst hc; rfl)
   (fun l c hl hc => by
    simp only [yf6, lt_t hl, cond_true, at_is h4 hA.1 hi hl, at_is h4 hB.1 hl hk, Option.bind_some, ya7 hl (show n ≤ 9223372036854775807 by omega)]
    rfl)
   (fun c hc => by simp only [yf6, lt_f, cond_false])
   3 rfl
  have g1 : ya4 yf6 ((i : Int), (k : Int), ((n : Int), A), ((n : Int), B), (3 : Int), (n : Int), (0 : Int), ()) = _ := g1
  rw [g1, g2]
  rfl)]
 simp only [Option.bind_some, List.drop_zero, List.take_length]
 rfl
theorem zv0 {n : Nat} (h1 : 1 ≤ n) (h4 : n ≤ 4) {A : List Int} (hA : GOk n A) : yp9 ((n : Int), A) = some (decide (gmul n A A = A)) := by
 simp only [yp9, y51 h1 h4 hA hA, Option.bind_some, cond_true, List.drop_zero, List.take_length]
 rw [y92 h4 (yw4 hA hA).1 hA.1]
 rfl
theorem y52 {n : Nat} (h4 : n ≤ 4) {A : List Int} (hA : GOk n A) : yq1 ((n : Int), A) = some (decide (gmul n A A = A)) := by
 have hsq := y0w h4
 simp only [yq1, z2i h4 hA hA, Option.bind_some, List.drop_zero, List.take_length]
 rw [zu9 (by rw [(yw4 hA hA).1, hA.1]) (by rw [(yw4 hA hA).1]; omega)]
 rfl
theorem zi8 {n : Nat} (h1 : 1 ≤ n) (h4 : n ≤ 4) {A : List Int} (hA : GOk n A) : yr7 ((n : Int), A) = some (if gmul n A A = A then (((n : Int), y0h n A), true) else (((0 : Int), []), false)) := by
 simp only [yr7, zv0 h1 h4 hA, Option.bind_some]
 by_cases h : gmul n A A = A
 ·rw [decide_eq_true h, if_pos h]
  simp only [Bool.not_true, cond_false]
  rw [y91 h4 (c := fun i k => gsN n A i k n) (fun i k hi hk => by
   simp only [yv6]
   obtain ⟨r, g1, g2⟩ := yl3 (f := yf7) n (fun l (c : Int) => ((i : Int), (k : Int), ((n : Int), A), c, (n : Int), (l : Int), ()))
    (fun l c => mn c (mx (mx (A.getD (i * n + l) 0) (ag (A.getD (l * n + l) 0))) (A.getD (l * n + k) 0))) (fun c => (c, ())) (fun l c => c = gsN n A i k l)
    (fun l c hl hc => by subst hc; rfl)
    (fun l c hl hc => by
     simp only [yf7, lt_t hl, cond_true, at_is h4 hA.1 hi hl, at_is h4 hA.1 hl hl, at_is h4 hA.1 hl hk, Option.bind_some, ya7 hl (show n ≤ 9223372036854775807 by omega)]
     by_cases e : A.getD (l * n + l) 0 = 1
     ·rw [e]
      rfl
     ·have e2 : (A.getD (l * n + l) 0 == 1) = false := by simpa using e
      rw [e2, show ag (A.getD (l * n + l) 0) = A.getD (l * n + l) 0 from if_neg e]
      rfl)
    (fun c hc => by simp only [yf7, lt_f, cond_false])
    3 rfl
   have g1 : ya4 yf7 ((i : Int), (k : Int), ((n : Int), A), (3 : Int), (n : Int), (0 : Int), ()) = _ := g1
   rw [g1, g2]
   rfl)]
  simp only [Option.bind_some, List.drop_zero, List.take_length]
  rfl
 ·rw [decide_eq_false h, if_neg h]
  rfl
end Go.Proofs.YtfdhmmnffahhgaaGreat
