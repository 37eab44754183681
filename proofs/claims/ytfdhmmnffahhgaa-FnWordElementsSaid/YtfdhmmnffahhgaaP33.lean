/- Elements that are put behind the others, by the reference and by the program: at each place the same. -/
import Derived.Test.YtfdhmmnffahhgaaP32
set_option linter.unusedVariables false
set_option linter.unusedSimpArgs false
namespace Go.Proofs.Ytfdhmmnffahhgaa
open Go Go.Proofs.Ytfdhmmnffahhgaa.Am
abbrev Elt := (Int × List Int) × ByteArray
abbrev el0 : Elt := (((0 : Int), []), (⟨Array.empty⟩ : ByteArray))
structure LOk (n : Nat) (L : List Elt) : Prop where
 el : ∀ e ∈ L, e.1.1 = (n : Int) ∧ GOk n e.1.2 ∧ e.2.size ≤ 120
 len : L.length ≤ 120
theorem LOk.at {n i : Nat} {L : List Elt} (h : LOk n L) (hi : i < L.length) : (L.getD i el0).1.1 = (n : Int) ∧ GOk n (L.getD i el0).1.2 ∧ (L.getD i el0).2.size ≤ 120 := by
 rw [getD_get el0 hi]
 exact h.el _ (List.getElem_mem hi)
def has (L : List Elt) (A : List Int) : Bool := L.any fun e => decide (e.1.2 = A)
def sput (n : Nat) (A : List Int) (t : ByteArray) (p : List Elt × Bool) : List Elt × Bool :=
 bif has p.1 A then p else bif p.2 then (p.1, true) else bif decide ((p.1.length : Int) ≥ 120) then (p.1, true) else bif (!decide ((t.size : Int) > 120)) then (p.1 ++ [(((n : Int), A), t)], false) else (p.1, true)
def iput (n : Nat) (A : List Int) (t : ByteArray) (p : List Elt × Bool) : List Elt × Bool :=
 bif has p.1 A then p else bif decide ((p.1.length : Int) ≥ 120) then (p.1, false) else bif decide ((t.size : Int) > 120) then (p.1, false) else (p.1 ++ [(((n : Int), A), t)], p.2)
theorem LOk.snoc {n : Nat} {L : List Elt} (h : LOk n L) {A : List Int} (hA : GOk n A) {t : ByteArray} (ht : t.size ≤ 120) (hl : L.length < 120) : LOk n (L ++ [(((n : Int), A), t)]) := by
 refine ⟨fun e he => ?_, by rw [List.length_append]; simp; omega⟩
 rcases List.mem_append.1 he with he | he
 ·exact h.el e he
 ·rw [List.mem_singleton] at he
  subst he
  exact ⟨rfl, hA, ht⟩
theorem sput_ok {n : Nat} {A : List Int} (hA : GOk n A) (t : ByteArray) {p : List Elt × Bool} (h : LOk n p.1) : LOk n (sput n A t p).1 := by
 obtain ⟨L, F⟩ := p
 unfold sput
 cases has L A
 ·cases F
  ·by_cases h1 : (L.length : Int) ≥ 120
   ·rw [decide_eq_true h1]; exact h
   ·rw [decide_eq_false h1]
    by_cases h2 : (t.size : Int) > 120
    ·rw [decide_eq_true h2]; exact h
    ·rw [decide_eq_false h2]
     exact LOk.snoc (L := L) h hA (by omega) (by omega)
  ·exact h
 ·exact h
theorem iput_ok {n : Nat} {A : List Int} (hA : GOk n A) (t : ByteArray) {p : List Elt × Bool} (h : LOk n p.1) : LOk n (iput n A t p).1 := by
 obtain ⟨L, F⟩ := p
 unfold iput
 cases has L A
 ·by_cases h1 : (L.length : Int) ≥ 120
  ·rw [decide_eq_true h1]; exact h
  ·rw [decide_eq_false h1]
   by_cases h2 : (t.size : Int) > 120
   ·rw [decide_eq_true h2]; exact h
   ·rw [decide_eq_false h2]
    exact LOk.snoc (L := L) h hA (by omega) (by omega)
 ·exact h
/-- both have the same, or both have failed -/
def Same (p q : List Elt × Bool) : Prop := (p.2 = false ∧ q.2 = true ∧ q.1 = p.1) ∨ (p.2 = true ∧ q.2 = false)
theorem Same.put {n : Nat} {A : List Int} {t : ByteArray} {p q : List Elt × Bool} (h : Same p q) : Same (sput n A t p) (iput n A t q) := by
 obtain ⟨L, F⟩ := p
 obtain ⟨L', f⟩ := q
 rcases h with ⟨h1, h2, h3⟩ | ⟨h1, h2⟩
 ·have h1 : F = false := h1
  have h2 : f = true := h2
  have h3 : L' = L := h3
  subst h1 h2 h3
  unfold sput iput
  cases has L' A
  ·by_cases h1 : (L'.length : Int) ≥ 120
   ·rw [decide_eq_true h1]; exact .inr ⟨rfl, rfl⟩
   ·rw [decide_eq_false h1]
    by_cases h2 : (t.size : Int) > 120
    ·rw [decide_eq_true h2]; exact .inr ⟨rfl, rfl⟩
    ·rw [decide_eq_false h2]; exact .inl ⟨rfl, rfl, rfl⟩
  ·exact .inl ⟨rfl, rfl, rfl⟩
 ·have h1 : F = true := h1
  have h2 : f = false := h2
  subst h1 h2
  refine .inr ⟨?_, ?_⟩
  ·unfold sput
   cases has L A <;> rfl
  ·unfold iput
   cases has L' A
   ·cases decide ((L'.length : Int) ≥ 120)
    ·cases decide ((t.size : Int) > 120) <;> rfl
    ·rfl
   ·rfl
theorem sput_full {n : Nat} {A : List Int} {t : ByteArray} {p : List Elt × Bool} (h : p.2 = true) : (sput n A t p).2 = true := by
 obtain ⟨L, F⟩ := p
 have h : F = true := h
 subst h
 unfold sput
 cases has L A <;> rfl
theorem iput_pre {n : Nat} {A : List Int} {t : ByteArray} {p : List Elt × Bool} : ∃ X, (iput n A t p).1 = p.1 ++ X := by
 obtain ⟨L, f⟩ := p
 unfold iput
 cases has L A
 ·cases decide ((L.length : Int) ≥ 120)
  ·cases decide ((t.size : Int) > 120)
   ·exact ⟨_, rfl⟩
   ·exact ⟨[], (List.append_nil L).symm⟩
  ·exact ⟨[], (List.append_nil L).symm⟩
 ·exact ⟨[], (List.append_nil L).symm⟩
theorem contains_el {xs : List Elt} (hl : xs.length ≤ 1000000) {φ : (Elt × Unit) → Option Bool} {p : Elt → Bool} (hφ : ∀ x ∈ xs, φ (x, ()) = some (p x)) : slices_ContainsFunc_Element xs φ = some (xs.any p) := by
 have g := loop_find (f := slices_IndexFunc_Element_l2) (fun i => (xs, φ, (xs.length : Int), (i : Int), ())) xs.length (fun i => p (xs.getD i el0)) (fun i => Sum.inl ((i : Int), ())) (Sum.inr ())
  (fun i hi => by
   have hm : xs.getD i el0 ∈ xs := by rw [getD_get el0 hi]; exact List.getElem_mem hi
   simp only [slices_IndexFunc_Element_l2, lt_t hi, cond_true, Int.toNat_natCast]
   rw [if_pos (in_t hi), hφ _ hm]
   simp only [Option.bind_some, w64_succ hi (show xs.length ≤ 9223372036854775807 by omega)]
   cases p (xs.getD i el0) <;> rfl)
  (by simp only [slices_IndexFunc_Element_l2, lt_f, cond_false])
 have g : loopF slices_IndexFunc_Element_l2 (xs, φ, (xs.length : Int), (0 : Int), ()) = _ := g
 simp only [slices_ContainsFunc_Element, slices_IndexFunc_Element]
 rw [g, ← any_idx xs el0 p]
 cases (List.range xs.length).find? fun i => p (xs.getD i el0) with
 | none => rfl
 | some i => simp only [Option.bind_some, Option.isSome_some]; rw [decide_eq_true (by omega)]
theorem contains_put {n : Nat} (h4 : n ≤ 4) {L : List Elt} (hL : LOk n L) {A : List Int} (hA : GOk n A) : slices_ContainsFunc_Element L (fun y0 => (impl_found_put_1 y0.1 ((n : Int), A))) = some (has L A) := by
 refine contains_el (p := fun e => decide (e.1.2 = A)) (by have := hL.len; omega) fun x hx => ?_
 obtain ⟨h1, h2, _⟩ := hL.el x hx
 obtain ⟨⟨m, B⟩, t⟩ := x
 have h1 : m = (n : Int) := h1
 subst h1
 show impl_found_put_1 _ _ = _
 simp only [impl_found_put_1, sameMatrix_is h4 h2.1 hA.1, Option.bind_some]

theorem sput_39 {n : Nat} (h4 : n ≤ 4) (p : List Elt × Bool) (hL : LOk n p.1) {A : List Int} (hA : GOk n A) (t : ByteArray) (x : Int) (S R : List Int) (l : List Stp) (b : Bool) (w : List Elt) (ws : List ByteArray) (u v : Int) :
  spec_l8Elements_at39 ((p.1, p.2, ()), ((n : Int), A), t, b, (x, S, R, l, ()), w, ws, u, v, ()) = some (b, (x, S, R, l, ()), ((sput n A t p).1, (sput n A t p).2, ()), w, ws, u, v, ()) := by
 obtain ⟨L, F⟩ := p
 have hL : LOk n L := hL
 have hsq := sq_le h4
 have hlen := hL.len
 have g := loop_find (f := spec_l8Elements_at39_l2) (fun i => ((L, F, ()), t, ((n : Int), A, ()), L, (L.length : Int), (i : Int), b, (x, S, R, l, ()), w, ws, u, v, ())) L.length (fun i => decide ((L.getD i el0).1.2 = A)) (fun _ => Sum.inl (b, (x, S, R, l, ()), (L, F, ()), w, ws, u, v, ())) (Sum.inr ((L, F, ()), t, ((n : Int), A, ()), b, (x, S, R, l, ()), w, ws, u, v, ()))
  (fun i hi => by
   obtain ⟨m1, m2, m3⟩ := hL.at hi
   simp only [spec_l8Elements_at39_l2, lt_t hi, cond_true, if_pos (in_t hi), Int.toNat_natCast, Nat.zero_add, List.drop_zero, List.take_length, same_is (show (L.getD i el0).1.2.length = A.length by rw [m2.1, hA.1]) (show (L.getD i el0).1.2.length ≤ 1000000 by rw [m2.1]; omega), Option.bind_some, if_true, w64_succ hi (show L.length ≤ 9223372036854775807 by omega)]
   cases decide ((L.getD i el0).1.2 = A) <;> rfl)
  (by simp only [spec_l8Elements_at39_l2, lt_f, cond_false, Nat.zero_add, List.drop_zero, List.take_length, if_true])
 have g : loopF spec_l8Elements_at39_l2 ((L, F, ()), t, ((n : Int), A, ()), L, (L.length : Int), (0 : Int), b, (x, S, R, l, ()), w, ws, u, v, ()) = _ := g
 have e := any_idx L el0 (fun e => decide (e.1.2 = A))
 simp only [spec_l8Elements_at39, Nat.zero_add, List.drop_zero, List.take_length, if_true]
 rw [g]
 cases hf : (List.range L.length).find? fun i => decide ((L.getD i el0).1.2 = A) with
 | some i =>
  rw [hf] at e
  have e : has L A = true := e.symm
  simp only [Option.bind_some, sput, e, cond_true, if_true, List.drop_zero, List.take_length, Nat.zero_add]
 | none =>
  rw [hf] at e
  have e : has L A = false := e.symm
  simp only [Option.bind_some, sput, e, cond_false]
  cases F with
  | true => simp only [cond_true, if_true, List.drop_zero, List.take_length, Nat.zero_add]
  | false =>
   simp only [cond_false]
   by_cases h1 : (L.length : Int) ≥ 120
   ·simp only [decide_eq_true h1, cond_true, if_true, List.drop_zero, List.take_length, Nat.zero_add]
   ·by_cases h2 : (t.size : Int) > 120
    ·simp only [decide_eq_false h1, decide_eq_true h2, Bool.not_true, cond_false, if_true, List.drop_zero, List.take_length, Nat.zero_add]
    ·simp only [decide_eq_false h1, decide_eq_false h2, Bool.not_false, cond_true, cond_false, if_true, List.drop_zero, List.take_length, Nat.zero_add, show List.take 1 [(((n : Int), A), t)] = [(((n : Int), A), t)] from rfl]
     rw [if_pos ⟨trivial, by simp; omega⟩, if_pos (by simp)]

theorem sput_78 {n : Nat} (h4 : n ≤ 4) (p : List Elt × Bool) (hL : LOk n p.1) {A : List Int} (hA : GOk n A) (t : ByteArray) (b : Bool) (w : List Elt) (u : Int) (ex : Int) (ey : List Int) (ez : ByteArray) :
  spec_l8Elements_at78 ((p.1, p.2, ()), ((n : Int), A, ()), t, b, w, u, (ex, ey, ez, ()), ()) = some (b, ((sput n A t p).1, (sput n A t p).2, ()), w, u, (ex, ey, ez, ()), ()) := by
 obtain ⟨L, F⟩ := p
 have hL : LOk n L := hL
 have hsq := sq_le h4
 have hlen := hL.len
 have g := loop_find (f := spec_l8Elements_at78_l2) (fun i => ((L, F, ()), t, ((n : Int), A, ()), L, (L.length : Int), (i : Int), b, w, u, (ex, ey, ez, ()), ())) L.length (fun i => decide ((L.getD i el0).1.2 = A)) (fun _ => Sum.inl (b, (L, F, ()), w, u, (ex, ey, ez, ()), ())) (Sum.inr ((L, F, ()), t, ((n : Int), A, ()), b, w, u, (ex, ey, ez, ()), ()))
  (fun i hi => by
   obtain ⟨m1, m2, m3⟩ := hL.at hi
   simp only [spec_l8Elements_at78_l2, lt_t hi, cond_true, if_pos (in_t hi), Int.toNat_natCast, Nat.zero_add, List.drop_zero, List.take_length, same_is (show (L.getD i el0).1.2.length = A.length by rw [m2.1, hA.1]) (show (L.getD i el0).1.2.length ≤ 1000000 by rw [m2.1]; omega), Option.bind_some, if_true, w64_succ hi (show L.length ≤ 9223372036854775807 by omega)]
   cases decide ((L.getD i el0).1.2 = A) <;> rfl)
  (by simp only [spec_l8Elements_at78_l2, lt_f, cond_false, Nat.zero_add, List.drop_zero, List.take_length, if_true])
 have g : loopF spec_l8Elements_at78_l2 ((L, F, ()), t, ((n : Int), A, ()), L, (L.length : Int), (0 : Int), b, w, u, (ex, ey, ez, ()), ()) = _ := g
 have e := any_idx L el0 (fun e => decide (e.1.2 = A))
 simp only [spec_l8Elements_at78, Nat.zero_add, List.drop_zero, List.take_length, if_true]
 rw [g]
 cases hf : (List.range L.length).find? fun i => decide ((L.getD i el0).1.2 = A) with
 | some i =>
  rw [hf] at e
  have e : has L A = true := e.symm
  simp only [Option.bind_some, sput, e, cond_true, if_true, List.drop_zero, List.take_length, Nat.zero_add]
 | none =>
  rw [hf] at e
  have e : has L A = false := e.symm
  simp only [Option.bind_some, sput, e, cond_false]
  cases F with
  | true => simp only [cond_true, if_true, List.drop_zero, List.take_length, Nat.zero_add]
  | false =>
   simp only [cond_false]
   by_cases h1 : (L.length : Int) ≥ 120
   ·simp only [decide_eq_true h1, cond_true, if_true, List.drop_zero, List.take_length, Nat.zero_add]
   ·by_cases h2 : (t.size : Int) > 120
    ·simp only [decide_eq_false h1, decide_eq_true h2, Bool.not_true, cond_false, if_true, List.drop_zero, List.take_length, Nat.zero_add]
    ·simp only [decide_eq_false h1, decide_eq_false h2, Bool.not_false, cond_true, cond_false, if_true, List.drop_zero, List.take_length, Nat.zero_add, show List.take 1 [(((n : Int), A), t)] = [(((n : Int), A), t)] from rfl]
     rw [if_pos ⟨trivial, by simp; omega⟩, if_pos (by simp)]

theorem sput_107 {n : Nat} (h4 : n ≤ 4) (p : List Elt × Bool) (hL : LOk n p.1) {A : List Int} (hA : GOk n A) (t : ByteArray) (b : Bool) (w : List Elt) (u : Int) (ex : Int) (ey : List Int) (ez : ByteArray) (fx : Int) (fy : List Int) (fz : ByteArray) (w2 : List Elt) (c d : Int) :
  spec_l8Elements_at107 ((p.1, p.2, ()), ((n : Int), A, ()), t, b, w, u, (ex, ey, ez, ()), (fx, fy, fz, ()), w2, c, d, ()) = some (b, ((sput n A t p).1, (sput n A t p).2, ()), w, u, (ex, ey, ez, ()), (fx, fy, fz, ()), w2, c, d, ()) := by
 obtain ⟨L, F⟩ := p
 have hL : LOk n L := hL
 have hsq := sq_le h4
 have hlen := hL.len
 have g := loop_find (f := spec_l8Elements_at107_l2) (fun i => ((L, F, ()), t, ((n : Int), A, ()), L, (L.length : Int), (i : Int), b, w, u, (ex, ey, ez, ()), (fx, fy, fz, ()), w2, c, d, ())) L.length (fun i => decide ((L.getD i el0).1.2 = A)) (fun _ => Sum.inl (b, (L, F, ()), w, u, (ex, ey, ez, ()), (fx, fy, fz, ()), w2, c, d, ())) (Sum.inr ((L, F, ()), t, ((n : Int), A, ()), b, w, u, (ex, ey, ez, ()), (fx, fy, fz, ()), w2, c, d, ()))
  (fun i hi => by
   obtain ⟨m1, m2, m3⟩ := hL.at hi
   simp only [spec_l8Elements_at107_l2, lt_t hi, cond_true, if_pos (in_t hi), Int.toNat_natCast, Nat.zero_add, List.drop_zero, List.take_length, same_is (show (L.getD i el0).1.2.length = A.length by rw [m2.1, hA.1]) (show (L.getD i el0).1.2.length ≤ 1000000 by rw [m2.1]; omega), Option.bind_some, if_true, w64_succ hi (show L.length ≤ 9223372036854775807 by omega)]
   cases decide ((L.getD i el0).1.2 = A) <;> rfl)
  (by simp only [spec_l8Elements_at107_l2, lt_f, cond_false, Nat.zero_add, List.drop_zero, List.take_length, if_true])
 have g : loopF spec_l8Elements_at107_l2 ((L, F, ()), t, ((n : Int), A, ()), L, (L.length : Int), (0 : Int), b, w, u, (ex, ey, ez, ()), (fx, fy, fz, ()), w2, c, d, ()) = _ := g
 have e := any_idx L el0 (fun e => decide (e.1.2 = A))
 simp only [spec_l8Elements_at107, Nat.zero_add, List.drop_zero, List.take_length, if_true]
 rw [g]
 cases hf : (List.range L.length).find? fun i => decide ((L.getD i el0).1.2 = A) with
 | some i =>
  rw [hf] at e
  have e : has L A = true := e.symm
  simp only [Option.bind_some, sput, e, cond_true, if_true, List.drop_zero, List.take_length, Nat.zero_add]
 | none =>
  rw [hf] at e
  have e : has L A = false := e.symm
  simp only [Option.bind_some, sput, e, cond_false]
  cases F with
  | true => simp only [cond_true, if_true, List.drop_zero, List.take_length, Nat.zero_add]
  | false =>
   simp only [cond_false]
   by_cases h1 : (L.length : Int) ≥ 120
   ·simp only [decide_eq_true h1, cond_true, if_true, List.drop_zero, List.take_length, Nat.zero_add]
   ·by_cases h2 : (t.size : Int) > 120
    ·simp only [decide_eq_false h1, decide_eq_true h2, Bool.not_true, cond_false, if_true, List.drop_zero, List.take_length, Nat.zero_add]
    ·simp only [decide_eq_false h1, decide_eq_false h2, Bool.not_false, cond_true, cond_false, if_true, List.drop_zero, List.take_length, Nat.zero_add, show List.take 1 [(((n : Int), A), t)] = [(((n : Int), A), t)] from rfl]
     rw [if_pos ⟨trivial, by simp; omega⟩, if_pos (by simp)]

theorem sput_120 {n : Nat} (h4 : n ≤ 4) (p : List Elt × Bool) (hL : LOk n p.1) {A : List Int} (hA : GOk n A) (t : ByteArray) (b : Bool) (w : List Elt) (u : Int) (ex : Int) (ey : List Int) (ez : ByteArray) (w2 : List Elt) (c d : Int) :
  spec_l8Elements_at120 ((p.1, p.2, ()), ((n : Int), A, ()), t, b, w, u, (ex, ey, ez, ()), w2, c, d, ()) = some (b, ((sput n A t p).1, (sput n A t p).2, ()), w, u, (ex, ey, ez, ()), w2, c, d, ()) := by
 obtain ⟨L, F⟩ := p
 have hL : LOk n L := hL
 have hsq := sq_le h4
 have hlen := hL.len
 have g := loop_find (f := spec_l8Elements_at120_l2) (fun i => ((L, F, ()), t, ((n : Int), A, ()), L, (L.length : Int), (i : Int), b, w, u, (ex, ey, ez, ()), w2, c, d, ())) L.length (fun i => decide ((L.getD i el0).1.2 = A)) (fun _ => Sum.inl (b, (L, F, ()), w, u, (ex, ey, ez, ()), w2, c, d, ())) (Sum.inr ((L, F, ()), t, ((n : Int), A, ()), b, w, u, (ex, ey, ez, ()), w2, c, d, ()))
  (fun i hi => by
   obtain ⟨m1, m2, m3⟩ := hL.at hi
   simp only [spec_l8Elements_at120_l2, lt_t hi, cond_true, if_pos (in_t hi), Int.toNat_natCast, Nat.zero_add, List.drop_zero, List.take_length, same_is (show (L.getD i el0).1.2.length = A.length by rw [m2.1, hA.1]) (show (L.getD i el0).1.2.length ≤ 1000000 by rw [m2.1]; omega), Option.bind_some, if_true, w64_succ hi (show L.length ≤ 9223372036854775807 by omega)]
   cases decide ((L.getD i el0).1.2 = A) <;> rfl)
  (by simp only [spec_l8Elements_at120_l2, lt_f, cond_false, Nat.zero_add, List.drop_zero, List.take_length, if_true])
 have g : loopF spec_l8Elements_at120_l2 ((L, F, ()), t, ((n : Int), A, ()), L, (L.length : Int), (0 : Int), b, w, u, (ex, ey, ez, ()), w2, c, d, ()) = _ := g
 have e := any_idx L el0 (fun e => decide (e.1.2 = A))
 simp only [spec_l8Elements_at120, Nat.zero_add, List.drop_zero, List.take_length, if_true]
 rw [g]
 cases hf : (List.range L.length).find? fun i => decide ((L.getD i el0).1.2 = A) with
 | some i =>
  rw [hf] at e
  have e : has L A = true := e.symm
  simp only [Option.bind_some, sput, e, cond_true, if_true, List.drop_zero, List.take_length, Nat.zero_add]
 | none =>
  rw [hf] at e
  have e : has L A = false := e.symm
  simp only [Option.bind_some, sput, e, cond_false]
  cases F with
  | true => simp only [cond_true, if_true, List.drop_zero, List.take_length, Nat.zero_add]
  | false =>
   simp only [cond_false]
   by_cases h1 : (L.length : Int) ≥ 120
   ·simp only [decide_eq_true h1, cond_true, if_true, List.drop_zero, List.take_length, Nat.zero_add]
   ·by_cases h2 : (t.size : Int) > 120
    ·simp only [decide_eq_false h1, decide_eq_true h2, Bool.not_true, cond_false, if_true, List.drop_zero, List.take_length, Nat.zero_add]
    ·simp only [decide_eq_false h1, decide_eq_false h2, Bool.not_false, cond_true, cond_false, if_true, List.drop_zero, List.take_length, Nat.zero_add, show List.take 1 [(((n : Int), A), t)] = [(((n : Int), A), t)] from rfl]
     rw [if_pos ⟨trivial, by simp; omega⟩, if_pos (by simp)]

theorem iput_at5_at32 {n : Nat} (h4 : n ≤ 4) (p : List Elt × Bool) (hL : LOk n p.1) {A : List Int} (hA : GOk n A) (t : ByteArray) (x : Int) (S R : List Int) (l : List Stp) (ws : List ByteArray) (u v : Int) :
  impl_ElementsOf_at5_at32 ((p.1, p.2, ()), ((n : Int), A, ()), t, (x, S, R, l, ()), ws, u, v, ()) = some ((x, S, R, l, ()), ((iput n A t p).1, (iput n A t p).2, ()), ws, u, v, ()) := by
 obtain ⟨L, f⟩ := p
 have hL : LOk n L := hL
 have hlen := hL.len
 simp only [impl_ElementsOf_at5_at32, List.drop_zero, List.take_length, contains_put h4 hL hA, Option.bind_some, iput]
 cases has L A with
 | true => rfl
 | false =>
  simp only [cond_false]
  by_cases h1 : (L.length : Int) ≥ 120
  ·simp only [decide_eq_true h1, cond_true]
  ·by_cases h2 : (t.size : Int) > 120
   ·simp only [decide_eq_false h1, decide_eq_true h2, cond_false, cond_true]
   ·simp only [decide_eq_false h1, decide_eq_false h2, cond_false, Nat.zero_add, show List.take 1 [(((n : Int), A), t)] = [(((n : Int), A), t)] from rfl]
    rw [if_pos ⟨trivial, by simp; omega⟩, List.take_of_length_le (by simp)]

theorem iput_at5_at52_at31 {n : Nat} (h4 : n ≤ 4) (p : List Elt × Bool) (hL : LOk n p.1) {A : List Int} (hA : GOk n A) (t : ByteArray) (u : Int) (ex : Int) (ey : List Int) (ez : ByteArray) (z : Int) :
  impl_ElementsOf_at5_at52_at31 ((p.1, p.2, ()), ((n : Int), A, ()), t, u, (ex, ey, ez, ()), z, ()) = some (((iput n A t p).1, (iput n A t p).2, ()), u, (ex, ey, ez, ()), z, ()) := by
 obtain ⟨L, f⟩ := p
 have hL : LOk n L := hL
 have hlen := hL.len
 simp only [impl_ElementsOf_at5_at52_at31, List.drop_zero, List.take_length, contains_put h4 hL hA, Option.bind_some, iput]
 cases has L A with
 | true => rfl
 | false =>
  simp only [cond_false]
  by_cases h1 : (L.length : Int) ≥ 120
  ·simp only [decide_eq_true h1, cond_true]
  ·by_cases h2 : (t.size : Int) > 120
   ·simp only [decide_eq_false h1, decide_eq_true h2, cond_false, cond_true]
   ·simp only [decide_eq_false h1, decide_eq_false h2, cond_false, Nat.zero_add, show List.take 1 [(((n : Int), A), t)] = [(((n : Int), A), t)] from rfl]
    rw [if_pos ⟨trivial, by simp; omega⟩, List.take_of_length_le (by simp)]

theorem iput_at5_at52_at65 {n : Nat} (h4 : n ≤ 4) (p : List Elt × Bool) (hL : LOk n p.1) {A : List Int} (hA : GOk n A) (t : ByteArray) (u : Int) (ex : Int) (ey : List Int) (ez : ByteArray) (k : Int) (fx : Int) (fy : List Int) (fz : ByteArray) (mx_ : Int) (my : List Int) (z : Int) :
  impl_ElementsOf_at5_at52_at65 ((p.1, p.2, ()), ((n : Int), A), t, u, (ex, ey, ez, ()), k, (fx, fy, fz, ()), (mx_, my, ()), z, ()) = some (((iput n A t p).1, (iput n A t p).2, ()), u, (ex, ey, ez, ()), k, (fx, fy, fz, ()), (mx_, my, ()), z, ()) := by
 obtain ⟨L, f⟩ := p
 have hL : LOk n L := hL
 have hlen := hL.len
 simp only [impl_ElementsOf_at5_at52_at65, List.drop_zero, List.take_length, contains_put h4 hL hA, Option.bind_some, iput]
 cases has L A with
 | true => rfl
 | false =>
  simp only [cond_false]
  by_cases h1 : (L.length : Int) ≥ 120
  ·simp only [decide_eq_true h1, cond_true]
  ·by_cases h2 : (t.size : Int) > 120
   ·simp only [decide_eq_false h1, decide_eq_true h2, cond_false, cond_true]
   ·simp only [decide_eq_false h1, decide_eq_false h2, cond_false, Nat.zero_add, show List.take 1 [(((n : Int), A), t)] = [(((n : Int), A), t)] from rfl]
    rw [if_pos ⟨trivial, by simp; omega⟩, List.take_of_length_le (by simp)]

theorem iput_at5_at52_at81 {n : Nat} (h4 : n ≤ 4) (p : List Elt × Bool) (hL : LOk n p.1) {A : List Int} (hA : GOk n A) (t : ByteArray) (u : Int) (ex : Int) (ey : List Int) (ez : ByteArray) (k : Int) (z : Int) :
  impl_ElementsOf_at5_at52_at81 ((p.1, p.2, ()), ((n : Int), A, ()), t, u, (ex, ey, ez, ()), k, z, ()) = some (((iput n A t p).1, (iput n A t p).2, ()), u, (ex, ey, ez, ()), k, z, ()) := by
 obtain ⟨L, f⟩ := p
 have hL : LOk n L := hL
 have hlen := hL.len
 simp only [impl_ElementsOf_at5_at52_at81, List.drop_zero, List.take_length, contains_put h4 hL hA, Option.bind_some, iput]
 cases has L A with
 | true => rfl
 | false =>
  simp only [cond_false]
  by_cases h1 : (L.length : Int) ≥ 120
  ·simp only [decide_eq_true h1, cond_true]
  ·by_cases h2 : (t.size : Int) > 120
   ·simp only [decide_eq_false h1, decide_eq_true h2, cond_false, cond_true]
   ·simp only [decide_eq_false h1, decide_eq_false h2, cond_false, Nat.zero_add, show List.take 1 [(((n : Int), A), t)] = [(((n : Int), A), t)] from rfl]
    rw [if_pos ⟨trivial, by simp; omega⟩, List.take_of_length_le (by simp)]

end Go.Proofs.Ytfdhmmnffahhgaa
