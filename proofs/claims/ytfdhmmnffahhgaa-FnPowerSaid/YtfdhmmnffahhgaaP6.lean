/- Matrices of costs: what their lists hold. -/
import Derived.Test.YtfdhmmnffahhgaaP5
set_option linter.unusedVariables false
set_option linter.unusedSimpArgs false
namespace Go.Proofs.Ytfdhmmnffahhgaa
open Go Go.Proofs.Ytfdhmmnffahhgaa.Am
theorem marks_mem {n : Int} {l : List Int} (h : marksOk n l = true) : ∀ q ∈ l, 0 ≤ q ∧ q ≤ n - 1 := by
 intro q hq
 obtain ⟨i, hi, rfl⟩ := List.getElem_of_mem hq
 have := List.all_eq_true.1 h i (List.mem_range.2 hi)
 unfold marksP at this
 rw [Bool.and_eq_true, decide_eq_true_eq, List.getD_eq_getElem?_getD, List.getElem?_eq_getElem hi] at this
 exact this.1
structure StepIs (n : Int) (s : Stp) : Prop where
 f0 : 0 ≤ s.1
 f1 : s.1 ≤ n - 1
 t0 : 0 ≤ s.2.2.1
 t1 : s.2.2.1 ≤ n - 1
 c0 : 0 ≤ s.2.2.2
 c1 : s.2.2.2 ≤ 3
 l : s.2.1.toList = la.toList ∨ s.2.1.toList = lb.toList
theorem stepOk_is {n : Int} {s : Stp} (h : stepOk n s = true) : StepIs n s := by
 unfold stepOk at h
 simp only [Bool.and_eq_true, decide_eq_true_eq, Bool.or_eq_true, beq_iff_eq] at h
 obtain ⟨⟨a, b⟩, ⟨c, d⟩, ⟨e, f⟩, g⟩ := h
 exact ⟨a, b, c, d, e, f, g⟩
def rank (s : Stp) : Int := s.1 * 8 + (if s.2.1.toList = lb.toList then 4 else 0) + s.2.2.1
theorem la_list : la.toList = [97] := by rw [toList_bytes]
theorem lb_list : lb.toList = [98] := by rw [toList_bytes]
theorem befB_rank {n : Int} (h4 : n ≤ 4) {s t : Stp} (hs : StepIs n s) (ht : StepIs n t) (h : befB s t = true) : rank s < rank t := by
 have a1 := hs.t0
 have a2 := hs.t1
 have a3 := ht.t0
 have a4 := ht.t1
 unfold befB at h
 unfold rank
 by_cases hf : s.1 = t.1
 ·rw [hf] at h ⊢
  simp only [bne_self_eq_false, cond_false] at h
  rcases hs.l with e1 | e1 <;> rcases ht.l with e2 | e2 <;> simp only [e1, e2, la_list, lb_list] at h ⊢ <;> simp [Op.bytesLess] at h ⊢ <;> omega
 ·have hb : (s.1 != t.1) = true := by simpa using hf
  simp only [hb, cond_true, decide_eq_true_eq] at h
  split <;> split <;> omega
theorem stepsOk_is {n : Int} (h4 : n ≤ 4) {l : List Stp} (h : stepsOk n l = true) : (∀ s ∈ l, StepIs n s) ∧ ∀ i j (hi : i < j) (hj : j < l.length), rank (l[i]'(by omega)) < rank l[j] := by
 have hall : ∀ i (hi : i < l.length), StepIs n l[i] ∧ (0 < i → befB (l[i - 1]'(by omega)) l[i] = true) := by
  intro i hi
  have := List.all_eq_true.1 h i (List.mem_range.2 hi)
  unfold stepsP at this
  rw [Bool.and_eq_true, List.getD_eq_getElem?_getD, List.getElem?_eq_getElem hi] at this
  refine ⟨stepOk_is this.1, fun h0 => ?_⟩
  have h2 := this.2
  rw [List.getD_eq_getElem?_getD, List.getElem?_eq_getElem (by omega), Bool.or_eq_true, decide_eq_true_eq] at h2
  rcases h2 with h2 | h2
  ·omega
  ·exact h2
 refine ⟨fun s hs => ?_, ?_⟩
 ·obtain ⟨i, hi, rfl⟩ := List.getElem_of_mem hs
  exact (hall i hi).1
 ·intro i j
  induction j with
  | zero => intro h; omega
  | succ j ih =>
   intro hi hj
   have h1 := befB_rank h4 (hall j (by omega)).1 (hall (j + 1) hj).1 ((hall (j + 1) hj).2 (by omega))
   by_cases e : i = j
   ·subst e; exact h1
   ·have := ih (by omega) (by omega)
    omega
abbrev Nv : Int := 1000000
/-- a list of so many costs -/
def Rng (l : List Int) (m : Nat) : Prop := l.length = m ∧ ∀ x ∈ l, 0 ≤ x ∧ x ≤ Nv
theorem Rng.at {l : List Int} {m i : Nat} (h : Rng l m) (hi : i < m) : 0 ≤ l.getD i 0 ∧ l.getD i 0 ≤ Nv := by
 have hi' : i < l.length := by rw [h.1]; exact hi
 rw [List.getD_eq_getElem?_getD, List.getElem?_eq_getElem hi']
 exact h.2 _ (List.getElem_mem hi')
theorem Rng.set {l : List Int} {m : Nat} (h : Rng l m) (i : Nat) {x : Int} (hx : 0 ≤ x ∧ x ≤ Nv) : Rng (l.set i x) m := by
 refine ⟨by rw [List.length_set]; exact h.1, fun y hy => ?_⟩
 rcases List.mem_or_eq_of_mem_set hy with hy | rfl
 ·exact h.2 y hy
 ·exact hx
theorem getD_set {l : List Int} {i j : Nat} {x : Int} (hi : i < l.length) : (l.set i x).getD j 0 = if i = j then x else l.getD j 0 := by
 simp only [List.getD_eq_getElem?_getD, List.getElem?_set]
 by_cases h : i = j
 ·subst h; simp [hi]
 ·simp [h]
theorem idx_lt {n i k : Nat} (hi : i < n) (hk : k < n) : i * n + k < n * n := by
 have : (i + 1) * n ≤ n * n := Nat.mul_le_mul_right _ hi
 rw [Nat.add_mul] at this
 omega
/-- what a letter's matrix holds -/
def MatIs (n : Nat) (l : List Stp) (c : List UInt8) (M : List Int) : Prop :=
 Rng M (n * n) ∧ ∀ i k, i < n → k < n → ∀ z, z ≤ M.getD (i * n + k) 0 ↔ z ≤ Nv ∧ ∀ s ∈ l, s.2.1.toList = c → s.1 = (i : Int) → s.2.2.1 = (k : Int) → z ≤ s.2.2.2
end Go.Proofs.Ytfdhmmnffahhgaa
