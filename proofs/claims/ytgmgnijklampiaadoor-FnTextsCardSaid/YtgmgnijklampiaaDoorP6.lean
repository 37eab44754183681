/- Matrices of costs: what their lists hold. -/
import Derived.Test.YtgmgnijklampiaaDoorP5
set_option linter.unusedVariables false
set_option linter.unusedSimpArgs false
namespace Go.Proofs.YtgmgnijklampiaaDoor
open Go Go.Proofs.YtgmgnijklampiaaDoor.Am
structure StepIs (n : Int) (s : Stp) : Prop where
 f0 : 0 ≤ s.1
 f1 : s.1 ≤ n - 1
 t0 : 0 ≤ s.2.2.1
 t1 : s.2.2.1 ≤ n - 1
 c0 : 0 ≤ s.2.2.2
 c1 : s.2.2.2 ≤ 3
 l : s.2.1.toList = la.toList ∨ s.2.1.toList = lb.toList
abbrev Nv : Int := 1000000
/-- a list of so many costs -/
def Rng (l : List Int) (m : Nat) : Prop := l.length = m ∧ ∀ x ∈ l, 0 ≤ x ∧ x ≤ Nv
theorem Rng.at {l : List Int} {m i : Nat} (h : Rng l m) (hi : i < m) : 0 ≤ l.getD i 0 ∧ l.getD i 0 ≤ Nv := by
 have hi' : i < l.length := by rw [h.1]; exact hi
 rw [List.getD_eq_getElem?_getD, List.getElem?_eq_getElem hi']
 exact h.2 _ (List.getElem_mem hi')
theorem Rng.set {l : List Int} {m : Nat} (h : Rng l m) (i : Nat) {x : Int} (hx : 0 ≤ x ∧ x ≤ Nv) : Rng (l.set i x) m := by
 refine ⟨by rw [List.length_set]; exact h.1, fun y hy => ?_⟩
 rcases List.mem_or_eq_of_mem_set hy with hy | rfl
 ·exact h.2 y hy
 ·exact hx
theorem idx_lt {n i k : Nat} (hi : i < n) (hk : k < n) : i * n + k < n * n := by
 have : (i + 1) * n ≤ n * n := Nat.mul_le_mul_right _ hi
 rw [Nat.add_mul] at this
 omega
theorem sq_le {n : Nat} (h : n ≤ 4) : n * n ≤ 16 := Nat.mul_le_mul h h
/-- what a letter's matrix holds -/
def MatIs (n : Nat) (l : List Stp) (c : List UInt8) (M : List Int) : Prop :=
 Rng M (n * n) ∧ ∀ i k, i < n → k < n → ∀ z, z ≤ M.getD (i * n + k) 0 ↔ z ≤ Nv ∧ ∀ s ∈ l, s.2.1.toList = c → s.1 = (i : Int) → s.2.2.1 = (k : Int) → z ≤ s.2.2.2
end Go.Proofs.YtgmgnijklampiaaDoor
