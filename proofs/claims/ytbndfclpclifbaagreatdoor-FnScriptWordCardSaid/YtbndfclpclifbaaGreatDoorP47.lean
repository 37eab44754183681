/- Powers of matrices of costs, by the program: they tell the least costs of runs. -/
import Derived.Test.YtbndfclpclifbaaGreatDoorP46
import Derived.Test.YtbndfclpclifbaaGreatDoorP30
set_option linter.unusedVariables false
set_option linter.unusedSimpArgs false
namespace Go.Proofs.YtbndfclpclifbaaGreatDoor
open Go Go.Proofs.YtbndfclpclifbaaGreatDoor.Am
theorem Run.app {l : List Stp} : ∀ {ws vs : List UInt8} {i k c : Int}, Run l (ws ++ vs) i k c ↔ ∃ j c1 c2, Run l ws i j c1 ∧ Run l vs j k c2 ∧ c = c1 + c2
 | [], vs, i, k, c => by
  simp only [List.nil_append, Run]
  constructor
  ·intro h
   exact ⟨i, 0, c, ⟨rfl, rfl⟩, h, by omega⟩
  ·rintro ⟨j, c1, c2, ⟨rfl, rfl⟩, h, rfl⟩
   rw [show (0 : Int) + c2 = c2 by omega]
   exact h
 | b :: ws, vs, i, k, c => by
  simp only [List.cons_append, Run]
  constructor
  ·rintro ⟨s, h1, h2, h3, c', h4, rfl⟩
   obtain ⟨j, c1, c2, g1, g2, rfl⟩ := Run.app.1 h4
   exact ⟨j, s.2.2.2 + c1, c2, ⟨s, h1, h2, h3, c1, g1, rfl⟩, g2, by omega⟩
  ·rintro ⟨j, c1, c2, ⟨s, h1, h2, h3, c', h4, rfl⟩, g2, rfl⟩
   exact ⟨s, h1, h2, h3, c' + c2, Run.app.2 ⟨j, c', c2, h4, g2, rfl⟩, by omega⟩
theorem Run.end_ {n : Int} {l : List Stp} (hl : ∀ s ∈ l, StepIs n s) : ∀ {ws : List UInt8} {i k c : Int}, Run l ws i k c → (0 ≤ i ∧ i ≤ n - 1) → 0 ≤ k ∧ k ≤ n - 1
 | [], i, k, c, h, hi => by simp only [Run] at h; omega
 | b :: ws, i, k, c, h, hi => by
  simp only [Run] at h
  obtain ⟨s, h1, _, _, c', h3, _⟩ := h
  exact Run.end_ hl h3 ⟨(hl s h1).t0, (hl s h1).t1⟩
theorem ProdIs.app {n : Nat} {l : List Stp} (hl : ∀ s ∈ l, StepIs (n : Int) s) {ws vs : List UInt8} {P Q C : List Int} (hP : ProdIs n l ws P) (hQ : ProdIs n l vs Q) (hC : MulIs n P Q C) : ProdIs n l (ws ++ vs) C := by
 refine ⟨hC.1, fun i k hi hk z => ?_⟩
 rw [hC.2 i k hi hk z]
 refine and_congr_right fun hz => ?_
 constructor
 ·intro h c hr
  obtain ⟨j, c1, c2, g1, g2, rfl⟩ := Run.app.1 hr
  have hj := Run.end_ hl g1 ⟨by omega, by omega⟩
  have hjn : j.toNat < n := by omega
  have hm := hQ.1.at (idx_lt hjn hk)
  have e1 := h j.toNat hjn
  have e2 := (hP.2 i j.toNat hi hjn (z - Q.getD (j.toNat * n + k) 0)).1 (by omega)
  have e3 := e2.2 c1 (by rw [show ((j.toNat : Nat) : Int) = j by omega]; exact g1)
  have hc1 := Run.nonneg hl g1
  have e4 := (hQ.2 j.toNat k hjn hk (z - c1)).1 (by omega)
  have := e4.2 c2 (by rw [show ((j.toNat : Nat) : Int) = j by omega]; exact g2)
  omega
 ·intro h j hj
  have hm := hQ.1.at (idx_lt hj hk)
  have : z - Q.getD (j * n + k) 0 ≤ P.getD (i * n + j) 0 := by
   rw [hP.2 i j hi hj]
   refine ⟨by omega, fun c hr => ?_⟩
   have hc := Run.nonneg hl hr
   have : z - c ≤ Q.getD (j * n + k) 0 := by
    rw [hQ.2 j k hj hk]
    refine ⟨by omega, fun c2 hr2 => ?_⟩
    have := h (c + c2) (Run.app.2 ⟨(j : Int), c, c2, hr, hr2, rfl⟩)
    omega
   omega
  omega
section
variable {n : Nat} (h1 : 1 ≤ n) (h4 : n ≤ 4)
theorem addCost_is {x y : Int} (hx : 0 ≤ x ∧ x ≤ Nv) (hy : 0 ≤ y ∧ y ≤ Nv) : ∃ r, impl_AddCost x y = some r ∧ (0 ≤ r ∧ r ≤ Nv) ∧ ∀ z, z ≤ r ↔ z ≤ Nv ∧ z ≤ x + y := by
 have hx' : 0 ≤ x ∧ x ≤ 1000000 := hx
 have hy' : 0 ≤ y ∧ y ≤ 1000000 := hy
 have e : ∀ {a : Int}, 0 ≤ a ∧ a ≤ 1000000 → impl_CostValid a = some true := by
  intro a ha
  simp only [impl_CostValid, decide_eq_true (show a ≥ 0 from ha.1), cond_true, decide_eq_true ha.2]
 refine ⟨if 1000000 < x + y then 1000000 else x + y, ?_, ?_, fun z => ?_⟩
 ·simp only [impl_AddCost, e hx', e hy', Option.bind_some, Bool.not_true, cond_false, w64 (show -9223372036854775808 ≤ x + y by omega) (show x + y ≤ 9223372036854775807 by omega)]
 ·simp only [Nv]
  split <;> omega
 ·simp only [Nv]
  split <;> omega
include h4
theorem mulMatrix_one {A B : List Int} (hA : Rng A (n * n)) (hB : Rng B (n * n)) {i k : Nat} (hi : i < n) (hk : k < n) : ∃ r, impl_MulMatrix_1 (i : Int) (k : Int) ((n : Int), A) ((n : Int), B) = some r ∧ (0 ≤ r ∧ r ≤ Nv) ∧ ∀ z, z ≤ r ↔ z ≤ Nv ∧ ∀ l, l < n → z ≤ A.getD (i * n + l) 0 + B.getD (l * n + k) 0 := by
 obtain ⟨r, g1, g2⟩ := loop_rel (f := impl_MulMatrix_1_l3) n (fun l (m : Int) => ((i : Int), (k : Int), ((n : Int), A), ((n : Int), B), m, (n : Int), (l : Int), ())) (fun m => (m, ())) (fun l m => (0 ≤ m ∧ m ≤ Nv) ∧ ∀ z, z ≤ m ↔ z ≤ Nv ∧ ∀ j, j < l → z ≤ A.getD (i * n + j) 0 + B.getD (j * n + k) 0)
  (fun l m hl hm => by
   obtain ⟨c, c1, c2, c3⟩ := addCost_is (hA.at (idx_lt hi hl)) (hB.at (idx_lt hl hk))
   refine ⟨if c < m then c else m, ?_, ?_, fun z => ?_⟩
   ·simp only [impl_MulMatrix_1_l3, lt_t hl, cond_true, at_is h4 hA.1 hi hl, at_is h4 hB.1 hl hk, Option.bind_some, c1, w64_succ hl (show n ≤ 9223372036854775807 by omega)]
   ·have := hm.1
    split <;> omega
   ·rw [min_is, hm.2 z, c3 z]
    constructor
    ·rintro ⟨⟨g1, g2⟩, _, g3⟩
     refine ⟨g1, fun j hj => ?_⟩
     by_cases e : j = l
     ·rw [e]; exact g3
     ·exact g2 j (by omega)
    ·rintro ⟨g1, g2⟩
     exact ⟨⟨g1, fun j hj => g2 j (by omega)⟩, g1, g2 l (by omega)⟩)
  (fun m _ => by simp only [impl_MulMatrix_1_l3, lt_f, cond_false])
  Nv ⟨⟨by simp only [Nv]; omega, Int.le_refl _⟩, fun z => ⟨fun h => ⟨h, fun j hj => absurd hj (by omega)⟩, fun h => h.1⟩⟩
 have g1 : loopF impl_MulMatrix_1_l3 ((i : Int), (k : Int), ((n : Int), A), ((n : Int), B), (1000000 : Int), (n : Int), (0 : Int), ()) = some (r, ()) := g1
 exact ⟨r, by simp only [impl_MulMatrix_1, g1, Option.bind_some], g2⟩
include h1
theorem mulMatrix_is {A B : List Int} (hA : Rng A (n * n)) (hB : Rng B (n * n)) : ∃ C, impl_MulMatrix ((n : Int), A) ((n : Int), B) = some (((n : Int), C), true) ∧ MulIs n A B C := by
 have hv : ∀ {M : List Int}, Rng M (n * n) → impl_MatrixValid ((n : Int), M) = some true := fun hM => matrixValid_is h1 h4 hM.1 (fun x hx => hM.2 x hx)
 let c : Nat → Nat → Int := fun i k => (impl_MulMatrix_1 (i : Int) (k : Int) ((n : Int), A) ((n : Int), B)).getD 0
 have hc : ∀ i k, i < n → k < n → impl_MulMatrix_1 (i : Int) (k : Int) ((n : Int), A) ((n : Int), B) = some (c i k) ∧ (0 ≤ c i k ∧ c i k ≤ Nv) ∧ ∀ z, z ≤ c i k ↔ z ≤ Nv ∧ ∀ l, l < n → z ≤ A.getD (i * n + l) 0 + B.getD (l * n + k) 0 := by
  intro i k hi hk
  obtain ⟨r, r1, r2, r3⟩ := mulMatrix_one h4 hA hB hi hk
  have : c i k = r := by show (impl_MulMatrix_1 _ _ _ _).getD 0 = r; rw [r1]; rfl
  rw [this]
  exact ⟨r1, r2, r3⟩
 have hf := filled_is h4 (φ := fun y1 => impl_MulMatrix_1 y1.1 y1.2.1 ((n : Int), A) ((n : Int), B)) (c := c) (fun i k hi hk => (hc i k hi hk).1)
 refine ⟨mk n c, ?_, ⟨mk_len n c, fun x hx => ?_⟩, fun i k hi hk z => ?_⟩
 ·simp only [impl_MulMatrix, impl_alike, hv hA, hv hB, Option.bind_some, cond_true, BEq.rfl, Bool.not_true, cond_false, hf, List.drop_zero, List.take_length]
 ·obtain ⟨m, hm, rfl⟩ := List.mem_map.1 hx
  rw [List.mem_range] at hm
  obtain ⟨q1, q2, _⟩ := row_col hm
  exact (hc _ _ q1 q2).2.1
 ·rw [mk_get c hi hk]
  exact (hc i k hi hk).2.2 z
theorem unitMatrix_is (l : List Stp) : ∃ U, impl_UnitMatrix (n : Int) = some (((n : Int), U), true) ∧ ProdIs n l [] U := by
 let c : Nat → Nat → Int := fun i k => if i = k then 0 else Nv
 have hf := filled_is h4 (φ := fun y0 => impl_UnitMatrix_1 y0.1 y0.2.1) (c := c) (fun i k hi hk => by
  show impl_UnitMatrix_1 (i : Int) (k : Int) = some (if i = k then 0 else Nv)
  unfold impl_UnitMatrix_1
  by_cases e : i = k
  ·rw [if_pos e, show ((i : Int) == (k : Int)) = true by rw [e]; simp]
   rfl
  ·rw [if_neg e, show ((i : Int) == (k : Int)) = false by rw [beq_eq_false_iff_ne]; omega]
   rfl)
 refine ⟨mk n c, ?_, ⟨mk_len n c, fun x hx => ?_⟩, fun i k hi hk z => ?_⟩
 ·simp only [impl_UnitMatrix, decide_eq_false (show ¬ (n : Int) < 1 by omega), decide_eq_false (show ¬ (n : Int) > 4 by omega), cond_false, hf, Option.bind_some, List.drop_zero, List.take_length]
 ·obtain ⟨m, hm, rfl⟩ := List.mem_map.1 hx
  show 0 ≤ (if m / n = m % n then (0 : Int) else Nv) ∧ (if m / n = m % n then (0 : Int) else Nv) ≤ Nv
  simp only [Nv]
  split <;> omega
 ·rw [mk_get c hi hk]
  show z ≤ (if i = k then (0 : Int) else Nv) ↔ _
  simp only [Run]
  constructor
  ·intro h
   refine ⟨by simp only [Nv] at *; split at h <;> omega, ?_⟩
   rintro c ⟨e, rfl⟩
   rw [if_pos (by omega)] at h
   exact h
  ·rintro ⟨g1, g2⟩
   split
   ·rename_i e
    exact g2 0 ⟨by omega, rfl⟩
   ·exact g1
end
end Go.Proofs.YtbndfclpclifbaaGreatDoor
