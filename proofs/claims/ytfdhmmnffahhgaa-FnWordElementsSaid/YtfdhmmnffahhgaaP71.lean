/- What the grades of a word tell of its runs. -/
import Derived.Test.YtfdhmmnffahhgaaP56
import Derived.Test.YtfdhmmnffahhgaaP67
set_option linter.unusedVariables false
set_option linter.unusedSimpArgs false
namespace Go.Proofs.Ytfdhmmnffahhgaa
open Go Go.Proofs.Ytfdhmmnffahhgaa.Am
theorem run_app {l : List Stp} : ∀ {ws vs : List UInt8} {i k c : Int}, Run l (ws ++ vs) i k c ↔ ∃ j c1 c2, Run l ws i j c1 ∧ Run l vs j k c2 ∧ c = c1 + c2
 | [], vs, i, k, c => by
  simp only [List.nil_append, Run]
  constructor
  ·intro h
   exact ⟨i, 0, c, ⟨rfl, rfl⟩, h, by omega⟩
  ·rintro ⟨j, c1, c2, ⟨rfl, rfl⟩, h, rfl⟩
   rw [show (0 : Int) + c2 = c2 by omega]
   exact h
 | b :: ws, vs, i, k, c => by
  simp only [List.cons_append, Run]
  constructor
  ·rintro ⟨s, h1, h2, h3, c', h4, rfl⟩
   obtain ⟨j, c1, c2, g1, g2, rfl⟩ := run_app.1 h4
   exact ⟨j, s.2.2.2 + c1, c2, ⟨s, h1, h2, h3, c1, g1, rfl⟩, g2, by omega⟩
  ·rintro ⟨j, c1, c2, ⟨s, h1, h2, h3, c', h4, rfl⟩, g2, rfl⟩
   exact ⟨s, h1, h2, h3, c' + c2, run_app.2 ⟨j, c', c2, h4, g2, rfl⟩, by omega⟩
theorem run_end {n : Int} {l : List Stp} (hl : ∀ s ∈ l, StepIs n s) : ∀ {ws : List UInt8} {i k c : Int}, Run l ws i k c → (0 ≤ i ∧ i ≤ n - 1) → 0 ≤ k ∧ k ≤ n - 1
 | [], i, k, c, h, hi => by simp only [Run] at h; omega
 | b :: ws, i, k, c, h, hi => by
  simp only [Run] at h
  obtain ⟨s, h1, _, _, c', h3, _⟩ := h
  exact run_end hl h3 ⟨(hl s h1).t0, (hl s h1).t1⟩
theorem mat_prod {n : Nat} {l : List Stp} (hl : ∀ s ∈ l, StepIs (n : Int) s) {b : UInt8} {M : List Int} (hM : MatIs n l [b] M) : ProdIs n l [b] M := by
 refine ⟨hM.1, fun i k hi hk z => ?_⟩
 rw [hM.2 i k hi hk z]
 refine and_congr_right fun hz => ?_
 constructor
 ·rintro h c ⟨s, h1, h2, h3, c', ⟨h4, rfl⟩, rfl⟩
  have := h s h1 h2 h3 h4
  omega
 ·intro h s h1 h2 h3 h4
  have := h (s.2.2.2 + 0) ⟨s, h1, h2, h3, 0, ⟨h4, rfl⟩, rfl⟩
  omega
/-- a word's grades: where there is a run, and where there is one that costs nothing -/
def GM (n : Nat) (l : List Stp) (ws : List UInt8) (A : List Int) : Prop :=
 GOk n A ∧ ∀ i k : Nat, i < n → k < n → (A.getD (i * n + k) 0 ≤ 2 ↔ ∃ c, Run l ws (i : Int) (k : Int) c) ∧ (A.getD (i * n + k) 0 ≤ 0 ↔ Run l ws (i : Int) (k : Int) 0)
theorem gr_two {x : Int} (h : 0 ≤ x ∧ x ≤ Nv) : (gr x ≤ 2 ↔ x < Nv) ∧ (gr x ≤ 0 ↔ x ≤ 0) := by
 have h1 : x ≤ 1000000 := h.2
 unfold gr
 constructor
 ·split
  ·exact ⟨fun _ => by show x < 1000000; omega, fun _ => by omega⟩
  ·split
   ·exact ⟨fun h => absurd h (by decide), fun h => absurd h (by show ¬ x < 1000000; omega)⟩
   ·exact ⟨fun _ => by show x < 1000000; omega, fun _ => by omega⟩
 ·split
  ·exact ⟨fun _ => by omega, fun _ => by omega⟩
  ·split
   ·exact ⟨fun h => absurd h (by decide), fun h => absurd h (by omega)⟩
   ·exact ⟨fun h => absurd h (by decide), fun h => absurd h (by omega)⟩
theorem map_at {M : List Int} {f : Int → Int} {j : Nat} (h : j < M.length) : (M.map f).getD j 0 = f (M.getD j 0) := by
 rw [getD_get 0 (by rw [List.length_map]; exact h), getD_get 0 h, List.getElem_map]
theorem gm_letter {n : Nat} {l : List Stp} (hl : ∀ s ∈ l, StepIs (n : Int) s) {b : UInt8} {M : List Int} (hM : ProdIs n l [b] M) : GM n l [b] (M.map gr) := by
 refine ⟨gr_ok hM.1.1, fun i k hi hk => ?_⟩
 have hx := hM.1.at (idx_lt hi hk)
 rw [map_at (by rw [hM.1.1]; exact idx_lt hi hk)]
 have hz := hM.2 i k hi hk
 obtain ⟨g1, g2⟩ := gr_two hx
 rw [g1, g2]
 have small : ∀ c, Run l [b] (i : Int) (k : Int) c → c ≤ 3 := by
  intro c hc
  simp only [Run] at hc
  obtain ⟨s, hs, _, _, c', ⟨_, rfl⟩, rfl⟩ := hc
  have := (hl s hs).c1
  omega
 constructor
 ·constructor
  ·intro h
   apply Classical.byContradiction
   intro hno
   have := (hz Nv).2 ⟨Int.le_refl _, fun c hc => absurd ⟨c, hc⟩ hno⟩
   omega
  ·rintro ⟨c, hc⟩
   have h1 := ((hz _).1 (Int.le_refl _)).2 c hc
   have h2 := small c hc
   show _ < (1000000 : Int)
   omega
 ·constructor
  ·intro h
   apply Classical.byContradiction
   intro hno
   have := (hz 1).2 ⟨by decide, fun c hc => by
    have h1 := Run.nonneg hl hc
    by_cases e : c = 0
    ·subst e; exact absurd hc hno
    ·omega⟩
   omega
  ·intro hc
   exact ((hz _).1 (Int.le_refl _)).2 0 hc
theorem gmul_at {n : Nat} {A B : List Int} {i k : Nat} (hi : i < n) (hk : k < n) {z : Int} (hz : z ≤ 2) : (gmul n A B).getD (i * n + k) 0 ≤ z ↔ ∃ j, j < n ∧ A.getD (i * n + j) 0 ≤ z ∧ B.getD (j * n + k) 0 ≤ z := by
 have h := gmul_le (A := A) (B := B) hi hk (z + 1)
 constructor
 ·intro h1
  apply Classical.byContradiction
  intro hno
  have := h.2 ⟨by omega, fun j hj => by
   by_cases c : z + 1 ≤ A.getD (i * n + j) 0
   ·exact .inl c
   ·refine .inr ?_
    by_cases d : z + 1 ≤ B.getD (j * n + k) 0
    ·exact d
    ·exact absurd ⟨j, hj, by omega, by omega⟩ hno⟩
  omega
 ·rintro ⟨j, hj, h1, h2⟩
  apply Classical.byContradiction
  intro hno
  rcases (h.1 (by omega)).2 j hj with h3 | h3 <;> omega
theorem gm_mul {n : Nat} {l : List Stp} (hl : ∀ s ∈ l, StepIs (n : Int) s) {ws vs : List UInt8} {A B : List Int} (hA : GM n l ws A) (hB : GM n l vs B) : GM n l (ws ++ vs) (gmul n A B) := by
 refine ⟨gmul_ok hA.1 hB.1, fun i k hi hk => ⟨?_, ?_⟩⟩
 ·rw [gmul_at hi hk (by omega)]
  constructor
  ·rintro ⟨j, hj, h1, h2⟩
   obtain ⟨c, hc⟩ := ((hA.2 i j hi hj).1).1 h1
   obtain ⟨d, hd⟩ := ((hB.2 j k hj hk).1).1 h2
   exact ⟨c + d, run_app.2 ⟨_, c, d, hc, hd, rfl⟩⟩
  ·rintro ⟨c, hc⟩
   obtain ⟨j, c1, c2, h1, h2, _⟩ := run_app.1 hc
   have hj := run_end hl h1 (by omega)
   have e : j = ((j.toNat : Nat) : Int) := by omega
   rw [e] at h1 h2
   exact ⟨j.toNat, by omega, ((hA.2 i _ hi (by omega)).1).2 ⟨_, h1⟩, ((hB.2 _ k (by omega) hk).1).2 ⟨_, h2⟩⟩
 ·rw [gmul_at hi hk (by omega)]
  constructor
  ·rintro ⟨j, hj, h1, h2⟩
   exact run_app.2 ⟨_, 0, 0, ((hA.2 i j hi hj).2).1 h1, ((hB.2 j k hj hk).2).1 h2, rfl⟩
  ·intro hc
   obtain ⟨j, c1, c2, h1, h2, h3⟩ := run_app.1 hc
   have hj := run_end hl h1 (by omega)
   have n1 := Run.nonneg hl h1
   have n2 := Run.nonneg hl h2
   obtain rfl : c1 = 0 := by omega
   obtain rfl : c2 = 0 := by omega
   have e : j = ((j.toNat : Nat) : Int) := by omega
   rw [e] at h1 h2
   exact ⟨j.toNat, by omega, ((hA.2 i _ hi (by omega)).2).2 h1, ((hB.2 _ k (by omega) hk).2).2 h2⟩
theorem gm_lett {a : Aut} {n : Nat} (ha : AutIs a n) {c : ByteArray} {b : UInt8} (hc : c.toList = [b]) : GM n a.2.2.2 [b] (lett c n a.2.2.2) := by
 obtain ⟨M, h1, h2⟩ := l3Matrix_is (c := c) ha.st ha.n1 ha.n4 ha.len ha.ok
 have h3 := l3Matrix_puts' ha c
 rw [h1] at h3
 have h3 : M = putSteps c n a.2.2.2 a.2.2.2.length := (Prod.mk.inj (Option.some.inj h3)).2
 subst h3
 rw [hc] at h2
 exact gm_letter ha.steps (mat_prod ha.steps h2)
end Go.Proofs.Ytfdhmmnffahhgaa
