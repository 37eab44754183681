import Derived.Test.YtgmgnijklampiaaDoorP6
set_option linter.unusedVariables false
set_option linter.unusedSimpArgs false
/- Products of matrices: the least costs of runs. -/
namespace Go.Proofs.YtgmgnijklampiaaDoor
open Go Go.Proofs.YtgmgnijklampiaaDoor.Am
theorem sqw {n : Nat} (h4 : n ≤ 4) : IntKind.wrap .i64 ((n : Int) * (n : Int)) = ((n * n : Nat) : Int) := by
 have := sq_le h4
 have e : (n : Int) * (n : Int) = ((n * n : Nat) : Int) := by simp
 rw [e]
 exact w64 (by omega) (by omega)
/-- a product -/
def MulIs (n : Nat) (A B C : List Int) : Prop := Rng C (n * n) ∧ ∀ i k, i < n → k < n → ∀ z, z ≤ C.getD (i * n + k) 0 ↔ z ≤ Nv ∧ ∀ l, l < n → z ≤ A.getD (i * n + l) 0 + B.getD (l * n + k) 0
/-- runs of steps -/
def Run (l : List Stp) : List UInt8 → Int → Int → Int → Prop
 | [], i, k, c => i = k ∧ c = 0
 | b :: ws, i, k, c => ∃ s ∈ l, s.2.1.toList = [b] ∧ s.1 = i ∧ ∃ c', Run l ws s.2.2.1 k c' ∧ c = s.2.2.2 + c'
theorem Run.snoc {l : List Stp} {b : UInt8} : ∀ {ws : List UInt8} {i k c : Int}, Run l (ws ++ [b]) i k c ↔ ∃ c' s, s ∈ l ∧ s.2.1.toList = [b] ∧ Run l ws i s.1 c' ∧ s.2.2.1 = k ∧ c = c' + s.2.2.2
 | [], i, k, c => by
  simp only [List.nil_append, Run]
  constructor
  ·rintro ⟨s, h1, h2, rfl, c', ⟨rfl, rfl⟩, rfl⟩
   exact ⟨0, s, h1, h2, ⟨rfl, rfl⟩, rfl, by omega⟩
  ·rintro ⟨c', s, h1, h2, ⟨rfl, rfl⟩, rfl, rfl⟩
   exact ⟨s, h1, h2, rfl, 0, ⟨rfl, rfl⟩, by omega⟩
 | a :: ws, i, k, c => by
  simp only [List.cons_append, Run]
  constructor
  ·rintro ⟨s, h1, h2, rfl, c', h3, rfl⟩
   obtain ⟨c2, t, g1, g2, g3, g4, rfl⟩ := Run.snoc.1 h3
   exact ⟨s.2.2.2 + c2, t, g1, g2, ⟨s, h1, h2, rfl, c2, g3, rfl⟩, g4, by omega⟩
  ·rintro ⟨c', t, g1, g2, ⟨s, h1, h2, rfl, c2, g3, rfl⟩, g4, rfl⟩
   exact ⟨s, h1, h2, rfl, c2 + t.2.2.2, Run.snoc.2 ⟨c2, t, g1, g2, g3, g4, rfl⟩, by omega⟩
theorem Run.nonneg {n : Int} {l : List Stp} (hl : ∀ s ∈ l, StepIs n s) : ∀ {ws : List UInt8} {i k c : Int}, Run l ws i k c → 0 ≤ c
 | [], i, k, c, h => by simp only [Run] at h; omega
 | a :: ws, i, k, c, h => by
  simp only [Run] at h
  obtain ⟨s, h1, _, _, c', h3, rfl⟩ := h
  have := (hl s h1).c0
  have := Run.nonneg hl h3
  omega
/-- a matrix tells the least costs of runs -/
def ProdIs (n : Nat) (l : List Stp) (ws : List UInt8) (P : List Int) : Prop :=
 Rng P (n * n) ∧ ∀ i k, i < n → k < n → ∀ z, z ≤ P.getD (i * n + k) 0 ↔ z ≤ Nv ∧ ∀ c, Run l ws (i : Int) (k : Int) c → z ≤ c
theorem ProdIs.mul {n : Nat} {l : List Stp} (hl : ∀ s ∈ l, StepIs (n : Int) s) {ws : List UInt8} {b : UInt8} {P M C : List Int} (hP : ProdIs n l ws P) (hM : MatIs n l [b] M) (hC : MulIs n P M C) : ProdIs n l (ws ++ [b]) C := by
 refine ⟨hC.1, fun i k hi hk z => ?_⟩
 rw [hC.2 i k hi hk z]
 refine and_congr_right fun hz => ?_
 constructor
 ·intro h c hr
  obtain ⟨c', s, h1, h2, h3, h4, rfl⟩ := Run.snoc.1 hr
  have hs := hl s h1
  have q0 := hs.f0
  have q1 := hs.f1
  have hj : s.1.toNat < n := by omega
  have hm := hM.1.at (idx_lt hj hk)
  have e1 := h s.1.toNat hj
  have e2 := (hP.2 i s.1.toNat hi hj (z - M.getD (s.1.toNat * n + k) 0)).1 (by omega)
  have e3 := e2.2 c' (by rw [show ((s.1.toNat : Nat) : Int) = s.1 by omega]; exact h3)
  have hc' := Run.nonneg hl h3
  have e4 := (hM.2 s.1.toNat k hj hk (z - c')).1 (by omega)
  have := e4.2 s h1 h2 (by omega) h4
  omega
 ·intro h j hj
  have hm := hM.1.at (idx_lt hj hk)
  have : z - M.getD (j * n + k) 0 ≤ P.getD (i * n + j) 0 := by
   rw [hP.2 i j hi hj]
   refine ⟨by omega, fun c hr => ?_⟩
   have hc := Run.nonneg hl hr
   have : z - c ≤ M.getD (j * n + k) 0 := by
    rw [hM.2 j k hj hk]
    refine ⟨by omega, fun s h1 h2 h3 h4 => ?_⟩
    have := h (c + s.2.2.2) (Run.snoc.2 ⟨c, s, h1, h2, by rw [h3]; exact hr, h4, rfl⟩)
    omega
   omega
  omega
end Go.Proofs.YtgmgnijklampiaaDoor

/- The cost of a word: both sides tell the least cost of a run. -/
namespace Go.Proofs.YtgmgnijklampiaaDoor
open Go Go.Proofs.YtgmgnijklampiaaDoor.Am
abbrev bytes (w : ByteArray) : List UInt8 := w.data.toList
/-- a valid automaton, in numbers -/
structure AutIs (a : Aut) (n : Nat) : Prop where
 st : a.1 = (n : Int)
 n1 : 1 ≤ n
 n4 : n ≤ 4
 S : ∀ q ∈ a.2.1, 0 ≤ q ∧ q ≤ (n : Int) - 1
 F : ∀ q ∈ a.2.2.1, 0 ≤ q ∧ q ≤ (n : Int) - 1
 len : a.2.2.2.length ≤ 24
 ok : stepsOk a.1 a.2.2.2 = true
 steps : ∀ s ∈ a.2.2.2, StepIs (n : Int) s
/-- the least cost of a run from a start to a final -/
def CostIs (a : Aut) (ws : List UInt8) (r : Int) : Prop := (0 ≤ r ∧ r ≤ Nv) ∧ ∀ z, z ≤ r ↔ z ≤ Nv ∧ ∀ i ∈ a.2.1, ∀ k ∈ a.2.2.1, ∀ c, Run a.2.2.2 ws i k c → z ≤ c
theorem CostIs.same {a : Aut} {ws : List UInt8} {r r' : Int} (h : CostIs a ws r) (h' : CostIs a ws r') : r = r' := eq_of_le_iff fun z => (h.2 z).trans (h'.2 z).symm
theorem take_snoc {α : Type} {l : List α} {i : Nat} (hi : i < l.length) : l.take (i + 1) = l.take i ++ [l[i]] := by
 rw [List.take_add_one, List.getElem?_eq_getElem hi]; rfl
end Go.Proofs.YtgmgnijklampiaaDoor

/- The cost of a word, the program's way: from the end. -/
namespace Go.Proofs.YtgmgnijklampiaaDoor
open Go Go.Proofs.YtgmgnijklampiaaDoor.Am
end Go.Proofs.YtgmgnijklampiaaDoor
