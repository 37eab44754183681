/- Products of matrices: the least costs of runs. -/
import Derived.Test.YtogigagfgkfkhaaP6
set_option linter.unusedVariables false
set_option linter.unusedSimpArgs false
namespace Go.Proofs.Ytogigagfgkfkhaa
open Go Go.Proofs.Ytogigagfgkfkhaa.Am
theorem l1Add_is {x y : Int} (hx : 0 ≤ x ∧ x ≤ Nv) (hy : 0 ≤ y ∧ y ≤ Nv) : ∃ r, spec_l1Add x y = some r ∧ 0 ≤ r ∧ r ≤ Nv ∧ ∀ z, z ≤ r ↔ z ≤ Nv ∧ z ≤ x + y := by
 simp only [Nv] at *
 simp only [spec_l1Add, w64 (show -9223372036854775808 ≤ x + y by omega) (by omega)]
 refine ⟨_, rfl, ?_, ?_, fun z => ?_⟩ <;> split <;> omega
theorem min_is (x y z : Int) : (z ≤ if x < y then x else y) ↔ z ≤ y ∧ z ≤ x := by split <;> omega
theorem div_is (i n : Nat) : Int.tdiv (i : Int) (n : Int) = ((i / n : Nat) : Int) := rfl
theorem mod_is (i n : Nat) : Int.tmod (i : Int) (n : Int) = ((i % n : Nat) : Int) := rfl
theorem mulw {i n l : Nat} (h : i * n + l ≤ 1000000) : IntKind.wrap .i64 (IntKind.wrap .i64 ((i : Int) * (n : Int)) + (l : Int)) = ((i * n + l : Nat) : Int) := by
 have e : (i : Int) * (n : Int) = ((i * n : Nat) : Int) := by simp
 rw [e, w64 (n := ((i * n : Nat) : Int)) (by omega) (by omega), w64 (by omega) (by omega)]
 omega
theorem w64n {q : Nat} (h : q ≤ 1000000) : IntKind.wrap .i64 (q : Int) = (q : Int) := w64 (by omega) (by omega)
theorem sqw {n : Nat} (h4 : n ≤ 4) : IntKind.wrap .i64 ((n : Int) * (n : Int)) = ((n * n : Nat) : Int) := by
 have := sq_le h4
 have e : (n : Int) * (n : Int) = ((n * n : Nat) : Int) := by simp
 rw [e]
 exact w64 (by omega) (by omega)
/-- lists in rows and columns -/
theorem row_col {n m : Nat} (h : m < n * n) : m / n < n ∧ m % n < n ∧ m / n * n + m % n = m := by
 have hn : 0 < n := by
  rcases Nat.eq_zero_or_pos n with rfl | h0
  ·simp at h
  ·exact h0
 refine ⟨?_, Nat.mod_lt _ hn, ?_⟩
 ·exact (Nat.div_lt_iff_lt_mul hn).2 h
 ·rw [Nat.mul_comm]; exact Nat.div_add_mod m n
theorem col_row {n i k : Nat} (hk : k < n) : (i * n + k) / n = i ∧ (i * n + k) % n = k := by
 constructor
 ·rw [Nat.mul_comm, Nat.mul_add_div (by omega), Nat.div_eq_of_lt hk]; omega
 ·rw [Nat.mul_comm, Nat.mul_add_mod, Nat.mod_eq_of_lt hk]
theorem getD_snoc {o : List Int} {x : Int} {m : Nat} : (o ++ [x]).getD m 0 = if m = o.length then x else o.getD m 0 := by
 simp only [List.getD_eq_getElem?_getD, List.getElem?_append]
 by_cases h : m < o.length
 ·rw [if_pos h, if_neg (by omega)]
 ·by_cases e : m = o.length
  ·subst e; simp
  ·rw [if_neg h, if_neg e]
   simp only [List.getElem?_eq_none (show o.length ≤ m by omega)]
   rw [List.getElem?_eq_none (by simp; omega)]
/-- a product -/
def MulIs (n : Nat) (A B C : List Int) : Prop := Rng C (n * n) ∧ ∀ i k, i < n → k < n → ∀ z, z ≤ C.getD (i * n + k) 0 ↔ z ≤ Nv ∧ ∀ l, l < n → z ≤ A.getD (i * n + l) 0 + B.getD (l * n + k) 0
theorem l2Mul_in {n : Nat} (h4 : n ≤ 4) {A B : List Int} (hA : Rng A (n * n)) (hB : Rng B (n * n)) (o : List Int) {i k : Nat} (hi : i < n) (hk : k < n) (u v : Int) :
  ∃ r : Int, loopF spec_l2Mul_l8 (((n : Int), A, ()), ((n : Int), B, ()), ((0 : Int), [], ()), ((n : Int), o, ()), (i : Int), (k : Int), (1000000 : Int), u, v, (n : Int), (0 : Int), ()) = some (((n : Int), A, ()), ((n : Int), B, ()), ((0 : Int), [], ()), ((n : Int), o, ()), r, u, v, ()) ∧
   (0 ≤ r ∧ r ≤ Nv) ∧ ∀ z, z ≤ r ↔ z ≤ Nv ∧ ∀ l, l < n → z ≤ A.getD (i * n + l) 0 + B.getD (l * n + k) 0 := by
 have hsq := sq_le h4
 obtain ⟨r, g1, g2⟩ := loop_rel (f := spec_l2Mul_l8) n (fun l (c : Int) => (((n : Int), A, ()), ((n : Int), B, ()), ((0 : Int), [], ()), ((n : Int), o, ()), (i : Int), (k : Int), c, u, v, (n : Int), (l : Int), ()))
  (fun c => (((n : Int), A, ()), ((n : Int), B, ()), ((0 : Int), [], ()), ((n : Int), o, ()), c, u, v, ())) (fun l c => (0 ≤ c ∧ c ≤ Nv) ∧ ∀ z, z ≤ c ↔ z ≤ Nv ∧ ∀ l', l' < l → z ≤ A.getD (i * n + l') 0 + B.getD (l' * n + k) 0)
  (fun l c hl hc => by
   have e1 := idx_lt hi hl
   have e2 := idx_lt hl hk
   obtain ⟨r, a1, a2, a3, a4⟩ := l1Add_is (hA.at e1) (hB.at e2)
   refine ⟨if r < c then r else c, ?_, ?_, fun z => ?_⟩
   ·simp only [spec_l2Mul_l8, lt_t hl, cond_true, mulw (show i * n + l ≤ 1000000 by omega), mulw (show l * n + k ≤ 1000000 by omega), Int.toNat_natCast]
    rw [if_pos ⟨by omega, by rw [hA.1]; omega⟩, if_pos ⟨by omega, by rw [hB.1]; omega⟩, a1]
    simp only [Option.bind_some, List.drop_zero, List.take_length, w64_succ hl (show n ≤ 9223372036854775807 by omega)]
   ·have := hc.1
    split <;> omega
   ·rw [min_is, hc.2 z, a4 z]
    constructor
    ·rintro ⟨⟨h1, h2⟩, _, h3⟩
     refine ⟨h1, fun l' hl' => ?_⟩
     by_cases e : l' = l
     ·subst e; exact h3
     ·exact h2 l' (by omega)
    ·rintro ⟨h1, h2⟩
     exact ⟨⟨h1, fun l' hl' => h2 l' (by omega)⟩, h1, h2 l (by omega)⟩)
  (fun c hc => by simp only [spec_l2Mul_l8, lt_f, cond_false, List.drop_zero, List.take_length])
  1000000 ⟨⟨by decide, by decide⟩, fun z => ⟨fun h => ⟨h, fun l' hl' => by omega⟩, fun h => h.1⟩⟩
 exact ⟨r, g1, g2.1, g2.2⟩
theorem l2Mul_is {n : Nat} (h1 : 1 ≤ n) (h4 : n ≤ 4) {A B : List Int} (hA : Rng A (n * n)) (hB : Rng B (n * n)) : ∃ C, spec_l2Mul ((n : Int), A) ((n : Int), B) = some ((n : Int), C) ∧ MulIs n A B C := by
 have hsq := sq_le h4
 simp only [spec_l2Mul, sqw h4]
 obtain ⟨r, g1, g2⟩ := loop_rel (f := spec_l2Mul_l3) (n * n) (fun m (o : List Int) => (((n : Int), A, ()), ((n : Int), B, ()), ((0 : Int), [], ()), ((n : Int), o, ()), ((n * n : Nat) : Int), (m : Int), ()))
  (fun o => (((0 : Int), [], ()), ((n : Int), o, ()), ())) (fun m o => Rng o m ∧ ∀ j, j < m → ∀ z, z ≤ o.getD j 0 ↔ z ≤ Nv ∧ ∀ l, l < n → z ≤ A.getD (j / n * n + l) 0 + B.getD (l * n + j % n) 0)
  (fun m o hm ho => by
   obtain ⟨r1, r2, r3⟩ := row_col hm
   obtain ⟨r, a1, a2, a3⟩ := l2Mul_in h4 hA hB o r1 r2 ((n * n : Nat) : Int) (m : Int)
   have hol := ho.1.1
   refine ⟨o ++ [r], ?_, ⟨by rw [List.length_append, hol]; rfl, fun x hx => ?_⟩, fun j hj z => ?_⟩
   ·simp only [spec_l2Mul_l3, lt_t hm, cond_true]
    rw [if_neg (by omega), if_neg (by omega), div_is, mod_is, w64n (show m / n ≤ 1000000 by omega)]
    simp only [List.drop_zero, List.take_length]
    rw [a1]
    simp only [Option.bind_some, List.drop_zero, List.take_length, Nat.zero_add]
    rw [show List.take 1 [r] = [r] from rfl, if_pos ⟨trivial, by simp; omega⟩, List.take_of_length_le (by simp), w64_succ hm (by omega)]
   ·rcases List.mem_append.1 hx with hx | hx
    ·exact ho.1.2 x hx
    ·rw [List.mem_singleton] at hx; subst hx; exact a2
   ·rw [getD_snoc, hol]
    by_cases e : j = m
    ·subst e; rw [if_pos rfl]; exact a3 z
    ·rw [if_neg e]; exact ho.2 j (by omega) z)
  (fun o ho => by simp only [spec_l2Mul_l3, lt_f, cond_false, List.drop_zero, List.take_length])
  [] ⟨⟨rfl, fun x hx => by cases hx⟩, fun j hj => by omega⟩
 have g1 : loopF spec_l2Mul_l3 (((n : Int), A, ()), ((n : Int), B, ()), ((0 : Int), [], ()), ((n : Int), [], ()), ((n * n : Nat) : Int), (0 : Int), ()) = _ := g1
 rw [g1]
 refine ⟨r, by simp only [Option.bind_some, List.drop_zero, List.take_length], g2.1, fun i k hi hk z => ?_⟩
 have := g2.2 (i * n + k) (idx_lt hi hk) z
 rw [(col_row (i := i) hk).1, (col_row (i := i) hk).2] at this
 exact this
/-- runs of steps -/
def Run (l : List Stp) : List UInt8 → Int → Int → Int → Prop
 | [], i, k, c => i = k ∧ c = 0
 | b :: ws, i, k, c => ∃ s ∈ l, s.2.1.toList = [b] ∧ s.1 = i ∧ ∃ c', Run l ws s.2.2.1 k c' ∧ c = s.2.2.2 + c'
theorem Run.snoc {l : List Stp} {b : UInt8} : ∀ {ws : List UInt8} {i k c : Int}, Run l (ws ++ [b]) i k c ↔ ∃ c' s, s ∈ l ∧ s.2.1.toList = [b] ∧ Run l ws i s.1 c' ∧ s.2.2.1 = k ∧ c = c' + s.2.2.2
 | [], i, k, c => by
  simp only [List.nil_append, Run]
  constructor
  ·rintro ⟨s, h1, h2, rfl, c', ⟨rfl, rfl⟩, rfl⟩
   exact ⟨0, s, h1, h2, ⟨rfl, rfl⟩, rfl, by omega⟩
  ·rintro ⟨c', s, h1, h2, ⟨rfl, rfl⟩, rfl, rfl⟩
   exact ⟨s, h1, h2, rfl, 0, ⟨rfl, rfl⟩, by omega⟩
 | a :: ws, i, k, c => by
  simp only [List.cons_append, Run]
  constructor
  ·rintro ⟨s, h1, h2, rfl, c', h3, rfl⟩
   obtain ⟨c2, t, g1, g2, g3, g4, rfl⟩ := Run.snoc.1 h3
   exact ⟨s.2.2.2 + c2, t, g1, g2, ⟨s, h1, h2, rfl, c2, g3, rfl⟩, g4, by omega⟩
  ·rintro ⟨c', t, g1, g2, ⟨s, h1, h2, rfl, c2, g3, rfl⟩, g4, rfl⟩
   exact ⟨s, h1, h2, rfl, c2 + t.2.2.2, Run.snoc.2 ⟨c2, t, g1, g2, g3, g4, rfl⟩, by omega⟩
theorem Run.nonneg {n : Int} {l : List Stp} (hl : ∀ s ∈ l, StepIs n s) : ∀ {ws : List UInt8} {i k c : Int}, Run l ws i k c → 0 ≤ c
 | [], i, k, c, h => by simp only [Run] at h; omega
 | a :: ws, i, k, c, h => by
  simp only [Run] at h
  obtain ⟨s, h1, _, _, c', h3, rfl⟩ := h
  have := (hl s h1).c0
  have := Run.nonneg hl h3
  omega
/-- a matrix tells the least costs of runs -/
def ProdIs (n : Nat) (l : List Stp) (ws : List UInt8) (P : List Int) : Prop :=
 Rng P (n * n) ∧ ∀ i k, i < n → k < n → ∀ z, z ≤ P.getD (i * n + k) 0 ↔ z ≤ Nv ∧ ∀ c, Run l ws (i : Int) (k : Int) c → z ≤ c
theorem ProdIs.mul {n : Nat} {l : List Stp} (hl : ∀ s ∈ l, StepIs (n : Int) s) {ws : List UInt8} {b : UInt8} {P M C : List Int} (hP : ProdIs n l ws P) (hM : MatIs n l [b] M) (hC : MulIs n P M C) : ProdIs n l (ws ++ [b]) C := by
 refine ⟨hC.1, fun i k hi hk z => ?_⟩
 rw [hC.2 i k hi hk z]
 refine and_congr_right fun hz => ?_
 constructor
 ·intro h c hr
  obtain ⟨c', s, h1, h2, h3, h4, rfl⟩ := Run.snoc.1 hr
  have hs := hl s h1
  have q0 := hs.f0
  have q1 := hs.f1
  have hj : s.1.toNat < n := by omega
  have hm := hM.1.at (idx_lt hj hk)
  have e1 := h s.1.toNat hj
  have e2 := (hP.2 i s.1.toNat hi hj (z - M.getD (s.1.toNat * n + k) 0)).1 (by omega)
  have e3 := e2.2 c' (by rw [show ((s.1.toNat : Nat) : Int) = s.1 by omega]; exact h3)
  have hc' := Run.nonneg hl h3
  have e4 := (hM.2 s.1.toNat k hj hk (z - c')).1 (by omega)
  have := e4.2 s h1 h2 (by omega) h4
  omega
 ·intro h j hj
  have hm := hM.1.at (idx_lt hj hk)
  have : z - M.getD (j * n + k) 0 ≤ P.getD (i * n + j) 0 := by
   rw [hP.2 i j hi hj]
   refine ⟨by omega, fun c hr => ?_⟩
   have hc := Run.nonneg hl hr
   have : z - c ≤ M.getD (j * n + k) 0 := by
    rw [hM.2 j k hj hk]
    refine ⟨by omega, fun s h1 h2 h3 h4 => ?_⟩
    have := h (c + s.2.2.2) (Run.snoc.2 ⟨c, s, h1, h2, by rw [h3]; exact hr, h4, rfl⟩)
    omega
   omega
  omega
theorem l2Unit_is {n : Nat} (h1 : 1 ≤ n) (h4 : n ≤ 4) (l : List Stp) : ∃ U, spec_l2Unit (n : Int) = some ((n : Int), U) ∧ ProdIs n l [] U := by
 have hsq := sq_le h4
 simp only [spec_l2Unit, sqw h4]
 obtain ⟨r, g1, g2⟩ := loop_rel (f := spec_l2Unit_l3) (n * n) (fun m (o : List Int) => ((n : Int), ((0 : Int), [], ()), ((n : Int), o, ()), ((n * n : Nat) : Int), (m : Int), ()))
  (fun o => (((0 : Int), [], ()), ((n : Int), o, ()), ())) (fun m o => Rng o m ∧ ∀ j, j < m → o.getD j 0 = if j / n = j % n then 0 else Nv)
  (fun m o hm ho => by
   obtain ⟨r1, r2, r3⟩ := row_col hm
   have hol := ho.1.1
   refine ⟨o ++ [if m / n = m % n then 0 else Nv], ?_, ⟨by rw [List.length_append, hol]; rfl, fun x hx => ?_⟩, fun j hj => ?_⟩
   ·simp only [spec_l2Unit_l3, lt_t hm, cond_true]
    rw [if_neg (by omega), if_neg (by omega), div_is, mod_is, w64n (show m / n ≤ 1000000 by omega)]
    simp only [List.drop_zero, List.take_length, Nat.zero_add]
    rw [show List.take 1 [(0 : Int)] = [0] from rfl, show List.take 1 [(1000000 : Int)] = [1000000] from rfl]
    by_cases e : m / n = m % n
    ·have : ((((m / n : Nat)) : Int) == ((m % n : Nat) : Int)) = true := by rw [e]; exact BEq.rfl
     rw [this, if_pos e]
     simp only [cond_true]
     rw [if_pos ⟨trivial, by simp; omega⟩, List.take_of_length_le (by simp), w64_succ hm (by omega)]
    ·have : ((((m / n : Nat)) : Int) == ((m % n : Nat) : Int)) = false := by simp; omega
     rw [this, if_neg e]
     simp only [cond_false]
     rw [if_pos ⟨trivial, by simp; omega⟩, List.take_of_length_le (by simp), w64_succ hm (by omega)]
   ·rcases List.mem_append.1 hx with hx | hx
    ·exact ho.1.2 x hx
    ·rw [List.mem_singleton] at hx; subst hx
     simp only [Nv]
     split <;> omega
   ·rw [getD_snoc, hol]
    by_cases e : j = m
    ·subst e; rw [if_pos rfl]
    ·rw [if_neg e]; exact ho.2 j (by omega))
  (fun o ho => by simp only [spec_l2Unit_l3, lt_f, cond_false, List.drop_zero, List.take_length])
  [] ⟨⟨rfl, fun x hx => by cases hx⟩, fun j hj => by omega⟩
 have g1 : loopF spec_l2Unit_l3 ((n : Int), ((0 : Int), [], ()), ((n : Int), [], ()), ((n * n : Nat) : Int), (0 : Int), ()) = _ := g1
 rw [g1]
 refine ⟨r, by simp only [Option.bind_some, List.drop_zero, List.take_length], g2.1, fun i k hi hk z => ?_⟩
 have := g2.2 (i * n + k) (idx_lt hi hk)
 rw [(col_row (i := i) hk).1, (col_row (i := i) hk).2] at this
 rw [this]
 simp only [Run]
 by_cases e : i = k
 ·subst e
  rw [if_pos rfl]
  constructor
  ·intro h; exact ⟨by simp only [Nv]; omega, fun c hc => by omega⟩
  ·rintro ⟨_, h⟩; exact h 0 ⟨rfl, rfl⟩
 ·rw [if_neg e]
  exact ⟨fun h => ⟨h, fun c hc => by omega⟩, fun h => h.1⟩
end Go.Proofs.Ytogigagfgkfkhaa
